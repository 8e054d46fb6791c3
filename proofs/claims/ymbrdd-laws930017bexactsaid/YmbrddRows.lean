/-
  No cell of these rows narrows 'for every input' (looked for: loops, veiled, ifaces, maps, wideKeys, modest, calm, conditions, laid).
  DERIVED. THE GIVEN ROWS OF THIS SEAT. 12 by the template 'for every input the law returns true; each argument reads behind the call as it read before'; 0 by the template 'total and deterministic' (their statements: YmbrddTotals.lean).
  GIVEN WITH THE SEED: the statements are not yours to turn. If you find one false, say at which input.
  Laid BY PROGRAM, IN A SANDBOX (cutbox-rows.mjs): the forced cells as the released guide's own fill.sh prints them over the translation d741ef035ffb31e7… (all of the seat's roots in one cut). By AI agents, Wed Nov 11 2026. No macro, syntax, notation, axiom, sorry.
-/
import Derived.Test.YmbrddChecked
import GoSem.Claim
import GoSem.ClaimJoined
import GoSem.ClaimMapViews
import Derived.JoinedTies
import Derived.KernelRfl
namespace Go.Proofs.Ymbrdd
/- THE CELL 'sum', in the pinned program and in every row, IS THE sha256 OF THE DUMP (.gsa) THAT YmbrddProg.lean LOADS. Nothing in Lean hashes anything: it is a label: what it is worth is what the hold of that sum in a sandbox is worth. -/
noncomputable def Yddm.pinned : Pinned := { name := "ymbrdd", sum := "d741ef035ffb31e7a29bfac490267680601f353071efb03686197a86370852f8", checked := Yddm.checked }
namespace Rows
def none {H : Type} : Left H := { results := [], args := [] }

/-- 'rational.LawS930017AExact': WHATEVER THE INPUT: true; the input reads as it did. -/
def lawS930017AExactSpec : ChangeSpec := { name := "lawS930017AExact", fn := fun _ => fun
  | [d1, d2, d3, d4, d5, d6, d7] => { results := [.lit (.bool true)], args := [d1, d2, d3, d4, d5, d6, d7] }
  | _ => none }
def lawS930017AExactRow : OpenClaim := { program := "ymbrdd", sum := "d741ef035ffb31e7a29bfac490267680601f353071efb03686197a86370852f8", func := "example.com/own/rational.LawS930017AExact", spec := "lawS930017AExact", inPlace := ["math/bits.Add64", "math/bits.Sub64"], named := ["math/bits.divideError", "math/bits.overflowError"], apart := false }
def LawS930017AExactSaid : Prop := lawS930017AExactRow.holds Yddm.pinned (OpenSpec.ofChange lawS930017AExactSpec)

/-- ITS FALSE NEIGHBOUR: 'it returns false'. Refute it at one input. -/
def lawS930017AExactWrong : ChangeSpec := { name := "lawS930017AExact", fn := fun _ => fun
  | [d1, d2, d3, d4, d5, d6, d7] => { results := [.lit (.bool false)], args := [d1, d2, d3, d4, d5, d6, d7] }
  | _ => none }
def LawS930017AExactWrongFalsely : Prop := lawS930017AExactRow.holds Yddm.pinned (OpenSpec.ofChange lawS930017AExactWrong)

/-- 'rational.LawS930017ABack': WHATEVER THE INPUT: true; the input reads as it did. -/
def lawS930017ABackSpec : ChangeSpec := { name := "lawS930017ABack", fn := fun _ => fun
  | [d1, d2, d3, d4] => { results := [.lit (.bool true)], args := [d1, d2, d3, d4] }
  | _ => none }
def lawS930017ABackRow : OpenClaim := { program := "ymbrdd", sum := "d741ef035ffb31e7a29bfac490267680601f353071efb03686197a86370852f8", func := "example.com/own/rational.LawS930017ABack", spec := "lawS930017ABack", inPlace := ["math/bits.Add64", "math/bits.Sub64"], named := ["math/bits.divideError", "math/bits.overflowError"], apart := false }
def LawS930017ABackSaid : Prop := lawS930017ABackRow.holds Yddm.pinned (OpenSpec.ofChange lawS930017ABackSpec)

/-- ITS FALSE NEIGHBOUR: 'it returns false'. Refute it at one input. -/
def lawS930017ABackWrong : ChangeSpec := { name := "lawS930017ABack", fn := fun _ => fun
  | [d1, d2, d3, d4] => { results := [.lit (.bool false)], args := [d1, d2, d3, d4] }
  | _ => none }
def LawS930017ABackWrongFalsely : Prop := lawS930017ABackRow.holds Yddm.pinned (OpenSpec.ofChange lawS930017ABackWrong)

/-- 'rational.LawS930017ASmall': WHATEVER THE INPUT: true; the input reads as it did. -/
def lawS930017ASmallSpec : ChangeSpec := { name := "lawS930017ASmall", fn := fun _ => fun
  | [d1, d2, d3, d4, d5] => { results := [.lit (.bool true)], args := [d1, d2, d3, d4, d5] }
  | _ => none }
def lawS930017ASmallRow : OpenClaim := { program := "ymbrdd", sum := "d741ef035ffb31e7a29bfac490267680601f353071efb03686197a86370852f8", func := "example.com/own/rational.LawS930017ASmall", spec := "lawS930017ASmall", inPlace := ["math/bits.Add64", "math/bits.Sub64"], named := ["math/bits.divideError", "math/bits.overflowError"], apart := false }
def LawS930017ASmallSaid : Prop := lawS930017ASmallRow.holds Yddm.pinned (OpenSpec.ofChange lawS930017ASmallSpec)

/-- ITS FALSE NEIGHBOUR: 'it returns false'. Refute it at one input. -/
def lawS930017ASmallWrong : ChangeSpec := { name := "lawS930017ASmall", fn := fun _ => fun
  | [d1, d2, d3, d4, d5] => { results := [.lit (.bool false)], args := [d1, d2, d3, d4, d5] }
  | _ => none }
def LawS930017ASmallWrongFalsely : Prop := lawS930017ASmallRow.holds Yddm.pinned (OpenSpec.ofChange lawS930017ASmallWrong)

/-- 'rational.LawS930017BSmall': WHATEVER THE INPUT: true; the input reads as it did. -/
def lawS930017BSmallSpec : ChangeSpec := { name := "lawS930017BSmall", fn := fun _ => fun
  | [d1, d2, d3, d4] => { results := [.lit (.bool true)], args := [d1, d2, d3, d4] }
  | _ => none }
def lawS930017BSmallRow : OpenClaim := { program := "ymbrdd", sum := "d741ef035ffb31e7a29bfac490267680601f353071efb03686197a86370852f8", func := "example.com/own/rational.LawS930017BSmall", spec := "lawS930017BSmall", inPlace := ["math/bits.Add64", "math/bits.Sub64"], named := ["math/bits.divideError", "math/bits.overflowError"], apart := false }
def LawS930017BSmallSaid : Prop := lawS930017BSmallRow.holds Yddm.pinned (OpenSpec.ofChange lawS930017BSmallSpec)

/-- ITS FALSE NEIGHBOUR: 'it returns false'. Refute it at one input. -/
def lawS930017BSmallWrong : ChangeSpec := { name := "lawS930017BSmall", fn := fun _ => fun
  | [d1, d2, d3, d4] => { results := [.lit (.bool false)], args := [d1, d2, d3, d4] }
  | _ => none }
def LawS930017BSmallWrongFalsely : Prop := lawS930017BSmallRow.holds Yddm.pinned (OpenSpec.ofChange lawS930017BSmallWrong)

/-- 'rational.LawS930017BExact': WHATEVER THE INPUT: true; the input reads as it did. -/
def lawS930017BExactSpec : ChangeSpec := { name := "lawS930017BExact", fn := fun _ => fun
  | [d1, d2, d3, d4] => { results := [.lit (.bool true)], args := [d1, d2, d3, d4] }
  | _ => none }
def lawS930017BExactRow : OpenClaim := { program := "ymbrdd", sum := "d741ef035ffb31e7a29bfac490267680601f353071efb03686197a86370852f8", func := "example.com/own/rational.LawS930017BExact", spec := "lawS930017BExact", inPlace := ["math/bits.Add64", "math/bits.Sub64"], named := ["math/bits.divideError", "math/bits.overflowError"], apart := false }
def LawS930017BExactSaid : Prop := lawS930017BExactRow.holds Yddm.pinned (OpenSpec.ofChange lawS930017BExactSpec)

/-- ITS FALSE NEIGHBOUR: 'it returns false'. Refute it at one input. -/
def lawS930017BExactWrong : ChangeSpec := { name := "lawS930017BExact", fn := fun _ => fun
  | [d1, d2, d3, d4] => { results := [.lit (.bool false)], args := [d1, d2, d3, d4] }
  | _ => none }
def LawS930017BExactWrongFalsely : Prop := lawS930017BExactRow.holds Yddm.pinned (OpenSpec.ofChange lawS930017BExactWrong)

/-- 'rational.LawS930017BRaw': WHATEVER THE INPUT: true; the input reads as it did. -/
def lawS930017BRawSpec : ChangeSpec := { name := "lawS930017BRaw", fn := fun _ => fun
  | [d1, d2, d3, d4] => { results := [.lit (.bool true)], args := [d1, d2, d3, d4] }
  | _ => none }
def lawS930017BRawRow : OpenClaim := { program := "ymbrdd", sum := "d741ef035ffb31e7a29bfac490267680601f353071efb03686197a86370852f8", func := "example.com/own/rational.LawS930017BRaw", spec := "lawS930017BRaw", inPlace := ["math/bits.Add64", "math/bits.Sub64"], named := ["math/bits.divideError", "math/bits.overflowError"], apart := false }
def LawS930017BRawSaid : Prop := lawS930017BRawRow.holds Yddm.pinned (OpenSpec.ofChange lawS930017BRawSpec)

/-- ITS FALSE NEIGHBOUR: 'it returns false'. Refute it at one input. -/
def lawS930017BRawWrong : ChangeSpec := { name := "lawS930017BRaw", fn := fun _ => fun
  | [d1, d2, d3, d4] => { results := [.lit (.bool false)], args := [d1, d2, d3, d4] }
  | _ => none }
def LawS930017BRawWrongFalsely : Prop := lawS930017BRawRow.holds Yddm.pinned (OpenSpec.ofChange lawS930017BRawWrong)

/-- 'rational.LawS930017CExact': WHATEVER THE INPUT: true; the input reads as it did. -/
def lawS930017CExactSpec : ChangeSpec := { name := "lawS930017CExact", fn := fun _ => fun
  | [d1, d2] => { results := [.lit (.bool true)], args := [d1, d2] }
  | _ => none }
def lawS930017CExactRow : OpenClaim := { program := "ymbrdd", sum := "d741ef035ffb31e7a29bfac490267680601f353071efb03686197a86370852f8", func := "example.com/own/rational.LawS930017CExact", spec := "lawS930017CExact", apart := false }
def LawS930017CExactSaid : Prop := lawS930017CExactRow.holds Yddm.pinned (OpenSpec.ofChange lawS930017CExactSpec)

/-- ITS FALSE NEIGHBOUR: 'it returns false'. Refute it at one input. -/
def lawS930017CExactWrong : ChangeSpec := { name := "lawS930017CExact", fn := fun _ => fun
  | [d1, d2] => { results := [.lit (.bool false)], args := [d1, d2] }
  | _ => none }
def LawS930017CExactWrongFalsely : Prop := lawS930017CExactRow.holds Yddm.pinned (OpenSpec.ofChange lawS930017CExactWrong)

/-- 'rational.LawS930017CTwice': WHATEVER THE INPUT: true; the input reads as it did. -/
def lawS930017CTwiceSpec : ChangeSpec := { name := "lawS930017CTwice", fn := fun _ => fun
  | [d1, d2] => { results := [.lit (.bool true)], args := [d1, d2] }
  | _ => none }
def lawS930017CTwiceRow : OpenClaim := { program := "ymbrdd", sum := "d741ef035ffb31e7a29bfac490267680601f353071efb03686197a86370852f8", func := "example.com/own/rational.LawS930017CTwice", spec := "lawS930017CTwice", apart := false }
def LawS930017CTwiceSaid : Prop := lawS930017CTwiceRow.holds Yddm.pinned (OpenSpec.ofChange lawS930017CTwiceSpec)

/-- ITS FALSE NEIGHBOUR: 'it returns false'. Refute it at one input. -/
def lawS930017CTwiceWrong : ChangeSpec := { name := "lawS930017CTwice", fn := fun _ => fun
  | [d1, d2] => { results := [.lit (.bool false)], args := [d1, d2] }
  | _ => none }
def LawS930017CTwiceWrongFalsely : Prop := lawS930017CTwiceRow.holds Yddm.pinned (OpenSpec.ofChange lawS930017CTwiceWrong)

/-- 'rational.LawS930017CFloor': WHATEVER THE INPUT: true; the input reads as it did. -/
def lawS930017CFloorSpec : ChangeSpec := { name := "lawS930017CFloor", fn := fun _ => fun
  | [d1, d2] => { results := [.lit (.bool true)], args := [d1, d2] }
  | _ => none }
def lawS930017CFloorRow : OpenClaim := { program := "ymbrdd", sum := "d741ef035ffb31e7a29bfac490267680601f353071efb03686197a86370852f8", func := "example.com/own/rational.LawS930017CFloor", spec := "lawS930017CFloor", apart := false }
def LawS930017CFloorSaid : Prop := lawS930017CFloorRow.holds Yddm.pinned (OpenSpec.ofChange lawS930017CFloorSpec)

/-- ITS FALSE NEIGHBOUR: 'it returns false'. Refute it at one input. -/
def lawS930017CFloorWrong : ChangeSpec := { name := "lawS930017CFloor", fn := fun _ => fun
  | [d1, d2] => { results := [.lit (.bool false)], args := [d1, d2] }
  | _ => none }
def LawS930017CFloorWrongFalsely : Prop := lawS930017CFloorRow.holds Yddm.pinned (OpenSpec.ofChange lawS930017CFloorWrong)

/-- 'rational.LawS930017DDivisors': WHATEVER THE INPUT: true; the input reads as it did. -/
def lawS930017DDivisorsSpec : ChangeSpec := { name := "lawS930017DDivisors", fn := fun _ => fun
  | [d1, d2, d3] => { results := [.lit (.bool true)], args := [d1, d2, d3] }
  | _ => none }
def lawS930017DDivisorsRow : OpenClaim := { program := "ymbrdd", sum := "d741ef035ffb31e7a29bfac490267680601f353071efb03686197a86370852f8", func := "example.com/own/rational.LawS930017DDivisors", spec := "lawS930017DDivisors", apart := false }
def LawS930017DDivisorsSaid : Prop := lawS930017DDivisorsRow.holds Yddm.pinned (OpenSpec.ofChange lawS930017DDivisorsSpec)

/-- ITS FALSE NEIGHBOUR: 'it returns false'. Refute it at one input. -/
def lawS930017DDivisorsWrong : ChangeSpec := { name := "lawS930017DDivisors", fn := fun _ => fun
  | [d1, d2, d3] => { results := [.lit (.bool false)], args := [d1, d2, d3] }
  | _ => none }
def LawS930017DDivisorsWrongFalsely : Prop := lawS930017DDivisorsRow.holds Yddm.pinned (OpenSpec.ofChange lawS930017DDivisorsWrong)

/-- 'rational.LawS930017DScales': WHATEVER THE INPUT: true; the input reads as it did. -/
def lawS930017DScalesSpec : ChangeSpec := { name := "lawS930017DScales", fn := fun _ => fun
  | [d1, d2, d3] => { results := [.lit (.bool true)], args := [d1, d2, d3] }
  | _ => none }
def lawS930017DScalesRow : OpenClaim := { program := "ymbrdd", sum := "d741ef035ffb31e7a29bfac490267680601f353071efb03686197a86370852f8", func := "example.com/own/rational.LawS930017DScales", spec := "lawS930017DScales", apart := false }
def LawS930017DScalesSaid : Prop := lawS930017DScalesRow.holds Yddm.pinned (OpenSpec.ofChange lawS930017DScalesSpec)

/-- ITS FALSE NEIGHBOUR: 'it returns false'. Refute it at one input. -/
def lawS930017DScalesWrong : ChangeSpec := { name := "lawS930017DScales", fn := fun _ => fun
  | [d1, d2, d3] => { results := [.lit (.bool false)], args := [d1, d2, d3] }
  | _ => none }
def LawS930017DScalesWrongFalsely : Prop := lawS930017DScalesRow.holds Yddm.pinned (OpenSpec.ofChange lawS930017DScalesWrong)

/-- 'rational.LawS930017DSwap': WHATEVER THE INPUT: true; the input reads as it did. -/
def lawS930017DSwapSpec : ChangeSpec := { name := "lawS930017DSwap", fn := fun _ => fun
  | [d1, d2] => { results := [.lit (.bool true)], args := [d1, d2] }
  | _ => none }
def lawS930017DSwapRow : OpenClaim := { program := "ymbrdd", sum := "d741ef035ffb31e7a29bfac490267680601f353071efb03686197a86370852f8", func := "example.com/own/rational.LawS930017DSwap", spec := "lawS930017DSwap", apart := false }
def LawS930017DSwapSaid : Prop := lawS930017DSwapRow.holds Yddm.pinned (OpenSpec.ofChange lawS930017DSwapSpec)

/-- ITS FALSE NEIGHBOUR: 'it returns false'. Refute it at one input. -/
def lawS930017DSwapWrong : ChangeSpec := { name := "lawS930017DSwap", fn := fun _ => fun
  | [d1, d2] => { results := [.lit (.bool false)], args := [d1, d2] }
  | _ => none }
def LawS930017DSwapWrongFalsely : Prop := lawS930017DSwapRow.holds Yddm.pinned (OpenSpec.ofChange lawS930017DSwapWrong)

end Rows
end Go.Proofs.Ymbrdd
