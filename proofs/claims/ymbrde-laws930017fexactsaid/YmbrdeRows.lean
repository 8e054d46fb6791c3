/-
  No cell of these rows narrows 'for every input' (looked for: loops, veiled, ifaces, maps, wideKeys, modest, calm, conditions, laid).
  DERIVED. THE GIVEN ROWS OF THIS SEAT. 12 by the template 'for every input the law returns true; each argument reads behind the call as it read before'; 0 by the template 'total and deterministic' (their statements: YmbrdeTotals.lean).
  GIVEN WITH THE SEED: the statements are not yours to turn. If you find one false, say at which input.
  Laid BY PROGRAM, IN A SANDBOX (cutbox-rows.mjs): the forced cells as the released guide's own fill.sh prints them over the translation 293b37e00ab812fa… (all of the seat's roots in one cut). By AI agents, Wed Nov 11 2026. No macro, syntax, notation, axiom, sorry.
-/
import Derived.Test.YmbrdeChecked
import GoSem.Claim
import GoSem.ClaimJoined
import GoSem.ClaimMapViews
import Derived.JoinedTies
import Derived.KernelRfl
namespace Go.Proofs.Ymbrde
/- THE CELL 'sum', in the pinned program and in every row, IS THE sha256 OF THE DUMP (.gsa) THAT YmbrdeProg.lean LOADS. Nothing in Lean hashes anything: it is a label: what it is worth is what the hold of that sum in a sandbox is worth. -/
noncomputable def Ydem.pinned : Pinned := { name := "ymbrde", sum := "293b37e00ab812fa3e03ad35df9606d732217bb3b7b47fb8d1029868159eaf2e", checked := Ydem.checked }
namespace Rows
def none {H : Type} : Left H := { results := [], args := [] }

/-- 'rational.LawS930017EExact': WHATEVER THE INPUT: true; the input reads as it did. -/
def lawS930017EExactSpec : ChangeSpec := { name := "lawS930017EExact", fn := fun _ => fun
  | [d1, d2, d3, d4, d5] => { results := [.lit (.bool true)], args := [d1, d2, d3, d4, d5] }
  | _ => none }
def lawS930017EExactRow : OpenClaim := { program := "ymbrde", sum := "293b37e00ab812fa3e03ad35df9606d732217bb3b7b47fb8d1029868159eaf2e", func := "example.com/own/rational.LawS930017EExact", spec := "lawS930017EExact", apart := false }
def LawS930017EExactSaid : Prop := lawS930017EExactRow.holds Ydem.pinned (OpenSpec.ofChange lawS930017EExactSpec)

/-- ITS FALSE NEIGHBOUR: 'it returns false'. Refute it at one input. -/
def lawS930017EExactWrong : ChangeSpec := { name := "lawS930017EExact", fn := fun _ => fun
  | [d1, d2, d3, d4, d5] => { results := [.lit (.bool false)], args := [d1, d2, d3, d4, d5] }
  | _ => none }
def LawS930017EExactWrongFalsely : Prop := lawS930017EExactRow.holds Ydem.pinned (OpenSpec.ofChange lawS930017EExactWrong)

/-- 'rational.LawS930017ESmall': WHATEVER THE INPUT: true; the input reads as it did. -/
def lawS930017ESmallSpec : ChangeSpec := { name := "lawS930017ESmall", fn := fun _ => fun
  | [d1, d2, d3, d4] => { results := [.lit (.bool true)], args := [d1, d2, d3, d4] }
  | _ => none }
def lawS930017ESmallRow : OpenClaim := { program := "ymbrde", sum := "293b37e00ab812fa3e03ad35df9606d732217bb3b7b47fb8d1029868159eaf2e", func := "example.com/own/rational.LawS930017ESmall", spec := "lawS930017ESmall", apart := false }
def LawS930017ESmallSaid : Prop := lawS930017ESmallRow.holds Ydem.pinned (OpenSpec.ofChange lawS930017ESmallSpec)

/-- ITS FALSE NEIGHBOUR: 'it returns false'. Refute it at one input. -/
def lawS930017ESmallWrong : ChangeSpec := { name := "lawS930017ESmall", fn := fun _ => fun
  | [d1, d2, d3, d4] => { results := [.lit (.bool false)], args := [d1, d2, d3, d4] }
  | _ => none }
def LawS930017ESmallWrongFalsely : Prop := lawS930017ESmallRow.holds Ydem.pinned (OpenSpec.ofChange lawS930017ESmallWrong)

/-- 'rational.LawS930017EBack': WHATEVER THE INPUT: true; the input reads as it did. -/
def lawS930017EBackSpec : ChangeSpec := { name := "lawS930017EBack", fn := fun _ => fun
  | [d1, d2, d3, d4] => { results := [.lit (.bool true)], args := [d1, d2, d3, d4] }
  | _ => none }
def lawS930017EBackRow : OpenClaim := { program := "ymbrde", sum := "293b37e00ab812fa3e03ad35df9606d732217bb3b7b47fb8d1029868159eaf2e", func := "example.com/own/rational.LawS930017EBack", spec := "lawS930017EBack", apart := false }
def LawS930017EBackSaid : Prop := lawS930017EBackRow.holds Ydem.pinned (OpenSpec.ofChange lawS930017EBackSpec)

/-- ITS FALSE NEIGHBOUR: 'it returns false'. Refute it at one input. -/
def lawS930017EBackWrong : ChangeSpec := { name := "lawS930017EBack", fn := fun _ => fun
  | [d1, d2, d3, d4] => { results := [.lit (.bool false)], args := [d1, d2, d3, d4] }
  | _ => none }
def LawS930017EBackWrongFalsely : Prop := lawS930017EBackRow.holds Ydem.pinned (OpenSpec.ofChange lawS930017EBackWrong)

/-- 'rational.LawS930017FSmall': WHATEVER THE INPUT: true; the input reads as it did. -/
def lawS930017FSmallSpec : ChangeSpec := { name := "lawS930017FSmall", fn := fun _ => fun
  | [d1, d2, d3, d4, d5] => { results := [.lit (.bool true)], args := [d1, d2, d3, d4, d5] }
  | _ => none }
def lawS930017FSmallRow : OpenClaim := { program := "ymbrde", sum := "293b37e00ab812fa3e03ad35df9606d732217bb3b7b47fb8d1029868159eaf2e", func := "example.com/own/rational.LawS930017FSmall", spec := "lawS930017FSmall", inPlace := ["math/bits.Add64", "math/bits.Sub64"], recurses := true, named := ["math/bits.divideError", "math/bits.overflowError"], apart := false }
def LawS930017FSmallSaid : Prop := lawS930017FSmallRow.holds Ydem.pinned (OpenSpec.ofChange lawS930017FSmallSpec)

/-- ITS FALSE NEIGHBOUR: 'it returns false'. Refute it at one input. -/
def lawS930017FSmallWrong : ChangeSpec := { name := "lawS930017FSmall", fn := fun _ => fun
  | [d1, d2, d3, d4, d5] => { results := [.lit (.bool false)], args := [d1, d2, d3, d4, d5] }
  | _ => none }
def LawS930017FSmallWrongFalsely : Prop := lawS930017FSmallRow.holds Ydem.pinned (OpenSpec.ofChange lawS930017FSmallWrong)

/-- 'rational.LawS930017FExact': WHATEVER THE INPUT: true; the input reads as it did. -/
def lawS930017FExactSpec : ChangeSpec := { name := "lawS930017FExact", fn := fun _ => fun
  | [d1, d2, d3, d4, d5, d6, d7] => { results := [.lit (.bool true)], args := [d1, d2, d3, d4, d5, d6, d7] }
  | _ => none }
def lawS930017FExactRow : OpenClaim := { program := "ymbrde", sum := "293b37e00ab812fa3e03ad35df9606d732217bb3b7b47fb8d1029868159eaf2e", func := "example.com/own/rational.LawS930017FExact", spec := "lawS930017FExact", inPlace := ["math/bits.Add64", "math/bits.Sub64"], recurses := true, named := ["math/bits.divideError", "math/bits.overflowError"], apart := false }
def LawS930017FExactSaid : Prop := lawS930017FExactRow.holds Ydem.pinned (OpenSpec.ofChange lawS930017FExactSpec)

/-- ITS FALSE NEIGHBOUR: 'it returns false'. Refute it at one input. -/
def lawS930017FExactWrong : ChangeSpec := { name := "lawS930017FExact", fn := fun _ => fun
  | [d1, d2, d3, d4, d5, d6, d7] => { results := [.lit (.bool false)], args := [d1, d2, d3, d4, d5, d6, d7] }
  | _ => none }
def LawS930017FExactWrongFalsely : Prop := lawS930017FExactRow.holds Ydem.pinned (OpenSpec.ofChange lawS930017FExactWrong)

/-- 'rational.LawS930017FWhole': WHATEVER THE INPUT: true; the input reads as it did. -/
def lawS930017FWholeSpec : ChangeSpec := { name := "lawS930017FWhole", fn := fun _ => fun
  | [d1, d2, d3, d4] => { results := [.lit (.bool true)], args := [d1, d2, d3, d4] }
  | _ => none }
def lawS930017FWholeRow : OpenClaim := { program := "ymbrde", sum := "293b37e00ab812fa3e03ad35df9606d732217bb3b7b47fb8d1029868159eaf2e", func := "example.com/own/rational.LawS930017FWhole", spec := "lawS930017FWhole", inPlace := ["math/bits.Add64", "math/bits.Sub64"], named := ["math/bits.divideError", "math/bits.overflowError"], apart := false }
def LawS930017FWholeSaid : Prop := lawS930017FWholeRow.holds Ydem.pinned (OpenSpec.ofChange lawS930017FWholeSpec)

/-- ITS FALSE NEIGHBOUR: 'it returns false'. Refute it at one input. -/
def lawS930017FWholeWrong : ChangeSpec := { name := "lawS930017FWhole", fn := fun _ => fun
  | [d1, d2, d3, d4] => { results := [.lit (.bool false)], args := [d1, d2, d3, d4] }
  | _ => none }
def LawS930017FWholeWrongFalsely : Prop := lawS930017FWholeRow.holds Ydem.pinned (OpenSpec.ofChange lawS930017FWholeWrong)

/-- 'rational.LawS930017GFits': WHATEVER THE INPUT: true; the input reads as it did. -/
def lawS930017GFitsSpec : ChangeSpec := { name := "lawS930017GFits", fn := fun _ => fun
  | [d1, d2] => { results := [.lit (.bool true)], args := [d1, d2] }
  | _ => none }
def lawS930017GFitsRow : OpenClaim := { program := "ymbrde", sum := "293b37e00ab812fa3e03ad35df9606d732217bb3b7b47fb8d1029868159eaf2e", func := "example.com/own/rational.LawS930017GFits", spec := "lawS930017GFits", apart := false }
def LawS930017GFitsSaid : Prop := lawS930017GFitsRow.holds Ydem.pinned (OpenSpec.ofChange lawS930017GFitsSpec)

/-- ITS FALSE NEIGHBOUR: 'it returns false'. Refute it at one input. -/
def lawS930017GFitsWrong : ChangeSpec := { name := "lawS930017GFits", fn := fun _ => fun
  | [d1, d2] => { results := [.lit (.bool false)], args := [d1, d2] }
  | _ => none }
def LawS930017GFitsWrongFalsely : Prop := lawS930017GFitsRow.holds Ydem.pinned (OpenSpec.ofChange lawS930017GFitsWrong)

/-- 'rational.LawS930017GValue': WHATEVER THE INPUT: true; the input reads as it did. -/
def lawS930017GValueSpec : ChangeSpec := { name := "lawS930017GValue", fn := fun _ => fun
  | [d1, d2] => { results := [.lit (.bool true)], args := [d1, d2] }
  | _ => none }
def lawS930017GValueRow : OpenClaim := { program := "ymbrde", sum := "293b37e00ab812fa3e03ad35df9606d732217bb3b7b47fb8d1029868159eaf2e", func := "example.com/own/rational.LawS930017GValue", spec := "lawS930017GValue", apart := false }
def LawS930017GValueSaid : Prop := lawS930017GValueRow.holds Ydem.pinned (OpenSpec.ofChange lawS930017GValueSpec)

/-- ITS FALSE NEIGHBOUR: 'it returns false'. Refute it at one input. -/
def lawS930017GValueWrong : ChangeSpec := { name := "lawS930017GValue", fn := fun _ => fun
  | [d1, d2] => { results := [.lit (.bool false)], args := [d1, d2] }
  | _ => none }
def LawS930017GValueWrongFalsely : Prop := lawS930017GValueRow.holds Ydem.pinned (OpenSpec.ofChange lawS930017GValueWrong)

/-- 'rational.LawS930017GScale': WHATEVER THE INPUT: true; the input reads as it did. -/
def lawS930017GScaleSpec : ChangeSpec := { name := "lawS930017GScale", fn := fun _ => fun
  | [d1, d2, d3] => { results := [.lit (.bool true)], args := [d1, d2, d3] }
  | _ => none }
def lawS930017GScaleRow : OpenClaim := { program := "ymbrde", sum := "293b37e00ab812fa3e03ad35df9606d732217bb3b7b47fb8d1029868159eaf2e", func := "example.com/own/rational.LawS930017GScale", spec := "lawS930017GScale", apart := false }
def LawS930017GScaleSaid : Prop := lawS930017GScaleRow.holds Ydem.pinned (OpenSpec.ofChange lawS930017GScaleSpec)

/-- ITS FALSE NEIGHBOUR: 'it returns false'. Refute it at one input. -/
def lawS930017GScaleWrong : ChangeSpec := { name := "lawS930017GScale", fn := fun _ => fun
  | [d1, d2, d3] => { results := [.lit (.bool false)], args := [d1, d2, d3] }
  | _ => none }
def LawS930017GScaleWrongFalsely : Prop := lawS930017GScaleRow.holds Ydem.pinned (OpenSpec.ofChange lawS930017GScaleWrong)

/-- 'rational.LawS930017HCross': WHATEVER THE INPUT: true; the input reads as it did. -/
def lawS930017HCrossSpec : ChangeSpec := { name := "lawS930017HCross", fn := fun _ => fun
  | [d1, d2, d3, d4] => { results := [.lit (.bool true)], args := [d1, d2, d3, d4] }
  | _ => none }
def lawS930017HCrossRow : OpenClaim := { program := "ymbrde", sum := "293b37e00ab812fa3e03ad35df9606d732217bb3b7b47fb8d1029868159eaf2e", func := "example.com/own/rational.LawS930017HCross", spec := "lawS930017HCross", apart := false }
def LawS930017HCrossSaid : Prop := lawS930017HCrossRow.holds Ydem.pinned (OpenSpec.ofChange lawS930017HCrossSpec)

/-- ITS FALSE NEIGHBOUR: 'it returns false'. Refute it at one input. -/
def lawS930017HCrossWrong : ChangeSpec := { name := "lawS930017HCross", fn := fun _ => fun
  | [d1, d2, d3, d4] => { results := [.lit (.bool false)], args := [d1, d2, d3, d4] }
  | _ => none }
def LawS930017HCrossWrongFalsely : Prop := lawS930017HCrossRow.holds Ydem.pinned (OpenSpec.ofChange lawS930017HCrossWrong)

/-- 'rational.LawS930017HExact': WHATEVER THE INPUT: true; the input reads as it did. -/
def lawS930017HExactSpec : ChangeSpec := { name := "lawS930017HExact", fn := fun _ => fun
  | [d1, d2, d3, d4] => { results := [.lit (.bool true)], args := [d1, d2, d3, d4] }
  | _ => none }
def lawS930017HExactRow : OpenClaim := { program := "ymbrde", sum := "293b37e00ab812fa3e03ad35df9606d732217bb3b7b47fb8d1029868159eaf2e", func := "example.com/own/rational.LawS930017HExact", spec := "lawS930017HExact", apart := false }
def LawS930017HExactSaid : Prop := lawS930017HExactRow.holds Ydem.pinned (OpenSpec.ofChange lawS930017HExactSpec)

/-- ITS FALSE NEIGHBOUR: 'it returns false'. Refute it at one input. -/
def lawS930017HExactWrong : ChangeSpec := { name := "lawS930017HExact", fn := fun _ => fun
  | [d1, d2, d3, d4] => { results := [.lit (.bool false)], args := [d1, d2, d3, d4] }
  | _ => none }
def LawS930017HExactWrongFalsely : Prop := lawS930017HExactRow.holds Ydem.pinned (OpenSpec.ofChange lawS930017HExactWrong)

/-- 'rational.LawS930017HOrder': WHATEVER THE INPUT: true; the input reads as it did. -/
def lawS930017HOrderSpec : ChangeSpec := { name := "lawS930017HOrder", fn := fun _ => fun
  | [d1, d2, d3, d4, d5, d6] => { results := [.lit (.bool true)], args := [d1, d2, d3, d4, d5, d6] }
  | _ => none }
def lawS930017HOrderRow : OpenClaim := { program := "ymbrde", sum := "293b37e00ab812fa3e03ad35df9606d732217bb3b7b47fb8d1029868159eaf2e", func := "example.com/own/rational.LawS930017HOrder", spec := "lawS930017HOrder", apart := false }
def LawS930017HOrderSaid : Prop := lawS930017HOrderRow.holds Ydem.pinned (OpenSpec.ofChange lawS930017HOrderSpec)

/-- ITS FALSE NEIGHBOUR: 'it returns false'. Refute it at one input. -/
def lawS930017HOrderWrong : ChangeSpec := { name := "lawS930017HOrder", fn := fun _ => fun
  | [d1, d2, d3, d4, d5, d6] => { results := [.lit (.bool false)], args := [d1, d2, d3, d4, d5, d6] }
  | _ => none }
def LawS930017HOrderWrongFalsely : Prop := lawS930017HOrderRow.holds Ydem.pinned (OpenSpec.ofChange lawS930017HOrderWrong)

end Rows
end Go.Proofs.Ymbrde
