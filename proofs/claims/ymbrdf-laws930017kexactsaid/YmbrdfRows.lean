/-
  No cell of these rows narrows 'for every input' (looked for: loops, veiled, ifaces, maps, wideKeys, modest, calm, conditions, laid).
  DERIVED. THE GIVEN ROWS OF THIS SEAT. 11 by the template 'for every input the law returns true; each argument reads behind the call as it read before'; 0 by the template 'total and deterministic' (their statements: YmbrdfTotals.lean).
  GIVEN WITH THE SEED: the statements are not yours to turn. If you find one false, say at which input.
  Laid BY PROGRAM, IN A SANDBOX (cutbox-rows.mjs): the forced cells as the released guide's own fill.sh prints them over the translation dda2bfbca3a239ac… (all of the seat's roots in one cut). By AI agents, Wed Nov 11 2026. No macro, syntax, notation, axiom, sorry.
-/
import Derived.Test.YmbrdfChecked
import GoSem.Claim
import GoSem.ClaimJoined
import GoSem.ClaimMapViews
import Derived.JoinedTies
import Derived.KernelRfl
namespace Go.Proofs.Ymbrdf
/- THE CELL 'sum', in the pinned program and in every row, IS THE sha256 OF THE DUMP (.gsa) THAT YmbrdfProg.lean LOADS. Nothing in Lean hashes anything: it is a label: what it is worth is what the hold of that sum in a sandbox is worth. -/
noncomputable def Ydfm.pinned : Pinned := { name := "ymbrdf", sum := "dda2bfbca3a239ac848ba95e981e6ba7c9e2a02315e4b5b2d9a9798d8cfdf6f4", checked := Ydfm.checked }
namespace Rows
def none {H : Type} : Left H := { results := [], args := [] }

/-- 'rational.LawS930017ITrial': WHATEVER THE INPUT: true; the input reads as it did. -/
def lawS930017ITrialSpec : ChangeSpec := { name := "lawS930017ITrial", fn := fun _ => fun
  | [d1, d2] => { results := [.lit (.bool true)], args := [d1, d2] }
  | _ => none }
def lawS930017ITrialRow : OpenClaim := { program := "ymbrdf", sum := "dda2bfbca3a239ac848ba95e981e6ba7c9e2a02315e4b5b2d9a9798d8cfdf6f4", func := "example.com/own/rational.LawS930017ITrial", spec := "lawS930017ITrial", apart := false }
def LawS930017ITrialSaid : Prop := lawS930017ITrialRow.holds Ydfm.pinned (OpenSpec.ofChange lawS930017ITrialSpec)

/-- ITS FALSE NEIGHBOUR: 'it returns false'. Refute it at one input. -/
def lawS930017ITrialWrong : ChangeSpec := { name := "lawS930017ITrial", fn := fun _ => fun
  | [d1, d2] => { results := [.lit (.bool false)], args := [d1, d2] }
  | _ => none }
def LawS930017ITrialWrongFalsely : Prop := lawS930017ITrialRow.holds Ydfm.pinned (OpenSpec.ofChange lawS930017ITrialWrong)

/-- 'rational.LawS930017IMultiple': WHATEVER THE INPUT: true; the input reads as it did. -/
def lawS930017IMultipleSpec : ChangeSpec := { name := "lawS930017IMultiple", fn := fun _ => fun
  | [d1, d2, d3] => { results := [.lit (.bool true)], args := [d1, d2, d3] }
  | _ => none }
def lawS930017IMultipleRow : OpenClaim := { program := "ymbrdf", sum := "dda2bfbca3a239ac848ba95e981e6ba7c9e2a02315e4b5b2d9a9798d8cfdf6f4", func := "example.com/own/rational.LawS930017IMultiple", spec := "lawS930017IMultiple", apart := false }
def LawS930017IMultipleSaid : Prop := lawS930017IMultipleRow.holds Ydfm.pinned (OpenSpec.ofChange lawS930017IMultipleSpec)

/-- ITS FALSE NEIGHBOUR: 'it returns false'. Refute it at one input. -/
def lawS930017IMultipleWrong : ChangeSpec := { name := "lawS930017IMultiple", fn := fun _ => fun
  | [d1, d2, d3] => { results := [.lit (.bool false)], args := [d1, d2, d3] }
  | _ => none }
def LawS930017IMultipleWrongFalsely : Prop := lawS930017IMultipleRow.holds Ydfm.pinned (OpenSpec.ofChange lawS930017IMultipleWrong)

/-- 'rational.LawS930017IReduce': WHATEVER THE INPUT: true; the input reads as it did. -/
def lawS930017IReduceSpec : ChangeSpec := { name := "lawS930017IReduce", fn := fun _ => fun
  | [d1, d2] => { results := [.lit (.bool true)], args := [d1, d2] }
  | _ => none }
def lawS930017IReduceRow : OpenClaim := { program := "ymbrdf", sum := "dda2bfbca3a239ac848ba95e981e6ba7c9e2a02315e4b5b2d9a9798d8cfdf6f4", func := "example.com/own/rational.LawS930017IReduce", spec := "lawS930017IReduce", apart := false }
def LawS930017IReduceSaid : Prop := lawS930017IReduceRow.holds Ydfm.pinned (OpenSpec.ofChange lawS930017IReduceSpec)

/-- ITS FALSE NEIGHBOUR: 'it returns false'. Refute it at one input. -/
def lawS930017IReduceWrong : ChangeSpec := { name := "lawS930017IReduce", fn := fun _ => fun
  | [d1, d2] => { results := [.lit (.bool false)], args := [d1, d2] }
  | _ => none }
def LawS930017IReduceWrongFalsely : Prop := lawS930017IReduceRow.holds Ydfm.pinned (OpenSpec.ofChange lawS930017IReduceWrong)

/-- 'rational.LawS930017JExact': WHATEVER THE INPUT: true; the input reads as it did. -/
def lawS930017JExactSpec : ChangeSpec := { name := "lawS930017JExact", fn := fun _ => fun
  | [d1, d2, d3, d4, d5] => { results := [.lit (.bool true)], args := [d1, d2, d3, d4, d5] }
  | _ => none }
def lawS930017JExactRow : OpenClaim := { program := "ymbrdf", sum := "dda2bfbca3a239ac848ba95e981e6ba7c9e2a02315e4b5b2d9a9798d8cfdf6f4", func := "example.com/own/rational.LawS930017JExact", spec := "lawS930017JExact", apart := false }
def LawS930017JExactSaid : Prop := lawS930017JExactRow.holds Ydfm.pinned (OpenSpec.ofChange lawS930017JExactSpec)

/-- ITS FALSE NEIGHBOUR: 'it returns false'. Refute it at one input. -/
def lawS930017JExactWrong : ChangeSpec := { name := "lawS930017JExact", fn := fun _ => fun
  | [d1, d2, d3, d4, d5] => { results := [.lit (.bool false)], args := [d1, d2, d3, d4, d5] }
  | _ => none }
def LawS930017JExactWrongFalsely : Prop := lawS930017JExactRow.holds Ydfm.pinned (OpenSpec.ofChange lawS930017JExactWrong)

/-- 'rational.LawS930017JRound': WHATEVER THE INPUT: true; the input reads as it did. -/
def lawS930017JRoundSpec : ChangeSpec := { name := "lawS930017JRound", fn := fun _ => fun
  | [d1, d2] => { results := [.lit (.bool true)], args := [d1, d2] }
  | _ => none }
def lawS930017JRoundRow : OpenClaim := { program := "ymbrdf", sum := "dda2bfbca3a239ac848ba95e981e6ba7c9e2a02315e4b5b2d9a9798d8cfdf6f4", func := "example.com/own/rational.LawS930017JRound", spec := "lawS930017JRound", apart := false }
def LawS930017JRoundSaid : Prop := lawS930017JRoundRow.holds Ydfm.pinned (OpenSpec.ofChange lawS930017JRoundSpec)

/-- ITS FALSE NEIGHBOUR: 'it returns false'. Refute it at one input. -/
def lawS930017JRoundWrong : ChangeSpec := { name := "lawS930017JRound", fn := fun _ => fun
  | [d1, d2] => { results := [.lit (.bool false)], args := [d1, d2] }
  | _ => none }
def LawS930017JRoundWrongFalsely : Prop := lawS930017JRoundRow.holds Ydfm.pinned (OpenSpec.ofChange lawS930017JRoundWrong)

/-- 'rational.LawS930017JMirror': WHATEVER THE INPUT: true; the input reads as it did. -/
def lawS930017JMirrorSpec : ChangeSpec := { name := "lawS930017JMirror", fn := fun _ => fun
  | [d1, d2, d3, d4] => { results := [.lit (.bool true)], args := [d1, d2, d3, d4] }
  | _ => none }
def lawS930017JMirrorRow : OpenClaim := { program := "ymbrdf", sum := "dda2bfbca3a239ac848ba95e981e6ba7c9e2a02315e4b5b2d9a9798d8cfdf6f4", func := "example.com/own/rational.LawS930017JMirror", spec := "lawS930017JMirror", apart := false }
def LawS930017JMirrorSaid : Prop := lawS930017JMirrorRow.holds Ydfm.pinned (OpenSpec.ofChange lawS930017JMirrorSpec)

/-- ITS FALSE NEIGHBOUR: 'it returns false'. Refute it at one input. -/
def lawS930017JMirrorWrong : ChangeSpec := { name := "lawS930017JMirror", fn := fun _ => fun
  | [d1, d2, d3, d4] => { results := [.lit (.bool false)], args := [d1, d2, d3, d4] }
  | _ => none }
def LawS930017JMirrorWrongFalsely : Prop := lawS930017JMirrorRow.holds Ydfm.pinned (OpenSpec.ofChange lawS930017JMirrorWrong)

/-- 'rational.LawS930017KReduce': WHATEVER THE INPUT: true; the input reads as it did. -/
def lawS930017KReduceSpec : ChangeSpec := { name := "lawS930017KReduce", fn := fun _ => fun
  | [d1, d2, d3, d4, d5] => { results := [.lit (.bool true)], args := [d1, d2, d3, d4, d5] }
  | _ => none }
def lawS930017KReduceRow : OpenClaim := { program := "ymbrdf", sum := "dda2bfbca3a239ac848ba95e981e6ba7c9e2a02315e4b5b2d9a9798d8cfdf6f4", func := "example.com/own/rational.LawS930017KReduce", spec := "lawS930017KReduce", apart := false }
def LawS930017KReduceSaid : Prop := lawS930017KReduceRow.holds Ydfm.pinned (OpenSpec.ofChange lawS930017KReduceSpec)

/-- ITS FALSE NEIGHBOUR: 'it returns false'. Refute it at one input. -/
def lawS930017KReduceWrong : ChangeSpec := { name := "lawS930017KReduce", fn := fun _ => fun
  | [d1, d2, d3, d4, d5] => { results := [.lit (.bool false)], args := [d1, d2, d3, d4, d5] }
  | _ => none }
def LawS930017KReduceWrongFalsely : Prop := lawS930017KReduceRow.holds Ydfm.pinned (OpenSpec.ofChange lawS930017KReduceWrong)

/-- 'rational.LawS930017KExact': WHATEVER THE INPUT: true; the input reads as it did. -/
def lawS930017KExactSpec : ChangeSpec := { name := "lawS930017KExact", fn := fun _ => fun
  | [d1, d2, d3, d4, d5, d6, d7, d8, d9] => { results := [.lit (.bool true)], args := [d1, d2, d3, d4, d5, d6, d7, d8, d9] }
  | _ => none }
def lawS930017KExactRow : OpenClaim := { program := "ymbrdf", sum := "dda2bfbca3a239ac848ba95e981e6ba7c9e2a02315e4b5b2d9a9798d8cfdf6f4", func := "example.com/own/rational.LawS930017KExact", spec := "lawS930017KExact", inPlace := ["math/bits.Add64"], apart := false }
def LawS930017KExactSaid : Prop := lawS930017KExactRow.holds Ydfm.pinned (OpenSpec.ofChange lawS930017KExactSpec)

/-- ITS FALSE NEIGHBOUR: 'it returns false'. Refute it at one input. -/
def lawS930017KExactWrong : ChangeSpec := { name := "lawS930017KExact", fn := fun _ => fun
  | [d1, d2, d3, d4, d5, d6, d7, d8, d9] => { results := [.lit (.bool false)], args := [d1, d2, d3, d4, d5, d6, d7, d8, d9] }
  | _ => none }
def LawS930017KExactWrongFalsely : Prop := lawS930017KExactRow.holds Ydfm.pinned (OpenSpec.ofChange lawS930017KExactWrong)

/-- 'rational.LawS930017LExact': WHATEVER THE INPUT: true; the input reads as it did. -/
def lawS930017LExactSpec : ChangeSpec := { name := "lawS930017LExact", fn := fun _ => fun
  | [d] => { results := [.lit (.bool true)], args := [d] }
  | _ => none }
def lawS930017LExactRow : OpenClaim := { program := "ymbrdf", sum := "dda2bfbca3a239ac848ba95e981e6ba7c9e2a02315e4b5b2d9a9798d8cfdf6f4", func := "example.com/own/rational.LawS930017LExact", spec := "lawS930017LExact", apart := false }
def LawS930017LExactSaid : Prop := lawS930017LExactRow.holds Ydfm.pinned (OpenSpec.ofChange lawS930017LExactSpec)

/-- ITS FALSE NEIGHBOUR: 'it returns false'. Refute it at one input. -/
def lawS930017LExactWrong : ChangeSpec := { name := "lawS930017LExact", fn := fun _ => fun
  | [d] => { results := [.lit (.bool false)], args := [d] }
  | _ => none }
def LawS930017LExactWrongFalsely : Prop := lawS930017LExactRow.holds Ydfm.pinned (OpenSpec.ofChange lawS930017LExactWrong)

/-- 'rational.LawS930017LRebuild': WHATEVER THE INPUT: true; the input reads as it did. -/
def lawS930017LRebuildSpec : ChangeSpec := { name := "lawS930017LRebuild", fn := fun _ => fun
  | [d1, d2] => { results := [.lit (.bool true)], args := [d1, d2] }
  | _ => none }
def lawS930017LRebuildRow : OpenClaim := { program := "ymbrdf", sum := "dda2bfbca3a239ac848ba95e981e6ba7c9e2a02315e4b5b2d9a9798d8cfdf6f4", func := "example.com/own/rational.LawS930017LRebuild", spec := "lawS930017LRebuild", apart := false }
def LawS930017LRebuildSaid : Prop := lawS930017LRebuildRow.holds Ydfm.pinned (OpenSpec.ofChange lawS930017LRebuildSpec)

/-- ITS FALSE NEIGHBOUR: 'it returns false'. Refute it at one input. -/
def lawS930017LRebuildWrong : ChangeSpec := { name := "lawS930017LRebuild", fn := fun _ => fun
  | [d1, d2] => { results := [.lit (.bool false)], args := [d1, d2] }
  | _ => none }
def LawS930017LRebuildWrongFalsely : Prop := lawS930017LRebuildRow.holds Ydfm.pinned (OpenSpec.ofChange lawS930017LRebuildWrong)

/-- 'rational.LawS930017LMirror': WHATEVER THE INPUT: true; the input reads as it did. -/
def lawS930017LMirrorSpec : ChangeSpec := { name := "lawS930017LMirror", fn := fun _ => fun
  | [d] => { results := [.lit (.bool true)], args := [d] }
  | _ => none }
def lawS930017LMirrorRow : OpenClaim := { program := "ymbrdf", sum := "dda2bfbca3a239ac848ba95e981e6ba7c9e2a02315e4b5b2d9a9798d8cfdf6f4", func := "example.com/own/rational.LawS930017LMirror", spec := "lawS930017LMirror", apart := false }
def LawS930017LMirrorSaid : Prop := lawS930017LMirrorRow.holds Ydfm.pinned (OpenSpec.ofChange lawS930017LMirrorSpec)

/-- ITS FALSE NEIGHBOUR: 'it returns false'. Refute it at one input. -/
def lawS930017LMirrorWrong : ChangeSpec := { name := "lawS930017LMirror", fn := fun _ => fun
  | [d] => { results := [.lit (.bool false)], args := [d] }
  | _ => none }
def LawS930017LMirrorWrongFalsely : Prop := lawS930017LMirrorRow.holds Ydfm.pinned (OpenSpec.ofChange lawS930017LMirrorWrong)

end Rows
end Go.Proofs.Ymbrdf
