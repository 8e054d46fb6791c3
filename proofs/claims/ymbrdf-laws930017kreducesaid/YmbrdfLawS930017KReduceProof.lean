/-
  THE PROOF OF 'Rows.LawS930017KReduceSaid': the guide's frame; the walk: YmbrdfLawKR.
-/
import Derived.Test.YmbrdfRows
import Derived.Test.YmbrdfLawKR
import Derived.WalkKit
import Derived.ProofKit
import Derived.OpenShut
import Derived.ShutString
namespace Go.Proofs.Ymbrdf.lawS930017KReduce
open Go.ChangeShapes Go.WideShapes Go.ChangeAt Go.RowKit
open Go.ChangeMaps (open_string shut_string)
set_option linter.unusedVariables false      -- a walk need not use every 'w<i>' (that an integer argument fits its kind)

theorem own : ownKnob Ydfm.prog.godebug = none := by kernel_rfl

/-! ### STEP 1: the walk -/
theorem walk (a0 : Bool) (a1 : Int) (a2 : Int) (a3 : Int) (a4 : Int) (w1 : (Lit.int .u32 a1).wf = true) (w2 : (Lit.int .u32 a2).wf = true) (w3 : (Lit.int .u32 a3).wf = true) (w4 : (Lit.int .u32 a4).wf = true) (w : World) :
    Calls Ydfm.prog 9 #[.bool a0, .int .u32 a1, .int .u32 a2, .int .u32 a3, .int .u32 a4] w fun e w' => e = .returned (.bool true) ∧ Grown w w' := by
  exact law_KReduce a0 a1 a2 a3 a4 (bounds_u32 w1) (bounds_u32 w2) (bounds_u32 w3) (bounds_u32 w4) w

/-! ### THE ROW's STEP: WRITTEN OUT: LEAVE IT -/
set_option maxRecDepth 100000 in
theorem lifted (os : Os) (started : os.Started) (H : Type) (enc : TypeId × Value → H) :
    ReturnsInHanded {} Ydfm.checked os 9 .any (Rows.lawS930017KReduceSpec.pre6 enc Ydfm.prog Ydfm.f9 Rows.lawS930017KReduceRow.domain false) (Rows.lawS930017KReduceSpec.post enc Ydfm.prog Ydfm.f9 false true false false) := by
  refine returnsInHanded_of_change (C := Ydfm.checked) own started (by kernel_rfl) Ydfm.func9
    (ChangeSpec.witness6 (enc := enc) (C := Ydfm.checked) false ⟨#[], #[.bool false, .int .u32 0, .int .u32 0, .int .u32 0, .int .u32 0], []⟩ 8 (by kernel_rfl) (by kernel_rfl) (by kernel_rfl) (by kernel_rfl)) ?_
  intro W base args ds gs before hval0 hW hcnd _
  have hval : ∀ (j : Nat) t v, Ydfm.f9.params[j]? = some t → args[j]? = some v → Value.okWide Ydfm.prog W .any base t v := hval0
  have hW' := hW
  obtain ⟨p, q, hA0, hV, rfl, hfz, hnd⟩ := hW
  have hA : DataW.TrodAll enc Ydfm.prog W 0 (fun _ => true) true Ydfm.f9.params.toList args.toList ds p := hA0
  rw [Ydfm.params9] at hA hval
  obtain ⟨v0, vs0, d0, ds0, p0, q0, hargs, rfl, rfl, h0, r0⟩ := trodAll_cons hA
  obtain ⟨v1, vs1, d1, ds1, p1, q1, rfl, rfl, rfl, h1, r1⟩ := trodAll_cons r0
  obtain ⟨v2, vs2, d2, ds2, p2, q2, rfl, rfl, rfl, h2, r2⟩ := trodAll_cons r1
  obtain ⟨v3, vs3, d3, ds3, p3, q3, rfl, rfl, rfl, h3, r3⟩ := trodAll_cons r2
  obtain ⟨v4, vs4, d4, ds4, p4, q4, rfl, rfl, rfl, h4, r4⟩ := trodAll_cons r3
  obtain ⟨rfl, rfl, rfl⟩ := trodAll_nil r4
  obtain rfl : args = #[v0, v1, v2, v3, v4] := by cases args; simp_all
  obtain ⟨rfl, rfl⟩ := trodVars_none hV
  obtain ⟨a0, rfl, rfl, rfl⟩ := open_bool Ydfm.underlying4 (hval 0 4 v0 rfl rfl) h0
  obtain ⟨a1, rfl, rfl, rfl, w1⟩ := open_int Ydfm.underlying33 (hval 1 33 v1 rfl rfl) h1
  obtain ⟨a2, rfl, rfl, rfl, w2⟩ := open_int Ydfm.underlying33 (hval 2 33 v2 rfl rfl) h2
  obtain ⟨a3, rfl, rfl, rfl, w3⟩ := open_int Ydfm.underlying33 (hval 3 33 v3 rfl rfl) h3
  obtain ⟨a4, rfl, rfl, rfl, w4⟩ := open_int Ydfm.underlying33 (hval 4 33 v4 rfl rfl) h4
  clear hA0 hval0
  simp only [List.append_nil] at hW'
  refine (walk a0 a1 a2 a3 a4 w1 w2 w3 w4 W).mono fun e W' ⟨he, hg⟩ => ?_
  subst he
  exact ⟨_, rfl, post_of_same (pa := []) (pv := []) hW' (fun _ _ _ => (trodAll_cons_mk (shut_bool Ydfm.underlying4 _) trodAll_mk0)) (fun sp _ => (trodAll_cons_mk (shut_bool Ydfm.underlying4 _) (trodAll_cons_mk (shut_int Ydfm.underlying33 w1) (trodAll_cons_mk (shut_int Ydfm.underlying33 w2) (trodAll_cons_mk (shut_int Ydfm.underlying33 w3) (trodAll_cons_mk (shut_int Ydfm.underlying33 w4) trodAll_mk0)))))) (fun _ _ => rfl) rfl
    (hg.frame _) hg.2.1 (ok_one (by kernel_rfl) rfl (okWide_bool_mk Ydfm.underlying4 _))⟩

theorem over : Rows.lawS930017KReduceRow.holds Ydfm.pinned (OpenSpec.ofChange Rows.lawS930017KReduceSpec) :=
  OpenClaim.holds_of_wide 9 Ydfm.f9 rfl rfl rfl rfl rfl rfl rfl ⟨rfl, rfl, rfl, rfl, rfl⟩ rfl rfl rfl rfl rfl (by kernel_rfl) Ydfm.func9 (by kernel_rfl)
    (of_decide_eq_true (by kernel_rfl)) (by unfold Func.isWrapper; first | (rw [if_pos (by decide +kernel)]; kernel_rfl) | (rw [if_neg (by decide +kernel)]; exact ⟨rfl, rfl⟩))
    (fun os started H enc _ => lifted os started H enc)

/-- THE STATEMENT -/
theorem proved : Rows.LawS930017KReduceSaid :=
  over
#print axioms proved
end Go.Proofs.Ymbrdf.lawS930017KReduce
