/-
  THE PROOF OF 'Rows.LawS930017AExactSaid': the guide's frame; the walk: YmbrddLawAX.
-/
import Derived.Test.YmbrddRows
import Derived.Test.YmbrddLawAX
import Derived.WalkKit
import Derived.ProofKit
import Derived.OpenShut
import Derived.ShutString
namespace Go.Proofs.Ymbrdd.lawS930017AExact
open Go.ChangeShapes Go.WideShapes Go.ChangeAt Go.RowKit
open Go.ChangeMaps (open_string shut_string)
set_option linter.unusedVariables false      -- a walk need not use every 'w<i>' (that an integer argument fits its kind)

theorem own : ownKnob Yddm.prog.godebug = none := by kernel_rfl

/-! ### STEP 1: the walk -/
theorem walk (a0 : Int) (a1 : Int) (a2 : Bool) (a3 : Int) (a4 : Int) (a5 : Int) (a6 : Int) (w0 : (Lit.int .i64 a0).wf = true) (w1 : (Lit.int .u64 a1).wf = true) (w3 : (Lit.int .u64 a3).wf = true) (w4 : (Lit.int .u64 a4).wf = true) (w5 : (Lit.int .i64 a5).wf = true) (w6 : (Lit.int .u64 a6).wf = true) (w : World) :
    Calls Yddm.prog 3 #[.int .i64 a0, .int .u64 a1, .bool a2, .int .u64 a3, .int .u64 a4, .int .i64 a5, .int .u64 a6] w fun e w' => e = .returned (.bool true) ∧ Grown w w' := by
  exact law_AExact a0 a1 a2 a3 a4 a5 a6 (bounds_i64 w0) (bounds_u64 w1) (bounds_u64 w3) (bounds_u64 w4) (bounds_i64 w5) (bounds_u64 w6) w

/-! ### THE ROW's STEP: WRITTEN OUT: LEAVE IT -/
set_option maxRecDepth 100000 in
theorem lifted (os : Os) (started : os.Started) (H : Type) (enc : TypeId × Value → H) :
    ReturnsInHanded {} Yddm.checked os 3 .any (Rows.lawS930017AExactSpec.pre6 enc Yddm.prog Yddm.f3 Rows.lawS930017AExactRow.domain false) (Rows.lawS930017AExactSpec.post enc Yddm.prog Yddm.f3 false true false false) := by
  refine returnsInHanded_of_change (C := Yddm.checked) own started (by kernel_rfl) Yddm.func3
    (ChangeSpec.witness6 (enc := enc) (C := Yddm.checked) false ⟨#[], #[.int .i64 0, .int .u64 0, .bool false, .int .u64 0, .int .u64 0, .int .i64 0, .int .u64 0], []⟩ 8 (by kernel_rfl) (by kernel_rfl) (by kernel_rfl) (by kernel_rfl)) ?_
  intro W base args ds gs before hval0 hW hcnd _
  have hval : ∀ (j : Nat) t v, Yddm.f3.params[j]? = some t → args[j]? = some v → Value.okWide Yddm.prog W .any base t v := hval0
  have hW' := hW
  obtain ⟨p, q, hA0, hV, rfl, hfz, hnd⟩ := hW
  have hA : DataW.TrodAll enc Yddm.prog W 0 (fun _ => true) true Yddm.f3.params.toList args.toList ds p := hA0
  rw [Yddm.params3] at hA hval
  obtain ⟨v0, vs0, d0, ds0, p0, q0, hargs, rfl, rfl, h0, r0⟩ := trodAll_cons hA
  obtain ⟨v1, vs1, d1, ds1, p1, q1, rfl, rfl, rfl, h1, r1⟩ := trodAll_cons r0
  obtain ⟨v2, vs2, d2, ds2, p2, q2, rfl, rfl, rfl, h2, r2⟩ := trodAll_cons r1
  obtain ⟨v3, vs3, d3, ds3, p3, q3, rfl, rfl, rfl, h3, r3⟩ := trodAll_cons r2
  obtain ⟨v4, vs4, d4, ds4, p4, q4, rfl, rfl, rfl, h4, r4⟩ := trodAll_cons r3
  obtain ⟨v5, vs5, d5, ds5, p5, q5, rfl, rfl, rfl, h5, r5⟩ := trodAll_cons r4
  obtain ⟨v6, vs6, d6, ds6, p6, q6, rfl, rfl, rfl, h6, r6⟩ := trodAll_cons r5
  obtain ⟨rfl, rfl, rfl⟩ := trodAll_nil r6
  obtain rfl : args = #[v0, v1, v2, v3, v4, v5, v6] := by cases args; simp_all
  obtain ⟨rfl, rfl⟩ := trodVars_none hV
  obtain ⟨a0, rfl, rfl, rfl, w0⟩ := open_int Yddm.underlying2 (hval 0 2 v0 rfl rfl) h0
  obtain ⟨a1, rfl, rfl, rfl, w1⟩ := open_int Yddm.underlying22 (hval 1 22 v1 rfl rfl) h1
  obtain ⟨a2, rfl, rfl, rfl⟩ := open_bool Yddm.underlying4 (hval 2 4 v2 rfl rfl) h2
  obtain ⟨a3, rfl, rfl, rfl, w3⟩ := open_int Yddm.underlying22 (hval 3 22 v3 rfl rfl) h3
  obtain ⟨a4, rfl, rfl, rfl, w4⟩ := open_int Yddm.underlying22 (hval 4 22 v4 rfl rfl) h4
  obtain ⟨a5, rfl, rfl, rfl, w5⟩ := open_int Yddm.underlying2 (hval 5 2 v5 rfl rfl) h5
  obtain ⟨a6, rfl, rfl, rfl, w6⟩ := open_int Yddm.underlying22 (hval 6 22 v6 rfl rfl) h6
  clear hA0 hval0
  simp only [List.append_nil] at hW'
  refine (walk a0 a1 a2 a3 a4 a5 a6 w0 w1 w3 w4 w5 w6 W).mono fun e W' ⟨he, hg⟩ => ?_
  subst he
  exact ⟨_, rfl, post_of_same (pa := []) (pv := []) hW' (fun _ _ _ => (trodAll_cons_mk (shut_bool Yddm.underlying4 _) trodAll_mk0)) (fun sp _ => (trodAll_cons_mk (shut_int Yddm.underlying2 w0) (trodAll_cons_mk (shut_int Yddm.underlying22 w1) (trodAll_cons_mk (shut_bool Yddm.underlying4 _) (trodAll_cons_mk (shut_int Yddm.underlying22 w3) (trodAll_cons_mk (shut_int Yddm.underlying22 w4) (trodAll_cons_mk (shut_int Yddm.underlying2 w5) (trodAll_cons_mk (shut_int Yddm.underlying22 w6) trodAll_mk0)))))))) (fun _ _ => rfl) rfl
    (hg.frame _) hg.2.1 (ok_one (by kernel_rfl) rfl (okWide_bool_mk Yddm.underlying4 _))⟩

theorem over : Rows.lawS930017AExactRow.holds Yddm.pinned (OpenSpec.ofChange Rows.lawS930017AExactSpec) :=
  OpenClaim.holds_of_wide 3 Yddm.f3 rfl rfl rfl rfl rfl rfl rfl ⟨rfl, rfl, rfl, rfl, rfl⟩ rfl rfl rfl rfl rfl (by kernel_rfl) Yddm.func3 (by kernel_rfl)
    (of_decide_eq_true (by kernel_rfl)) (by unfold Func.isWrapper; first | (rw [if_pos (by decide +kernel)]; kernel_rfl) | (rw [if_neg (by decide +kernel)]; exact ⟨rfl, rfl⟩))
    (fun os started H enc _ => lifted os started H enc)

/-- THE STATEMENT -/
theorem proved : Rows.LawS930017AExactSaid :=
  over
#print axioms proved
end Go.Proofs.Ymbrdd.lawS930017AExact
