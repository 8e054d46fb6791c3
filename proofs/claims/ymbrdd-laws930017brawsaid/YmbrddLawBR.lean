/-
  THE WALK of the law BRaw (Sub and Add).
-/
import Derived.Test.YmbrddWalkBB
import Derived.Test.YmbrddWalkAdd
namespace Go.Proofs.Ymbrdd
open Go.RowKit

/-- An answer given is valid. -/
theorem sum_valid {a b c d : Int} (h : sumB a b c d = true) : validB (sumN a b c d) (sumD a b c d) = true ∧ -9223372036854775808 ≤ sumN a b c d ∧ sumN a b c d ≤ 9223372036854775807 ∧ sumD a b c d ≤ 9223372036854775807 := by
  obtain ⟨e1, e2⟩ := sum_yes h
  unfold sumB at h
  simp only [Bool.and_eq_true] at h
  obtain ⟨⟨h1, h2⟩, h3⟩ := h
  have b1 := (validB_iff.mp h1).1
  have d1 := (validB_iff.mp h2).1
  have hp : 0 < b * d := Int.mul_pos (by omega) (by omega)
  rw [e1, e2]
  obtain ⟨f1, f2, f3⟩ := fitB_iff.mp h3
  exact ⟨validB_mk (redD_pos hp) (red_coprime hp), f1, f2, f3⟩

set_option maxHeartbeats 2000000 in
theorem law_BRaw (a b c d : Int) (ba : -9223372036854775808 ≤ a ∧ a ≤ 9223372036854775807) (bb : -9223372036854775808 ≤ b ∧ b ≤ 9223372036854775807)
    (bc : -9223372036854775808 ≤ c ∧ c ≤ 9223372036854775807) (bd : -9223372036854775808 ≤ d ∧ d ≤ 9223372036854775807) (w : World) :
    Calls Yddm.prog 8 #[.int .i64 a, .int .i64 b, .int .i64 c, .int .i64 d] w fun e w' => e = .returned (.bool true) ∧ Grown w w' := by
  obtain ⟨a1, a2⟩ := ba
  obtain ⟨b1, b2⟩ := bb
  obtain ⟨c1, c2⟩ := bc
  obtain ⟨d1, d2⟩ := bd
  by_cases hv1 : validB a b = true
  · by_cases hv2 : validB c d = true
    · by_cases hc : c = -9223372036854775808
      · subst hc
        by_cases hB : sumB a b (-(-9223372036854775808)) d = true
        · obtain ⟨hv, f1, f2, f3⟩ := sum_valid hB
          go_enter Yddm.func8, Yddm.ntmps8
          go_wp2_with fail
          refine (sub_any _ _ _ _ a1 a2 b2 c1 c2 d2 _).mono ?_
          rw [hB]
          generalize sumN a b (-(-9223372036854775808)) d = p at *
          generalize sumD a b (-(-9223372036854775808)) d = q at *
          clear hB
          rintro _ w1 ⟨rfl, g1⟩
          go_wp2_with fail
          refine (bvalid_any _ _ a1 a2 b2 _).mono ?_
          rintro _ wx ⟨rfl, hw⟩
          subst wx
          go_wp2_with fail
          refine (bvalid_any _ _ c1 c2 d2 _).mono ?_
          rintro _ wx ⟨rfl, hw⟩
          subst wx
          go_wp2_with fail
          refine (bvalid_any _ _ f1 f2 f3 _).mono ?_
          rintro _ wx ⟨rfl, hw⟩
          subst wx
          go_wp2_with fail
          go_ret
          exact ⟨rfl, (g1.alloc _ _).grown⟩
        · have hB : sumB a b (-(-9223372036854775808)) d = false := by simpa using hB
          go_enter Yddm.func8, Yddm.ntmps8
          go_wp2_with fail
          refine (sub_any _ _ _ _ a1 a2 b2 c1 c2 d2 _).mono ?_
          rw [hB]
          generalize sumN a b (-(-9223372036854775808)) d = p at *
          generalize sumD a b (-(-9223372036854775808)) d = q at *
          clear hB
          rintro _ w1 ⟨rfl, g1⟩
          go_wp2_with fail
          refine (bvalid_any _ _ a1 a2 b2 _).mono ?_
          rintro _ wx ⟨rfl, hw⟩
          subst wx
          go_wp2_with fail
          refine (bvalid_any _ _ c1 c2 d2 _).mono ?_
          rintro _ wx ⟨rfl, hw⟩
          subst wx
          go_wp2_with fail
          go_ret
          exact ⟨rfl, (g1.alloc _ _).grown⟩
      · have hc' : (c == -9223372036854775808) = false := by simpa using hc
        go_enter Yddm.func8, Yddm.ntmps8
        go_wp2_with fail
        refine (sub_any _ _ _ _ a1 a2 b2 c1 c2 d2 _).mono ?_
        rintro _ w1 ⟨rfl, g1⟩
        go_wp2_with fail
        refine (bvalid_any _ _ a1 a2 b2 _).mono ?_
        rintro _ wx ⟨rfl, hw⟩
        subst wx
        go_wp2_with fail
        refine (bvalid_any _ _ c1 c2 d2 _).mono ?_
        rintro _ wx ⟨rfl, hw⟩
        subst wx
        go_wp2_with fail
        refine (add_any _ _ _ _ a1 a2 b2 (by omega) (by omega) d2 _).mono ?_
        rintro _ w2 ⟨rfl, g2⟩
        obtain ⟨hc2, hf2, hz2⟩ := gcell g2
        have s2 : w1.heap.size < w2.heap.size := by simp at hz2; omega
        clear hz2
        go_wp2_with fail
        go_ret
        exact ⟨rfl, (((g1.alloc _ _).trans g2).alloc _ _).grown⟩
    · have hv2 : validB c d = false := by simpa using hv2
      obtain ⟨hB, hN, hD⟩ := sum_inv (a := a) (b := b) (c := -c) (d := d) (Or.inr ((validB_neg c d).trans hv2))
      go_enter Yddm.func8, Yddm.ntmps8
      go_wp2_with fail
      refine (sub_any _ _ _ _ a1 a2 b2 c1 c2 d2 _).mono ?_
      rw [hB, hN, hD]
      rintro _ w1 ⟨rfl, g1⟩
      go_wp2_with fail
      refine (bvalid_any _ _ a1 a2 b2 _).mono ?_
      rintro _ wx ⟨rfl, hw⟩
      subst wx
      go_wp2_with fail
      refine (bvalid_any _ _ c1 c2 d2 _).mono ?_
      rintro _ wx ⟨rfl, hw⟩
      subst wx
      go_wp2_with fail
      go_ret
      exact ⟨rfl, (g1.alloc _ _).grown⟩
  · have hv1 : validB a b = false := by simpa using hv1
    obtain ⟨hB, hN, hD⟩ := sum_inv (a := a) (b := b) (c := -c) (d := d) (Or.inl hv1)
    go_enter Yddm.func8, Yddm.ntmps8
    go_wp2_with fail
    refine (sub_any _ _ _ _ a1 a2 b2 c1 c2 d2 _).mono ?_
    rw [hB, hN, hD]
    rintro _ w1 ⟨rfl, g1⟩
    go_wp2_with fail
    refine (bvalid_any _ _ a1 a2 b2 _).mono ?_
    rintro _ wx ⟨rfl, hw⟩
    subst wx
    go_wp2_with fail
    go_ret
    exact ⟨rfl, (g1.alloc _ _).grown⟩
end Go.Proofs.Ymbrdd
