/-
  THE WALKS: Sub.
-/
import Derived.Test.YmbrddWalkB
import Derived.Test.YmbrddWalkSum
namespace Go.Proofs.Ymbrdd
open Go.RowKit

set_option maxHeartbeats 600000 in
theorem sub_any (a b c d : Int) (a1 : -9223372036854775808 ≤ a) (a2 : a ≤ 9223372036854775807) (b2 : b ≤ 9223372036854775807)
    (c1 : -9223372036854775808 ≤ c) (c2 : c ≤ 9223372036854775807) (d2 : d ≤ 9223372036854775807) (w : World) :
    Calls Yddm.prog 22 #[.agg #[.int .i64 a, .int .i64 b], .agg #[.int .i64 c, .int .i64 d]] w fun e w' =>
      e = .returned (.tuple #[.agg #[.int .i64 (sumN a b (-c) d), .int .i64 (sumD a b (-c) d)], .bool (sumB a b (-c) d)]) ∧ Gr w w' := by
  by_cases hv1 : validB a b = true
  · by_cases hv2 : validB c d = true
    · have hv3 : validB (-c) d = true := (validB_neg c d).trans hv2
      obtain ⟨hB, hN, hD⟩ := sum_val hv1 hv3
      have hsg := sg_mag_not c
      have hB' : sumB a b (-c) d = fitB (redN (a * d + sg (!decide (c < 0)) (magZ c) * b) (b * d)) (redD (a * d + sg (!decide (c < 0)) (magZ c) * b) (b * d)) := by rw [hsg]; exact hB
      have hN' : sumN a b (-c) d = ratN (redN (a * d + sg (!decide (c < 0)) (magZ c) * b) (b * d)) (redD (a * d + sg (!decide (c < 0)) (magZ c) * b) (b * d)) := by rw [hsg]; exact hN
      have hD' : sumD a b (-c) d = ratD (redN (a * d + sg (!decide (c < 0)) (magZ c) * b) (b * d)) (redD (a * d + sg (!decide (c < 0)) (magZ c) * b) (b * d)) := by rw [hsg]; exact hD
      rw [hB', hN', hD']
      clear hB hN hD hsg hB' hN' hD'
      obtain ⟨b1, gb⟩ := validB_iff.mp hv1
      obtain ⟨d1, gd⟩ := validB_iff.mp hv2
      have m3 := magZ_nonneg c
      have m4 := magZ_le c1 c2
      have gd' : gz (magZ c) d = 1 := by rw [gz_mag_left]; exact gd
      go_enter Yddm.func22, Yddm.ntmps22
      go_wp2_with fail
      refine (valid_any _ _ a1 a2 b2 _).mono ?_
      rintro _ w1 ⟨rfl, g1⟩
      obtain ⟨hc1, hf1, hz1⟩ := gcell g1
      have s1 : w.heap.size < w1.heap.size := by simp at hz1; omega
      have s2 : w.heap.size + 1 < w1.heap.size := by simp at hz1; omega
      have s3 : w.heap.size + 1 + 1 < w1.heap.size := by simp at hz1; omega
      clear hz1
      go_wp2_with fail
      refine (valid_any _ _ c1 c2 d2 _).mono ?_
      rintro _ w2 ⟨rfl, g2⟩
      obtain ⟨hc2, hf2, hz2⟩ := gcell g2
      have t1 : w.heap.size < w2.heap.size := by omega
      have t2 : w.heap.size + 1 < w2.heap.size := by omega
      have t3 : w.heap.size + 1 + 1 < w2.heap.size := by omega
      clear hz2
      go_wp2_with fail
      refine (magnitude_any _ c1 c2 _).mono ?_
      rintro _ wx ⟨rfl, hw⟩
      subst wx
      go_wp2_with fail
      refine (sum_any a b _ (magZ c) d a1 a2 b1 b2 m3 m4 d1 d2 gb gd' _).mono ?_
      rintro _ w3 ⟨rfl, g3⟩
      obtain ⟨hc3, hf3, hz3⟩ := gcell g3
      clear hz3
      go_wp2_with fail
      refine bodyPost_ret (v := .tuple #[.agg #[.int .i64 (ratN (redN (a * d + sg (!decide (c < 0)) (magZ c) * b) (b * d)) (redD (a * d + sg (!decide (c < 0)) (magZ c) * b) (b * d))), .int .i64 (ratD (redN (a * d + sg (!decide (c < 0)) (magZ c) * b) (b * d)) (redD (a * d + sg (!decide (c < 0)) (magZ c) * b) (b * d)))], .bool (fitB (redN (a * d + sg (!decide (c < 0)) (magZ c) * b) (b * d)) (redD (a * d + sg (!decide (c < 0)) (magZ c) * b) (b * d)))]) ?_ rfl ⟨rfl, ?_⟩
      · simp [results, Yddm.results22, go_sem, hc1, hc2, hc3, s3, t3]
      · exact (((((((Gr.refl _).alloc _ _).alloc _ _).alloc _ _).trans g1).trans g2).trans g3).setCell (by simp; omega) _ |>.setCell (by simp; omega) _
    · have hv2 : validB c d = false := by simpa using hv2
      have hv3 : validB (-c) d = false := (validB_neg c d).trans hv2
      obtain ⟨hB, hN, hD⟩ := sum_inv (a := a) (b := b) (Or.inr hv3)
      rw [hB, hN, hD]
      go_enter Yddm.func22, Yddm.ntmps22
      go_wp2_with fail
      refine (valid_any _ _ a1 a2 b2 _).mono ?_
      rintro _ w1 ⟨rfl, g1⟩
      obtain ⟨hc1, hf1, hz1⟩ := gcell g1
      have s2 : w.heap.size + 1 < w1.heap.size := by simp at hz1; omega
      have s3 : w.heap.size + 1 + 1 < w1.heap.size := by simp at hz1; omega
      clear hz1
      go_wp2_with fail
      refine (valid_any _ _ c1 c2 d2 _).mono ?_
      rintro _ w2 ⟨rfl, g2⟩
      obtain ⟨hc2, hf2, hz2⟩ := gcell g2
      clear hz2
      go_wp2_with fail
      refine bodyPost_ret (v := .tuple #[.agg #[.int .i64 0, .int .i64 0], .bool false]) ?_ rfl ⟨rfl, ?_⟩
      · simp [results, Yddm.results22, go_sem, hc1, hc2, s3]
      · exact ((((((Gr.refl _).alloc _ _).alloc _ _).alloc _ _).trans g1).trans g2).setCell (by simp; omega) _ |>.setCell (by simp; omega) _
  · have hv1 : validB a b = false := by simpa using hv1
    obtain ⟨hB, hN, hD⟩ := sum_inv (c := (-c)) (d := d) (Or.inl hv1)
    rw [hB, hN, hD]
    go_enter Yddm.func22, Yddm.ntmps22
    go_wp2_with fail
    refine (valid_any _ _ a1 a2 b2 _).mono ?_
    rintro _ w1 ⟨rfl, g1⟩
    obtain ⟨hc1, hf1, hz1⟩ := gcell g1
    clear hz1
    go_wp2_with fail
    refine bodyPost_ret (v := .tuple #[.agg #[.int .i64 0, .int .i64 0], .bool false]) ?_ rfl ⟨rfl, ?_⟩
    · simp [results, Yddm.results22, go_sem, hc1]
    · exact (((((Gr.refl _).alloc _ _).alloc _ _).alloc _ _).trans g1).setCell (by simp; omega) _ |>.setCell (by simp; omega) _
end Go.Proofs.Ymbrdd
