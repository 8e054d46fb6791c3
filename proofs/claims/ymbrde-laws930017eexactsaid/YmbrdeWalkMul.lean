/-
  THE WALKS (seat e): Mul, Div.
-/
import Derived.Test.YmbrdeWalkP
namespace Go.Proofs.Ymbrde
open Go.RowKit

set_option maxHeartbeats 2000000 in
theorem mul_any (a b c d : Int) (a1 : -9223372036854775808 ≤ a) (a2 : a ≤ 9223372036854775807) (b2 : b ≤ 9223372036854775807)
    (c1 : -9223372036854775808 ≤ c) (c2 : c ≤ 9223372036854775807) (d2 : d ≤ 9223372036854775807) (w : World) :
    Calls Ydem.prog 17 #[.agg #[.int .i64 a, .int .i64 b], .agg #[.int .i64 c, .int .i64 d]] w fun e w' =>
      e = .returned (.tuple #[.agg #[.int .i64 (mulN a b c d), .int .i64 (mulD a b c d)], .bool (mulB a b c d)]) ∧ Gr w w' := by
  by_cases hv1 : validB a b = true
  · by_cases hv2 : validB c d = true
    · obtain ⟨hB, hN, hD⟩ := mul_val hv1 hv2
      obtain ⟨r1, r2⟩ := mul_red hv1 hv2
      rw [hB, hN, hD, ← r1, ← r2]
      clear hB hN hD r1 r2
      have b1 := (validB_iff.mp hv1).1
      have d1 := (validB_iff.mp hv2).1
      have m1 := magZ_nonneg a
      have m2 := magZ_le a1 a2
      have m3 := magZ_nonneg c
      have m4 := magZ_le c1 c2
      go_enter Ydem.func17, Ydem.ntmps17
      go_wp2_with fail
      refine (valid_any _ _ a1 a2 b2 _).mono ?_
      rintro e w1 ⟨rfl, g1⟩
      obtain ⟨hc1, hf1, hz1⟩ := gcell g1
      have s1 : w.heap.size < w1.heap.size := by simp at hz1; omega
      have s2 : w.heap.size + 1 < w1.heap.size := by simp at hz1; omega
      have s3 : w.heap.size + 1 + 1 < w1.heap.size := by simp at hz1; omega
      clear hz1
      go_wp2_with fail
      refine (valid_any _ _ c1 c2 d2 _).mono ?_
      rintro e w2 ⟨rfl, g2⟩
      obtain ⟨hc2, hf2, hz2⟩ := gcell g2
      have t1 : w.heap.size < w2.heap.size := by omega
      have t2 : w.heap.size + 1 < w2.heap.size := by omega
      have t3 : w.heap.size + 1 + 1 < w2.heap.size := by omega
      clear hz2
      go_wp2_with fail
      refine (magnitude_any _ a1 a2 _).mono ?_
      rintro e wx ⟨rfl, hw⟩
      subst wx
      go_wp2_with fail
      refine (magnitude_any _ c1 c2 _).mono ?_
      rintro e wx ⟨rfl, hw⟩
      subst wx
      go_wp2_with fail
      refine (product_any _ _ _ _ _ m1 (by omega) (by omega) (by omega) m3 (by omega) (by omega) (by omega) _).mono ?_
      rintro e w3 ⟨rfl, g3⟩
      obtain ⟨hc3, hf3, hz3⟩ := gcell g3
      clear hz3
      go_wp2_with fail
      refine bodyPost_ret (v := .tuple #[.agg #[.int .i64 (ratN (sg (!(decide (a < 0) == decide (c < 0))) (crossP (magZ a) b (magZ c) d)) (crossQ (magZ a) b (magZ c) d)), .int .i64 (ratD (sg (!(decide (a < 0) == decide (c < 0))) (crossP (magZ a) b (magZ c) d)) (crossQ (magZ a) b (magZ c) d))], .bool (fitB (sg (!(decide (a < 0) == decide (c < 0))) (crossP (magZ a) b (magZ c) d)) (crossQ (magZ a) b (magZ c) d))]) ?_ rfl ⟨rfl, ?_⟩
      · simp [results, Ydem.results17, go_sem, hc1, hc2, hc3, s3, t3]
      · exact (((((((Gr.refl _).alloc _ _).alloc _ _).alloc _ _).trans g1).trans g2).trans g3).setCell (by simp; omega) _ |>.setCell (by simp; omega) _
    · have hv2 : validB c d = false := by simpa using hv2
      obtain ⟨hB, hN, hD⟩ := mul_inv (a := a) (b := b) (Or.inr hv2)
      rw [hB, hN, hD]
      go_enter Ydem.func17, Ydem.ntmps17
      go_wp2_with fail
      refine (valid_any _ _ a1 a2 b2 _).mono ?_
      rintro e w1 ⟨rfl, g1⟩
      obtain ⟨hc1, hf1, hz1⟩ := gcell g1
      have s2 : w.heap.size + 1 < w1.heap.size := by simp at hz1; omega
      have s3 : w.heap.size + 1 + 1 < w1.heap.size := by simp at hz1; omega
      clear hz1
      go_wp2_with fail
      refine (valid_any _ _ c1 c2 d2 _).mono ?_
      rintro e w2 ⟨rfl, g2⟩
      obtain ⟨hc2, hf2, hz2⟩ := gcell g2
      clear hz2
      go_wp2_with fail
      refine bodyPost_ret (v := .tuple #[.agg #[.int .i64 0, .int .i64 0], .bool false]) ?_ rfl ⟨rfl, ?_⟩
      · simp [results, Ydem.results17, go_sem, hc1, hc2, s3]
      · exact ((((((Gr.refl _).alloc _ _).alloc _ _).alloc _ _).trans g1).trans g2).setCell (by simp; omega) _ |>.setCell (by simp; omega) _
  · have hv1 : validB a b = false := by simpa using hv1
    obtain ⟨hB, hN, hD⟩ := mul_inv (c := c) (d := d) (Or.inl hv1)
    rw [hB, hN, hD]
    go_enter Ydem.func17, Ydem.ntmps17
    go_wp2_with fail
    refine (valid_any _ _ a1 a2 b2 _).mono ?_
    rintro e w1 ⟨rfl, g1⟩
    obtain ⟨hc1, hf1, hz1⟩ := gcell g1
    clear hz1
    go_wp2_with fail
    refine bodyPost_ret (v := .tuple #[.agg #[.int .i64 0, .int .i64 0], .bool false]) ?_ rfl ⟨rfl, ?_⟩
    · simp [results, Ydem.results17, go_sem, hc1]
    · exact (((((Gr.refl _).alloc _ _).alloc _ _).alloc _ _).trans g1).setCell (by simp; omega) _ |>.setCell (by simp; omega) _
end Go.Proofs.Ymbrde
