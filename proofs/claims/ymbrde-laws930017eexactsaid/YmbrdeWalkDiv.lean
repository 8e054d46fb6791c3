/-
  THE WALKS (seat e): Div, emag, eden, erat.
-/
import Derived.Test.YmbrdeWalkMul
import Derived.Test.YmbrdeWalkE
namespace Go.Proofs.Ymbrde
open Go.RowKit

set_option maxHeartbeats 2000000 in
theorem div_any (a b c d : Int) (a1 : -9223372036854775808 ≤ a) (a2 : a ≤ 9223372036854775807) (b2 : b ≤ 9223372036854775807)
    (c1 : -9223372036854775808 ≤ c) (c2 : c ≤ 9223372036854775807) (d2 : d ≤ 9223372036854775807) (hv1 : validB a b = true) (hv2 : validB c d = true) (hc : c ≠ 0) (w : World) :
    Calls Ydem.prog 19 #[.agg #[.int .i64 a, .int .i64 b], .agg #[.int .i64 c, .int .i64 d]] w fun e w' =>
      e = .returned (.tuple #[.agg #[.int .i64 (ratN (redN (mkN (a * d) c) (b * magZ c)) (redD (mkN (a * d) c) (b * magZ c))), .int .i64 (ratD (redN (mkN (a * d) c) (b * magZ c)) (redD (mkN (a * d) c) (b * magZ c)))], .bool (fitB (redN (mkN (a * d) c) (b * magZ c)) (redD (mkN (a * d) c) (b * magZ c)))]) ∧ Gr w w' := by
  obtain ⟨r1, r2⟩ := div_red hv1 hv2 hc
  rw [← r1, ← r2]
  clear r1 r2
  have b1 := (validB_iff.mp hv1).1
  have d1 := (validB_iff.mp hv2).1
  have m1 := magZ_nonneg a
  have m2 := magZ_le a1 a2
  have m3 : 1 ≤ magZ c := by have := magZ_natAbs c; omega
  have m4 := magZ_le c1 c2
  have hc' : (c == 0) = false := by simpa using hc
  go_enter Ydem.func19, Ydem.ntmps19
  go_wp2_with fail
  refine (valid_any _ _ a1 a2 b2 _).mono ?_
  rintro e w1 ⟨rfl, g1⟩
  obtain ⟨hc1, hf1, hz1⟩ := gcell g1
  have s1 : w.heap.size < w1.heap.size := by simp at hz1; omega
  have s2 : w.heap.size + 1 < w1.heap.size := by simp at hz1; omega
  have s3 : w.heap.size + 1 + 1 < w1.heap.size := by simp at hz1; omega
  clear hz1
  go_wp2_with fail
  refine (valid_any _ _ c1 c2 d2 _).mono ?_
  rintro e w2 ⟨rfl, g2⟩
  obtain ⟨hc2, hf2, hz2⟩ := gcell g2
  have t1 : w.heap.size < w2.heap.size := by omega
  have t2 : w.heap.size + 1 < w2.heap.size := by omega
  have t3 : w.heap.size + 1 + 1 < w2.heap.size := by omega
  clear hz2
  go_wp2_with fail
  refine (magnitude_any _ a1 a2 _).mono ?_
  rintro e wx ⟨rfl, hw⟩
  subst wx
  go_wp2_with fail
  refine (magnitude_any _ c1 c2 _).mono ?_
  rintro e wx ⟨rfl, hw⟩
  subst wx
  go_wp2_with fail
  refine (product_any _ _ _ _ _ m1 (by omega) (by omega) (by omega) (by omega) (by omega) (by omega) (by omega) _).mono ?_
  rintro e w3 ⟨rfl, g3⟩
  obtain ⟨hc3, hf3, hz3⟩ := gcell g3
  clear hz3
  go_wp2_with fail
  refine bodyPost_ret (v := .tuple #[.agg #[.int .i64 (ratN (sg (!(decide (a < 0) == decide (c < 0))) (crossP (magZ a) b d (magZ c))) (crossQ (magZ a) b d (magZ c))), .int .i64 (ratD (sg (!(decide (a < 0) == decide (c < 0))) (crossP (magZ a) b d (magZ c))) (crossQ (magZ a) b d (magZ c)))], .bool (fitB (sg (!(decide (a < 0) == decide (c < 0))) (crossP (magZ a) b d (magZ c))) (crossQ (magZ a) b d (magZ c)))]) ?_ rfl ⟨rfl, ?_⟩
  · simp [results, Ydem.results19, go_sem, hc1, hc2, hc3, s3, t3]
  · exact (((((((Gr.refl _).alloc _ _).alloc _ _).alloc _ _).trans g1).trans g2).trans g3).setCell (by simp; omega) _ |>.setCell (by simp; omega) _

theorem wrap_negu (n : Int) (h0 : -9223372036854775808 ≤ n) (h : n < 0) : IntKind.u64.wrap n = n + 18446744073709551616 := by
  rw [IntKind.wrap_u64]; omega
theorem wrap_neguu (n : Int) (h0 : -9223372036854775808 ≤ n) (h : n < 0) : IntKind.u64.wrap (-(n + 18446744073709551616)) = -n := by
  rw [IntKind.wrap_u64]; omega

theorem xmag_any (n : Int) (h0 : -9223372036854775808 ≤ n) (h1 : n ≤ 9223372036854775807) (w : World) :
    Calls Ydem.prog 35 #[.int .i64 n] w fun e w' => e = .returned (.int .u64 (magZ n)) ∧ w' = w := by
  by_cases h : n < 0
  · have hm := magZ_neg h
    have u1 := wrap_negu n h0 h
    have u2 := wrap_neguu n h0 h
    go_enter Ydem.func35, Ydem.ntmps35
    go_wp2
    go_ret
    exact ⟨ret_int (by omega), rfl⟩
  · have hm := magZ_pos (n := n) (by omega)
    go_enter Ydem.func35, Ydem.ntmps35
    go_wp2
    go_ret
    exact ⟨ret_int (by omega), rfl⟩

theorem eden_any (d : Int) (d1 : -9223372036854775808 ≤ d) (d2 : d ≤ 9223372036854775807) (w : World) :
    Calls Ydem.prog 16 #[.int .i64 d] w fun e w' => e = .returned (.int .i64 (denH d)) ∧ w' = w := by
  by_cases h : d < 0
  · by_cases h1 : d = -1
    · subst h1
      go_enter Ydem.func16, Ydem.ntmps16
      go_wp2
      go_ret
      exact ⟨rfl, rfl⟩
    · have he : Hid (denH d = -(d + 1)) := by show _ = _; unfold denH; rw [if_pos h, if_neg h1]
      go_enter Ydem.func16, Ydem.ntmps16
      go_wp2
      go_ret
      exact ⟨ret_int (by rw [he.out]), rfl⟩
  · by_cases h1 : d = 0
    · subst h1
      go_enter Ydem.func16, Ydem.ntmps16
      go_wp2
      go_ret
      exact ⟨rfl, rfl⟩
    · have he : Hid (denH d = d) := by show _ = _; unfold denH; rw [if_neg h, if_neg h1]
      go_enter Ydem.func16, Ydem.ntmps16
      go_wp2
      go_ret
      exact ⟨ret_int (by rw [he.out]), rfl⟩

set_option maxHeartbeats 1000000 in
theorem erat_any (n d : Int) (n1 : -9223372036854775808 ≤ n) (n2 : n ≤ 9223372036854775807) (d1 : 1 ≤ d) (d2 : d ≤ 9223372036854775807) (w : World) :
    Calls Ydem.prog 15 #[.int .i64 n, .int .i64 d] w fun e w' => e = .returned (.agg #[.int .i64 (redN n d), .int .i64 (redD n d)]) ∧ Gr w w' := by
  obtain ⟨r1, r2, r3, r4, -⟩ := red_i64 n1 n2 d1
  have t1 := tdiv_red n d
  have t2 := tdiv_red' n d
  have u1 := IntWalk.wrap64_in (redN n d) ⟨by omega, by omega⟩
  have u2 := IntWalk.wrap64_in (redD n d) ⟨by omega, by omega⟩
  have hg0 : ¬ gz n d = 0 := by have := gz_pos_right (a := n) (b := d) (by omega); omega
  have hg1 := gz_le_right (a := n) (b := d) (by omega)
  have hg2 := gz_nonneg n d
  have hm := gz_mag_left n d
  have m1 := magZ_nonneg n
  have m2 := magZ_le n1 n2
  generalize redN n d = p at *
  generalize redD n d = q at *
  go_enter Ydem.func15, Ydem.ntmps15
  go_wp2_with fail
  refine (xmag_any _ n1 n2 _).mono ?_
  rintro e wx ⟨rfl, hw⟩
  subst wx
  go_wp2_with fail
  refine (xgcd_any _ _ m1 (by omega) (by omega) (by omega) _).mono ?_
  rintro e wx ⟨rfl, hw⟩
  subst wx
  rw [hm]
  go_wp2_with fail
  generalize gz n d = g at *
  go_region
  all_goals
    go_wp2_with fail
    refine bodyPost_ret (v := .agg #[.int .i64 p, .int .i64 q]) ?_ rfl ⟨rfl, ?_⟩
    · simp [results, Ydem.results15, go_sem]
    · exact ((Gr.refl _).alloc _ _).drew
end Go.Proofs.Ymbrde
