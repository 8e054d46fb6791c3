/-
  THE WALKS, 3 (seat e): Make.
-/
import Derived.Test.YmbrdeWalkB
import Derived.Deep.RegionWith
namespace Go.Proofs.Ymbrde
open Go.RowKit

set_option maxHeartbeats 200000 in
theorem make_zero (n : Int) (w : World) :
    Calls Ydem.prog 26 #[.int .i64 n, .int .i64 0] w fun e w' => e = .returned (.tuple #[.agg #[.int .i64 0, .int .i64 0], .bool false]) ∧ Gr w w' := by
  go_enter Ydem.func26, Ydem.ntmps26
  go_wp2_with fail
  refine bodyPost_ret (v := .tuple #[.agg #[.int .i64 0, .int .i64 0], .bool false]) ?_ rfl ⟨rfl, ?_⟩
  · simp [results, Ydem.results26, go_sem]
  · exact (Gr.refl _).alloc _ _

set_option maxHeartbeats 200000 in
theorem make_any (n d : Int) (n1 : -9223372036854775808 ≤ n) (n2 : n ≤ 9223372036854775807) (d1 : -9223372036854775808 ≤ d) (d2 : d ≤ 9223372036854775807) (hd : d ≠ 0) (w : World) :
    Calls Ydem.prog 26 #[.int .i64 n, .int .i64 d] w fun e w' =>
      e = .returned (.tuple #[.agg #[.int .i64 (ratN (redN (mkN n d) (magZ d)) (redD (mkN n d) (magZ d))), .int .i64 (ratD (redN (mkN n d) (magZ d)) (redD (mkN n d) (magZ d)))], .bool (fitB (redN (mkN n d) (magZ d)) (redD (mkN n d) (magZ d)))]) ∧ Gr w w' := by
  have hnum := make_num (n := n) hd
  have hden := make_den n d
  have a1 := magZ_nonneg n
  have a2 := magZ_le n1 n2
  have b1 := magZ_nonneg d
  have b2 := magZ_le d1 d2
  have hp : 0 < gz (magZ n) (magZ d) := gz_pos_right (by have := magZ_natAbs d; omega)
  have q1 := ediv_nonneg' a1 hp
  have q2 := ediv_le_self' (g := gz (magZ n) (magZ d)) a1
  have q3 := ediv_nonneg' b1 hp
  have q4 := ediv_le_self' (g := gz (magZ n) (magZ d)) b1
  have t1 := tdiv_of_nonneg (gz (magZ n) (magZ d)) a1
  have t2 := tdiv_of_nonneg (gz (magZ n) (magZ d)) b1
  have u1 := wrapu_id q1 (by omega)
  have u2 := wrapu_id q3 (by omega)
  rw [← hnum, ← hden]
  clear hnum hden
  have hd' : (d == 0) = false := by simpa using hd
  generalize hgv : gz (magZ n) (magZ d) = g at *
  go_enter Ydem.func26, Ydem.ntmps26
  go_wp2_with (first | (go_at_call 37; refine (magnitude_any _ (by omega) (by omega) _).mono ?_; rintro e wx ⟨rfl, hw⟩; subst wx) | (go_at_call 43; refine (gcd_any _ _ (by omega) (by omega) (by omega) (by omega) _).mono ?_; rintro e wx ⟨rfl, k, hw⟩; subst wx))

  go_region_with (go_at_call 44; refine (pack_any _ _ _ q1 q3 (by omega) _).mono ?_; rintro e w2 ⟨rfl, g2⟩; obtain ⟨hc2, hf2, hz2⟩ := gcell g2)
  all_goals
    go_wp2_with fail
    refine bodyPost_ret (v := .tuple #[.agg #[.int .i64 (ratN (sg (!(decide (n < 0) == decide (d < 0))) (magZ n / g)) (magZ d / g)), .int .i64 (ratD (sg (!(decide (n < 0) == decide (d < 0))) (magZ n / g)) (magZ d / g))], .bool (fitB (sg (!(decide (n < 0) == decide (d < 0))) (magZ n / g)) (magZ d / g))]) ?_ rfl ⟨rfl, ?_⟩
    · simp [results, Ydem.results26, go_sem, hc2]
    · exact ((((Gr.refl _).alloc _ _).drewN _).trans g2).setCell (by simp) _ |>.setCell (by simp) _
end Go.Proofs.Ymbrde
