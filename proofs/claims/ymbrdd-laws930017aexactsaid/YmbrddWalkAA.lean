/-
  THE WALKS (seat d): alow, arat.
-/
import Derived.Test.YmbrddWalkB
import Derived.Laws.Bits64b
namespace Go.Proofs.Ymbrdd
open Go.RowKit

theorem and_top (a : Int) (h0 : 0 ≤ a) (h1 : a ≤ 18446744073709551615) : bits .and .u64 a 9223372036854775807 = a % 9223372036854775808 := by
  obtain ⟨k, rfl⟩ := Int.eq_ofNat_of_zero_le h0
  have h := bits_and_u64_nat k 9223372036854775807 (by omega) (by omega)
  have e : k &&& 9223372036854775807 = k % 9223372036854775808 := Nat.and_two_pow_sub_one_eq_mod k 63
  rw [e] at h
  exact h
/-- A denominator from 1 to 2^63-1. -/
def denA (d : Int) : Int := den1 (d % 9223372036854775808)
theorem denA_bound (d : Int) : 1 ≤ denA d ∧ denA d ≤ 9223372036854775807 := by
  have h0 : 0 ≤ d % 9223372036854775808 := by omega
  have h1 : d % 9223372036854775808 ≤ 9223372036854775807 := by omega
  exact ⟨den1_pos h0, den1_le h1 (by decide)⟩
theorem denA_small {d : Int} (h : 1 ≤ d) (h1 : d ≤ 9223372036854775807) : denA d = d := by
  unfold denA
  rw [Int.emod_eq_of_lt (by omega) (by omega)]
  exact if_neg (by omega)

set_option maxHeartbeats 1000000 in
theorem alow_any (m d : Int) (m1 : 0 ≤ m) (m2 : m ≤ 18446744073709551615) (d1 : 0 ≤ d) (d2 : d ≤ 18446744073709551615) (w : World) :
    Calls Yddm.prog 16 #[.int .u64 m, .int .u64 d] w fun e w' => e = .returned (.tuple #[.int .u64 (redN m (denA d)), .int .u64 (redD m (denA d))]) ∧ Gr w w' := by
  have hand := and_top d d1 d2
  obtain ⟨x1, x2⟩ := denA_bound d
  have hg : 0 < gz m (denA d) := gz_pos_right (by omega)
  have hg0 : ¬ gz m (denA d) = 0 := by omega
  have q1 := ediv_nonneg' m1 hg
  have q2 := ediv_le_self' (g := gz m (denA d)) m1
  have q3 := ediv_nonneg' (show 0 ≤ denA d by omega) hg
  have q4 := ediv_le_self' (g := gz m (denA d)) (show 0 ≤ denA d by omega)
  have t1 := tdiv_of_nonneg (gz m (denA d)) m1
  have t2 := tdiv_of_nonneg (gz m (denA d)) (show 0 ≤ denA d by omega)
  have u1 := wrapu_id q1 (by omega)
  have u2 := wrapu_id q3 (by omega)
  unfold redN redD
  have hden : denA d = den1 (d % 9223372036854775808) := rfl
  generalize hx : denA d = x at *
  generalize d % 9223372036854775808 = dm at *
  by_cases hz : dm = 0
  · subst hz
    have hx1 : x = 1 := hden
    subst hx1
    clear hden
    generalize hgv : gz m 1 = g at *
    go_enter Yddm.func16, Yddm.ntmps16
    go_wp2_with fail
    refine (gcd_gr _ _ (by omega) (by omega) (by omega) (by omega) _).mono ?_
    rintro e w1 ⟨rfl, g1⟩
    go_wp2_with fail
    go_quiet (fail)
    go_wp2_with fail
    go_ret2
    exact ⟨rfl, g1.drewN _⟩
  · have hx1 : dm = x := by rw [hden]; exact (if_neg hz).symm
    subst hx1
    clear hden
    have hz' : (dm == 0) = false := by simpa using hz
    generalize hgv : gz m dm = g at *
    go_enter Yddm.func16, Yddm.ntmps16
    go_wp2_with fail
    refine (gcd_gr _ _ (by omega) (by omega) (by omega) (by omega) _).mono ?_
    rintro e w1 ⟨rfl, g1⟩
    go_wp2_with fail
    go_quiet (fail)
    go_wp2_with fail
    go_ret2
    exact ⟨rfl, g1.drewN _⟩

theorem wrap_min {m : Int} (h0 : 0 ≤ m) (h1 : m ≤ 9223372036854775808) : wrap64 (-wrap64 m) = -m := by
  unfold wrap64; omega

set_option maxHeartbeats 1000000 in
theorem arat_any (n d : Int) (n1 : -9223372036854775808 ≤ n) (n2 : n ≤ 9223372036854775807) (d1 : 0 ≤ d) (d2 : d ≤ 18446744073709551615) (w : World) :
    Calls Yddm.prog 15 #[.int .i64 n, .int .u64 d] w fun e w' => e = .returned (.agg #[.int .i64 (redN n (denA d)), .int .i64 (redD n (denA d))]) ∧ Gr w w' := by
  obtain ⟨x1, x2⟩ := denA_bound d
  have m1 := magZ_nonneg n
  have m2 := magZ_le n1 n2
  obtain ⟨r1, r2⟩ := red_mag (n := n) (d := denA d) (by omega)
  have hle := red_le (magZ n) (denA d) (by omega)
  have hp := redD_pos (N := magZ n) (D := denA d) (by omega)
  have hn0 : 0 ≤ redN (magZ n) (denA d) := ediv_nonneg' m1 (gz_pos_right (by omega))
  have hn1 : redN (magZ n) (denA d) ≤ magZ n := by omega
  rw [← r1, ← r2]
  clear r1 r2
  generalize hmn : redN (magZ n) (denA d) = m at *
  generalize hmd : redD (magZ n) (denA d) = q at *
  have hwm := wrap_min hn0 (by omega)
  rcases Int.lt_or_le n 0 with h | h
  · have hd : decide (n < 0) = true := by simpa using h
    go_enter Yddm.func15, Yddm.ntmps15
    go_wp2_with fail
    refine (magnitude_any _ n1 n2 _).mono ?_
    rintro e wx ⟨rfl, hw⟩
    subst wx
    go_wp2_with fail
    refine (alow_any _ _ m1 (by omega) d1 d2 _).mono ?_
    rw [hmn, hmd]
    rintro e w1 ⟨rfl, g1⟩
    obtain ⟨hc1, hf1, hz1⟩ := gcell g1
    go_wp2_with fail
    refine bodyPost_ret (v := .agg #[.int .i64 (-m), .int .i64 q]) ?_ rfl ⟨by first | rfl | rw [hd]; rfl, ?_⟩
    · simp [results, Yddm.results15, go_sem, hc1]
    · exact (((Gr.refl _).alloc _ _).trans g1).setCell (by simp) _ |>.setCell (by simp) _
  · have hd : decide (n < 0) = false := by simpa using h
    have hmag := magZ_pos h
    have hm3 : m ≤ 9223372036854775807 := by omega
    clear hmag
    go_enter Yddm.func15, Yddm.ntmps15
    go_wp2_with fail
    refine (magnitude_any _ n1 n2 _).mono ?_
    rintro e wx ⟨rfl, hw⟩
    subst wx
    go_wp2_with fail
    refine (alow_any _ _ m1 (by omega) d1 d2 _).mono ?_
    rw [hmn, hmd]
    rintro e w1 ⟨rfl, g1⟩
    obtain ⟨hc1, hf1, hz1⟩ := gcell g1
    go_wp2_with fail
    refine bodyPost_ret (v := .agg #[.int .i64 m, .int .i64 q]) ?_ rfl ⟨by first | rfl | rw [hd]; rfl, ?_⟩
    · simp [results, Yddm.results15, go_sem, hc1]
    · exact (((Gr.refl _).alloc _ _).trans g1).setCell (by simp) _ |>.setCell (by simp) _
end Go.Proofs.Ymbrdd
