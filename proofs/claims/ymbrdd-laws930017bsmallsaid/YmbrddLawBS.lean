/-
  THE WALK of the law BSmall (Sub, 32-bit parts).
-/
import Derived.Test.YmbrddWalkBB
namespace Go.Proofs.Ymbrdd
open Go.RowKit

theorem tdiv_mag (n d : Int) : n.tdiv (gz (magZ n) d) = redN n d := by rw [gz_mag_left]; exact tdiv_red n d
theorem tdiv_mag' (n d : Int) : d.tdiv (gz (magZ n) d) = redD n d := by rw [gz_mag_left]; exact tdiv_red' n d
theorem mul_box {x y : Int} (x1 : -2147483648 ≤ x) (x2 : x ≤ 2147483647) (y1 : 0 ≤ y) (y2 : y ≤ 2147483648) : -4611686018427387904 ≤ x * y ∧ x * y ≤ 4611686016279904256 := by
  have h1 := Int.mul_le_mul_of_nonneg_right x1 y1
  have h2 := Int.mul_le_mul_of_nonneg_right x2 y1
  omega

/-- |b|, 1 where b is 0: the law's own way. -/
def absD (b : Int) : Int := if b < 0 then -b else if b = 0 then 1 else b

set_option maxHeartbeats 4000000 in
theorem sub_small (a b c d : Int) (a1 : -2147483648 ≤ a) (a2 : a ≤ 2147483647) (b1 : 1 ≤ b) (b2 : b ≤ 2147483648) (c1 : -2147483648 ≤ c) (c2 : c ≤ 2147483647) (d1 : 1 ≤ d) (d2 : d ≤ 2147483648) :
    sumB (redN a b) (redD a b) (-redN c d) (redD c d) = true ∧ sumN (redN a b) (redD a b) (-redN c d) (redD c d) = redN (a * d - c * b) (b * d) ∧ sumD (redN a b) (redD a b) (-redN c d) (redD c d) = redD (a * d - c * b) (b * d) ∧
    fitB (redN (a * d - c * b) (b * d)) (redD (a * d - c * b) (b * d)) = true := by
  obtain ⟨p1, p2, p3, p4, p5⟩ := red_i64 (n := a) (d := b) (by omega) (by omega) b1
  obtain ⟨q1, q2, q3, q4, q5⟩ := red_i64 (n := c) (d := d) (by omega) (by omega) d1
  obtain ⟨s1, s2⟩ := red_sg true c d (by omega)
  rw [sg_true, sg_true] at s1
  rw [sg_true] at s2
  obtain ⟨k1, k2⟩ := sum_red_red (p := a) (q := b) (s := -c) (t := d) (by omega) (by omega)
  rw [s1, s2] at k1 k2
  have eN : a * d + -c * b = a * d - c * b := by rw [Int.neg_mul]; omega
  rw [eN] at k1 k2
  obtain ⟨vB, vN, vD⟩ := sum_val p5 ((validB_neg _ _).trans q5)
  rw [k1, k2] at vB vN vD
  have m1 := mul_box a1 a2 (show 0 ≤ d by omega) d2
  have m2 := mul_box c1 c2 (show 0 ≤ b by omega) b2
  have m3 := mul_bound (x := b) (y := d) (A := 2147483648) (B := 2147483648) (by omega) (by omega)
  have m4 : 0 < b * d := Int.mul_pos (by omega) (by omega)
  have hf := fit_small (N := a * d - c * b) (D := b * d) m4 (by omega) (by omega) (by omega)
  rw [hf] at vB
  rw [ratN_yes hf] at vN
  rw [ratD_yes hf] at vD
  exact ⟨vB, vN, vD, hf⟩

set_option maxHeartbeats 4000000 in
theorem law_BSmall (a b c d : Int) (ba : -2147483648 ≤ a ∧ a ≤ 2147483647) (bb : -2147483648 ≤ b ∧ b ≤ 2147483647)
    (bc : -2147483648 ≤ c ∧ c ≤ 2147483647) (bd : -2147483648 ≤ d ∧ d ≤ 2147483647) (w : World) :
    Calls Yddm.prog 6 #[.int .i32 a, .int .i32 b, .int .i32 c, .int .i32 d] w fun e w' => e = .returned (.bool true) ∧ Grown w w' := by
  obtain ⟨a1, a2⟩ := ba
  obtain ⟨b1, b2⟩ := bb
  obtain ⟨c1, c2⟩ := bc
  obtain ⟨d1, d2⟩ := bd
  have hB : ∃ B : Int, 1 ≤ B ∧ B ≤ 2147483648 ∧ ((b < 0 ∧ -b = B) ∨ (b = 0 ∧ B = 1) ∨ (0 < b ∧ b = B)) := by
    rcases Int.lt_trichotomy b 0 with h | h | h
    · exact ⟨-b, by omega, by omega, by omega⟩
    · exact ⟨1, by omega, by omega, by omega⟩
    · exact ⟨b, by omega, by omega, by omega⟩
  have hD : ∃ D : Int, 1 ≤ D ∧ D ≤ 2147483648 ∧ ((d < 0 ∧ -d = D) ∨ (d = 0 ∧ D = 1) ∨ (0 < d ∧ d = D)) := by
    rcases Int.lt_trichotomy d 0 with h | h | h
    · exact ⟨-d, by omega, by omega, by omega⟩
    · exact ⟨1, by omega, by omega, by omega⟩
    · exact ⟨d, by omega, by omega, by omega⟩
  obtain ⟨B, B1, B2, hB⟩ := hB
  obtain ⟨D, D1, D2, hD⟩ := hD
  obtain ⟨p1, p2, p3, p4, p5⟩ := red_i64 (n := a) (d := B) (by omega) (by omega) B1
  obtain ⟨q1, q2, q3, q4, q5⟩ := red_i64 (n := c) (d := D) (by omega) (by omega) D1
  obtain ⟨vB, vN, vD, hf⟩ := sub_small a B c D a1 a2 B1 B2 c1 c2 D1 D2
  have nB := denB_pos B1
  have nD := denB_pos D1
  have t1 := tdiv_mag (a * D - c * B) (B * D)
  have t2 := tdiv_mag' (a * D - c * B) (B * D)
  obtain ⟨m1a, m1b⟩ := mul_box a1 a2 (show 0 ≤ D by omega) D2
  obtain ⟨m2a, m2b⟩ := mul_box c1 c2 (show 0 ≤ B by omega) B2
  have m3 := mul_bound (x := B) (y := D) (A := 2147483648) (B := 2147483648) (by omega) (by omega)
  have m4 : 0 < B * D := Int.mul_pos (by omega) (by omega)
  have m5 : B * D ≤ 4611686018427387904 := by omega
  clear m3
  have hg : 0 < gz (magZ (a * D - c * B)) (B * D) := gz_pos_right (by omega)
  have hgl := gz_le_right (a := magZ (a * D - c * B)) (b := B * D) m4
  obtain ⟨f1, f2, f3⟩ := fitB_iff.mp hf
  have r4 := redD_pos (N := a * D - c * B) m4
  have hmag0 := magZ_nonneg (a * D - c * B)
  have hmag1 := magZ_le (n := a * D - c * B) (by omega) (by omega)
  clear hf
  generalize redN (a * D - c * B) (B * D) = RN at *
  generalize redD (a * D - c * B) (B * D) = RD at *
  have N1 : -9223372036854775808 ≤ a * D - c * B := by omega
  have N2 : a * D - c * B ≤ 9223372036854775807 := by omega
  generalize hgv : gz (magZ (a * D - c * B)) (B * D) = g at *
  generalize hMv : magZ (a * D - c * B) = M at *
  generalize hNv : a * D - c * B = N at *
  generalize hEv : B * D = E at *
  have u1 := IntWalk.wrap64_in RN ⟨by omega, by omega⟩
  have u2 := IntWalk.wrap64_in RD ⟨by omega, by omega⟩
  have hg0 : ¬ g = 0 := by omega
  rcases hB with ⟨hb1, hb2⟩ | ⟨rfl, rfl⟩ | ⟨hb1, rfl⟩ <;> rcases hD with ⟨hd1, hd2⟩ | ⟨rfl, rfl⟩ | ⟨hd1, rfl⟩
  all_goals try (rw [Int.mul_one] at hEv; subst hEv)
  all_goals try (rw [Int.one_mul] at hEv; subst hEv)
  all_goals try simp only [Int.mul_one] at hNv m1a m1b m2a m2b
  all_goals
    go_enter Yddm.func6, Yddm.ntmps6
    go_wp2_with fail
    refine (bnorm_any _ _ (by omega) (by omega) (by omega) (by omega) _).mono ?_
    rw [nB]
    rintro _ w1 ⟨rfl, g1⟩
    go_wp2_with fail
    refine (bnorm_any _ _ (by omega) (by omega) (by omega) (by omega) _).mono ?_
    rw [nD]
    rintro _ w2 ⟨rfl, g2⟩
    go_wp2_with fail
    refine (sub_any _ _ _ _ p1 p2 (by omega) q1 q2 (by omega) _).mono ?_
    rw [vB, vN, vD]
    rintro _ w3 ⟨rfl, g3⟩
    have G3 := (g1.trans g2).trans g3
    clear g1 g2 g3 vB vN vD p1 p2 p3 p4 p5 q1 q2 q3 q4 q5 nB nD
    go_wp2_with fail
    refine (xmag_any _ (by omega) (by omega) _).mono ?_
    rintro _ wx ⟨rfl, hw⟩
    subst wx
    rw [hMv]
    go_wp2_with fail
    refine (xgcd_any _ _ (by omega) (by omega) (by omega) (by omega) _).mono ?_
    rintro _ wx ⟨rfl, hw⟩
    subst wx
    rw [hgv]
    go_wp2_with fail
    go_quiet (fail)
    go_wp2_with fail
    go_ret
    exact ⟨rfl, ((G3.alloc _ _).drewN _).grown⟩
end Go.Proofs.Ymbrdd
