/-
  THE WALKS of the laws H (Cmp).
-/
import Derived.Test.YmbrdeWalkH2
namespace Go.Proofs.Ymbrde
open Go.RowKit

set_option maxHeartbeats 2000000 in
theorem law_HExact (a b c d : Int) (ba : -9223372036854775808 ≤ a ∧ a ≤ 9223372036854775807) (bb : -9223372036854775808 ≤ b ∧ b ≤ 9223372036854775807)
    (bc : -9223372036854775808 ≤ c ∧ c ≤ 9223372036854775807) (bd : -9223372036854775808 ≤ d ∧ d ≤ 9223372036854775807) (w : World) :
    Calls Ydem.prog 13 #[.int .i64 a, .int .i64 b, .int .i64 c, .int .i64 d] w fun e w' => e = .returned (.bool true) ∧ Grown w w' := by
  obtain ⟨a1, a2⟩ := ba
  obtain ⟨b1, b2⟩ := bb
  obtain ⟨c1, c2⟩ := bc
  obtain ⟨d1, d2⟩ := bd
  by_cases hb : b < 1
  · have hv := validB_low (n := a) (d := b) (by omega)
    go_enter Ydem.func13, Ydem.ntmps13
    go_wp2_with fail
    refine (cmp_no _ _ _ _ a1 a2 b2 c1 c2 d2 (Or.inl hv) _).mono ?_
    rintro e w1 ⟨rfl, g1⟩
    go_wp2_with fail
    go_ret
    exact ⟨rfl, g1.grown⟩
  · by_cases hd : d < 1
    · have hv := validB_low (n := c) (d := d) (by omega)
      go_enter Ydem.func13, Ydem.ntmps13
      go_wp2_with fail
      refine (cmp_no _ _ _ _ a1 a2 b2 c1 c2 d2 (Or.inr hv) _).mono ?_
      rintro e w1 ⟨rfl, g1⟩
      go_wp2_with fail
      go_ret
      exact ⟨rfl, g1.grown⟩
    · by_cases h1 : gz a b = 1
      · have hv1 := validB_mk (n := a) (d := b) (by omega) h1
        by_cases h2 : gz c d = 1
        · have hv2 := validB_mk (n := c) (d := d) (by omega) h2
          go_enter Ydem.func13, Ydem.ntmps13
          go_wp2_with fail
          refine (cmp_yes _ _ _ _ a1 a2 b2 c1 c2 d2 hv1 hv2 _).mono ?_
          rintro e w1 ⟨rfl, g1⟩
          go_wp2_with fail
          refine (hgcd_any _ _ (by omega) b2 _).mono ?_
          rintro e w2 ⟨rfl, g2⟩
          go_wp2_with fail
          refine (hgcd_any _ _ (by omega) d2 _).mono ?_
          rintro e w3 ⟨rfl, g3⟩
          go_wp2_with fail
          refine (hcf_any _ _ _ _ a1 a2 (by omega) b2 c1 c2 (by omega) d2 _).mono ?_
          rintro e w4 ⟨rfl, g4⟩
          go_wp2_with fail
          go_ret
          exact ⟨rfl, (((g1.trans g2).trans g3).trans g4).grown⟩
        · have hv2 := validB_no (n := c) (d := d) h2
          have h2' : (gz c d != 1) = true := by simpa using h2
          go_enter Ydem.func13, Ydem.ntmps13
          go_wp2_with fail
          refine (cmp_no _ _ _ _ a1 a2 b2 c1 c2 d2 (Or.inr hv2) _).mono ?_
          rintro e w1 ⟨rfl, g1⟩
          go_wp2_with fail
          refine (hgcd_any _ _ (by omega) b2 _).mono ?_
          rintro e w2 ⟨rfl, g2⟩
          go_wp2_with fail
          refine (hgcd_any _ _ (by omega) d2 _).mono ?_
          rintro e w3 ⟨rfl, g3⟩
          go_wp2_with fail
          go_ret
          exact ⟨rfl, ((g1.trans g2).trans g3).grown⟩
      · have hv1 := validB_no (n := a) (d := b) h1
        have h1' : (gz a b != 1) = true := by simpa using h1
        go_enter Ydem.func13, Ydem.ntmps13
        go_wp2_with fail
        refine (cmp_no _ _ _ _ a1 a2 b2 c1 c2 d2 (Or.inl hv1) _).mono ?_
        rintro e w1 ⟨rfl, g1⟩
        go_wp2_with fail
        refine (hgcd_any _ _ (by omega) b2 _).mono ?_
        rintro e w2 ⟨rfl, g2⟩
        go_wp2_with fail
        go_ret
        exact ⟨rfl, (g1.trans g2).grown⟩

theorem cmpZ_scale {x y k : Int} (hk : 0 < k) : cmpZ (x * k) (y * k) = cmpZ x y := by
  rcases Int.lt_trichotomy x y with h | h | h
  · rw [cmpZ_lt h, cmpZ_lt (Int.mul_lt_mul_of_pos_right h hk)]
  · rw [h, cmpZ_eq rfl, cmpZ_eq rfl]
  · rw [cmpZ_gt h, cmpZ_gt (Int.mul_lt_mul_of_pos_right h hk)]
theorem cmp_red {a b c d : Int} (hb : 0 < b) (hd : 0 < d) : cmpZ (redN a b * redD c d) (redN c d * redD a b) = cmpZ (a * d) (c * b) := by
  have e1 := redN_mul a b
  have e2 := redD_mul a b
  have e3 := redN_mul c d
  have e4 := redD_mul c d
  have g1 : 0 < gz a b := gz_pos_right (by omega)
  have g2 : 0 < gz c d := gz_pos_right (by omega)
  rw [← cmpZ_scale (Int.mul_pos g1 g2)]
  have m : ∀ x y z t : Int, x * y * (z * t) = x * z * (y * t) := fun x y z t => by rw [Int.mul_assoc, Int.mul_left_comm y, ← Int.mul_assoc]
  rw [m, e1, e4, Int.mul_comm (gz a b), m, e3, e2]

theorem denH_small {d : Int} (d1 : -2147483648 ≤ d) (d2 : d ≤ 2147483647) : 1 ≤ denH d ∧ denH d ≤ 2147483647 := by
  unfold denH; split <;> split <;> omega

set_option maxHeartbeats 2000000 in
theorem law_HCross (a b c d : Int) (ba : -2147483648 ≤ a ∧ a ≤ 2147483647) (bb : -2147483648 ≤ b ∧ b ≤ 2147483647)
    (bc : -2147483648 ≤ c ∧ c ≤ 2147483647) (bd : -2147483648 ≤ d ∧ d ≤ 2147483647) (w : World) :
    Calls Ydem.prog 12 #[.int .i32 a, .int .i32 b, .int .i32 c, .int .i32 d] w fun e w' => e = .returned (.bool true) ∧ Grown w w' := by
  obtain ⟨a1, a2⟩ := ba
  obtain ⟨b1, b2⟩ := bb
  obtain ⟨c1, c2⟩ := bc
  obtain ⟨d1, d2⟩ := bd
  obtain ⟨x1, x2⟩ := denH_small b1 b2
  obtain ⟨y1, y2⟩ := denH_small d1 d2
  obtain ⟨p1, p2, p3, p4, p5⟩ := red_i64 (n := a) (d := denH b) (by omega) (by omega) x1
  obtain ⟨q1, q2, q3, q4, q5⟩ := red_i64 (n := c) (d := denH d) (by omega) (by omega) y1
  have hcr := cmp_red (a := a) (b := denH b) (c := c) (d := denH d) (by omega) (by omega)
  have m1 := mul_bound (x := a) (y := denH d) (A := 2147483648) (B := 2147483648) (by omega) (by omega)
  have m2 := mul_bound (x := c) (y := denH b) (A := 2147483648) (B := 2147483648) (by omega) (by omega)
  have m1a : -4611686018427387904 ≤ a * denH d := by omega
  have m1b : a * denH d ≤ 4611686018427387904 := by omega
  have m2a : -4611686018427387904 ≤ c * denH b := by omega
  have m2b : c * denH b ≤ 4611686018427387904 := by omega
  clear m1 m2
  have hcase : (a * denH d < c * denH b ∧ cmpZ (redN a (denH b) * redD c (denH d)) (redN c (denH d) * redD a (denH b)) = -1) ∨
      (¬ a * denH d < c * denH b ∧ ¬ c * denH b < a * denH d ∧ cmpZ (redN a (denH b) * redD c (denH d)) (redN c (denH d) * redD a (denH b)) = 0) ∨
      (¬ a * denH d < c * denH b ∧ c * denH b < a * denH d ∧ cmpZ (redN a (denH b) * redD c (denH d)) (redN c (denH d) * redD a (denH b)) = 1) := by
    rw [hcr]
    rcases Int.lt_trichotomy (a * denH d) (c * denH b) with h | h | h
    · exact Or.inl ⟨h, cmpZ_lt h⟩
    · exact Or.inr (Or.inl ⟨by omega, by omega, cmpZ_eq h⟩)
    · exact Or.inr (Or.inr ⟨by omega, by omega, cmpZ_gt h⟩)
  clear hcr
  generalize hyd : denH d = yd at *
  generalize hxd : denH b = xd at *
  generalize hX : a * yd = X at *
  generalize hY : c * xd = Y at *
  rcases hcase with ⟨h1, h3⟩ | ⟨h1, h2, h3⟩ | ⟨h1, h2, h3⟩
  all_goals
    go_enter Ydem.func12, Ydem.ntmps12
    go_wp2_with fail
    refine (hden_any _ (by omega) (by omega) _).mono ?_
    rintro e wx ⟨rfl, hw⟩
    subst wx
    go_wp2_with fail
    refine (hden_any _ (by omega) (by omega) _).mono ?_
    rintro e wx ⟨rfl, hw⟩
    subst wx
    go_wp2_with fail
    refine (hrat_any _ _ (by omega) (by omega) (by omega) (by omega) _).mono ?_
    rintro e w1 ⟨rfl, g1⟩
    go_wp2_with fail
    refine (hrat_any _ _ (by omega) (by omega) (by omega) (by omega) _).mono ?_
    rintro e w2 ⟨rfl, g2⟩
    go_wp2_with fail
    refine (cmp_yes _ _ _ _ p1 p2 (by omega) q1 q2 (by omega) p5 q5 _).mono ?_
    rintro e w3 ⟨rfl, g3⟩
    go_wp2_with fail
    go_ret
    exact ⟨rfl, ((g1.trans g2).trans g3).grown⟩
end Go.Proofs.Ymbrde
