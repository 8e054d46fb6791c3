/-
  THE WALK of the law ESmall (Mul, 32-bit parts).
-/
import Derived.Test.YmbrdeWalkDiv
import Derived.Deep.RegionHeld3
namespace Go.Proofs.Ymbrde
open Go.RowKit

theorem red_red {p q s t : Int} (hq : 0 < q) (ht : 0 < t) :
    redN (redN p q * redN s t) (redD p q * redD s t) = redN (p * s) (q * t) ∧ redD (redN p q * redN s t) (redD p q * redD s t) = redD (p * s) (q * t) := by
  have e1 := redN_mul p q
  have e2 := redD_mul p q
  have e3 := redN_mul s t
  have e4 := redD_mul s t
  have g1 : 0 < gz p q := gz_pos_right (by omega)
  have g2 : 0 < gz s t := gz_pos_right (by omega)
  have h := red_scale (N := redN p q * redN s t) (D := redD p q * redD s t) (Int.mul_pos g1 g2)
  have m : ∀ x y z t : Int, x * y * (z * t) = x * z * (y * t) := fun x y z t => by rw [Int.mul_assoc, Int.mul_left_comm y, ← Int.mul_assoc]
  rw [m, e1, e3, m, e2, e4] at h
  exact ⟨h.1.symm, h.2.symm⟩
theorem denH_small' {d : Int} (d1 : -2147483648 ≤ d) (d2 : d ≤ 2147483647) : 1 ≤ denH d ∧ denH d ≤ 2147483647 := by
  unfold denH; split <;> split <;> omega

set_option maxHeartbeats 2000000 in
theorem law_ESmall (a b c d : Int) (ba : -2147483648 ≤ a ∧ a ≤ 2147483647) (bb : -2147483648 ≤ b ∧ b ≤ 2147483647)
    (bc : -2147483648 ≤ c ∧ c ≤ 2147483647) (bd : -2147483648 ≤ d ∧ d ≤ 2147483647) (w : World) :
    Calls Ydem.prog 4 #[.int .i32 a, .int .i32 b, .int .i32 c, .int .i32 d] w fun e w' => e = .returned (.bool true) ∧ Grown w w' := by
  obtain ⟨a1, a2⟩ := ba
  obtain ⟨b1, b2⟩ := bb
  obtain ⟨c1, c2⟩ := bc
  obtain ⟨d1, d2⟩ := bd
  obtain ⟨x1, x2⟩ := denH_small' b1 b2
  obtain ⟨y1, y2⟩ := denH_small' d1 d2
  obtain ⟨p1, p2, p3, p4, p5⟩ := red_i64 (n := a) (d := denH b) (by omega) (by omega) x1
  obtain ⟨q1, q2, q3, q4, q5⟩ := red_i64 (n := c) (d := denH d) (by omega) (by omega) y1
  obtain ⟨rr1, rr2⟩ := red_red (p := a) (q := denH b) (s := c) (t := denH d) (by omega) (by omega)
  obtain ⟨mB, mN, mD⟩ := mul_val p5 q5
  rw [rr1, rr2] at mB mN mD
  have m1 := mul_bound (x := a) (y := c) (A := 2147483648) (B := 2147483648) (by omega) (by omega)
  have m2 := mul_bound (x := denH b) (y := denH d) (A := 2147483648) (B := 2147483648) (by omega) (by omega)
  have m3 : 0 < denH b * denH d := Int.mul_pos (by omega) (by omega)
  have hf := fit_small (N := a * c) (D := denH b * denH d) m3 (by omega) (by omega) (by omega)
  rw [hf] at mB
  rw [ratN_yes hf] at mN
  rw [ratD_yes hf] at mD
  have u1 := wrapi_id (a := a * c) (by omega) (by omega)
  have u2 := wrapi_id (a := denH b * denH d) (by omega) (by omega)
  have k1 : -9223372036854775808 ≤ a * c := by omega
  have k2 : a * c ≤ 9223372036854775807 := by omega
  have k3 : denH b * denH d ≤ 9223372036854775807 := by omega
  clear m1 m2 rr1 rr2 hf
  go_enter Ydem.func4, Ydem.ntmps4
  go_wp2_with fail
  refine (eden_any _ (by omega) (by omega) _).mono ?_
  rintro e wx ⟨rfl, hw⟩
  subst wx
  go_wp2_with fail
  refine (eden_any _ (by omega) (by omega) _).mono ?_
  rintro e wx ⟨rfl, hw⟩
  subst wx
  go_wp2_with fail
  refine (erat_any _ _ (by omega) (by omega) (by omega) (by omega) _).mono ?_
  rintro e w1 ⟨rfl, g1⟩
  go_wp2_with fail
  refine (erat_any _ _ (by omega) (by omega) (by omega) (by omega) _).mono ?_
  rintro e w2 ⟨rfl, g2⟩
  go_wp2_with fail
  refine (mul_any _ _ _ _ p1 p2 (by omega) q1 q2 (by omega) _).mono ?_
  rintro e w3 ⟨rfl, g3⟩
  have G3 := (g1.trans g2).trans g3
  rw [mB, mN, mD]
  clear g1 g2 g3 mB mN mD p1 p2 p3 p4 p5 q1 q2 q3 q4 q5
  go_wp2_with fail
  have E := fun w => erat_any (a * c) (denH b * denH d) k1 k2 (by omega) k3 w
  generalize redN (a * c) (denH b * denH d) = A at *
  generalize redD (a * c) (denH b * denH d) = B at *
  generalize denH b = q at *
  generalize denH d = t at *
  have EH := E
  clear E k1 k2 k3 x1 x2 y1 y2 a1 a2 b1 b2 c1 c2 d1 d2 m3
  go_region_held3 (fun w' => w'.cell? ⟨w3.heap.size, 0, none⟩ = some (.int .i64 A) ∧ w'.cell? ⟨w3.heap.size, 1, none⟩ = some (.int .i64 B) ∧ w3.heap.size < w'.heap.size) (first | (simp [go_sem]; done) | exact ⟨by rw [hc4 _ _ (by simp)]; simp [go_sem], by rw [hc4 _ _ (by simp)]; simp [go_sem], by simp at hz4; omega⟩)
    (first | (go_at_call 15; refine (EH _).mono ?_; rintro e w4 ⟨rfl, g4⟩; obtain ⟨hc4, hf4, hz4⟩ := gcell g4))
  all_goals
    go_wp2_with fail
    go_ret
    exact ⟨rfl, (((G3.alloc _ _).drew).trans g4).grown⟩
end Go.Proofs.Ymbrde
