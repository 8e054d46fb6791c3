/-
  THE WALK of the law EBack (Mul, Div).
-/
import Derived.Test.YmbrdeWalkDiv
namespace Go.Proofs.Ymbrde
open Go.RowKit

theorem mul_swap (a b c d : Int) : mulB c d a b = mulB a b c d ∧ mulN c d a b = mulN a b c d ∧ mulD c d a b = mulD a b c d := by
  have hB : mulB c d a b = mulB a b c d := by unfold mulB; rw [Int.mul_comm c a, Int.mul_comm d b, Bool.and_comm (validB c d)]
  refine ⟨hB, ?_, ?_⟩
  · unfold mulN; rw [hB, Int.mul_comm c a, Int.mul_comm d b]
  · unfold mulD; rw [hB, Int.mul_comm c a, Int.mul_comm d b]
theorem mul_yes {a b c d : Int} (h : mulB a b c d = true) : mulN a b c d = redN (a * c) (b * d) ∧ mulD a b c d = redD (a * c) (b * d) := ⟨if_pos h, if_pos h⟩
theorem mul_none {a b c d : Int} (h : mulB a b c d = false) : mulN a b c d = 0 ∧ mulD a b c d = 0 := ⟨if_neg (by simp [h]), if_neg (by simp [h])⟩
theorem mul_zero {a b d : Int} (h1 : validB a b = true) (h2 : validB 0 d = true) : mulB a b 0 d = true ∧ mulN a b 0 d = 0 ∧ mulD a b 0 d = 1 := by
  have b1 := (validB_iff.mp h1).1
  have d1 := (validB_iff.mp h2).1
  have hp : 0 < b * d := Int.mul_pos (by omega) (by omega)
  have e1 : redN (a * 0) (b * d) = 0 := by unfold redN; rw [Int.mul_zero, Int.zero_ediv]
  have e2 : redD (a * 0) (b * d) = 1 := by unfold redD; rw [Int.mul_zero, gz_zero_left _ (by omega)]; exact Int.ediv_self (by omega)
  have hB : mulB a b 0 d = true := by unfold mulB; rw [h1, h2, e1, e2]; rfl
  obtain ⟨n, d'⟩ := mul_yes hB
  exact ⟨hB, by rw [n, e1], by rw [d', e2]⟩
/-- Dividing the product by the second factor gives the first back. -/
theorem back {a b c d : Int} (h1 : validB a b = true) (h2 : validB c d = true) (hc : c ≠ 0) (a1 : -9223372036854775808 ≤ a) (a2 : a ≤ 9223372036854775807) (b2 : b ≤ 9223372036854775807) :
    redN (mkN (redN (a * c) (b * d) * d) c) (redD (a * c) (b * d) * magZ c) = a ∧ redD (mkN (redN (a * c) (b * d) * d) c) (redD (a * c) (b * d) * magZ c) = b ∧ fitB a b = true := by
  obtain ⟨b1, g1⟩ := validB_iff.mp h1
  obtain ⟨d1, g2⟩ := validB_iff.mp h2
  have hp : 0 < b * d := Int.mul_pos (by omega) (by omega)
  have hQ := redD_pos (N := a * c) hp
  have hm : 0 < magZ c := by have := magZ_natAbs c; omega
  have hx := red_cross (a * c) (b * d)
  generalize redN (a * c) (b * d) = V at *
  generalize redD (a * c) (b * d) = Q at *
  have key : a * (Q * magZ c) = mkN (V * d) c * b := by
    have e : V * d * b = a * c * Q := by rw [← hx, Int.mul_assoc, Int.mul_comm d b]
    unfold mkN magZ
    split
    · rw [Int.neg_mul, e, Int.mul_neg, Int.mul_neg, Int.mul_comm Q c, Int.mul_assoc]
    · rw [e, Int.mul_comm Q c, Int.mul_assoc]
  have r := red_unique (N := mkN (V * d) c) (D := Q * magZ c) (p := a) (q := b) (Int.mul_pos hQ hm) (by omega) g1 key
  exact ⟨r.1, r.2, fitB_iff.mpr ⟨a1, a2, b2⟩⟩

set_option maxHeartbeats 2000000 in
theorem law_EBack (a b c d : Int) (ba : -9223372036854775808 ≤ a ∧ a ≤ 9223372036854775807) (bb : -9223372036854775808 ≤ b ∧ b ≤ 9223372036854775807)
    (bc : -9223372036854775808 ≤ c ∧ c ≤ 9223372036854775807) (bd : -9223372036854775808 ≤ d ∧ d ≤ 9223372036854775807) (w : World) :
    Calls Ydem.prog 5 #[.int .i64 a, .int .i64 b, .int .i64 c, .int .i64 d] w fun e w' => e = .returned (.bool true) ∧ Grown w w' := by
  obtain ⟨x1, x2⟩ := denH_bound bb.1 bb.2
  obtain ⟨y1, y2⟩ := denH_bound bd.1 bd.2
  obtain ⟨p1, p2, p3, p4, p5⟩ := red_i64 (n := a) (d := denH b) ba.1 ba.2 x1
  obtain ⟨q1, q2, q3, q4, q5⟩ := red_i64 (n := c) (d := denH d) bc.1 bc.2 y1
  have p6 : redD a (denH b) ≤ 9223372036854775807 := by omega
  have q6 : redD c (denH d) ≤ 9223372036854775807 := by omega
  clear p4 q4
  go_enter Ydem.func5, Ydem.ntmps5
  go_wp2_with fail
  refine (eden_any _ bb.1 bb.2 _).mono ?_
  rintro e wx ⟨rfl, hw⟩
  subst wx
  go_wp2_with fail
  refine (erat_any _ _ ba.1 ba.2 x1 x2 _).mono ?_
  rintro e w1 ⟨rfl, g1⟩
  go_wp2_with fail
  refine (eden_any _ bd.1 bd.2 _).mono ?_
  rintro e wx ⟨rfl, hw⟩
  subst wx
  go_wp2_with fail
  refine (erat_any _ _ bc.1 bc.2 y1 y2 _).mono ?_
  rintro e w2 ⟨rfl, g2⟩
  clear x1 x2 y1 y2
  generalize redN a (denH b) = xn at *
  generalize redD a (denH b) = xd at *
  generalize redN c (denH d) = yn at *
  generalize redD c (denH d) = yd at *
  clear ba bb bc bd
  obtain ⟨hc2, hf2, hz2⟩ := gcell g2
  have s12 : w1.heap.size < w2.heap.size := by simp at hz2; omega
  clear hz2
  go_wp2_with fail
  refine (mul_any _ _ _ _ p1 p2 p6 q1 q2 q6 _).mono ?_
  rintro e w3 ⟨rfl, g3⟩
  obtain ⟨hc3, hf3, hz3⟩ := gcell g3
  have s13 : w1.heap.size < w3.heap.size := by simp at hz3; omega
  have s23 : w2.heap.size < w3.heap.size := by simp at hz3; omega
  clear hz3
  go_wp2_with fail
  refine (mul_any _ _ _ _ q1 q2 q6 p1 p2 p6 _).mono ?_
  obtain ⟨sB, sN, sD⟩ := mul_swap xn xd yn yd
  rw [sB, sN, sD]
  rintro e w4 ⟨rfl, g4⟩
  clear sB sN sD
  obtain ⟨hc4, hf4, hz4⟩ := gcell g4
  have s14 : w1.heap.size < w4.heap.size := by simp at hz4; omega
  have s24 : w2.heap.size < w4.heap.size := by simp at hz4; omega
  have s34 : w3.heap.size < w4.heap.size := by simp at hz4; omega
  clear hz4
  have G4 : Gr w w4 := ((((((g1.alloc _ _).trans g2).alloc _ _).trans g3).alloc _ _).trans g4)
  clear g1 g2 g3 g4
  by_cases hy : yn = 0
  · subst hy
    obtain ⟨zB, zN, zD⟩ := mul_zero p5 q5
    go_wp2_with fail
    go_ret
    exact ⟨rfl, (G4.alloc _ _).grown⟩
  · have hy' : (yn == 0) = false := by simpa using hy
    by_cases hB : mulB xn xd yn yd = true
    · obtain ⟨zN, zD⟩ := mul_yes hB
      obtain ⟨k1, k2, k3⟩ := back p5 q5 hy p1 p2 p6
      have hfit : fitB (redN (xn * yn) (xd * yd)) (redD (xn * yn) (xd * yd)) = true := by rw [← (mul_val p5 q5).1]; exact hB
      obtain ⟨f1, f2, f3⟩ := fitB_iff.mp hfit
      have hvr : validB (redN (xn * yn) (xd * yd)) (redD (xn * yn) (xd * yd)) = true := by
        have hp : 0 < xd * yd := Int.mul_pos (by omega) (by omega)
        exact validB_mk (redD_pos hp) (red_coprime hp)
      have DV := fun w => div_any _ _ _ _ f1 f2 f3 q1 q2 q6 hvr q5 hy w
      rw [k1, k2, ratN_yes k3, ratD_yes k3, k3] at DV
      clear k1 k2 k3 hfit hvr
      generalize redN (xn * yn) (xd * yd) = V at *
      generalize redD (xn * yn) (xd * yd) = Q at *
      go_wp2_with fail
      refine (DV _).mono ?_
      rintro e w5 ⟨rfl, g5⟩
      obtain ⟨hc5, hf5, hz5⟩ := gcell g5
      have s15 : w1.heap.size < w5.heap.size := by simp at hz5; omega
      clear hz5
      go_wp2_with fail
      go_ret
      exact ⟨rfl, (((G4.alloc _ _).trans g5).alloc _ _).grown⟩
    · have hB : mulB xn xd yn yd = false := by simpa using hB
      obtain ⟨zN, zD⟩ := mul_none hB
      go_wp2_with fail
      go_ret
      exact ⟨rfl, (G4.alloc _ _).grown⟩
end Go.Proofs.Ymbrde
