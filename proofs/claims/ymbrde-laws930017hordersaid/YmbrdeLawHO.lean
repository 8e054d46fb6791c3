/-
  THE WALK of the law HOrder (Cmp is a total order).
-/
import Derived.Test.YmbrdeLawH
namespace Go.Proofs.Ymbrde
open Go.RowKit

/-! ### The plain law -/
theorem tri_lt {xn xd yn yd zn zd : Int} (hx : 0 < xd) (hy : 0 < yd) (hz : 0 < zd) (h : (xn * yd < yn * xd ∧ yn * zd ≤ zn * yd) ∨ (xn * yd ≤ yn * xd ∧ yn * zd < zn * yd)) : xn * zd < zn * xd := by
  have k : xn * zd * yd < zn * xd * yd := by
    have e1 : xn * zd * yd = xn * yd * zd := Int.mul_right_comm _ _ _
    have e2 : yn * xd * zd = yn * zd * xd := Int.mul_right_comm _ _ _
    have e3 : zn * xd * yd = zn * yd * xd := Int.mul_right_comm _ _ _
    rw [e1, e3]
    rcases h with ⟨h1, h2⟩ | ⟨h1, h2⟩
    · have a1 := Int.mul_lt_mul_of_pos_right h1 hz
      have a2 := Int.mul_le_mul_of_nonneg_right h2 (show 0 ≤ xd by omega)
      omega
    · have a1 := Int.mul_le_mul_of_nonneg_right h1 (show 0 ≤ zd by omega)
      have a2 := Int.mul_lt_mul_of_pos_right h2 hx
      omega
  exact Int.lt_of_mul_lt_mul_right k (by omega)

/-- What the four answers of Cmp can be. -/
theorem order_cases {xn xd yn yd zn zd : Int} (vx : validB xn xd = true) (vy : validB yn yd = true) (vz : validB zn zd = true) :
    ∃ A B : Int, cmpZ (xn * yd) (yn * xd) = A ∧ cmpZ (yn * xd) (xn * yd) = -A ∧ cmpZ (yn * zd) (zn * yd) = B ∧
    ((A = 0 ∧ xn = yn ∧ xd = yd ∧ ((B = -1 ∧ cmpZ (xn * zd) (zn * xd) = -1) ∨ (B = 0 ∧ cmpZ (xn * zd) (zn * xd) = 0) ∨ (B = 1 ∧ cmpZ (xn * zd) (zn * xd) = 1))) ∨
     (((xn == yn) = false ∨ (xn = yn ∧ (xd == yd) = false)) ∧ ((A = -1 ∧ (B = -1 ∨ B = 0) ∧ cmpZ (xn * zd) (zn * xd) = -1) ∨ (A = -1 ∧ B = 1) ∨ (A = 1 ∧ B = -1) ∨ (A = 1 ∧ (B = 0 ∨ B = 1) ∧ cmpZ (xn * zd) (zn * xd) = 1)))) := by
  obtain ⟨x1, x2⟩ := validB_iff.mp vx
  obtain ⟨y1, y2⟩ := validB_iff.mp vy
  obtain ⟨z1, z2⟩ := validB_iff.mp vz
  refine ⟨_, _, rfl, cmpZ_swap _ _, rfl, ?_⟩
  have hne : ¬ (xn * yd = yn * xd) → (xn == yn) = false ∨ (xn = yn ∧ (xd == yd) = false) := by
    intro h
    by_cases h1 : xn = yn
    · right; refine ⟨h1, beq_eq_false_iff_ne.mpr (fun h2 => h ?_)⟩; rw [h1, h2]
    · left; exact beq_eq_false_iff_ne.mpr h1
  rcases Int.lt_trichotomy (xn * yd) (yn * xd) with h | h | h
  · right
    refine ⟨hne (by omega), ?_⟩
    rw [cmpZ_lt h]
    rcases Int.lt_trichotomy (yn * zd) (zn * yd) with k | k | k
    · left; exact ⟨rfl, Or.inl (cmpZ_lt k), cmpZ_lt (tri_lt (xd := xd) (yd := yd) (zd := zd) (by omega) (by omega) (by omega) (Or.inl ⟨h, by omega⟩))⟩
    · left; exact ⟨rfl, Or.inr (cmpZ_eq k), cmpZ_lt (tri_lt (xd := xd) (yd := yd) (zd := zd) (by omega) (by omega) (by omega) (Or.inl ⟨h, by omega⟩))⟩
    · right; left; exact ⟨rfl, cmpZ_gt k⟩
  · left
    obtain ⟨e1, e2⟩ := coprime_unique (a := yn) (b := yd) (p := xn) (q := xd) (by omega) (by omega) y2 x2 h
    subst e1 e2
    refine ⟨cmpZ_eq h, rfl, rfl, ?_⟩
    rcases Int.lt_trichotomy (yn * zd) (zn * yd) with k | k | k
    · left; exact ⟨cmpZ_lt k, cmpZ_lt k⟩
    · right; left; exact ⟨cmpZ_eq k, cmpZ_eq k⟩
    · right; right; exact ⟨cmpZ_gt k, cmpZ_gt k⟩
  · right
    refine ⟨hne (by omega), ?_⟩
    rw [cmpZ_gt h]
    rcases Int.lt_trichotomy (yn * zd) (zn * yd) with k | k | k
    · right; right; left; exact ⟨rfl, cmpZ_lt k⟩
    · right; right; right
      refine ⟨rfl, Or.inl (cmpZ_eq k), cmpZ_gt ?_⟩
      exact tri_lt (xn := zn) (xd := zd) (yn := yn) (yd := yd) (zn := xn) (zd := xd) (by omega) (by omega) (by omega) (Or.inr ⟨by omega, by omega⟩)
    · right; right; right
      refine ⟨rfl, Or.inr (cmpZ_gt k), cmpZ_gt ?_⟩
      exact tri_lt (xn := zn) (xd := zd) (yn := yn) (yd := yd) (zn := xn) (zd := xd) (by omega) (by omega) (by omega) (Or.inr ⟨by omega, by omega⟩)

set_option maxHeartbeats 4000000 in
theorem law_HOrder (a b c d e f : Int) (ba : -9223372036854775808 ≤ a ∧ a ≤ 9223372036854775807) (bb : -9223372036854775808 ≤ b ∧ b ≤ 9223372036854775807)
    (bc : -9223372036854775808 ≤ c ∧ c ≤ 9223372036854775807) (bd : -9223372036854775808 ≤ d ∧ d ≤ 9223372036854775807)
    (be : -9223372036854775808 ≤ e ∧ e ≤ 9223372036854775807) (bf : -9223372036854775808 ≤ f ∧ f ≤ 9223372036854775807) (w : World) :
    Calls Ydem.prog 14 #[.int .i64 a, .int .i64 b, .int .i64 c, .int .i64 d, .int .i64 e, .int .i64 f] w fun e w' => e = .returned (.bool true) ∧ Grown w w' := by
  obtain ⟨x1, x2⟩ := denH_bound bb.1 bb.2
  obtain ⟨y1, y2⟩ := denH_bound bd.1 bd.2
  obtain ⟨z1, z2⟩ := denH_bound bf.1 bf.2
  obtain ⟨p1, p2, p3, p4, p5⟩ := red_i64 (n := a) (d := denH b) ba.1 ba.2 x1
  obtain ⟨q1, q2, q3, q4, q5⟩ := red_i64 (n := c) (d := denH d) bc.1 bc.2 y1
  obtain ⟨r1, r2, r3, r4, r5⟩ := red_i64 (n := e) (d := denH f) be.1 be.2 z1
  have p6 : redD a (denH b) ≤ 9223372036854775807 := by omega
  have q6 : redD c (denH d) ≤ 9223372036854775807 := by omega
  have r6 : redD e (denH f) ≤ 9223372036854775807 := by omega
  clear p4 q4 r4
  go_enter Ydem.func14, Ydem.ntmps14
  go_wp2_with fail
  refine (hden_any _ bb.1 bb.2 _).mono ?_
  rintro _ wx ⟨rfl, hw⟩
  subst wx
  go_wp2_with fail
  refine (hrat_any _ _ ba.1 ba.2 x1 x2 _).mono ?_
  rintro _ w1 ⟨rfl, g1⟩
  go_wp2_with fail
  refine (hden_any _ bd.1 bd.2 _).mono ?_
  rintro _ wx ⟨rfl, hw⟩
  subst wx
  go_wp2_with fail
  refine (hrat_any _ _ bc.1 bc.2 y1 y2 _).mono ?_
  rintro _ w2 ⟨rfl, g2⟩
  go_wp2_with fail
  refine (hden_any _ bf.1 bf.2 _).mono ?_
  rintro _ wx ⟨rfl, hw⟩
  subst wx
  go_wp2_with fail
  refine (hrat_any _ _ be.1 be.2 z1 z2 _).mono ?_
  rintro _ w3 ⟨rfl, g3⟩
  clear x1 x2 y1 y2 z1 z2
  generalize redN a (denH b) = xn at *
  generalize redD a (denH b) = xd at *
  generalize redN c (denH d) = yn at *
  generalize redD c (denH d) = yd at *
  generalize redN e (denH f) = zn at *
  generalize redD e (denH f) = zd at *
  clear ba bb bc bd be bf
  obtain ⟨hc2, hf2, hz2⟩ := gcell g2
  obtain ⟨hc3, hf3, hz3⟩ := gcell g3
  have s12 : w1.heap.size < w2.heap.size := by simp at hz2; omega
  have s23 : w2.heap.size < w3.heap.size := by simp at hz3; omega
  have s13 : w1.heap.size < w3.heap.size := by omega
  clear hz2 hz3
  have G3 : Gr w w3 := (((g1.alloc _ _).trans g2).alloc _ _).trans g3
  clear g1 g2 g3
  go_wp2_with fail
  refine (cmp_yes _ _ _ _ p1 p2 p6 q1 q2 q6 p5 q5 _).mono ?_
  rintro _ w4 ⟨rfl, g4⟩
  obtain ⟨hc4, hf4, hz4⟩ := gcell g4
  have s14 : w1.heap.size < w4.heap.size := by simp at hz4; omega
  have s24 : w2.heap.size < w4.heap.size := by simp at hz4; omega
  have s34 : w3.heap.size < w4.heap.size := by simp at hz4; omega
  clear hz4
  go_wp2_with fail
  refine (cmp_yes _ _ _ _ q1 q2 q6 p1 p2 p6 q5 p5 _).mono ?_
  rintro _ w5 ⟨rfl, g5⟩
  obtain ⟨hc5, hf5, hz5⟩ := gcell g5
  have s15 : w1.heap.size < w5.heap.size := by omega
  have s25 : w2.heap.size < w5.heap.size := by omega
  have s35 : w3.heap.size < w5.heap.size := by omega
  clear hz5
  go_wp2_with fail
  refine (cmp_yes _ _ _ _ q1 q2 q6 r1 r2 r6 q5 r5 _).mono ?_
  rintro _ w6 ⟨rfl, g6⟩
  obtain ⟨hc6, hf6, hz6⟩ := gcell g6
  have s16 : w1.heap.size < w6.heap.size := by omega
  have s26 : w2.heap.size < w6.heap.size := by omega
  have s36 : w3.heap.size < w6.heap.size := by omega
  clear hz6
  go_wp2_with fail
  refine (cmp_yes _ _ _ _ p1 p2 p6 r1 r2 r6 p5 r5 _).mono ?_
  rintro _ w7 ⟨rfl, g7⟩
  obtain ⟨hc7, hf7, hz7⟩ := gcell g7
  clear hz7
  have G7 : Gr w w7 := ((((G3.alloc _ _).trans g4).trans g5).trans g6).trans g7
  clear G3 g4 g5 g6 g7
  obtain ⟨A, B, hA, hA', hB, hcs⟩ := order_cases p5 q5 r5
  clear p1 p2 p3 p5 p6 q1 q2 q3 q5 q6 r1 r2 r3 r5 r6
  rcases hcs with ⟨rfl, rfl, rfl, hcs⟩ | ⟨hne, hcs⟩
  · rcases hcs with ⟨rfl, hC⟩ | ⟨rfl, hC⟩ | ⟨rfl, hC⟩
    all_goals
      go_wp2_with fail
      go_ret
      exact ⟨rfl, G7.grown⟩
  · rcases hne with hne | ⟨rfl, hne⟩ <;> rcases hcs with ⟨rfl, hb, hC⟩ | ⟨rfl, rfl⟩ | ⟨rfl, rfl⟩ | ⟨rfl, hb, hC⟩
    all_goals try (rcases hb with rfl | rfl)
    all_goals
      go_wp2_with fail
      go_ret
      exact ⟨rfl, G7.grown⟩
end Go.Proofs.Ymbrde
