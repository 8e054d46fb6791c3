/-
  THE WALK (seat d): aissum.
-/
import Derived.Test.YmbrddWalkA3
namespace Go.Proofs.Ymbrdd
open Go.RowKit

/-- Three words against three, decided one after another. -/
theorem words_case {V W : Int} (v0 : -1569275433846670190958947355801916604025588861116008628224 ≤ V) (v1 : V ≤ 1569275433846670190958947355801916604025588861116008628224)
    (w0 : -1569275433846670190958947355801916604025588861116008628224 ≤ W) (w1 : W ≤ 1569275433846670190958947355801916604025588861116008628224) :
    (decide (V = W) = true ∧ k0 W = k0 V ∧ k1 W = k1 V ∧ k2 W = k2 V) ∨ (decide (V = W) = false ∧ ¬ k0 V = k0 W) ∨
    (decide (V = W) = false ∧ k0 W = k0 V ∧ ¬ k1 V = k1 W) ∨ (decide (V = W) = false ∧ k0 W = k0 V ∧ k1 W = k1 V ∧ ¬ k2 V = k2 W) := by
  have h := words_iff v0 v1 w0 w1
  by_cases e : V = W
  · subst e; exact Or.inl ⟨decide_eq_true rfl, rfl, rfl, rfl⟩
  · have d := decide_eq_false e
    by_cases e0 : k0 V = k0 W
    · by_cases e1 : k1 V = k1 W
      · exact Or.inr (Or.inr (Or.inr ⟨d, e0.symm, e1.symm, fun e2 => e (h.mp ⟨e0, e1, e2⟩)⟩))
      · exact Or.inr (Or.inr (Or.inl ⟨d, e0.symm, e1⟩))
    · exact Or.inr (Or.inl ⟨d, e0⟩)

set_option maxHeartbeats 8000000 in
theorem aissum_any (xn b : Int) (ys : Bool) (c d zn q : Int) (a1 : -9223372036854775808 ≤ xn) (a2 : xn ≤ 9223372036854775807) (b1 : 0 ≤ b) (b2 : b ≤ 9223372036854775807)
    (c1 : 0 ≤ c) (c2 : c ≤ 9223372036854775808) (d1 : 0 ≤ d) (d2 : d ≤ 9223372036854775807)
    (e1 : -9223372036854775808 ≤ zn) (e2 : zn ≤ 9223372036854775807) (f1 : 0 ≤ q) (f2 : q ≤ 9223372036854775807) (w : World) :
    Calls Yddm.prog 19 #[.agg #[.int .i64 xn, .int .i64 b], .bool ys, .int .u64 c, .int .u64 d, .agg #[.int .i64 zn, .int .i64 q]] w fun e w' =>
      e = .returned (.bool (decide (zn * b * d = xn * d * q + sg ys c * b * q))) ∧ Gr w w' := by
  have sc : -9223372036854775808 ≤ sg ys c ∧ sg ys c ≤ 9223372036854775808 := by cases ys <;> simp [sg] <;> omega
  have bP := tri_bound (n := xn) (a := d) (b := q) (by omega) (by omega) (by omega) (by omega) (by omega) (by omega)
  have bQ := tri_bound (n := sg ys c) (a := b) (b := q) (by omega) (by omega) (by omega) (by omega) (by omega) (by omega)
  have bR := tri_bound (n := zn) (a := b) (b := d) (by omega) (by omega) (by omega) (by omega) (by omega) (by omega)
  have hx0 := magZ_nonneg xn
  have hx1 := magZ_le a1 a2
  have hz0 := magZ_nonneg zn
  have hz1 := magZ_le e1 e2
  have hP : sg (decide (xn < 0)) (magZ xn * d * q) = xn * d * q := by rw [Int.mul_assoc, sg_of_mag, Int.mul_assoc]
  have hR : sg (decide (zn < 0)) (magZ zn * b * d) = zn * b * d := by rw [Int.mul_assoc, sg_of_mag, Int.mul_assoc]
  have hQ : sg ys (c * b * q) = sg ys c * b * q := by rw [sg_mul, sg_mul]
  have S1 := fun w => aterm_any (decide (zn < 0)) (magZ zn) b d hz0 (by omega) b1 (by omega) d1 (by omega) w
  have S2 := fun w => aterm_any (decide (xn < 0)) (magZ xn) d q hx0 (by omega) d1 (by omega) f1 (by omega) w
  have S3 := fun w => aterm_any ys c b q c1 (by omega) b1 (by omega) f1 (by omega) w
  rw [hR] at S1
  rw [hP] at S2
  rw [hQ] at S3
  clear hP hQ hR sc
  generalize xn * d * q = P at *
  generalize sg ys c * b * q = Q at *
  generalize zn * b * d = R at *
  have hcase := words_case (V := R) (W := P + Q) (by omega) (by omega) (by omega) (by omega)
  obtain ⟨w0, w1, w2, w3, w4, w5, w6⟩ := add_k P Q
  have p0 := k0_bound P
  have p1 := k1_bound P
  have p2 := k2_bound P
  have q0 := k0_bound Q
  have q1 := k1_bound Q
  have q2 := k2_bound Q
  have A1 := fun w => add64_run (k0 P) (k0 Q) 0 p0.1 q0.1 (by decide) (by decide) w
  simp only [Int.add_zero, w0] at A1
  have A2 := fun w => add64_run (k1 P) (k1 Q) (hi64 (k0 P + k0 Q)) p1.1 q1.1 w3 w4 w
  simp only [w1] at A2
  have A3 := fun w => add64_run (k2 P) (k2 Q) (hi64 (k1 P + k1 Q + hi64 (k0 P + k0 Q))) p2.1 q2.1 w5 w6 w
  simp only [w2] at A3
  generalize hi64 (k2 P + k2 Q + hi64 (k1 P + k1 Q + hi64 (k0 P + k0 Q))) = cc at *
  generalize hi64 (k1 P + k1 Q + hi64 (k0 P + k0 Q)) = cb at *
  generalize hi64 (k0 P + k0 Q) = ca at *
  generalize decide (R = P + Q) = ans at *
  generalize k0 (P + Q) = s0 at *
  generalize k1 (P + Q) = s1 at *
  generalize k2 (P + Q) = s2 at *
  generalize k0 P = P0 at *
  generalize k1 P = P1 at *
  generalize k2 P = P2 at *
  generalize k0 Q = Q0 at *
  generalize k1 Q = Q1 at *
  generalize k2 Q = Q2 at *
  generalize k0 R = R0 at *
  generalize k1 R = R1 at *
  generalize k2 R = R2 at *
  clear w0 w1 w2
  have hkeep : Hid _ := hcase
  clear hcase
  go_enter Yddm.func19, Yddm.ntmps19
  go_wp2_with fail
  refine (magnitude_any _ a1 a2 _).mono ?_
  rintro _ wx ⟨rfl, hw⟩
  subst wx
  go_wp2_with fail
  refine (magnitude_any _ e1 e2 _).mono ?_
  rintro _ wx ⟨rfl, hw⟩
  subst wx
  go_wp2_with fail
  refine (S1 _).mono ?_
  rintro _ v1 ⟨rfl, g1⟩
  obtain ⟨hc1, hf1, hy1⟩ := gcell g1
  have t1 : w.heap.size < v1.heap.size := by simp at hy1; omega
  have t2 : w.heap.size + 1 < v1.heap.size := by simp at hy1; omega
  clear hy1
  go_wp2_with fail
  refine (S2 _).mono ?_
  rintro _ v2 ⟨rfl, g2⟩
  obtain ⟨hc2, hf2, hy2⟩ := gcell g2
  have t3 : v1.heap.size < v2.heap.size := by simp at hy2; omega
  clear hy2
  go_wp2_with fail
  refine (S3 _).mono ?_
  rintro _ v3 ⟨rfl, g3⟩
  obtain ⟨hc3, hf3, hy3⟩ := gcell g3
  have t4 : v1.heap.size < v3.heap.size := by simp at hy3; omega
  have t5 : v2.heap.size < v3.heap.size := by simp at hy3; omega
  clear hy3
  have G : Gr w (v3.alloc (.cells #[.int .u64 Q0, .int .u64 Q1, .int .u64 Q2] 60)) := (((((((Gr.refl _).alloc _ _).alloc _ _).trans g1).alloc _ _).trans g2 |>.alloc _ _).trans g3).alloc _ _
  rcases hkeep.out with ⟨ha, x0, x1, x2⟩ | ⟨ha, x0⟩ | ⟨ha, x0, x1⟩ | ⟨ha, x0, x1, x2⟩
  · subst ha; subst x0; subst x1; subst x2
    go_wp2_with fail
    go_ret
    exact ⟨rfl, G⟩
  · subst ha
    go_wp2_with fail
    go_ret
    exact ⟨rfl, G⟩
  · subst ha; subst x0
    go_wp2_with fail
    go_ret
    exact ⟨rfl, G⟩
  · subst ha; subst x0; subst x1
    go_wp2_with fail
    go_ret
    exact ⟨ret_bool (a := R2 == s2) (beq_eq_false_iff_ne.mpr x2), G⟩
end Go.Proofs.Ymbrdd
