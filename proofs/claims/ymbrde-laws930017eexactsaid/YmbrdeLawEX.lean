/-
  THE WALK of the law EExact (Mul at all int64 fields).
-/
import Derived.Test.YmbrdeWalkWant
namespace Go.Proofs.Ymbrde
open Go.RowKit

set_option maxHeartbeats 4000000 in
theorem law_EExact (a b c d m : Int) (ba : -9223372036854775808 ≤ a ∧ a ≤ 9223372036854775807) (bb : -9223372036854775808 ≤ b ∧ b ≤ 9223372036854775807)
    (bc : -9223372036854775808 ≤ c ∧ c ≤ 9223372036854775807) (bd : -9223372036854775808 ≤ d ∧ d ≤ 9223372036854775807) (bm : 0 ≤ m ∧ m ≤ 255) (w : World) :
    Calls Ydem.prog 3 #[.int .i64 a, .int .i64 b, .int .i64 c, .int .i64 d, .int .u8 m] w fun e w' => e = .returned (.bool true) ∧ Grown w w' := by
  obtain ⟨m1, m2⟩ := bm
  by_cases hm : m % 4 = 0
  · have hm' : (m % 4 != 0) = false := by simpa using hm
    go_enter Ydem.func3, Ydem.ntmps3
    go_wp2_with fail
    refine (mul_any _ _ _ _ ba.1 ba.2 bb.2 bc.1 bc.2 bd.2 _).mono ?_
    rintro e w1 ⟨rfl, g1⟩
    obtain ⟨hc1, hf1, hz1⟩ := gcell g1
    have s1 : w.heap.size < w1.heap.size := by simp at hz1; omega
    have s2 : w.heap.size + 1 < w1.heap.size := by simp at hz1; omega
    clear hz1
    go_wp2_with fail
    refine (want_any _ _ _ _ ba.1 ba.2 bb.2 bc.1 bc.2 bd.2 _).mono ?_
    rintro e w2 ⟨rfl, g2⟩
    obtain ⟨hc2, hf2, hz2⟩ := gcell g2
    have t1 : w1.heap.size < w2.heap.size := by simp at hz2; omega
    clear hz2
    go_wp2_with fail
    go_ret
    exact ⟨rfl, (((((((Gr.refl _).alloc _ _).alloc _ _).trans g1).alloc _ _).trans g2).alloc _ _).grown⟩
  · have hm' : (m % 4 != 0) = true := by simpa using hm
    obtain ⟨x1, x2⟩ := denH_bound bb.1 bb.2
    obtain ⟨y1, y2⟩ := denH_bound bd.1 bd.2
    obtain ⟨p1, p2, p3, p4, p5⟩ := red_i64 (n := a) (d := denH b) ba.1 ba.2 x1
    obtain ⟨q1, q2, q3, q4, q5⟩ := red_i64 (n := c) (d := denH d) bc.1 bc.2 y1
    have p6 : redD a (denH b) ≤ 9223372036854775807 := by omega
    have q6 : redD c (denH d) ≤ 9223372036854775807 := by omega
    clear p3 p4 p5 q3 q4 q5
    go_enter Ydem.func3, Ydem.ntmps3
    go_wp2_with fail
    refine (eden_any _ bb.1 bb.2 _).mono ?_
    rintro e wx ⟨rfl, hw⟩
    subst wx
    go_wp2_with fail
    refine (erat_any _ _ ba.1 ba.2 x1 x2 _).mono ?_
    rintro e w1 ⟨rfl, g1⟩
    obtain ⟨hc1, hf1, hz1⟩ := gcell g1
    have s1 : w.heap.size < w1.heap.size := by simp at hz1; omega
    have s2 : w.heap.size + 1 < w1.heap.size := by simp at hz1; omega
    clear hz1
    go_wp2_with fail
    refine (eden_any _ bd.1 bd.2 _).mono ?_
    rintro e wx ⟨rfl, hw⟩
    subst wx
    go_wp2_with fail
    refine (erat_any _ _ bc.1 bc.2 y1 y2 _).mono ?_
    rintro e w2 ⟨rfl, g2⟩
    have G2 : Gr w w2 := (((((Gr.refl _).alloc _ _).alloc _ _).trans g1).setCell (by simp) _ |>.setCell (by simp) _).trans g2
    obtain ⟨hc2, hf2, hz2⟩ := gcell g2
    have t1 : w.heap.size < w2.heap.size := by simp at hz2; omega
    have t2 : w.heap.size + 1 < w2.heap.size := by simp at hz2; omega
    have dx0 : w1.cell? ⟨w.heap.size, 0, none⟩ = some (.int .i64 a) := by rw [hc1 _ _ (by simp; omega)]; simp [go_sem]
    have dx1 : w1.cell? ⟨w.heap.size, 1, none⟩ = some (.int .i64 b) := by rw [hc1 _ _ (by simp; omega)]; simp [go_sem]
    have dy0 : w1.cell? ⟨w.heap.size + 1, 0, none⟩ = some (.int .i64 c) := by rw [hc1 _ _ (by simp)]; simp [go_sem]
    have dy1 : w1.cell? ⟨w.heap.size + 1, 1, none⟩ = some (.int .i64 d) := by rw [hc1 _ _ (by simp)]; simp [go_sem]
    obtain ⟨st0, st1, st2⟩ := store2 (.int .i64 (redN a (denH b))) (.int .i64 (redD a (denH b))) dx0 dx1
    have cx0 : w2.cell? ⟨w.heap.size, 0, none⟩ = some (.int .i64 (redN a (denH b))) := by rw [hc2 _ _ (by simp; omega)]; exact st0
    have cx1 : w2.cell? ⟨w.heap.size, 1, none⟩ = some (.int .i64 (redD a (denH b))) := by rw [hc2 _ _ (by simp; omega)]; exact st1
    have cy0 : w2.cell? ⟨w.heap.size + 1, 0, none⟩ = some (.int .i64 c) := by rw [hc2 _ _ (by simp; omega), st2 _ _ (by omega)]; exact dy0
    have cy1 : w2.cell? ⟨w.heap.size + 1, 1, none⟩ = some (.int .i64 d) := by rw [hc2 _ _ (by simp; omega), st2 _ _ (by omega)]; exact dy1
    clear hz2 g1 g2 hc2 hc1 dx0 dx1 dy0 dy1 st0 st1 st2
    generalize redN a (denH b) = xn at *
    generalize redD a (denH b) = xd at *
    generalize redN c (denH d) = yn at *
    generalize redD c (denH d) = yd at *
    go_wp2_with fail
    refine (mul_any _ _ _ _ p1 p2 p6 q1 q2 q6 _).mono ?_
    rintro e w3 ⟨rfl, g3⟩
    have G3 : Gr w w3 := (G2.setCell (by simp) _ |>.setCell (by simp) _).trans g3
    obtain ⟨hc3, hf3, hz3⟩ := gcell g3
    have u1 : w.heap.size < w3.heap.size := by simp at hz3; omega
    have u2 : w.heap.size + 1 < w3.heap.size := by simp at hz3; omega
    clear hz3 g3 G2
    go_wp2_with fail
    refine (want_any _ _ _ _ p1 p2 p6 q1 q2 q6 _).mono ?_
    rintro e w4 ⟨rfl, g4⟩
    obtain ⟨hc4, hf4, hz4⟩ := gcell g4
    have v1 : w3.heap.size < w4.heap.size := by simp at hz4; omega
    clear hz4
    go_wp2_with fail
    go_ret
    exact ⟨rfl, (((G3.alloc _ _).trans g4).alloc _ _).grown⟩
end Go.Proofs.Ymbrde
