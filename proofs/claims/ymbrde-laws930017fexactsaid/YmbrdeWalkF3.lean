/-
  THE WALKS (seat e): fscale, fprod, fissum.
-/
import Derived.Test.YmbrdeWalkM
import Derived.Test.YmbrdeWalkArr
import Derived.Test.YmbrdePlainW
namespace Go.Proofs.Ymbrde
open Go.RowKit

set_option maxHeartbeats 2000000 in
theorem fscale_any (V m : Int) (m0 : 0 ≤ m) (m1 : m ≤ 18446744073709551615) (w : World) :
    Calls Ydem.prog 49 #[.agg #[.int .u64 (k0 V), .int .u64 (k1 V), .int .u64 (k2 V)], .int .u64 m] w fun e w' =>
      e = .returned (.agg #[.int .u64 (k0 (V * m)), .int .u64 (k1 (V * m)), .int .u64 (k2 (V * m))]) ∧ Gr w w' := by
  obtain ⟨q0, q1, q2⟩ := mul_k V m
  obtain ⟨a0, a1⟩ := k0_bound V
  obtain ⟨b0, b1⟩ := k1_bound V
  have c := k2_bound V
  generalize k0 (V * m) = r0 at *
  generalize k1 (V * m) = r1 at *
  generalize k2 (V * m) = r2 at *
  generalize k0 V = v0 at *
  generalize k1 V = v1 at *
  generalize k2 V = v2 at *
  have e1 := hi64_mul_bound a0 a1 m0 m1
  have e2 := hi64_mul_bound b0 b1 m0 m1
  have e3 := lo64_bound (v1 * m)
  have hw : IntKind.u64.wrap (IntKind.u64.wrap (hi64 (v1 * m) + IntKind.u64.wrap (v2 * m)) + hi64 (hi64 (v0 * m) + lo64 (v1 * m))) = r2 := by
    simp only [IntKind.wrap_u64]; omega
  clear q2
  generalize hA1 : hi64 (v0 * m) = A1 at *
  generalize hA0 : lo64 (v0 * m) = A0 at *
  generalize hB1 : hi64 (v1 * m) = B1 at *
  generalize hB0 : lo64 (v1 * m) = B0 at *
  have hadd := fun w => add64_run A1 B0 0 e1.1 e3.1 (by decide) (by decide) w
  simp only [Int.add_zero, q1] at hadd
  generalize hi64 (A1 + B0) = cc at *
  subst q0
  go_enter Ydem.func49, Ydem.ntmps49
  go_wp2_with fail
  refine (mul64_any _ _ a0 a1 m0 m1 _).mono ?_
  rintro _ wx ⟨rfl, hx⟩
  subst wx
  go_wp2_with fail
  refine (mul64_any _ _ b0 b1 m0 m1 _).mono ?_
  rintro _ wx ⟨rfl, hx⟩
  subst wx
  go_wp2_with fail
  refine bodyPost_ret (v := .agg #[.int .u64 A0, .int .u64 r1, .int .u64 r2]) ?_ rfl ⟨rfl, ?_⟩
  · simp [results, Ydem.results49, go_sem]
  · exact ((Gr.refl _).alloc _ _).alloc _ _

set_option maxHeartbeats 2000000 in
theorem fprod_any (n a b : Int) (n1 : -9223372036854775808 ≤ n) (n2 : n ≤ 9223372036854775807) (a0 : 0 ≤ a) (a1 : a ≤ 9223372036854775807) (b0 : 0 ≤ b) (b1 : b ≤ 9223372036854775807) (w : World) :
    Calls Ydem.prog 41 #[.int .i64 n, .int .i64 a, .int .i64 b] w fun e w' =>
      e = .returned (.agg #[.int .u64 (k0 (n * a * b)), .int .u64 (k1 (n * a * b)), .int .u64 (k2 (n * a * b))]) ∧ Gr w w' := by
  obtain ⟨hp, hn⟩ := word_k n1 n2
  have S1 := fun w => fscale_any n a a0 (by omega) w
  have S2 := fun w => fscale_any (n * a) b b0 (by omega) w
  rcases Int.lt_or_le n 0 with h | h
  · obtain ⟨x0, x1, x2⟩ := hn h
    clear hp hn
    rw [x0, x1, x2] at S1
    have hw : IntKind.u64.wrap n = n + 18446744073709551616 := by rw [IntKind.wrap_u64]; omega
    clear x0 x1 x2
    generalize k0 (n * a) = y0 at *
    generalize k1 (n * a) = y1 at *
    generalize k2 (n * a) = y2 at *
    generalize k0 (n * a * b) = z0 at *
    generalize k1 (n * a * b) = z1 at *
    generalize k2 (n * a * b) = z2 at *
    go_enter Ydem.func41, Ydem.ntmps41
    go_wp2_with fail
    refine (S1 _).mono ?_
    rintro _ w1 ⟨rfl, g1⟩
    obtain ⟨hc1, hf1, hz1⟩ := gcell g1
    have s1 : w.heap.size < w1.heap.size := by simp at hz1; omega
    clear hz1
    go_wp2_with fail
    refine (S2 _).mono ?_
    rintro _ w2 ⟨rfl, g2⟩
    obtain ⟨hc2, hf2, hz2⟩ := gcell g2
    have d0 : w2.cell? ⟨w.heap.size, 0, none⟩ = some (.int .u64 0) := by rw [hc2 _ _ s1, hc1 _ _ (by simp; omega)]; simp [go_sem]
    have d1 : w2.cell? ⟨w.heap.size, 1, none⟩ = some (.int .u64 0) := by rw [hc2 _ _ s1, hc1 _ _ (by simp; omega)]; simp [go_sem]
    have d2 : w2.cell? ⟨w.heap.size, 2, none⟩ = some (.int .u64 0) := by rw [hc2 _ _ s1, hc1 _ _ (by simp; omega)]; simp [go_sem]
    go_wp2_with fail
    refine bodyPost_ret (v := .agg #[.int .u64 z0, .int .u64 z1, .int .u64 z2]) ?_ rfl ⟨rfl, ?_⟩
    · simp [results, Ydem.results41, go_sem, d0, d1, d2]
    · exact (((((Gr.refl _).alloc _ _).alloc _ _).trans g1).trans g2).setCell (by simp) _ |>.setCell (by simp) _ |>.setCell (by simp) _
  · obtain ⟨x0, x1, x2⟩ := hp h
    clear hp hn
    rw [x0, x1, x2] at S1
    clear x0 x1 x2
    generalize k0 (n * a) = y0 at *
    generalize k1 (n * a) = y1 at *
    generalize k2 (n * a) = y2 at *
    generalize k0 (n * a * b) = z0 at *
    generalize k1 (n * a * b) = z1 at *
    generalize k2 (n * a * b) = z2 at *
    go_enter Ydem.func41, Ydem.ntmps41
    go_wp2_with fail
    refine (S1 _).mono ?_
    rintro _ w1 ⟨rfl, g1⟩
    obtain ⟨hc1, hf1, hz1⟩ := gcell g1
    have s1 : w.heap.size < w1.heap.size := by simp at hz1; omega
    clear hz1
    go_wp2_with fail
    refine (S2 _).mono ?_
    rintro _ w2 ⟨rfl, g2⟩
    obtain ⟨hc2, hf2, hz2⟩ := gcell g2
    have d0 : w2.cell? ⟨w.heap.size, 0, none⟩ = some (.int .u64 0) := by rw [hc2 _ _ s1, hc1 _ _ (by simp; omega)]; simp [go_sem]
    have d1 : w2.cell? ⟨w.heap.size, 1, none⟩ = some (.int .u64 0) := by rw [hc2 _ _ s1, hc1 _ _ (by simp; omega)]; simp [go_sem]
    have d2 : w2.cell? ⟨w.heap.size, 2, none⟩ = some (.int .u64 0) := by rw [hc2 _ _ s1, hc1 _ _ (by simp; omega)]; simp [go_sem]
    go_wp2_with fail
    refine bodyPost_ret (v := .agg #[.int .u64 z0, .int .u64 z1, .int .u64 z2]) ?_ rfl ⟨rfl, ?_⟩
    · simp [results, Ydem.results41, go_sem, d0, d1, d2]
    · exact (((((Gr.refl _).alloc _ _).alloc _ _).trans g1).trans g2).setCell (by simp) _ |>.setCell (by simp) _ |>.setCell (by simp) _

theorem arr_decide {V W : Int} (v0 : -1569275433846670190958947355801916604025588861116008628224 ≤ V) (v1 : V ≤ 1569275433846670190958947355801916604025588861116008628224)
    (w0 : -1569275433846670190958947355801916604025588861116008628224 ≤ W) (w1 : W ≤ 1569275433846670190958947355801916604025588861116008628224) :
    (k0 V == k0 W && (k1 V == k1 W && k2 V == k2 W)) = decide (V = W) := by
  have h := words_iff v0 v1 w0 w1
  rw [Bool.eq_iff_iff]
  simp only [Bool.and_eq_true, beq_iff_eq, decide_eq_true_eq]
  exact h

set_option maxHeartbeats 4000000 in
theorem fissum_any (xn xd yn yd zn zd : Int) (a1 : -9223372036854775808 ≤ xn) (a2 : xn ≤ 9223372036854775807) (b1 : 0 ≤ xd) (b2 : xd ≤ 9223372036854775807)
    (c1 : -9223372036854775808 ≤ yn) (c2 : yn ≤ 9223372036854775807) (d1 : 0 ≤ yd) (d2 : yd ≤ 9223372036854775807)
    (e1 : -9223372036854775808 ≤ zn) (e2 : zn ≤ 9223372036854775807) (f1 : 0 ≤ zd) (f2 : zd ≤ 9223372036854775807) (w : World) :
    Calls Ydem.prog 25 #[.agg #[.int .i64 xn, .int .i64 xd], .agg #[.int .i64 yn, .int .i64 yd], .agg #[.int .i64 zn, .int .i64 zd]] w fun e w' =>
      e = .returned (.bool (decide (xn * yd * zd + yn * xd * zd = zn * xd * yd))) ∧ Gr w w' := by
  have bP := tri_bound (n := xn) (a := yd) (b := zd) (by omega) (by omega) (by omega) (by omega) (by omega) (by omega)
  have bQ := tri_bound (n := yn) (a := xd) (b := zd) (by omega) (by omega) (by omega) (by omega) (by omega) (by omega)
  have bR := tri_bound (n := zn) (a := xd) (b := yd) (by omega) (by omega) (by omega) (by omega) (by omega) (by omega)
  have S1 := fun w => fprod_any xn yd zd a1 a2 d1 d2 f1 f2 w
  have S2 := fun w => fprod_any yn xd zd c1 c2 b1 b2 f1 f2 w
  have S3 := fun w => fprod_any zn xd yd e1 e2 b1 b2 d1 d2 w
  generalize xn * yd * zd = P at *
  generalize yn * xd * zd = Q at *
  generalize zn * xd * yd = R at *
  have harr : Hid ((k0 (P + Q) == k0 R && (k1 (P + Q) == k1 R && k2 (P + Q) == k2 R)) = decide (P + Q = R)) := arr_decide (by omega) (by omega) (by omega) (by omega)
  obtain ⟨w0, w1, w2, w3, w4, w5, w6⟩ := add_k P Q
  have p0 := k0_bound P
  have p1 := k1_bound P
  have p2 := k2_bound P
  have q0 := k0_bound Q
  have q1 := k1_bound Q
  have q2 := k2_bound Q
  have hw2 : IntKind.u64.wrap (IntKind.u64.wrap (k2 P + k2 Q) + hi64 (k1 P + k1 Q + hi64 (k0 P + k0 Q))) = k2 (P + Q) := by
    rw [← w2]; simp only [IntKind.wrap_u64]; unfold lo64; omega
  clear w2
  have A1 := fun w => add64_run (k0 P) (k0 Q) 0 p0.1 q0.1 (by decide) (by decide) w
  simp only [Int.add_zero, w0] at A1
  have A2 := fun w => add64_run (k1 P) (k1 Q) (hi64 (k0 P + k0 Q)) p1.1 q1.1 w3 w4 w
  simp only [w1] at A2
  generalize hi64 (k1 P + k1 Q + hi64 (k0 P + k0 Q)) = cb at *
  generalize hi64 (k0 P + k0 Q) = ca at *
  generalize k0 (P + Q) = s0 at *
  generalize k1 (P + Q) = s1 at *
  generalize k2 (P + Q) = s2 at *
  generalize k0 P = P0 at *
  generalize k1 P = P1 at *
  generalize k2 P = P2 at *
  generalize k0 Q = Q0 at *
  generalize k1 Q = Q1 at *
  generalize k2 Q = Q2 at *
  generalize k0 R = R0 at *
  generalize k1 R = R1 at *
  generalize k2 R = R2 at *
  clear w0 w1
  have hE := arr3_eq
  go_enter Ydem.func25, Ydem.ntmps25
  go_wp2_with fail
  refine (S1 _).mono ?_
  rintro _ v1 ⟨rfl, g1⟩
  obtain ⟨hc1, hf1, hz1⟩ := gcell g1
  have t1 : w.heap.size < v1.heap.size := by simp at hz1; omega
  have t2 : w.heap.size + 1 < v1.heap.size := by simp at hz1; omega
  have t3 : w.heap.size + 1 + 1 < v1.heap.size := by simp at hz1; omega
  clear hz1
  go_wp2_with fail
  refine (S2 _).mono ?_
  rintro _ v2 ⟨rfl, g2⟩
  obtain ⟨hc2, hf2, hz2⟩ := gcell g2
  have t4 : w.heap.size < v2.heap.size := by simp at hz2; omega
  have t5 : w.heap.size + 1 < v2.heap.size := by simp at hz2; omega
  have t6 : w.heap.size + 1 + 1 < v2.heap.size := by simp at hz2; omega
  have t7 : v1.heap.size < v2.heap.size := by simp at hz2; omega
  clear hz2
  go_wp2_with fail
  refine (S3 _).mono ?_
  rintro _ v3 ⟨rfl, g3⟩
  go_wp2_with fail
  go_ret
  exact ⟨by rw [← harr.out]; rfl, (((((((Gr.refl _).alloc _ _).alloc _ _).alloc _ _).trans g1).alloc _ _).trans g2 |>.alloc _ _).trans g3⟩
end Go.Proofs.Ymbrde
