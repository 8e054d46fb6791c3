/-
  THE WALKS (seat d): aterm, aissum.
-/
import Derived.Test.YmbrddWalkSum
import Derived.Test.YmbrddPlainW
namespace Go.Proofs.Ymbrdd
open Go.RowKit

/-- Negating word by word. -/
theorem neg_k (N : Int) : lo64 (0 - k0 N) = k0 (-N) ∧ lo64 (0 - k1 N - bor 0 (k0 N)) = k1 (-N) ∧ lo64 (0 - k2 N - bor 0 (k1 N + bor 0 (k0 N))) = k2 (-N) := by
  have e := k_parts N
  obtain ⟨a1, a2⟩ := k0_bound N
  obtain ⟨b1, b2⟩ := k1_bound N
  obtain ⟨c1, c2⟩ := k2_bound N
  have h0 : lo64 (0 - k0 N) = bor 0 (k0 N) * 18446744073709551616 - k0 N := by unfold lo64 bor; split <;> omega
  have l0 := lo64_bound (0 - k0 N)
  have g0 := bor_bound 0 (k0 N)
  generalize bor 0 (k0 N) = t0 at *
  have h1 : lo64 (0 - k1 N - t0) = bor 0 (k1 N + t0) * 18446744073709551616 - k1 N - t0 := by unfold lo64 bor; split <;> omega
  have l1 := lo64_bound (0 - k1 N - t0)
  have g1 := bor_bound 0 (k1 N + t0)
  generalize bor 0 (k1 N + t0) = t1 at *
  have h2 : lo64 (0 - k2 N - t1) = bor 0 (k2 N + t1) * 18446744073709551616 - k2 N - t1 := by unfold lo64 bor; split <;> omega
  have l2 := lo64_bound (0 - k2 N - t1)
  generalize bor 0 (k2 N + t1) = t2 at *
  have h := k_of (V := -N) (a0 := lo64 (0 - k0 N)) (a1 := lo64 (0 - k1 N - t0)) (a2 := lo64 (0 - k2 N - t1))
    (K := -(N / 6277101735386680763835789423207666416102355444464034512896) - t2) (by omega) l0.1 l0.2 l1.1 l1.2 l2.1 l2.2
  exact ⟨h.1.symm, h.2.1.symm, h.2.2.symm⟩

set_option maxHeartbeats 2000000 in
theorem aterm_any (neg : Bool) (p q r : Int) (p0 : 0 ≤ p) (p1 : p ≤ 18446744073709551615) (q0 : 0 ≤ q) (q1 : q ≤ 18446744073709551615) (r0 : 0 ≤ r) (r1 : r ≤ 18446744073709551615) (w : World) :
    Calls Yddm.prog 40 #[.bool neg, .int .u64 p, .int .u64 q, .int .u64 r] w fun e w' =>
      e = .returned (.agg #[.int .u64 (k0 (sg neg (p * q * r))), .int .u64 (k1 (sg neg (p * q * r))), .int .u64 (k2 (sg neg (p * q * r)))]) ∧ Gr w w' := by
  obtain ⟨m1, m2, m3⟩ := words_mul (p := p * q) (z := r)
  obtain ⟨v1, v2⟩ := wa_bound p0 p1 q0 q1 r0 r1
  have b1 := lo64_bound (p * q)
  have b2 := hi64_mul_bound p0 p1 q0 q1
  have b3 := lo64_bound (hi64 (p * q) * r)
  have b4 := hi64_mul_bound b2.1 (show hi64 (p * q) ≤ 18446744073709551615 by omega) r0 r1
  have b5 := hi64_mul_bound b1.1 b1.2 r0 r1
  have b6 := lo64_bound (lo64 (p * q) * r)
  have e2 : k2 (p * q * r) = wa (p * q * r) := by
    show wa (p * q * r) % 18446744073709551616 = wa (p * q * r)
    exact Int.emod_eq_of_lt v1 (by omega)
  have e1 : k1 (p * q * r) = wb (p * q * r) := rfl
  have e0 : k0 (p * q * r) = wc (p * q * r) := rfl
  obtain ⟨n0, n1, n2⟩ := neg_k (p * q * r)
  rw [e2, m1] at n2
  rw [e1, m2] at n1 n2
  rw [e0, m3] at n0 n1 n2
  rw [m1] at e2 v1 v2
  rw [m2] at e1
  rw [m3] at e0
  clear m1 m2 m3
  have c0 : hi64 (lo64 (hi64 (p * q) * r) + hi64 (lo64 (p * q) * r)) ≤ 1 := by unfold hi64 at *; omega
  have c1 : 0 ≤ hi64 (lo64 (hi64 (p * q) * r) + hi64 (lo64 (p * q) * r)) := hi64_nonneg (by omega)
  have f0 : k0 (sg neg (p * q * r)) = if neg = true then k0 (-(p * q * r)) else k0 (p * q * r) := by cases neg <;> rfl
  have f1 : k1 (sg neg (p * q * r)) = if neg = true then k1 (-(p * q * r)) else k1 (p * q * r) := by cases neg <;> rfl
  have f2 : k2 (sg neg (p * q * r)) = if neg = true then k2 (-(p * q * r)) else k2 (p * q * r) := by cases neg <;> rfl
  rw [f0, f1, f2, e0, e1, e2, ← n0, ← n1, ← n2]
  clear e0 e1 e2 f0 f1 f2 n0 n1 n2
  generalize hH : hi64 (p * q) = H at *
  generalize hL : lo64 (p * q) = L at *
  generalize hA1 : hi64 (H * r) = A1 at *
  generalize hA0 : lo64 (H * r) = A0 at *
  generalize hC1 : hi64 (L * r) = C1 at *
  generalize hC0 : lo64 (L * r) = C0 at *
  have hadd := fun w => add64_run C1 A0 0 b5.1 b3.1 (by decide) (by decide) w
  simp only [Int.add_zero, Int.add_comm C1 A0] at hadd
  have l1 := lo64_bound (A0 + C1)
  generalize lo64 (A0 + C1) = M at *
  generalize hi64 (A0 + C1) = cc at *
  cases neg
  · simp only [Bool.false_eq_true, if_false]
    go_enter Yddm.func40, Yddm.ntmps40
    go_wp2_with fail
    refine (mul64_any _ _ p0 p1 q0 q1 _).mono ?_
    rintro _ wx ⟨rfl, hw⟩
    subst wx
    go_wp2_with fail
    refine (mul64_any _ _ b1.1 b1.2 r0 r1 _).mono ?_
    rintro _ wx ⟨rfl, hw⟩
    subst wx
    go_wp2_with fail
    refine (mul64_any _ _ b2.1 (by omega) r0 r1 _).mono ?_
    rintro _ wx ⟨rfl, hw⟩
    subst wx
    go_wp2_with fail
    refine bodyPost_ret (v := .agg #[.int .u64 C0, .int .u64 M, .int .u64 (A1 + cc)]) ?_ rfl ⟨rfl, ?_⟩
    · simp [results, Yddm.results40, go_sem]
    · exact (Gr.refl _).alloc _ _
  · simp only [if_true]
    have g0 := bor_bound 0 C0
    have g1 := bor_bound 0 (M + bor 0 C0)
    have S0 := fun w => sub64_run 0 C0 0 (by decide) (by decide) b6.1 b6.2 (by decide) (by decide) w
    simp only [Int.add_zero, Int.sub_zero] at S0
    have S1 := fun w => sub64_run 0 M (bor 0 C0) (by decide) (by decide) l1.1 l1.2 g0.1 g0.2 w
    have S2 := fun w => sub64_run 0 (A1 + cc) (bor 0 (M + bor 0 C0)) (by decide) (by decide) v1 v2 g1.1 g1.2 w
    generalize hr2 : lo64 (0 - (A1 + cc) - bor 0 (M + bor 0 C0)) = R2 at *
    generalize bor 0 (A1 + cc + bor 0 (M + bor 0 C0)) = d2 at *
    generalize hr1 : lo64 (0 - M - bor 0 C0) = R1 at *
    generalize bor 0 (M + bor 0 C0) = d1 at *
    generalize hr0 : lo64 (0 - C0) = R0 at *
    generalize bor 0 C0 = d0 at *
    clear hr0 hr1 hr2
    go_enter Yddm.func40, Yddm.ntmps40
    go_wp2_with fail
    refine (mul64_any _ _ p0 p1 q0 q1 _).mono ?_
    rintro _ wx ⟨rfl, hw⟩
    subst wx
    go_wp2_with fail
    refine (mul64_any _ _ b1.1 b1.2 r0 r1 _).mono ?_
    rintro _ wx ⟨rfl, hw⟩
    subst wx
    go_wp2_with fail
    refine (mul64_any _ _ b2.1 (by omega) r0 r1 _).mono ?_
    rintro _ wx ⟨rfl, hw⟩
    subst wx
    go_wp2_with fail
    refine bodyPost_ret (v := .agg #[.int .u64 R0, .int .u64 R1, .int .u64 R2]) ?_ rfl ⟨rfl, ?_⟩
    · simp [results, Yddm.results40, go_sem]
    · exact (Gr.refl _).alloc _ _
end Go.Proofs.Ymbrdd
