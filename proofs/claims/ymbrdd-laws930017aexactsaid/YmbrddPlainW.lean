/-
  THE PLAIN MATHEMATICS of numbers modulo 2^192 in three words, least first. No Go in this text.
-/
import Derived.Test.YmbrddPlainSum
namespace Go.Proofs.Ymbrdd

def k0 (V : Int) : Int := V % 18446744073709551616
def k1 (V : Int) : Int := V / 18446744073709551616 % 18446744073709551616
def k2 (V : Int) : Int := V / 340282366920938463463374607431768211456 % 18446744073709551616
theorem k0_bound (V : Int) : 0 ≤ k0 V ∧ k0 V ≤ 18446744073709551615 := by unfold k0; omega
theorem k1_bound (V : Int) : 0 ≤ k1 V ∧ k1 V ≤ 18446744073709551615 := by unfold k1; omega
theorem k2_bound (V : Int) : 0 ≤ k2 V ∧ k2 V ≤ 18446744073709551615 := by unfold k2; omega
/-- Within 2^191 the words tell the number. -/
theorem words_iff {V W : Int} (v0 : -1569275433846670190958947355801916604025588861116008628224 ≤ V) (v1 : V ≤ 1569275433846670190958947355801916604025588861116008628224)
    (w0 : -1569275433846670190958947355801916604025588861116008628224 ≤ W) (w1 : W ≤ 1569275433846670190958947355801916604025588861116008628224) :
    (k0 V = k0 W ∧ k1 V = k1 W ∧ k2 V = k2 W) ↔ V = W := by
  unfold k0 k1 k2; omega
/-- A number by its words. -/
theorem k_parts (V : Int) : V = k0 V + k1 V * 18446744073709551616 + k2 V * 340282366920938463463374607431768211456 + V / 6277101735386680763835789423207666416102355444464034512896 * 6277101735386680763835789423207666416102355444464034512896 := by
  unfold k0 k1 k2; omega
theorem k_of {V a0 a1 a2 K : Int} (h : V = a0 + a1 * 18446744073709551616 + a2 * 340282366920938463463374607431768211456 + K * 6277101735386680763835789423207666416102355444464034512896)
    (p0 : 0 ≤ a0) (q0 : a0 ≤ 18446744073709551615) (p1 : 0 ≤ a1) (q1 : a1 ≤ 18446744073709551615) (p2 : 0 ≤ a2) (q2 : a2 ≤ 18446744073709551615) : k0 V = a0 ∧ k1 V = a1 ∧ k2 V = a2 := by
  subst h
  unfold k0 k1 k2
  refine ⟨by omega, by omega, ?_⟩
  have e : (a0 + a1 * 18446744073709551616 + a2 * 340282366920938463463374607431768211456 + K * 6277101735386680763835789423207666416102355444464034512896) / 340282366920938463463374607431768211456 = a2 + K * 18446744073709551616 := by omega
  rw [e]; omega
/-- Adding word by word. -/
theorem add_k (V W : Int) : lo64 (k0 V + k0 W) = k0 (V + W) ∧ lo64 (k1 V + k1 W + hi64 (k0 V + k0 W)) = k1 (V + W) ∧
    lo64 (k2 V + k2 W + hi64 (k1 V + k1 W + hi64 (k0 V + k0 W))) = k2 (V + W) ∧
    0 ≤ hi64 (k0 V + k0 W) ∧ hi64 (k0 V + k0 W) ≤ 1 ∧ 0 ≤ hi64 (k1 V + k1 W + hi64 (k0 V + k0 W)) ∧ hi64 (k1 V + k1 W + hi64 (k0 V + k0 W)) ≤ 1 := by
  have hv := k_parts V
  have hw := k_parts W
  obtain ⟨a1, a2⟩ := k0_bound V
  obtain ⟨b1, b2⟩ := k0_bound W
  obtain ⟨c1, c2⟩ := k1_bound V
  obtain ⟨d1, d2⟩ := k1_bound W
  obtain ⟨e1, e2⟩ := k2_bound V
  obtain ⟨f1, f2⟩ := k2_bound W
  have h0 := hl64 (k0 V + k0 W)
  have l0 := lo64_bound (k0 V + k0 W)
  have g0 : 0 ≤ hi64 (k0 V + k0 W) ∧ hi64 (k0 V + k0 W) ≤ 1 := by unfold hi64; omega
  have h1 := hl64 (k1 V + k1 W + hi64 (k0 V + k0 W))
  have l1 := lo64_bound (k1 V + k1 W + hi64 (k0 V + k0 W))
  have g1 : 0 ≤ hi64 (k1 V + k1 W + hi64 (k0 V + k0 W)) ∧ hi64 (k1 V + k1 W + hi64 (k0 V + k0 W)) ≤ 1 := by
    generalize hi64 (k0 V + k0 W) = t at *
    unfold hi64; omega
  have h2 := hl64 (k2 V + k2 W + hi64 (k1 V + k1 W + hi64 (k0 V + k0 W)))
  have l2 := lo64_bound (k2 V + k2 W + hi64 (k1 V + k1 W + hi64 (k0 V + k0 W)))
  have h := k_of (V := V + W) (a0 := lo64 (k0 V + k0 W)) (a1 := lo64 (k1 V + k1 W + hi64 (k0 V + k0 W))) (a2 := lo64 (k2 V + k2 W + hi64 (k1 V + k1 W + hi64 (k0 V + k0 W))))
    (K := V / 6277101735386680763835789423207666416102355444464034512896 + W / 6277101735386680763835789423207666416102355444464034512896 + hi64 (k2 V + k2 W + hi64 (k1 V + k1 W + hi64 (k0 V + k0 W)))) (by omega) l0.1 l0.2 l1.1 l1.2 l2.1 l2.2
  exact ⟨h.1.symm, h.2.1.symm, h.2.2.symm, g0.1, g0.2, g1.1, g1.2⟩
/-- Times a word. -/
theorem mul_k (V m : Int) : lo64 (k0 V * m) = k0 (V * m) ∧ lo64 (hi64 (k0 V * m) + lo64 (k1 V * m)) = k1 (V * m) ∧
    (hi64 (k1 V * m) + k2 V * m + hi64 (hi64 (k0 V * m) + lo64 (k1 V * m))) % 18446744073709551616 = k2 (V * m) := by
  have e := k_parts V
  have e2 : V * m = k0 V * m + k1 V * m * 18446744073709551616 + k2 V * m * 340282366920938463463374607431768211456 + V / 6277101735386680763835789423207666416102355444464034512896 * m * 6277101735386680763835789423207666416102355444464034512896 := by
    have h : V * m = (k0 V + k1 V * 18446744073709551616 + k2 V * 340282366920938463463374607431768211456 + V / 6277101735386680763835789423207666416102355444464034512896 * 6277101735386680763835789423207666416102355444464034512896) * m := by rw [← e]
    rw [h, Int.add_mul, Int.add_mul, Int.add_mul, Int.mul_right_comm, Int.mul_right_comm (k2 V), Int.mul_right_comm (V / _)]
  rw [e2]
  generalize k0 V * m = A0
  generalize k1 V * m = A1
  generalize k2 V * m = A2
  generalize V / 6277101735386680763835789423207666416102355444464034512896 * m = K
  have h0 := hl64 A0
  have l0 := lo64_bound A0
  have h1 := hl64 A1
  have l1 := lo64_bound A1
  have h2 := hl64 (hi64 A0 + lo64 A1)
  have l2 := lo64_bound (hi64 A0 + lo64 A1)
  have h3 := hl64 (hi64 A1 + A2 + hi64 (hi64 A0 + lo64 A1))
  have l3 := lo64_bound (hi64 A1 + A2 + hi64 (hi64 A0 + lo64 A1))
  have h := k_of (V := A0 + A1 * 18446744073709551616 + A2 * 340282366920938463463374607431768211456 + K * 6277101735386680763835789423207666416102355444464034512896) (a0 := lo64 A0) (a1 := lo64 (hi64 A0 + lo64 A1)) (a2 := lo64 (hi64 A1 + A2 + hi64 (hi64 A0 + lo64 A1)))
    (K := K + hi64 (hi64 A1 + A2 + hi64 (hi64 A0 + lo64 A1))) (by omega) l0.1 l0.2 l2.1 l2.2 l3.1 l3.2
  exact ⟨h.1.symm, h.2.1.symm, h.2.2.symm⟩
/-- An int64 in two's complement. -/
theorem word_k {n : Int} (n1 : -9223372036854775808 ≤ n) (n2 : n ≤ 9223372036854775807) :
    (0 ≤ n → k0 n = n ∧ k1 n = 0 ∧ k2 n = 0) ∧ (n < 0 → k0 n = n + 18446744073709551616 ∧ k1 n = 18446744073709551615 ∧ k2 n = 18446744073709551615) := by
  unfold k0 k1 k2
  exact ⟨fun _ => ⟨by omega, by omega, by omega⟩, fun _ => ⟨by omega, by omega, by omega⟩⟩
/-- A product of three parts stays within 2^189. -/
theorem tri_bound {n a b : Int} (n1 : -9223372036854775808 ≤ n) (n2 : n ≤ 9223372036854775808) (a0 : 0 ≤ a) (a1 : a ≤ 9223372036854775808) (b0 : 0 ≤ b) (b1 : b ≤ 9223372036854775808) :
    -784637716923335095479473677900958302012794430558004314112 ≤ n * a * b ∧ n * a * b ≤ 784637716923335095479473677900958302012794430558004314112 := by
  have h := mul_bound (x := n * a) (y := b) (A := 9223372036854775808 * 9223372036854775808) (B := 9223372036854775808) (mul_bound (by omega) (by omega)) (by omega)
  omega
end Go.Proofs.Ymbrdd
