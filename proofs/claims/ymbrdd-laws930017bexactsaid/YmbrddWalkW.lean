/-
  THE WALKS (seat d): bdivmod (shift and subtract over 128 bits), bgcdwide (Euclid over it).
-/
import Derived.Test.YmbrddWalkDv
namespace Go.Proofs.Ymbrdd
open Go.RowKit

/-- The state of the long division with k bits to come: the register X, quotient Q, rest R. -/
def DI (N D : Int) (k : Nat) (X Q R : Int) : Prop := ∃ K T Z : Int, 0 < K ∧ K * 2 ^ k = 340282366920938463463374607431768211456 ∧ N = T * 2 ^ k + Z ∧ 0 ≤ Z ∧ Z < 2 ^ k ∧
  X = Z * K ∧ T = Q * D + R ∧ 0 ≤ R ∧ R < D ∧ 0 ≤ Q ∧ T < K
theorem DI.init {N D : Int} (h0 : 0 ≤ N) (h1 : N < 340282366920938463463374607431768211456) (hD : 0 < D) : DI N D 128 N 0 0 :=
  ⟨1, 0, N, by decide, by decide, by omega, h0, by exact h1, by omega, by omega, by omega, hD, by omega, by omega⟩
theorem DI.final {N D X Q R : Int} (h : DI N D 0 X Q R) : N / D = Q ∧ N % D = R := by
  obtain ⟨K, T, Z, h1, h2, h3, h4, h5, h6, h7, h8, h9, h10, h11⟩ := h
  simp only [Int.pow_zero] at h3 h5
  have e : N = R + D * Q := by rw [Int.mul_comm D Q]; omega
  refine ⟨?_, ?_⟩
  · rw [e, Int.add_mul_ediv_left _ _ (by omega), Int.ediv_eq_zero_of_lt h8 h9]; omega
  · rw [e, Int.add_mul_emod_self_left]; exact Int.emod_eq_of_lt h8 h9
theorem DI.step {N D X Q R : Int} {k : Nat} (h : DI N D (k + 1) X Q R) (hD : 1 ≤ D) :
    ∃ b : Int, (b = 0 ∨ b = 1) ∧ b = X / 170141183460469231731687303715884105728 ∧ 0 ≤ X ∧ X < 340282366920938463463374607431768211456 ∧ 2 * Q + 1 < 340282366920938463463374607431768211456 ∧ 0 ≤ Q ∧ 0 ≤ R ∧ R < D ∧
      (2 * R + b < D → DI N D k (2 * X - b * 340282366920938463463374607431768211456) (2 * Q) (2 * R + b)) ∧
      (D ≤ 2 * R + b → DI N D k (2 * X - b * 340282366920938463463374607431768211456) (2 * Q + 1) (2 * R + b - D)) := by
  obtain ⟨K, T, Z, h1, h2, h3, h4, h5, h6, h7, h8, h9, h10, h11⟩ := h
  have hm : (0 : Int) < 2 ^ k := Int.pow_pos (by decide)
  rw [Int.pow_succ] at h2 h3 h5
  generalize hmv : (2 : Int) ^ k = m at *
  rw [← Int.mul_assoc] at h2 h3
  have hKm : K * m = 170141183460469231731687303715884105728 := by omega
  have hK2 : K ≤ K * m := by
    have := Int.mul_le_mul_of_nonneg_left (show (1 : Int) ≤ m by omega) (show 0 ≤ K by omega)
    omega
  have hQ : Q ≤ Q * D := by
    have := Int.mul_le_mul_of_nonneg_left hD h10
    omega
  have hX0 : 0 ≤ X := by rw [h6]; exact Int.mul_nonneg h4 (by omega)
  have hK2m : 2 * K * m = 340282366920938463463374607431768211456 := by rw [Int.mul_assoc]; omega
  have hT : ∀ b : Int, N = T * m * 2 + b * m + (Z - b * m) := fun b => by omega
  have key : ∀ b : Int, (b = 0 ∨ b = 1) → 0 ≤ Z - b * m → Z - b * m < m → 
      (2 * R + b < D → DI N D k (2 * X - b * 340282366920938463463374607431768211456) (2 * Q) (2 * R + b)) ∧
      (D ≤ 2 * R + b → DI N D k (2 * X - b * 340282366920938463463374607431768211456) (2 * Q + 1) (2 * R + b - D)) := by
    intro b hb z0 z1
    have eN : N = (2 * T + b) * m + (Z - b * m) := by
      rw [Int.add_mul, Int.mul_assoc]; have := hT b; omega
    have eX : 2 * X - b * 340282366920938463463374607431768211456 = (Z - b * m) * (2 * K) := by
      rw [Int.sub_mul, Int.mul_left_comm Z 2 K, ← h6, Int.mul_assoc b m, Int.mul_comm m (2 * K), hK2m]
    have eT : 2 * T + b = 2 * Q * D + (2 * R + b) := by rw [Int.mul_assoc]; omega
    have eT2 : 2 * T + b = (2 * Q + 1) * D + (2 * R + b - D) := by rw [Int.add_mul, Int.mul_assoc, Int.one_mul]; omega
    exact ⟨fun hl => ⟨2 * K, 2 * T + b, Z - b * m, by omega, by rw [hmv]; exact hK2m, by rw [hmv]; exact eN, z0, by rw [hmv]; exact z1, eX, eT, by omega, hl, by omega, by omega⟩,
      fun hl => ⟨2 * K, 2 * T + b, Z - b * m, by omega, by rw [hmv]; exact hK2m, by rw [hmv]; exact eN, z0, by rw [hmv]; exact z1, eX, eT2, by omega, by omega, by omega, by omega⟩⟩
  have hmK : m * K = 170141183460469231731687303715884105728 := by rw [Int.mul_comm]; exact hKm
  rcases Int.lt_or_le Z m with hz | hz
  · have hx : X < 170141183460469231731687303715884105728 := by
      rw [h6, ← hmK]; exact Int.mul_lt_mul_of_pos_right hz h1
    exact ⟨0, Or.inl rfl, by omega, hX0, by omega, by omega, h10, h8, h9, key 0 (Or.inl rfl) (by omega) (by omega)⟩
  · have hx : 170141183460469231731687303715884105728 ≤ X := by
      rw [h6, ← hmK]; exact Int.mul_le_mul_of_nonneg_right hz (by omega)
    have hx2 : X < 340282366920938463463374607431768211456 := by
      have := Int.mul_lt_mul_of_pos_right h5 h1
      rw [Int.mul_right_comm m 2 K, hmK] at this
      omega
    exact ⟨1, Or.inr rfl, by omega, hX0, hx2, by omega, h10, h8, h9, key 1 (Or.inr rfl) (by omega) (by omega)⟩

theorem or_bit {x b : Int} (b0 : 0 ≤ b) (b1 : b ≤ 1) : bits .or .u64 (IntKind.u64.wrap (x * 2)) b = x * 2 % 18446744073709551616 + b := by
  have h := or_add (x % 9223372036854775808) b 1 (by omega) (by omega) b0 (by omega) (by omega) (by omega)
  have e : IntKind.u64.wrap (x * 2) = x % 9223372036854775808 * 2 ^ 1 := by rw [IntKind.wrap_u64]; omega
  rw [e, h]; omega

/-- One step of the long division, word by word, as the Go text computes it. -/
theorem div_words {N nh nl qh ql rh rl dh dl : Int} {k : Nat} (h : DI N (dh * 18446744073709551616 + dl) (k + 1) (nh * 18446744073709551616 + nl) (qh * 18446744073709551616 + ql) (rh * 18446744073709551616 + rl))
    (b0 : 0 ≤ nl) (b1 : nl ≤ 18446744073709551615) (e0 : 0 ≤ ql) (e1 : ql ≤ 18446744073709551615)
    (g0 : 0 ≤ rl) (g1 : rl ≤ 18446744073709551615) (j0 : 0 ≤ dl) (j1 : dl ≤ 18446744073709551615)
    (hD : 1 ≤ dh * 18446744073709551616 + dl) (hD2 : dh * 18446744073709551616 + dl ≤ 170141183460469231731687303715884105728) :
    ∃ RH RL NH NL QH QL : Int, bits .or .u64 (IntKind.u64.wrap (rh * 2)) (rl / 9223372036854775808) = RH ∧ bits .or .u64 (IntKind.u64.wrap (rl * 2)) (nh / 9223372036854775808) = RL ∧
      bits .or .u64 (IntKind.u64.wrap (nh * 2)) (nl / 9223372036854775808) = NH ∧ IntKind.u64.wrap (nl * 2) = NL ∧ bits .or .u64 (IntKind.u64.wrap (qh * 2)) (ql / 9223372036854775808) = QH ∧ IntKind.u64.wrap (ql * 2) = QL ∧
      bits .or .u64 QL 1 = QL + 1 ∧
      (0 ≤ RH ∧ RH ≤ 18446744073709551615) ∧ (0 ≤ RL ∧ RL ≤ 18446744073709551615) ∧ (0 ≤ NH ∧ NH ≤ 18446744073709551615) ∧ (0 ≤ NL ∧ NL ≤ 18446744073709551615) ∧ (0 ≤ QH ∧ QH ≤ 18446744073709551615) ∧ (0 ≤ QL ∧ QL + 1 ≤ 18446744073709551615) ∧
      (RH < dh ∨ RH = dh ∧ RL < dl → DI N (dh * 18446744073709551616 + dl) k (NH * 18446744073709551616 + NL) (QH * 18446744073709551616 + QL) (RH * 18446744073709551616 + RL)) ∧
      (dh < RH ∨ RH = dh ∧ dl ≤ RL → DI N (dh * 18446744073709551616 + dl) k (NH * 18446744073709551616 + NL) (QH * 18446744073709551616 + (QL + 1)) ((RH * 18446744073709551616 + RL) - (dh * 18446744073709551616 + dl))) := by
  obtain ⟨b, hb, hbx, x0, x1, q1, q0, r0, r1, S1, S2⟩ := h.step hD
  refine ⟨_, _, _, _, _, _, or_bit (by omega) (by omega), or_bit (by omega) (by omega), or_bit (by omega) (by omega), IntKind.wrap_u64 _, or_bit (by omega) (by omega), IntKind.wrap_u64 _, ?_, ?_⟩
  · have h := or_add (ql % 9223372036854775808) 1 1 (by omega) (by omega) (by omega) (by omega) (by omega) (by omega)
    have e : ql * 2 % 18446744073709551616 = ql % 9223372036854775808 * 2 ^ 1 := by omega
    rw [e, h]
  · have eb : b = nh / 9223372036854775808 := by omega
    have eX : 2 * (nh * 18446744073709551616 + nl) - b * 340282366920938463463374607431768211456 = (nh * 2 % 18446744073709551616 + nl / 9223372036854775808) * 18446744073709551616 + nl * 2 % 18446744073709551616 := by omega
    have eQ : 2 * (qh * 18446744073709551616 + ql) = (qh * 2 % 18446744073709551616 + ql / 9223372036854775808) * 18446744073709551616 + ql * 2 % 18446744073709551616 := by omega
    have eR : 2 * (rh * 18446744073709551616 + rl) + b = (rh * 2 % 18446744073709551616 + rl / 9223372036854775808) * 18446744073709551616 + (rl * 2 % 18446744073709551616 + nh / 9223372036854775808) := by omega
    rw [eX, eQ, eR] at S1 S2
    refine ⟨by omega, by omega, by omega, by omega, by omega, by omega, fun hl => S1 (by omega), fun hl => ?_⟩
    rw [← Int.add_assoc]
    exact S2 (by omega)
end Go.Proofs.Ymbrdd
