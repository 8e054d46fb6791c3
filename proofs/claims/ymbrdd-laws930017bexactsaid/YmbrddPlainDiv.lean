/-
  THE PLAIN MATHEMATICS under math/bits.Div64: one digit of Knuth's division, base 2^32. No Go in this text.
-/
import Derived.Lib.BitFns
namespace Go.Proofs.Ymbrdd

/-- What holds of the trial quotient q and its rest r at the head of the correcting loop. -/
structure QI (u w v1 v0 q r : Int) : Prop where
  eq : q * v1 + r = u
  r0 : 0 ≤ r
  r1 : r < 4294967296
  q0 : 0 ≤ q
  q1 : q ≤ 4294967297
  hi : (u * 4294967296 + w) / (v1 * 4294967296 + v0) ≤ q

theorem digit_diff {u w v1 v0 q r : Int} (h : q * v1 + r = u) : u * 4294967296 + w - q * (v1 * 4294967296 + v0) = 4294967296 * r + w - q * v0 := by
  have e : q * (v1 * 4294967296 + v0) = q * v1 * 4294967296 + q * v0 := by rw [Int.mul_add, Int.mul_assoc]
  rw [e, ← h]; omega

/-- u, w, v1, v0: what is divided, its next digit, the divisor's two digits. -/
structure DG (u w v1 v0 : Int) : Prop where
  u0 : 0 ≤ u
  u1 : u < v1 * 4294967296 + v0
  w0 : 0 ≤ w
  w1 : w < 4294967296
  a0 : 2147483648 ≤ v1
  a1 : v1 < 4294967296
  b0 : 0 ≤ v0
  b1 : v0 < 4294967296

theorem QI.init {u w v1 v0 : Int} (D : DG u w v1 v0) : QI u w v1 v0 (u / v1) (u - u / v1 * v1) := by
  obtain ⟨u0, u1, w0, w1, a0, a1, b0, b1⟩ := D
  have h1 := Int.emod_nonneg u (b := v1) (by omega)
  have h2 := Int.emod_lt_of_pos u (b := v1) (by omega)
  have h3 := Int.emod_add_mul_ediv u v1
  rw [Int.mul_comm v1] at h3
  have q0 : 0 ≤ u / v1 := Int.ediv_nonneg u0 (by omega)
  refine ⟨by omega, by omega, by omega, q0, ?_, ?_⟩
  · have : u / v1 < 4294967298 := Int.ediv_lt_of_lt_mul (by omega) (by omega)
    omega
  · have hY : 0 < v1 * 4294967296 + v0 := by omega
    have h4 : (u * 4294967296 + w) / (v1 * 4294967296 + v0) < u / v1 + 1 := by
      refine Int.ediv_lt_of_lt_mul hY ?_
      have e : (u / v1 + 1) * (v1 * 4294967296 + v0) = u / v1 * v1 * 4294967296 + v1 * 4294967296 + (u / v1 + 1) * v0 := by
        rw [Int.mul_add, ← Int.mul_assoc, Int.add_mul (u / v1) 1 v1, Int.one_mul, Int.add_mul (u / v1 * v1)]
      have h5 : 0 ≤ (u / v1 + 1) * v0 := Int.mul_nonneg (by omega) b0
      rw [e]
      omega
    omega

theorem quo_lt {u w v1 v0 : Int} (D : DG u w v1 v0) : 0 ≤ (u * 4294967296 + w) / (v1 * 4294967296 + v0) ∧ (u * 4294967296 + w) / (v1 * 4294967296 + v0) < 4294967296 := by
  obtain ⟨u0, u1, w0, w1, a0, a1, b0, b1⟩ := D
  refine ⟨Int.ediv_nonneg (by omega) (by omega), Int.ediv_lt_of_lt_mul (by omega) ?_⟩
  omega

theorem QI.done {u w v1 v0 q r : Int} (D : DG u w v1 v0) (h : QI u w v1 v0 q r) (ht : q * v0 ≤ 4294967296 * r + w) : q = (u * 4294967296 + w) / (v1 * 4294967296 + v0) := by
  have hd := digit_diff (w := w) (v0 := v0) h.eq
  have hle : q ≤ (u * 4294967296 + w) / (v1 * 4294967296 + v0) := by
    rw [Int.le_ediv_iff_mul_le (by have := D.a0; have := D.b0; omega)]
    omega
  have := h.hi
  omega

/-- A round: the trial quotient is too great. -/
theorem QI.step {u w v1 v0 q r : Int} (D : DG u w v1 v0) (h : QI u w v1 v0 q r) (ht : 4294967296 ≤ q ∨ 4294967296 * r + w < q * v0) :
    (q - 1) * v1 + (r + v1) = u ∧ 1 ≤ q ∧ (u * 4294967296 + w) / (v1 * 4294967296 + v0) ≤ q - 1 := by
  have hY : 0 < v1 * 4294967296 + v0 := by have := D.a0; have := D.b0; omega
  have hq := quo_lt D
  have hlt : (u * 4294967296 + w) / (v1 * 4294967296 + v0) < q := by
    rcases ht with h1 | h1
    · omega
    · have hd := digit_diff (w := w) (v0 := v0) h.eq
      refine Int.ediv_lt_of_lt_mul hY ?_
      omega
  refine ⟨?_, by omega, by omega⟩
  have := h.eq
  rw [Int.sub_mul, Int.one_mul]; omega

theorem QI.next {u w v1 v0 q r : Int} (D : DG u w v1 v0) (h : QI u w v1 v0 q r) (ht : 4294967296 ≤ q ∨ 4294967296 * r + w < q * v0) (hr : r + v1 < 4294967296) : QI u w v1 v0 (q - 1) (r + v1) := by
  obtain ⟨s1, s2, s3⟩ := h.step D ht
  have := h.r0; have := D.a0; have := h.q1
  exact ⟨s1, by omega, hr, by omega, by omega, s3⟩

/-- The loop is left by its 'break'. -/
theorem QI.brk {u w v1 v0 q r : Int} (D : DG u w v1 v0) (h : QI u w v1 v0 q r) (ht : 4294967296 ≤ q ∨ 4294967296 * r + w < q * v0) (hr : 4294967296 ≤ r + v1) :
    q - 1 = (u * 4294967296 + w) / (v1 * 4294967296 + v0) := by
  obtain ⟨s1, s2, s3⟩ := h.step D ht
  have hd := digit_diff (w := w) (v0 := v0) s1
  have hb : (q - 1) * v0 ≤ 4294967296 * 4294967295 := by
    have := h.q1
    exact Int.mul_le_mul (by omega) (by have := D.b1; omega) D.b0 (by decide)
  have hle : q - 1 ≤ (u * 4294967296 + w) / (v1 * 4294967296 + v0) := by
    rw [Int.le_ediv_iff_mul_le (by have := D.a0; have := D.b0; omega)]
    have := D.w0
    omega
  omega

/-! ### The number of bits -/
theorem bitLen_bounds : ∀ (f x : Nat), x < 2 ^ f → x ≠ 0 → 1 ≤ Lib.bitLenAux f x ∧ 2 ^ (Lib.bitLenAux f x - 1) ≤ x ∧ x < 2 ^ Lib.bitLenAux f x
  | 0, x, h, h0 => by simp at h; exact absurd h h0
  | f + 1, x, h, h0 => by
    unfold Lib.bitLenAux
    rw [if_neg h0]
    by_cases h1 : x / 2 = 0
    · have hx : x = 1 := by omega
      subst hx
      have e : Lib.bitLenAux f (1 / 2) = 0 := by cases f <;> simp [Lib.bitLenAux]
      rw [e]; decide
    · have hf : x / 2 < 2 ^ f := by rw [Nat.pow_succ] at h; omega
      obtain ⟨i1, i2, i3⟩ := bitLen_bounds f (x / 2) hf h1
      generalize Lib.bitLenAux f (x / 2) = k at *
      have e1 : 2 ^ (1 + k - 1) = 2 * 2 ^ (k - 1) := by
        rw [show 1 + k - 1 = (k - 1) + 1 by omega, Nat.pow_succ]; omega
      have e2 : 2 ^ (1 + k) = 2 * 2 ^ k := by rw [Nat.add_comm, Nat.pow_succ]; omega
      rw [e1, e2]
      refine ⟨by omega, by omega, by omega⟩

/-- The shift that normalises y. -/
theorem norm_shift {y : Int} (h0 : 0 < y) (h1 : y ≤ 18446744073709551615) : ∃ S : Nat, (64 - (Lib.bitLen y.toNat : Int)) = S ∧ S ≤ 63 ∧
    9223372036854775808 ≤ y * 2 ^ S ∧ y * 2 ^ S ≤ 18446744073709551615 ∧ (2 : Int) ^ S * 2 ^ (64 - S) = 18446744073709551616 := by
  obtain ⟨n, rfl⟩ := Int.eq_ofNat_of_zero_le (show 0 ≤ y by omega)
  have hb := bitLen_bounds 64 n (by omega) (by omega)
  have hl := Lib.bitLen_le n 64 (by omega) (by omega)
  have hd : Lib.bitLen n = Lib.bitLenAux 64 n := rfl
  rw [← hd] at hb
  simp only [Int.toNat_natCast]
  generalize Lib.bitLen n = k at *
  obtain ⟨b1, b2, b3⟩ := hb
  have hc : ((n * 2 ^ (64 - k) : Nat) : Int) = (n : Int) * 2 ^ (64 - k) := by rw [Int.natCast_mul, Int.natCast_pow]; rfl
  refine ⟨64 - k, by omega, by omega, ?_, ?_, ?_⟩
  · have e : (2 : Nat) ^ (k - 1) * 2 ^ (64 - k) = 9223372036854775808 := by rw [← Nat.pow_add, show k - 1 + (64 - k) = 63 by omega]
    have := Nat.mul_le_mul_right (2 ^ (64 - k)) b2
    rw [e] at this
    rw [← hc]
    generalize n * 2 ^ (64 - k) = z at *
    omega
  · have e : (2 : Nat) ^ k * 2 ^ (64 - k) = 18446744073709551616 := by rw [← Nat.pow_add, show k + (64 - k) = 64 by omega]
    have hp : 0 < 2 ^ (64 - k) := Nat.pow_pos (by omega)
    have := Nat.mul_lt_mul_of_pos_right b3 hp
    rw [e] at this
    rw [← hc]
    generalize n * 2 ^ (64 - k) = z at *
    omega
  · rw [← Int.pow_add, show 64 - k + (64 - (64 - k)) = 64 by omega]; rfl

/-! ### The normalised dividend -/
/-- hi, lo shifted up by S: U * 2^64 + V. -/
theorem norm_dividend {hi lo y M K : Int} (h1 : hi < y) (l0 : 0 ≤ lo) (l1 : lo ≤ 18446744073709551615) (hM : 0 < M) (hMK : M * K = 18446744073709551616) :
    (hi * 18446744073709551616 + lo) * M = (hi * M + lo / K) * 18446744073709551616 + lo * M % 18446744073709551616 ∧ 0 ≤ lo / K ∧ lo / K < M ∧ hi * M + lo / K < y * M := by
  have hK : 0 < K := by
    rcases Int.lt_or_le 0 K with h | h
    · exact h
    · have := Int.mul_le_mul_of_nonneg_left h (Int.le_of_lt hM); omega
  have e1 := Int.emod_add_mul_ediv lo K
  have e2 := Int.emod_nonneg lo (b := K) (by omega)
  have e3 := Int.emod_lt_of_pos lo (b := K) hK
  have q0 : 0 ≤ lo / K := Int.ediv_nonneg l0 (by omega)
  have q1 : lo / K < M := Int.ediv_lt_of_lt_mul hK (by rw [hMK]; omega)
  have e4 : lo * M = lo / K * 18446744073709551616 + lo % K * M := by
    have : lo * M = (lo % K + K * (lo / K)) * M := by rw [e1]
    rw [this, Int.add_mul, Int.mul_comm K, Int.mul_assoc, Int.mul_comm K M, hMK]; omega
  have e5 : 0 ≤ lo % K * M := Int.mul_nonneg e2 (by omega)
  have e6 : lo % K * M < 18446744073709551616 := by
    have := Int.mul_lt_mul_of_pos_right e3 hM
    rw [Int.mul_comm K M, hMK] at this; exact this
  have e7 : lo * M % 18446744073709551616 = lo % K * M := by omega
  refine ⟨?_, q0, q1, ?_⟩
  · rw [e7, Int.add_mul, e4, Int.mul_right_comm, Int.add_mul]; omega
  · have := Int.mul_le_mul_of_nonneg_right (show hi + 1 ≤ y by omega) (Int.le_of_lt hM)
    rw [Int.add_mul, Int.one_mul] at this
    omega

/-- The two digits put together. -/
theorem div64_final {X y M U c1 c0 Y Q1 R1 Q0 R0 : Int} (hy : 0 < y) (hM : 0 < M) (hX : X * M = U * 18446744073709551616 + (c1 * 4294967296 + c0)) (hY : y * M = Y)
    (hQ1 : Q1 = (U * 4294967296 + c1) / Y) (hR1 : R1 = (U * 4294967296 + c1) % Y) (hQ0 : Q0 = (R1 * 4294967296 + c0) / Y) (hR0 : R0 = (R1 * 4294967296 + c0) % Y) :
    Q1 * 4294967296 + Q0 = X / y ∧ R0 / M = X % y := by
  have hYp : 0 < Y := by rw [← hY]; exact Int.mul_pos hy hM
  have e1 := Int.emod_add_mul_ediv (U * 4294967296 + c1) Y
  have e2 := Int.emod_add_mul_ediv (R1 * 4294967296 + c0) Y
  rw [← hQ1, ← hR1] at e1
  rw [← hQ0, ← hR0] at e2
  have r0 : 0 ≤ R0 := by rw [hR0]; exact Int.emod_nonneg _ (by omega)
  have r1 : R0 < Y := by rw [hR0]; exact Int.emod_lt_of_pos _ hYp
  have key : R0 + Y * (Q1 * 4294967296 + Q0) = X * M := by
    have : Y * (Q1 * 4294967296 + Q0) = Y * Q1 * 4294967296 + Y * Q0 := by rw [Int.mul_add, Int.mul_assoc]
    rw [hX, this]; omega
  have u := (Int.ediv_emod_unique (a := X * M) (b := Y) (r := R0) (q := Q1 * 4294967296 + Q0) hYp).mpr ⟨key, r0, r1⟩
  rw [← hY, Int.mul_ediv_mul_of_pos_left _ _ hM, Int.mul_comm X M, Int.mul_comm y M, Int.mul_emod_mul_of_pos _ _ hM] at u
  refine ⟨u.1.symm, ?_⟩
  rw [← u.2]
  exact Int.mul_ediv_cancel_left _ (by omega)
end Go.Proofs.Ymbrdd
