/-
  THE PLAIN MATHEMATICS of the seat: greatest common divisors over Int, fractions in lowest terms. No Go in this text.
-/
namespace Go.Proofs.Ymbrdd

/-- |n|. -/
def magZ (n : Int) : Int := if n < 0 then -n else n
theorem magZ_neg {n : Int} (h : n < 0) : magZ n = -n := if_pos h
theorem magZ_pos {n : Int} (h : 0 ≤ n) : magZ n = n := if_neg (by omega)
theorem magZ_nonneg (n : Int) : 0 ≤ magZ n := by unfold magZ; split <;> omega
theorem magZ_le {n : Int} (h0 : -9223372036854775808 ≤ n) (h1 : n ≤ 9223372036854775807) : magZ n ≤ 9223372036854775808 := by unfold magZ; split <;> omega
theorem magZ_natAbs (n : Int) : magZ n = n.natAbs := by unfold magZ; split <;> omega
theorem magZ_negate (n : Int) : magZ (-n) = magZ n := by rw [magZ_natAbs, magZ_natAbs, Int.natAbs_neg]

/-- The greatest common divisor, as an Int. -/
def gz (a b : Int) : Int := (Int.gcd a b : Nat)
theorem gz_nonneg (a b : Int) : 0 ≤ gz a b := Int.natCast_nonneg _
theorem gz_zero (a : Int) (h : 0 ≤ a) : gz a 0 = a := by unfold gz; simp; omega
theorem gz_zero_left (a : Int) (h : 0 ≤ a) : gz 0 a = a := by unfold gz; simp; omega
theorem gz_comm (a b : Int) : gz a b = gz b a := by unfold gz; rw [Int.gcd_comm]
theorem gz_emod (a b : Int) : gz b (a % b) = gz a b := by
  unfold gz
  rw [Int.emod_def, Int.gcd_sub_mul_left_right, Int.gcd_comm]
theorem gz_tmod (a b : Int) : gz b (a.tmod b) = gz a b := by
  unfold gz
  have e : a.tmod b = a - b * a.tdiv b := Int.tmod_def a b
  rw [e, Int.gcd_sub_mul_left_right, Int.gcd_comm]
theorem gz_mag_left (a b : Int) : gz (magZ a) b = gz a b := by
  unfold gz magZ; split
  · rw [Int.neg_gcd]
  · rfl
theorem gz_neg_left (a b : Int) : gz (-a) b = gz a b := by unfold gz; simp
theorem gz_dvd_left (a b : Int) : gz a b ∣ a := Int.gcd_dvd_left ..
theorem gz_dvd_right (a b : Int) : gz a b ∣ b := Int.gcd_dvd_right ..
theorem dvd_gz {d a b : Int} (h1 : d ∣ a) (h2 : d ∣ b) : d ∣ gz a b := Int.dvd_coe_gcd h1 h2
theorem gz_pos_right {a b : Int} (h : b ≠ 0) : 0 < gz a b := by
  have h1 := gz_nonneg a b
  have h2 := gz_dvd_right a b
  rcases Int.lt_or_eq_of_le h1 with h3 | h3
  · exact h3
  · rw [← h3] at h2; exact absurd (Int.zero_dvd.mp h2) h
theorem gz_pos_left {a b : Int} (h : a ≠ 0) : 0 < gz a b := by rw [gz_comm]; exact gz_pos_right h
theorem gz_le_right {a b : Int} (h : 0 < b) : gz a b ≤ b := Int.le_of_dvd h (gz_dvd_right a b)
theorem gz_le_left {a b : Int} (h : 0 < a) : gz a b ≤ a := Int.le_of_dvd h (gz_dvd_left a b)
theorem gz_eq_zero {a b : Int} (h : gz a b = 0) : a = 0 ∧ b = 0 := by
  unfold gz at h
  have : Int.gcd a b = 0 := by omega
  exact Int.gcd_eq_zero_iff.mp this
/-- What characterises it. -/
theorem gz_unique {a b g : Int} (h0 : 0 ≤ g) (h1 : g ∣ a) (h2 : g ∣ b) (h3 : ∀ d, d ∣ a → d ∣ b → d ∣ g) : gz a b = g := by
  refine Int.dvd_antisymm (gz_nonneg a b) h0 (h3 _ (gz_dvd_left a b) (gz_dvd_right a b)) (dvd_gz h1 h2)
theorem gz_mul (k a b : Int) (hk : 0 ≤ k) : gz (a * k) (b * k) = gz a b * k := by
  unfold gz
  rw [Int.gcd_mul_right]
  simp; rw [show (k.natAbs : Int) = k by omega]
/-- Coprime parts. -/
theorem dvd_of_gz_one {a b c : Int} (h : gz a b = 1) (h1 : a ∣ b * c) : a ∣ c := by
  unfold gz at h
  have h' : Int.gcd a b = 1 := by omega
  have e := Int.gcd_mul_left_right_of_gcd_eq_one (k := c) h'
  rw [Int.mul_comm c b, Int.gcd_eq_natAbs_left_iff_dvd.mpr h1] at e
  exact Int.gcd_eq_natAbs_left_iff_dvd.mp e.symm
theorem div_coprime {a b : Int} (h : 0 < gz a b) : gz (a / gz a b) (b / gz a b) = 1 := by
  have h1 := Int.ediv_mul_cancel (gz_dvd_left a b)
  have h2 := Int.ediv_mul_cancel (gz_dvd_right a b)
  have h3 := gz_mul (gz a b) (a / gz a b) (b / gz a b) (by omega)
  rw [h1, h2] at h3
  have h4 : gz (a / gz a b) (b / gz a b) * gz a b = 1 * gz a b := by omega
  exact Int.eq_of_mul_eq_mul_right (by omega) h4

/-! ### Fractions in lowest terms -/
def redN (N D : Int) : Int := N / gz N D
def redD (N D : Int) : Int := D / gz N D
theorem redN_mul (N D : Int) : redN N D * gz N D = N := Int.ediv_mul_cancel (gz_dvd_left N D)
theorem redD_mul (N D : Int) : redD N D * gz N D = D := Int.ediv_mul_cancel (gz_dvd_right N D)
theorem redD_pos {N D : Int} (h : 0 < D) : 0 < redD N D := by
  have g := gz_pos_right (a := N) (b := D) (by omega)
  have e := redD_mul N D
  rcases Int.lt_or_le 0 (redD N D) with h1 | h1
  · exact h1
  · have := Int.mul_le_mul_of_nonneg_right h1 (Int.le_of_lt g); omega
theorem red_coprime {N D : Int} (h : 0 < D) : gz (redN N D) (redD N D) = 1 := div_coprime (gz_pos_right (by omega))
theorem red_cross (N D : Int) : redN N D * D = N * redD N D := by
  have e1 := redN_mul N D; have e2 := redD_mul N D
  calc redN N D * D = redN N D * (redD N D * gz N D) := by rw [e2]
    _ = (redN N D * gz N D) * redD N D := by rw [Int.mul_comm (redD N D), Int.mul_assoc]
    _ = N * redD N D := by rw [e1]
/-- A fraction has one form in lowest terms. -/
theorem red_unique {N D p q : Int} (hD : 0 < D) (hq : 0 < q) (hg : gz p q = 1) (hx : p * D = N * q) : redN N D = p ∧ redD N D = q := by
  have h1 : q ∣ D := dvd_of_gz_one (a := q) (b := p) (c := D) (by rw [gz_comm]; exact hg) ⟨N, by rw [hx, Int.mul_comm]⟩
  obtain ⟨k, rfl⟩ := h1
  have hk : 0 < k := by
    rcases Int.lt_or_le 0 k with h | h
    · exact h
    · have := Int.mul_le_mul_of_nonneg_left h (Int.le_of_lt hq); omega
  have hN : N = p * k := by
    have : p * k * q = N * q := by rw [← hx, Int.mul_assoc, Int.mul_comm k q]
    exact (Int.eq_of_mul_eq_mul_right (by omega) this).symm
  have hgz : gz N (q * k) = k := by rw [hN, gz_mul k p q (by omega), hg, Int.one_mul]
  refine ⟨?_, ?_⟩
  · show N / gz N (q * k) = p
    rw [hgz, hN]; exact Int.mul_ediv_cancel _ (by omega)
  · show q * k / gz N (q * k) = q
    rw [hgz]; exact Int.mul_ediv_cancel _ (by omega)
/-- Two coprime fractions that are equal are one. -/
theorem coprime_unique {a b p q : Int} (hb : 0 < b) (hq : 0 < q) (h1 : gz a b = 1) (h2 : gz p q = 1) (hx : p * b = a * q) : a = p ∧ b = q := by
  have r1 := red_unique (N := a) (D := b) hb hq h2 hx
  have r2 := red_unique (N := a) (D := b) hb hb h1 rfl
  exact ⟨r2.1.symm.trans r1.1, r2.2.symm.trans r1.2⟩

/-- A valid fraction: a positive denominator, lowest terms. -/
def validB (n d : Int) : Bool := decide (1 ≤ d ∧ gz n d = 1)
theorem validB_low {n d : Int} (h : d ≤ 0) : validB n d = false := decide_eq_false (by omega)
theorem validB_of {n d : Int} (h : 1 ≤ d) : validB n d = decide (gz n d = 1) := by unfold validB; simp [h]
theorem validB_mk {n d : Int} (h : 1 ≤ d) (h2 : gz n d = 1) : validB n d = true := decide_eq_true ⟨h, h2⟩
theorem validB_no {n d : Int} (h2 : ¬ gz n d = 1) : validB n d = false := decide_eq_false (fun h => h2 h.2)
theorem validB_iff {n d : Int} : validB n d = true ↔ 1 ≤ d ∧ gz n d = 1 := by unfold validB; simp
theorem validB_neg (n d : Int) : validB (-n) d = validB n d := by unfold validB; rw [gz_neg_left]
theorem validB_tmod (n d : Int) : validB (n.tmod d) d = validB n d := by unfold validB; rw [gz_comm (n.tmod d), gz_tmod]
theorem validB_emod (n d : Int) : validB (n % d) d = validB n d := by unfold validB; rw [gz_comm (n % d), gz_emod]
theorem validB_swap {n d : Int} (h1 : 1 ≤ n) (h2 : 1 ≤ d) : validB d n = validB n d := by rw [validB_of h1, validB_of h2, gz_comm]
theorem gz_one_left (d : Int) : gz 1 d = 1 := by unfold gz; simp
theorem gz_pred (d : Int) : gz (d - 1) d = 1 := by
  refine gz_unique (by decide) ⟨d - 1, by omega⟩ ⟨d, by omega⟩ (fun k h1 h2 => ?_)
  have := Int.dvd_sub h2 h1
  rwa [show d - (d - 1) = 1 by omega] at this

/-! ### What fits a Rat -/
def fitB (v d : Int) : Bool := decide (-9223372036854775808 ≤ v ∧ v ≤ 9223372036854775807 ∧ d ≤ 9223372036854775807)
def ratN (v d : Int) : Int := if fitB v d = true then v else 0
def ratD (v d : Int) : Int := if fitB v d = true then d else 0
def sg (neg : Bool) (m : Int) : Int := if neg = true then -m else m
theorem fitB_iff {v d : Int} : fitB v d = true ↔ -9223372036854775808 ≤ v ∧ v ≤ 9223372036854775807 ∧ d ≤ 9223372036854775807 := by unfold fitB; simp
theorem ratN_yes {v d : Int} (h : fitB v d = true) : ratN v d = v := if_pos h
theorem ratD_yes {v d : Int} (h : fitB v d = true) : ratD v d = d := if_pos h
theorem ratN_no {v d : Int} (h : fitB v d = false) : ratN v d = 0 := if_neg (by simp [h])
theorem ratD_no {v d : Int} (h : fitB v d = false) : ratD v d = 0 := if_neg (by simp [h])
theorem ratN_bound (v d : Int) : -9223372036854775808 ≤ ratN v d ∧ ratN v d ≤ 9223372036854775807 := by
  unfold ratN; split
  · rename_i h; have := fitB_iff.mp h; omega
  · omega
theorem ratD_bound (v d : Int) (h : 0 ≤ d) : 0 ≤ ratD v d ∧ ratD v d ≤ 9223372036854775807 := by
  unfold ratD; split
  · rename_i h; have := fitB_iff.mp h; omega
  · omega
theorem sg_true (m : Int) : sg true m = -m := rfl
theorem sg_false (m : Int) : sg false m = m := rfl
theorem sg_zero (b : Bool) : sg b 0 = 0 := by cases b <;> rfl

/-! ### Signs and exact quotients -/
theorem mag_div {n g : Int} (hg : 0 < g) (h : g ∣ n) : magZ n / g = magZ (n / g) := by
  obtain ⟨k, rfl⟩ := h
  rw [Int.mul_ediv_cancel_left _ (by omega)]
  unfold magZ
  rcases Int.lt_or_le k 0 with h | h
  · have : g * k < 0 := Int.mul_neg_of_pos_of_neg hg h
    rw [if_pos this, if_pos h, ← Int.mul_neg, Int.mul_ediv_cancel_left _ (by omega)]
  · have : 0 ≤ g * k := Int.mul_nonneg (by omega) h
    rw [if_neg (by omega), if_neg (by omega), Int.mul_ediv_cancel_left _ (by omega)]
theorem sg_mag (n : Int) : sg (decide (n < 0)) (magZ n) = n := by
  unfold sg magZ
  rcases Int.lt_or_le n 0 with h | h
  · simp [h]
  · simp [show ¬ n < 0 by omega]
theorem gz_mag_mag (n d : Int) : gz (magZ n) (magZ d) = gz n d := by rw [gz_mag_left, gz_comm, gz_mag_left, gz_comm]
theorem mag_gz (n d : Int) : magZ (gz n d) = gz n d := magZ_pos (gz_nonneg n d)
theorem ediv_le_self' {a g : Int} (h : 0 ≤ a) : a / g ≤ a := Int.ediv_le_self g h
theorem ediv_nonneg' {a g : Int} (h : 0 ≤ a) (hg : 0 < g) : 0 ≤ a / g := Int.ediv_nonneg h (by omega)
theorem tdiv_of_nonneg {a : Int} (b : Int) (h : 0 ≤ a) : a.tdiv b = a / b := Int.tdiv_eq_ediv_of_nonneg h
/-- The numerator of n/d over a positive denominator. -/
def mkN (n d : Int) : Int := if d < 0 then -n else n
theorem gz_mkN (n d e : Int) : gz (mkN n d) e = gz n e := by
  unfold mkN; split
  · exact gz_neg_left n e
  · rfl
theorem make_num {n d : Int} (hd : d ≠ 0) : sg (!(decide (n < 0) == decide (d < 0))) (magZ n / gz (magZ n) (magZ d)) = redN (mkN n d) (magZ d) := by
  have hg : gz (mkN n d) (magZ d) = gz (magZ n) (magZ d) := by rw [gz_mkN, gz_mag_left]
  have hp : 0 < gz (magZ n) (magZ d) := gz_pos_right (by have := magZ_natAbs d; omega)
  have hdv : gz (magZ n) (magZ d) ∣ n := by rw [gz_mag_left]; exact gz_dvd_left n _
  unfold redN
  rw [hg, mag_div hp hdv]
  obtain ⟨k, hk⟩ := hdv
  generalize gz (magZ n) (magZ d) = g at *
  subst hk
  rw [Int.mul_ediv_cancel_left _ (by omega)]
  unfold mkN
  rcases Int.lt_or_le k 0 with h1 | h1
  · have h2 : g * k < 0 := Int.mul_neg_of_pos_of_neg hp h1
    rcases Int.lt_or_le d 0 with h3 | h3
    · simp [h2, h3, sg, magZ_neg h1]; rw [← Int.mul_neg, Int.mul_ediv_cancel_left _ (by omega)]
    · simp [h2, show ¬ d < 0 by omega, sg, magZ_neg h1]; rw [Int.mul_ediv_cancel_left _ (by omega)]
  · have h2 : 0 ≤ g * k := Int.mul_nonneg (by omega) h1
    rcases Int.lt_or_le d 0 with h3 | h3
    · simp [show ¬ g * k < 0 by omega, h3, sg, magZ_pos h1]; rw [← Int.mul_neg, Int.mul_ediv_cancel_left _ (by omega)]
    · simp [show ¬ g * k < 0 by omega, show ¬ d < 0 by omega, sg, magZ_pos h1]; rw [Int.mul_ediv_cancel_left _ (by omega)]
theorem make_den (n d : Int) : magZ d / gz (magZ n) (magZ d) = redD (mkN n d) (magZ d) := by
  unfold redD; rw [gz_mkN, gz_mag_left]

/-! ### Products -/
theorem mul_bound {x y : Int} {A B : Nat} (hx : x.natAbs ≤ A) (hy : y.natAbs ≤ B) : (x * y).natAbs ≤ A * B := by
  rw [Int.natAbs_mul]; exact Nat.mul_le_mul hx hy
theorem mag_mul (x y : Int) : magZ (x * y) = magZ x * magZ y := by rw [magZ_natAbs, magZ_natAbs, magZ_natAbs, Int.natAbs_mul]; simp
theorem red_scale {N D k : Int} (hk : 0 < k) : redN (N * k) (D * k) = redN N D ∧ redD (N * k) (D * k) = redD N D := by
  unfold redN redD
  rw [gz_mul k N D (by omega)]
  exact ⟨Int.mul_ediv_mul_of_pos_left _ _ hk, Int.mul_ediv_mul_of_pos_left _ _ hk⟩
theorem mkN_scale {n d f : Int} (hf : f ≠ 0) (hd : d ≠ 0) : mkN (n * f) (d * f) = mkN n d * magZ f := by
  unfold mkN magZ
  rcases Int.lt_or_gt_of_ne hf with h1 | h1 <;> rcases Int.lt_or_gt_of_ne hd with h2 | h2
  · have := Int.mul_pos_of_neg_of_neg h2 h1
    rw [if_neg (by omega), if_pos h2, if_pos h1, Int.neg_mul_neg]
  · have := Int.mul_neg_of_pos_of_neg h2 h1
    rw [if_pos this, if_neg (by omega), if_pos h1, Int.mul_neg]
  · have := Int.mul_neg_of_neg_of_pos h2 h1
    rw [if_pos this, if_pos h2, if_neg (by omega), Int.neg_mul]
  · have := Int.mul_pos h2 h1
    rw [if_neg (by omega), if_neg (by omega), if_neg (by omega)]
theorem red_le (N D : Int) (hD : 0 < D) : (redN N D).natAbs ≤ N.natAbs ∧ redD N D ≤ D := by
  have e1 := redN_mul N D
  have e2 := redD_mul N D
  have hg : 0 < gz N D := gz_pos_right (by omega)
  have hp := redD_pos (N := N) hD
  constructor
  · have : N.natAbs = (redN N D).natAbs * (gz N D).natAbs := by rw [← Int.natAbs_mul, e1]
    rw [this]
    exact Nat.le_mul_of_pos_right _ (by omega)
  · have := Int.mul_le_mul_of_nonneg_left (show 1 ≤ gz N D by omega) (show 0 ≤ redD N D by omega)
    omega
theorem fit_small {N D : Int} (hD : 0 < D) (h1 : -9223372036854775808 < N) (h2 : N < 9223372036854775808) (h3 : D < 9223372036854775808) : fitB (redN N D) (redD N D) = true := by
  have := red_le N D hD
  rw [fitB_iff]; omega
theorem red_self {N D : Int} (hD : 0 < D) (h : gz N D = 1) : redN N D = N ∧ redD N D = D := red_unique hD hD h rfl

/-! ### Words of 64 bits -/
def hi64 (p : Int) : Int := p / 18446744073709551616
def lo64 (p : Int) : Int := p % 18446744073709551616
theorem hl64 (p : Int) : hi64 p * 18446744073709551616 + lo64 p = p := by unfold hi64 lo64; omega
theorem lo64_bound (p : Int) : 0 ≤ lo64 p ∧ lo64 p ≤ 18446744073709551615 := by unfold lo64; omega
theorem hi64_nonneg {p : Int} (h : 0 ≤ p) : 0 ≤ hi64 p := by unfold hi64; omega
theorem mul_le_mul' {a b c d : Int} (h1 : a ≤ c) (h2 : b ≤ d) (h3 : 0 ≤ b) (h4 : 0 ≤ c) : a * b ≤ c * d := Int.mul_le_mul h1 h2 h3 h4
theorem hi64_mul_bound {x y : Int} (x0 : 0 ≤ x) (x1 : x ≤ 18446744073709551615) (y0 : 0 ≤ y) (y1 : y ≤ 18446744073709551615) : 0 ≤ hi64 (x * y) ∧ hi64 (x * y) ≤ 18446744073709551614 := by
  have h1 := Int.mul_nonneg x0 y0
  have h2 := mul_le_mul' x1 y1 y0 (by decide)
  unfold hi64
  omega
theorem hi64_zero_iff {p : Int} (h : 0 ≤ p) : hi64 p = 0 ↔ p ≤ 18446744073709551615 := by unfold hi64; omega
theorem lo64_of_small {p : Int} (h : 0 ≤ p) (h2 : p ≤ 18446744073709551615) : lo64 p = p := by unfold lo64; omega

/-! ### The product of two fractions, cancelled across -/
theorem gz_mul_one {x y z : Int} (h1 : gz x z = 1) (h2 : gz y z = 1) : gz (x * y) z = 1 := by
  unfold gz at *
  have h1' : Int.gcd x z = 1 := by omega
  have h2' : Int.gcd y z = 1 := by omega
  rw [Int.gcd_mul_right_left_of_gcd_eq_one h1', h2']; rfl
theorem gz_of_dvd {x y a b : Int} (h : gz a b = 1) (h1 : x ∣ a) (h2 : y ∣ b) : gz x y = 1 := by
  refine gz_unique (by decide) ⟨x, (Int.one_mul x).symm⟩ ⟨y, (Int.one_mul y).symm⟩ (fun k k1 k2 => ?_)
  rw [← h]
  exact dvd_gz (Int.dvd_trans k1 h1) (Int.dvd_trans k2 h2)
theorem ediv_dvd {a g : Int} (h : g ∣ a) : a / g ∣ a := ⟨g, (Int.ediv_mul_cancel h).symm⟩
theorem sg_mul (s : Bool) (x y : Int) : sg s x * y = sg s (x * y) := by cases s <;> simp [sg, Int.neg_mul]
theorem gz_sg (s : Bool) (x y : Int) : gz (sg s x) y = gz x y := by cases s <;> simp [sg, gz_neg_left]
def crossP (a b c d : Int) : Int := a / gz a d * (c / gz c b)
def crossQ (a b c d : Int) : Int := b / gz c b * (d / gz a d)
theorem cross_eq (a b c d : Int) : crossP a b c d * (b * d) = a * c * crossQ a b c d := by
  have e1 := Int.ediv_mul_cancel (gz_dvd_left a d)
  have e2 := Int.ediv_mul_cancel (gz_dvd_right a d)
  have e3 := Int.ediv_mul_cancel (gz_dvd_left c b)
  have e4 := Int.ediv_mul_cancel (gz_dvd_right c b)
  unfold crossP crossQ
  generalize a / gz a d = a' at *
  generalize d / gz a d = d' at *
  generalize c / gz c b = c' at *
  generalize b / gz c b = b' at *
  generalize gz a d = g at *
  generalize gz c b = h at *
  rw [← e1, ← e2, ← e3, ← e4]
  simp only [Int.mul_comm, Int.mul_left_comm]
theorem cross_coprime {a b c d : Int} (hb : 0 < b) (hd : 0 < d) (h1 : gz a b = 1) (h2 : gz c d = 1) : gz (crossP a b c d) (crossQ a b c d) = 1 := by
  have g1 : 0 < gz a d := gz_pos_right (by omega)
  have g2 : 0 < gz c b := gz_pos_right (by omega)
  have a1 := ediv_dvd (gz_dvd_left a d)
  have a2 := ediv_dvd (gz_dvd_right a d)
  have a3 := ediv_dvd (gz_dvd_left c b)
  have a4 := ediv_dvd (gz_dvd_right c b)
  unfold crossP crossQ
  rw [gz_comm]
  refine gz_mul_one ?_ ?_
  · rw [gz_comm]
    exact gz_mul_one (gz_of_dvd h1 a1 a4) (div_coprime g2)
  · rw [gz_comm]
    exact gz_mul_one (div_coprime g1) (gz_of_dvd h2 a3 a2)
theorem crossQ_pos {a b c d : Int} (hb : 0 < b) (hd : 0 < d) : 0 < crossQ a b c d := by
  have g1 : 0 < gz a d := gz_pos_right (by omega)
  have g2 : 0 < gz c b := gz_pos_right (by omega)
  have e2 := Int.ediv_mul_cancel (gz_dvd_right a d)
  have e4 := Int.ediv_mul_cancel (gz_dvd_right c b)
  unfold crossQ
  refine Int.mul_pos ?_ ?_
  · exact Int.ediv_pos_of_pos_of_dvd hb (by omega) (gz_dvd_right c b)
  · exact Int.ediv_pos_of_pos_of_dvd hd (by omega) (gz_dvd_right a d)
/-- The cancelled product is the product in lowest terms. -/
theorem cross_red {a b c d : Int} (s : Bool) (hb : 0 < b) (hd : 0 < d) (h1 : gz a b = 1) (h2 : gz c d = 1) :
    redN (sg s (a * c)) (b * d) = sg s (crossP a b c d) ∧ redD (sg s (a * c)) (b * d) = crossQ a b c d := by
  refine red_unique (Int.mul_pos hb hd) (crossQ_pos hb hd) ?_ ?_
  · rw [gz_sg]; exact cross_coprime hb hd h1 h2
  · rw [sg_mul, sg_mul, cross_eq]
theorem fit_big {s : Bool} {P Q : Int} (h : 18446744073709551615 < P ∨ 18446744073709551615 < Q) : fitB (sg s P) Q = false := by
  refine Bool.eq_false_iff.mpr (fun hf => ?_)
  have hf := fitB_iff.mp hf
  cases s <;> simp [sg] at hf <;> omega

/-! ### Three words of 64 bits -/
def wa (N : Int) : Int := N / 340282366920938463463374607431768211456
def wb (N : Int) : Int := N / 18446744073709551616 % 18446744073709551616
def wc (N : Int) : Int := N % 18446744073709551616
theorem words_eq {M N : Int} (h1 : wa M = wa N) (h2 : wb M = wb N) (h3 : wc M = wc N) : M = N := by
  unfold wa wb wc at *; omega
theorem wb_bound (N : Int) : 0 ≤ wb N ∧ wb N ≤ 18446744073709551615 := by unfold wb; omega
theorem wc_bound (N : Int) : 0 ≤ wc N ∧ wc N ≤ 18446744073709551615 := by unfold wc; omega
theorem words_le {M N : Int} : (M ≤ N) ↔ wa M < wa N ∨ (wa M = wa N ∧ (wb M < wb N ∨ (wb M = wb N ∧ wc M ≤ wc N))) := by
  unfold wa wb wc; omega
theorem words_mul {p z : Int} : wa (p * z) = hi64 (hi64 p * z) + hi64 (lo64 (hi64 p * z) + hi64 (lo64 p * z)) ∧ wb (p * z) = lo64 (lo64 (hi64 p * z) + hi64 (lo64 p * z)) ∧ wc (p * z) = lo64 (lo64 p * z) := by
  have e : p * z = hi64 p * z * 18446744073709551616 + lo64 p * z := by
    have h := hl64 p
    calc p * z = (hi64 p * 18446744073709551616 + lo64 p) * z := by rw [h]
      _ = _ := by rw [Int.add_mul, Int.mul_right_comm]
  rw [e]
  generalize hi64 p * z = A
  generalize lo64 p * z = C
  unfold wa wb wc hi64 lo64
  refine ⟨by omega, by omega, by omega⟩
theorem wa_bound {x y z : Int} (x0 : 0 ≤ x) (x1 : x ≤ 18446744073709551615) (y0 : 0 ≤ y) (y1 : y ≤ 18446744073709551615) (z0 : 0 ≤ z) (z1 : z ≤ 18446744073709551615) :
    0 ≤ wa (x * y * z) ∧ wa (x * y * z) ≤ 18446744073709551615 := by
  have h1 := Int.mul_nonneg (Int.mul_nonneg x0 y0) z0
  have h2 := mul_le_mul' (mul_le_mul' x1 y1 y0 (by decide)) z1 z0 (by decide)
  unfold wa
  omega

/-! ### Order -/
def cmpZ (l r : Int) : Int := if l < r then -1 else if l = r then 0 else 1
theorem cmpZ_lt {l r : Int} (h : l < r) : cmpZ l r = -1 := if_pos h
theorem cmpZ_eq {l r : Int} (h : l = r) : cmpZ l r = 0 := by unfold cmpZ; rw [if_neg (by omega), if_pos h]
theorem cmpZ_gt {l r : Int} (h : r < l) : cmpZ l r = 1 := by unfold cmpZ; rw [if_neg (by omega), if_neg (by omega)]
theorem hl_lt {X Y : Int} : X < Y ↔ hi64 X < hi64 Y ∨ (hi64 X = hi64 Y ∧ lo64 X < lo64 Y) := by unfold hi64 lo64; omega
theorem hl_eq {X Y : Int} : X = Y ↔ hi64 X = hi64 Y ∧ lo64 X = lo64 Y := by unfold hi64 lo64; omega

/-! ### Division that cuts towards nought -/
theorem tdiv_floor {n d : Int} (hd : 1 ≤ d) : (n.tmod d < 0 → n.tdiv d - 1 = n / d) ∧ (0 ≤ n.tmod d → n.tdiv d = n / d) := by
  have e1 := Int.tmod_add_mul_tdiv n d
  have e2 := Int.emod_add_mul_ediv n d
  have h1 := Int.emod_nonneg n (b := d) (by omega)
  have h2 := Int.emod_lt_of_pos n (b := d) (by omega)
  have h3 := Int.lt_tmod_of_pos n (b := d) (by omega)
  have h4 := Int.tmod_lt_of_pos n (b := d) (by omega)
  have key : ∀ k : Int, d * (n / d) = d * n.tdiv d + k → -d < k → k < d → n / d = n.tdiv d := by
    intro k hk k1 k2
    have : d * (n / d - n.tdiv d) = k := by rw [Int.mul_sub]; omega
    have a1 : n / d - n.tdiv d < 1 := by
      rcases Int.lt_or_le (n / d - n.tdiv d) 1 with h | h
      · exact h
      · have := Int.mul_le_mul_of_nonneg_left h (show 0 ≤ d by omega); omega
    have a2 : -1 < n / d - n.tdiv d := by
      rcases Int.lt_or_le (-1) (n / d - n.tdiv d) with h | h
      · exact h
      · have := Int.mul_le_mul_of_nonneg_left h (show 0 ≤ d by omega); omega
    omega
  constructor
  · intro h
    have : n / d = n.tdiv d - 1 := by
      have e3 : d * (n / d - (n.tdiv d - 1)) = n.tmod d + d - n % d := by rw [Int.mul_sub, Int.mul_sub]; omega
      have a1 : n / d - (n.tdiv d - 1) < 1 := by
        rcases Int.lt_or_le (n / d - (n.tdiv d - 1)) 1 with h | h
        · exact h
        · have := Int.mul_le_mul_of_nonneg_left h (show 0 ≤ d by omega); omega
      have a2 : -1 < n / d - (n.tdiv d - 1) := by
        rcases Int.lt_or_le (-1) (n / d - (n.tdiv d - 1)) with h | h
        · exact h
        · have := Int.mul_le_mul_of_nonneg_left h (show 0 ≤ d by omega); omega
      omega
    exact this.symm
  · intro h
    exact (key (n.tmod d - n % d) (by omega) (by omega) (by omega)).symm

theorem tdiv_bound {n d : Int} (n1 : -9223372036854775808 ≤ n) (n2 : n ≤ 9223372036854775807) (hd : 1 ≤ d) : -9223372036854775808 ≤ n.tdiv d ∧ n.tdiv d ≤ 9223372036854775807 ∧ (n.tmod d < 0 → -9223372036854775808 < n.tdiv d) := by
  have e1 := Int.tmod_add_mul_tdiv n d
  have ha := Int.natAbs_tdiv_le_natAbs n d
  rcases Int.lt_or_le n 0 with h | h
  · have h5 := Int.tdiv_nonneg (a := -n) (b := d) (by omega) (by omega)
    rw [Int.neg_tdiv] at h5
    have h6 := Int.mul_le_mul_of_nonneg_right hd h5
    rw [Int.one_mul, Int.mul_neg] at h6
    refine ⟨by omega, by omega, fun _ => by omega⟩
  · have h5 := Int.tdiv_nonneg (a := n) (b := d) h (by omega)
    refine ⟨by omega, by omega, fun _ => by omega⟩

theorem tmod_mag (x : Int) {y : Int} (h : y ≠ 0) : -magZ y < x.tmod y ∧ x.tmod y < magZ y := by
  have h1 := Int.natAbs_tmod x y
  have h2 := Nat.mod_lt x.natAbs (show 0 < y.natAbs by omega)
  rw [magZ_natAbs]
  omega

theorem gz_zero_mag (x : Int) : gz x 0 = magZ x := by
  unfold gz; rw [Int.gcd_zero_right, magZ_natAbs]


/-- One step of a floor division, as the Go text makes it. -/
theorem floor_step {a b : Int} (a1 : -9223372036854775808 ≤ a) (a2 : a ≤ 9223372036854775807) (hb : 1 ≤ b) (hb2 : b ≤ 9223372036854775807) : ∃ P R : Int, a = P * b + R ∧ 0 ≤ R ∧ R < b ∧ -9223372036854775808 ≤ P ∧ P ≤ 9223372036854775807 ∧
    ((a.tdiv b = P ∧ a.tmod b = R) ∨ (a.tdiv b = P + 1 ∧ a.tmod b = R - b ∧ P + 1 ≤ 9223372036854775807 ∧ R - b < 0)) := by
  have h1 := Int.emod_nonneg a (b := b) (by omega)
  have h2 := Int.emod_lt_of_pos a (b := b) (by omega)
  have h3 := Int.emod_add_mul_ediv a b
  have h4 := Int.tmod_add_mul_tdiv a b
  obtain ⟨f1, f2⟩ := tdiv_floor (n := a) hb
  obtain ⟨c1, c2, c3⟩ := tdiv_bound a1 a2 hb
  refine ⟨a / b, a % b, by rw [Int.mul_comm]; omega, h1, h2, ?_⟩
  rcases Int.lt_or_le (a.tmod b) 0 with h | h
  · have h5 := f1 h
    have h6 := c3 h
    have h7 : b * (a.tdiv b - 1) = b * (a / b) := by rw [h5]
    rw [Int.mul_sub, Int.mul_one] at h7
    refine ⟨by omega, by omega, Or.inr ⟨by omega, by omega, by omega, by omega⟩⟩
  · have h5 := f2 h
    have h7 : b * a.tdiv b = b * (a / b) := by rw [h5]
    refine ⟨by omega, by omega, Or.inl ⟨h5, by omega⟩⟩
/-- Comparing two fractions by their floors. -/
theorem cf_cmp {a b c d P R Q T : Int} (hb : 1 ≤ b) (hd : 1 ≤ d) (ha : a = P * b + R) (hc : c = Q * d + T) (r0 : 0 ≤ R) (r1 : R < b) (t0 : 0 ≤ T) (t1 : T < d) :
    (P < Q → cmpZ (a * d) (c * b) = -1) ∧ (Q < P → cmpZ (a * d) (c * b) = 1) ∧ (P = Q → cmpZ (a * d) (c * b) = cmpZ (R * d) (T * b)) := by
  have e1 : a * d = P * (b * d) + R * d := by rw [ha, Int.add_mul, Int.mul_assoc]
  have e2 : c * b = Q * (b * d) + T * b := by rw [hc, Int.add_mul, Int.mul_assoc, Int.mul_comm d b]
  have hbd : 0 < b * d := Int.mul_pos (by omega) (by omega)
  have k1 : 0 ≤ R * d := Int.mul_nonneg r0 (by omega)
  have k2 : R * d < b * d := Int.mul_lt_mul_of_pos_right r1 (by omega)
  have k3 : 0 ≤ T * b := Int.mul_nonneg t0 (by omega)
  have k4 : T * b < b * d := by rw [Int.mul_comm b d]; exact Int.mul_lt_mul_of_pos_right t1 (by omega)
  refine ⟨fun h => cmpZ_lt ?_, fun h => cmpZ_gt ?_, fun h => ?_⟩
  · have := Int.mul_le_mul_of_nonneg_right (show P + 1 ≤ Q by omega) (show 0 ≤ b * d by omega)
    rw [Int.add_mul, Int.one_mul] at this
    omega
  · have := Int.mul_le_mul_of_nonneg_right (show Q + 1 ≤ P by omega) (show 0 ≤ b * d by omega)
    rw [Int.add_mul, Int.one_mul] at this
    omega
  · rw [e1, e2, h]
    unfold cmpZ
    by_cases h1 : R * d < T * b
    · rw [if_pos h1, if_pos (by omega)]
    · rw [if_neg h1, if_neg (by omega)]
      by_cases h2 : R * d = T * b
      · rw [if_pos h2, if_pos (by omega)]
      · rw [if_neg h2, if_neg (by omega)]
theorem cmpZ_swap (l r : Int) : cmpZ r l = -cmpZ l r := by
  unfold cmpZ
  by_cases h1 : l < r
  · rw [if_pos h1, if_neg (by omega), if_neg (by omega)]; rfl
  · by_cases h2 : l = r
    · rw [if_neg h1, if_pos h2, if_neg (by omega), if_pos h2.symm]; rfl
    · rw [if_neg h1, if_neg h2, if_pos (by omega)]

/-! ### Products of signed fractions -/
theorem sg_mag_mul (a c : Int) : sg (!(decide (a < 0) == decide (c < 0))) (magZ a * magZ c) = a * c := by
  unfold sg magZ
  rcases Int.lt_or_le a 0 with h1 | h1 <;> rcases Int.lt_or_le c 0 with h2 | h2
  · simp [h1, h2, Int.neg_mul_neg]
  · simp [h1, show ¬ c < 0 by omega, Int.neg_mul]
  · simp [h2, show ¬ a < 0 by omega, Int.mul_neg]
  · simp [show ¬ a < 0 by omega, show ¬ c < 0 by omega]
theorem sg_mag_div (a d c : Int) : sg (!(decide (a < 0) == decide (c < 0))) (magZ a * d) = mkN (a * d) c := by
  unfold sg magZ mkN
  rcases Int.lt_or_le a 0 with h1 | h1 <;> rcases Int.lt_or_le c 0 with h2 | h2
  · simp [h1, h2, Int.neg_mul]
  · simp [h1, show ¬ c < 0 by omega, Int.neg_mul]
  · simp [h2, show ¬ a < 0 by omega]
  · simp [show ¬ a < 0 by omega, show ¬ c < 0 by omega]
/-- The product of two valid fractions, as 'product' gives it. -/
theorem mul_red {a b c d : Int} (h1 : validB a b = true) (h2 : validB c d = true) :
    sg (!(decide (a < 0) == decide (c < 0))) (crossP (magZ a) b (magZ c) d) = redN (a * c) (b * d) ∧ crossQ (magZ a) b (magZ c) d = redD (a * c) (b * d) := by
  obtain ⟨b1, g1⟩ := validB_iff.mp h1
  obtain ⟨d1, g2⟩ := validB_iff.mp h2
  have h := cross_red (a := magZ a) (b := b) (c := magZ c) (d := d) (!(decide (a < 0) == decide (c < 0))) (by omega) (by omega) (by rw [gz_mag_left]; exact g1) (by rw [gz_mag_left]; exact g2)
  rw [sg_mag_mul] at h
  exact ⟨h.1.symm, h.2.symm⟩
theorem div_red {a b c d : Int} (h1 : validB a b = true) (h2 : validB c d = true) (hc : c ≠ 0) :
    sg (!(decide (a < 0) == decide (c < 0))) (crossP (magZ a) b d (magZ c)) = redN (mkN (a * d) c) (b * magZ c) ∧ crossQ (magZ a) b d (magZ c) = redD (mkN (a * d) c) (b * magZ c) := by
  obtain ⟨b1, g1⟩ := validB_iff.mp h1
  obtain ⟨d1, g2⟩ := validB_iff.mp h2
  have hm : 0 < magZ c := by have := magZ_natAbs c; omega
  have h := cross_red (a := magZ a) (b := b) (c := d) (d := magZ c) (!(decide (a < 0) == decide (c < 0))) (by omega) hm (by rw [gz_mag_left]; exact g1) (by rw [gz_comm, gz_mag_left]; exact g2)
  rw [sg_mag_div a d c] at h
  exact ⟨h.1.symm, h.2.symm⟩
/-! what Mul answers -/
def mulB (a b c d : Int) : Bool := validB a b && validB c d && fitB (redN (a * c) (b * d)) (redD (a * c) (b * d))
def mulN (a b c d : Int) : Int := if mulB a b c d = true then redN (a * c) (b * d) else 0
def mulD (a b c d : Int) : Int := if mulB a b c d = true then redD (a * c) (b * d) else 0
theorem mul_inv {a b c d : Int} (h : validB a b = false ∨ validB c d = false) : mulB a b c d = false ∧ mulN a b c d = 0 ∧ mulD a b c d = 0 := by
  have hB : mulB a b c d = false := by unfold mulB; rcases h with h | h <;> simp [h]
  refine ⟨hB, if_neg (by simp [hB]), if_neg (by simp [hB])⟩
theorem mul_val {a b c d : Int} (h1 : validB a b = true) (h2 : validB c d = true) : mulB a b c d = fitB (redN (a * c) (b * d)) (redD (a * c) (b * d)) ∧ mulN a b c d = ratN (redN (a * c) (b * d)) (redD (a * c) (b * d)) ∧ mulD a b c d = ratD (redN (a * c) (b * d)) (redD (a * c) (b * d)) := by
  have hB : mulB a b c d = fitB (redN (a * c) (b * d)) (redD (a * c) (b * d)) := by unfold mulB; simp [h1, h2]
  refine ⟨hB, ?_, ?_⟩
  · unfold mulN ratN; rw [hB]
  · unfold mulD ratD; rw [hB]

/-! ### Denominators, and fractions brought to lowest terms within int64 -/
/-- any int64, brought to at least 1 -/
def denH (d : Int) : Int := if d < 0 then (if d = -1 then 1 else -(d + 1)) else (if d = 0 then 1 else d)
theorem denH_bound {d : Int} (d1 : -9223372036854775808 ≤ d) (d2 : d ≤ 9223372036854775807) : 1 ≤ denH d ∧ denH d ≤ 9223372036854775807 := by
  unfold denH; split <;> split <;> omega
theorem red_i64 {n d : Int} (n1 : -9223372036854775808 ≤ n) (n2 : n ≤ 9223372036854775807) (d1 : 1 ≤ d) :
    -9223372036854775808 ≤ redN n d ∧ redN n d ≤ 9223372036854775807 ∧ 1 ≤ redD n d ∧ redD n d ≤ d ∧ validB (redN n d) (redD n d) = true := by
  have hg : 1 ≤ gz n d := gz_pos_right (by omega)
  have h1 := red_le n d (by omega)
  have h2 := redD_pos (N := n) (D := d) (by omega)
  have e1 := redN_mul n d
  refine ⟨by omega, ?_, by omega, h1.2, validB_mk (by omega) (red_coprime (by omega))⟩
  rcases Int.lt_or_le n 0 with h | h
  · rcases Int.lt_or_le 0 (redN n d) with h3 | h3
    · have := Int.mul_pos h3 (show 0 < gz n d by omega); omega
    · omega
  · omega
theorem tdiv_red (n d : Int) : n.tdiv (gz n d) = redN n d := Int.tdiv_eq_ediv_of_dvd (gz_dvd_left n d)
theorem tdiv_red' (n d : Int) : d.tdiv (gz n d) = redD n d := Int.tdiv_eq_ediv_of_dvd (gz_dvd_right n d)

theorem fit_pos {P Q : Int} (h0 : 0 ≤ P) : fitB (sg false P) Q = true ↔ P ≤ 9223372036854775807 ∧ Q ≤ 9223372036854775807 := by
  rw [fitB_iff, sg_false]; omega
theorem fit_neg {P Q : Int} (h0 : 0 ≤ P) : fitB (sg true P) Q = true ↔ P ≤ 9223372036854775808 ∧ Q ≤ 9223372036854775807 := by
  rw [fitB_iff, sg_true]; omega


/-- A denominator 0 is read as 1. -/
def den1 (d : Int) : Int := if d = 0 then 1 else d
theorem den1_pos {d : Int} (h : 0 ≤ d) : 1 ≤ den1 d := by unfold den1; split <;> omega
theorem den1_le {d M : Int} (h : d ≤ M) (hM : 1 ≤ M) : den1 d ≤ M := by unfold den1; split <;> omega

/-- What comes of klow. -/
theorem red_bounds {n d : Int} (n1 : 0 ≤ n) (d1 : 0 ≤ d) : 0 ≤ redN n (den1 d) ∧ redN n (den1 d) ≤ n ∧ 1 ≤ redD n (den1 d) ∧ redD n (den1 d) ≤ den1 d ∧ gz (redN n (den1 d)) (redD n (den1 d)) = 1 := by
  have hp := den1_pos d1
  have h1 := red_le n (den1 d) (by omega)
  have h2 : 0 ≤ redN n (den1 d) := ediv_nonneg' n1 (gz_pos_right (by omega))
  exact ⟨h2, by omega, redD_pos (by omega), h1.2, red_coprime (by omega)⟩


/-- Signs go through. -/
theorem red_sg (s : Bool) (m d : Int) (hd : 0 < d) : redN (sg s m) d = sg s (redN m d) ∧ redD (sg s m) d = redD m d := by
  have hg : 0 < gz m d := gz_pos_right (by omega)
  have e := redN_mul m d
  unfold redN redD at *
  rw [gz_sg]
  refine ⟨?_, rfl⟩
  cases s
  · rfl
  · show -m / gz m d = -(m / gz m d)
    rw [Int.neg_ediv_of_dvd (gz_dvd_left m d)]
theorem red_mag {n d : Int} (hd : 0 < d) : sg (decide (n < 0)) (redN (magZ n) d) = redN n d ∧ redD (magZ n) d = redD n d := by
  have h := red_sg (decide (n < 0)) (magZ n) d hd
  rw [sg_mag] at h
  exact ⟨h.1.symm, h.2.symm⟩
/-- The sum of two fractions is the sum of their lowest terms. -/
theorem sum_red_red {p q s t : Int} (hq : 0 < q) (ht : 0 < t) :
    redN (redN p q * redD s t + redN s t * redD p q) (redD p q * redD s t) = redN (p * t + s * q) (q * t) ∧ redD (redN p q * redD s t + redN s t * redD p q) (redD p q * redD s t) = redD (p * t + s * q) (q * t) := by
  have e1 := redN_mul p q
  have e2 := redD_mul p q
  have e3 := redN_mul s t
  have e4 := redD_mul s t
  have g1 : 0 < gz p q := gz_pos_right (by omega)
  have g2 : 0 < gz s t := gz_pos_right (by omega)
  have h := red_scale (N := redN p q * redD s t + redN s t * redD p q) (D := redD p q * redD s t) (Int.mul_pos g1 g2)
  have m : ∀ x y z t : Int, x * y * (z * t) = x * z * (y * t) := fun x y z t => by rw [Int.mul_assoc, Int.mul_left_comm y, ← Int.mul_assoc]
  rw [Int.add_mul, m, e1, e4, m (redD p q), e2, e4, Int.mul_comm (redN s t) (redD p q), m (redD p q), e2, e3, Int.mul_comm q s] at h
  rw [Int.mul_comm (redN s t)]
  exact ⟨h.1.symm, h.2.symm⟩
end Go.Proofs.Ymbrdd
