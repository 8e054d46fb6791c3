/-
  THE PLAIN MATHEMATICS of the sum of two fractions over the least common denominator. No Go in this text.
-/
import Derived.Test.YmbrddPlain
namespace Go.Proofs.Ymbrdd

/-- The borrow. -/
def bor (x y : Int) : Int := if x < y then 1 else 0
theorem bor_bound (x y : Int) : 0 ≤ bor x y ∧ bor x y ≤ 1 := by unfold bor; split <;> omega

theorem add_words {X Z : Int} (hX : 0 ≤ X) (hX2 : X ≤ 85070591730234615865843651857942052864) (hZ : 0 ≤ Z) (hZ2 : Z ≤ 85070591730234615865843651857942052864) :
    lo64 (lo64 X + lo64 Z) = lo64 (X + Z) ∧ lo64 (hi64 X + hi64 Z + hi64 (lo64 X + lo64 Z)) = hi64 (X + Z) ∧ 0 ≤ hi64 (lo64 X + lo64 Z) ∧ hi64 (lo64 X + lo64 Z) ≤ 1 := by
  unfold lo64 hi64; refine ⟨by omega, by omega, by omega, by omega⟩
theorem sub_words {X Z : Int} (hX2 : X ≤ 85070591730234615865843651857942052864) (hZ : 0 ≤ Z) (h : Z ≤ X) :
    lo64 (lo64 X - lo64 Z) = lo64 (X - Z) ∧ lo64 (hi64 X - hi64 Z - bor (lo64 X) (lo64 Z)) = hi64 (X - Z) ∧ bor (hi64 X) (hi64 Z + bor (lo64 X) (lo64 Z)) = 0 := by
  unfold bor
  by_cases h1 : lo64 X < lo64 Z
  · simp only [h1, if_true]
    refine ⟨by unfold lo64; omega, ?_, if_neg ?_⟩
    · unfold lo64 hi64 at *; omega
    · unfold lo64 hi64 at *; omega
  · simp only [h1, if_false]
    refine ⟨by unfold lo64; omega, ?_, if_neg ?_⟩
    · unfold lo64 hi64 at *; omega
    · unfold lo64 hi64 at *; omega
theorem sub_words_lt {X Z : Int} (h : X < Z) : bor (hi64 X) (hi64 Z + bor (lo64 X) (lo64 Z)) = 1 := by
  unfold bor
  by_cases h1 : lo64 X < lo64 Z
  · simp only [h1, if_true]
    refine if_pos ?_
    unfold lo64 hi64 at *; omega
  · simp only [h1, if_false]
    refine if_pos ?_
    unfold lo64 hi64 at *; omega

theorem gz_add_mul {x y z : Int} : gz (x + y * z) z = gz x z := by
  unfold gz; rw [Int.gcd_add_mul_right_left]
/-- Coprime to each factor. -/
theorem gz_one_mul {p x y : Int} (h1 : gz p x = 1) (h2 : gz p y = 1) : gz p (x * y) = 1 := by
  rw [gz_comm] at *; exact gz_mul_one h1 h2

/-- The sum in lowest terms. -/
theorem sum_red {n b y d : Int} {s : Bool} {H : Int} (hb : 0 < b) (hd : 0 < d) (h1 : gz n b = 1) (h2 : gz y d = 1)
    (hs : sg s H = n * (d / gz b d) + y * (b / gz b d)) :
    redN (n * d + y * b) (b * d) = sg s (H / gz H (gz b d)) ∧ redD (n * d + y * b) (b * d) = b / gz b d * (d / gz H (gz b d)) := by
  have hg : 0 < gz b d := gz_pos_right (by omega)
  have he : 0 < gz H (gz b d) := gz_pos_right (by omega)
  have eb := Int.ediv_mul_cancel (gz_dvd_left b d)
  have ed := Int.ediv_mul_cancel (gz_dvd_right b d)
  have c1 := div_coprime hg
  have c2 := div_coprime he
  have eH := Int.ediv_mul_cancel (gz_dvd_left H (gz b d))
  have eg := Int.ediv_mul_cancel (gz_dvd_right H (gz b d))
  have dvb : b / gz b d ∣ b := ediv_dvd (gz_dvd_left b d)
  have dvd' : d / gz b d ∣ d := ediv_dvd (gz_dvd_right b d)
  have bp : 0 < b / gz b d := Int.ediv_pos_of_pos_of_dvd hb (by omega) (gz_dvd_left b d)
  have hde : gz H (gz b d) ∣ d := Int.dvd_trans (gz_dvd_right H _) (gz_dvd_right b d)
  have dp : 0 < d / gz H (gz b d) := Int.ediv_pos_of_pos_of_dvd hd (by omega) hde
  have edd := Int.ediv_mul_cancel hde
  generalize gz H (gz b d) = e at *
  generalize gz b d = g at *
  generalize b / g = b' at *
  generalize d / g = d' at *
  generalize hdd : d / e = dd at *
  generalize H / e = h at *
  generalize g / e = ge at *
  have hdd' : dd = d' * ge := by
    have : dd * e = d' * ge * e := by rw [edd, Int.mul_assoc, eg, ed]
    exact Int.eq_of_mul_eq_mul_right (by omega) this
  have hN : gz (sg s H) (b' * d') = 1 := by
    rw [hs]
    refine gz_one_mul ?_ ?_
    · rw [gz_add_mul, gz_comm]
      exact gz_one_mul (by rw [gz_comm]; exact gz_of_dvd h1 (Int.dvd_refl n) dvb) c1
    · rw [Int.add_comm, gz_add_mul, gz_comm]
      exact gz_one_mul (by rw [gz_comm]; exact gz_of_dvd h2 (Int.dvd_refl y) dvd') (by rw [gz_comm]; exact c1)
  rw [gz_sg] at hN
  have hh : h ∣ H := ⟨e, eH.symm⟩
  refine red_unique (Int.mul_pos hb hd) (Int.mul_pos bp dp) ?_ ?_
  · rw [gz_sg, hdd', ← Int.mul_assoc]
    exact gz_one_mul (gz_of_dvd hN hh (Int.dvd_refl _)) c2
  · have key : n * d + y * b = sg s H * g := by rw [hs, Int.add_mul, Int.mul_assoc, Int.mul_assoc, ed, eb]
    rw [key, ← eH, ← sg_mul]
    have e1 : b * d = b' * g * (dd * e) := by rw [eb, edd]
    rw [e1]
    simp only [Int.mul_assoc, Int.mul_comm, Int.mul_left_comm]

theorem sg_add (s : Bool) (x y : Int) : sg s (x + y) = sg s x + sg s y := by cases s <;> simp [sg]; omega
theorem sg_not (s t : Bool) (h : (s == t) = false) (x : Int) : sg t x = -sg s x := by cases s <;> cases t <;> simp [sg] at *
theorem sg_sub (s : Bool) (x y : Int) : sg s (x - y) = sg s x - sg s y := by cases s <;> simp [sg]; omega
theorem sg_of_mag (n k : Int) : sg (decide (n < 0)) (magZ n * k) = n * k := by rw [← sg_mul, sg_mag]

/-! what Add answers (Sub: at -c) -/
def sumB (a b c d : Int) : Bool := validB a b && validB c d && fitB (redN (a * d + c * b) (b * d)) (redD (a * d + c * b) (b * d))
def sumN (a b c d : Int) : Int := if sumB a b c d = true then redN (a * d + c * b) (b * d) else 0
def sumD (a b c d : Int) : Int := if sumB a b c d = true then redD (a * d + c * b) (b * d) else 0
theorem sum_none {a b c d : Int} (h : sumB a b c d = false) : sumN a b c d = 0 ∧ sumD a b c d = 0 := ⟨if_neg (by simp [h]), if_neg (by simp [h])⟩
theorem sum_yes {a b c d : Int} (h : sumB a b c d = true) : sumN a b c d = redN (a * d + c * b) (b * d) ∧ sumD a b c d = redD (a * d + c * b) (b * d) := ⟨if_pos h, if_pos h⟩
theorem sum_inv {a b c d : Int} (h : validB a b = false ∨ validB c d = false) : sumB a b c d = false ∧ sumN a b c d = 0 ∧ sumD a b c d = 0 := by
  have hB : sumB a b c d = false := by unfold sumB; rcases h with h | h <;> simp [h]
  exact ⟨hB, sum_none hB⟩
theorem sum_val {a b c d : Int} (h1 : validB a b = true) (h2 : validB c d = true) : sumB a b c d = fitB (redN (a * d + c * b) (b * d)) (redD (a * d + c * b) (b * d)) ∧ sumN a b c d = ratN (redN (a * d + c * b) (b * d)) (redD (a * d + c * b) (b * d)) ∧ sumD a b c d = ratD (redN (a * d + c * b) (b * d)) (redD (a * d + c * b) (b * d)) := by
  have hB : sumB a b c d = fitB (redN (a * d + c * b) (b * d)) (redD (a * d + c * b) (b * d)) := by unfold sumB; simp [h1, h2]
  refine ⟨hB, ?_, ?_⟩
  · unfold sumN ratN; rw [hB]
  · unfold sumD ratD; rw [hB]
theorem sg_mag_not (c : Int) : sg (!decide (c < 0)) (magZ c) = -c := by
  rcases Int.lt_or_le c 0 with h | h
  · rw [magZ_neg h]; simp [sg, h]
  · rw [magZ_pos h]; simp [sg, show ¬ c < 0 by omega]
end Go.Proofs.Ymbrdd
