/-
  THE WALK of the law KReduce (product, 32-bit fractions).
-/
import Derived.Test.YmbrdfWalkK
namespace Go.Proofs.Ymbrdf
open Go.RowKit

theorem fit_pos {P Q : Int} (h0 : 0 ≤ P) : fitB (sg false P) Q = true ↔ P ≤ 9223372036854775807 ∧ Q ≤ 9223372036854775807 := by
  rw [fitB_iff, sg_false]; omega
theorem fit_neg {P Q : Int} (h0 : 0 ≤ P) : fitB (sg true P) Q = true ↔ P ≤ 9223372036854775808 ∧ Q ≤ 9223372036854775807 := by
  rw [fitB_iff, sg_true]; omega

theorem wrap_back {P : Int} (h0 : 0 ≤ P) (h1 : P ≤ 9223372036854775808) : wrap64 (IntKind.u64.wrap (-P)) = -P := by
  rw [IntKind.wrap_u64]; unfold wrap64; omega

set_option maxHeartbeats 2000000 in
theorem law_KReduce (neg : Bool) (a b c d : Int) (ha : 0 ≤ a ∧ a ≤ 4294967295) (hb : 0 ≤ b ∧ b ≤ 4294967295) (hc : 0 ≤ c ∧ c ≤ 4294967295) (hd : 0 ≤ d ∧ d ≤ 4294967295) (w : World) :
    Calls Ydfm.prog 9 #[.bool neg, .int .u32 a, .int .u32 b, .int .u32 c, .int .u32 d] w fun e w' => e = .returned (.bool true) ∧ Grown w w' := by
  obtain ⟨a1, a2⟩ := ha
  obtain ⟨b1, b2⟩ := hb
  obtain ⟨c1, c2⟩ := hc
  obtain ⟨d1, d2⟩ := hd
  obtain ⟨p0, p1, q0, q1, hpq⟩ := red_bounds a1 b1
  obtain ⟨r0, r1, s0, s1, hrs⟩ := red_bounds c1 d1
  have b3 := den1_le b2 (by decide)
  have d3 := den1_le d2 (by decide)
  go_enter Ydfm.func9, Ydfm.ntmps9
  go_wp2_with fail
  refine (klow_any _ _ (by omega) (by omega) (by omega) (by omega) _).mono ?_
  rintro e w1 ⟨rfl, g1⟩
  go_wp2_with fail
  refine (klow_any _ _ (by omega) (by omega) (by omega) (by omega) _).mono ?_
  rintro e w2 ⟨rfl, g2⟩
  generalize redN a (den1 b) = p at *
  generalize redD a (den1 b) = q at *
  generalize redN c (den1 d) = r at *
  generalize redD c (den1 d) = s at *
  have m1 : 0 ≤ p * r := Int.mul_nonneg p0 r0
  have m2 : p * r ≤ 4294967295 * 4294967295 := mul_le_mul' (by omega) (by omega) r0 (by decide)
  have m3 : 1 * 1 ≤ q * s := mul_le_mul' q0 s0 (by decide) (by omega)
  have m4 : q * s ≤ 4294967295 * 4294967295 := mul_le_mul' (by omega) (by omega) (by omega) (by decide)
  have hred := cross_red (a := p) (b := q) (c := r) (d := s) false (by omega) (by omega) hpq hrs
  rw [sg_false, sg_false] at hred
  have hden : den1 (q * s) = q * s := if_neg (by omega)
  have hb1 := red_bounds (n := p * r) (d := q * s) m1 (by omega)
  rw [hden, hred.1, hred.2] at hb1
  obtain ⟨P0, P1, Q0, Q1, hPQ⟩ := hb1
  go_wp2_with fail
  refine (klow_any _ _ (by omega) (by omega) (by omega) (by omega) _).mono ?_
  rw [hden, hred.1, hred.2]
  rintro e w3 ⟨rfl, g3⟩
  have G3 := (g1.trans g2).trans g3
  clear g1 g2 g3 hred hden hPQ
  cases neg
  · go_wp2_with fail
    refine (product_any _ p q r s (by omega) (by omega) (by omega) (by omega) (by omega) (by omega) (by omega) (by omega) _).mono ?_
    rintro e w4 ⟨rfl, g4⟩
    have hfit := fit_pos (P := crossP p q r s) (Q := crossQ p q r s) P0
    generalize crossP p q r s = P at *
    generalize crossQ p q r s = Q at *
    by_cases hf : fitB (sg false P) Q = true
    · obtain ⟨f1, f2⟩ := hfit.mp hf
      have h1 : ratN (sg false P) Q = P := ratN_yes hf
      have h2 := ratD_yes hf
      clear hfit
      go_wp2_with fail
      go_ret
      exact ⟨ret_true (by simp), ((G3.trans g4).alloc _ _).grown⟩
    · have hf' : fitB (sg false P) Q = false := by simpa using hf
      have h1 := ratN_no hf'
      have h2 := ratD_no hf'
      have hno : ¬ (P ≤ 9223372036854775807 ∧ Q ≤ 9223372036854775807) := fun h => hf (hfit.mpr h)
      clear hfit hf
      by_cases hP : P ≤ 9223372036854775807
      · have hQ : ¬ Q ≤ 9223372036854775807 := fun h => hno ⟨hP, h⟩
        clear hno
        go_wp2_with fail
        go_ret
        exact ⟨rfl, ((G3.trans g4).alloc _ _).grown⟩
      · clear hno
        go_wp2_with fail
        go_ret
        exact ⟨rfl, ((G3.trans g4).alloc _ _).grown⟩
  · go_wp2_with fail
    refine (product_any _ p q r s (by omega) (by omega) (by omega) (by omega) (by omega) (by omega) (by omega) (by omega) _).mono ?_
    rintro e w4 ⟨rfl, g4⟩
    have hfit := fit_neg (P := crossP p q r s) (Q := crossQ p q r s) P0
    generalize crossP p q r s = P at *
    generalize crossQ p q r s = Q at *
    by_cases hf : fitB (sg true P) Q = true
    · obtain ⟨f1, f2⟩ := hfit.mp hf
      have h1 : ratN (sg true P) Q = -P := ratN_yes hf
      have h2 := ratD_yes hf
      have h3 := wrap_back P0 f1
      clear hfit
      go_wp2_with fail
      go_ret
      exact ⟨ret_true (by simp), ((G3.trans g4).alloc _ _).grown⟩
    · have hf' : fitB (sg true P) Q = false := by simpa using hf
      have h1 := ratN_no hf'
      have h2 := ratD_no hf'
      have hno : ¬ (P ≤ 9223372036854775808 ∧ Q ≤ 9223372036854775807) := fun h => hf (hfit.mpr h)
      clear hfit hf
      by_cases hP : P ≤ 9223372036854775808
      · have hQ : ¬ Q ≤ 9223372036854775807 := fun h => hno ⟨hP, h⟩
        clear hno
        go_wp2_with fail
        go_ret
        exact ⟨rfl, ((G3.trans g4).alloc _ _).grown⟩
      · clear hno
        go_wp2_with fail
        go_ret
        exact ⟨rfl, ((G3.trans g4).alloc _ _).grown⟩
end Go.Proofs.Ymbrdf
