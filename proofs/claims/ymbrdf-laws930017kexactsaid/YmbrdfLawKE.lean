/-
  THE WALK of the law KExact (product, 64-bit fractions).
-/
import Derived.Test.YmbrdfWalkK3
import Derived.Test.YmbrdfLawKR
import Derived.Test.YmbrdfWalkArr
namespace Go.Proofs.Ymbrdf
open Go.RowKit

theorem mul_le_iff {P L k : Int} (hk : 0 < k) : P * k ≤ L * k ↔ P ≤ L := ⟨fun h => Int.le_of_mul_le_mul_right h hk, fun h => Int.mul_le_mul_of_nonneg_right h (by omega)⟩
theorem mmmc (a b c d : Int) : a * b * (c * d) = a * c * (b * d) := by
  rw [Int.mul_assoc, Int.mul_left_comm b, ← Int.mul_assoc]
theorem crossP_mul (a b c d : Int) : crossP a b c d * (gz a d * gz c b) = a * c := by
  have e1 := Int.ediv_mul_cancel (gz_dvd_left a d)
  have e3 := Int.ediv_mul_cancel (gz_dvd_left c b)
  unfold crossP
  rw [mmmc, e1, e3]
theorem crossQ_mul (a b c d : Int) : crossQ a b c d * (gz a d * gz c b) = b * d := by
  have e2 := Int.ediv_mul_cancel (gz_dvd_right a d)
  have e4 := Int.ediv_mul_cancel (gz_dvd_right c b)
  unfold crossQ
  rw [Int.mul_comm (gz a d), mmmc, e4, e2]
theorem le_scaled {X P L g h : Int} (hg : 0 < g) (hh : 0 < h) (hX : P * (g * h) = X) : decide (X ≤ L * g * h) = decide (P ≤ L) := by
  refine decide_eq_decide.mpr ?_
  rw [← hX, Int.mul_assoc]
  exact mul_le_iff (Int.mul_pos hg hh)
theorem crossP_zero {a b c d : Int} (hb : 0 < b) (hd : 0 < d) : crossP a b c d = 0 ↔ a = 0 ∨ c = 0 := by
  have e := crossP_mul a b c d
  have g1 : 0 < gz a d := gz_pos_right (by omega)
  have g2 : 0 < gz c b := gz_pos_right (by omega)
  constructor
  · intro h; rw [h, Int.zero_mul] at e; exact Int.mul_eq_zero.mp e.symm
  · intro h
    have h0 : a * c = 0 := Int.mul_eq_zero.mpr h
    rw [h0] at e
    rcases Int.mul_eq_zero.mp e with h1 | h1
    · exact h1
    · have := Int.mul_pos g1 g2; omega

set_option maxHeartbeats 4000000 in
theorem law_KExact (neg : Bool) (a b c d sa sb sc sd : Int) (ha : 0 ≤ a ∧ a ≤ 18446744073709551615) (hb : 0 ≤ b ∧ b ≤ 18446744073709551615) (hc : 0 ≤ c ∧ c ≤ 18446744073709551615) (hd : 0 ≤ d ∧ d ≤ 18446744073709551615)
    (ta : 0 ≤ sa ∧ sa ≤ 255) (tb : 0 ≤ sb ∧ sb ≤ 255) (tc : 0 ≤ sc ∧ sc ≤ 255) (td : 0 ≤ sd ∧ sd ≤ 255) (w : World) :
    Calls Ydfm.prog 10 #[.bool neg, .int .u64 a, .int .u64 b, .int .u64 c, .int .u64 d, .int .u8 sa, .int .u8 sb, .int .u8 sc, .int .u8 sd] w fun e w' => e = .returned (.bool true) ∧ Grown w w' := by
  go_enter Ydfm.func10, Ydfm.ntmps10
  go_wp2_with fail
  refine (kscale_any _ _ ha.1 ha.2 ta.1 ta.2 _).mono ?_
  rintro e wx ⟨⟨xa, ⟨xa1, xa2⟩, rfl⟩, hw⟩
  subst wx
  go_wp2_with fail
  refine (kscale_any _ _ hb.1 hb.2 tb.1 tb.2 _).mono ?_
  rintro e wx ⟨⟨xb, ⟨xb1, xb2⟩, rfl⟩, hw⟩
  subst wx
  go_wp2_with fail
  refine (klow_any _ _ xa1 xa2 xb1 xb2 _).mono ?_
  rintro e w1 ⟨rfl, g1⟩
  go_wp2_with fail
  refine (kscale_any _ _ hc.1 hc.2 tc.1 tc.2 _).mono ?_
  rintro e wx ⟨⟨xc, ⟨xc1, xc2⟩, rfl⟩, hw⟩
  subst wx
  go_wp2_with fail
  refine (kscale_any _ _ hd.1 hd.2 td.1 td.2 _).mono ?_
  rintro e wx ⟨⟨xd, ⟨xd1, xd2⟩, rfl⟩, hw⟩
  subst wx
  go_wp2_with fail
  refine (klow_any _ _ xc1 xc2 xd1 xd2 _).mono ?_
  rintro e w2 ⟨rfl, g2⟩
  obtain ⟨p0, p1, q0, q1, hpq⟩ := red_bounds xa1 xb1
  obtain ⟨r0, r1, s0, s1, hrs⟩ := red_bounds xc1 xd1
  have b3 := den1_le xb2 (by decide)
  have d3 := den1_le xd2 (by decide)
  generalize redN xa (den1 xb) = p at *
  generalize redD xa (den1 xb) = q at *
  generalize redN xc (den1 xd) = r at *
  generalize redD xc (den1 xd) = s at *
  have G2 := g1.trans g2
  have p2 : p ≤ 18446744073709551615 := by omega
  have q2 : q ≤ 18446744073709551615 := by omega
  have r2 : r ≤ 18446744073709551615 := by omega
  have s2 : s ≤ 18446744073709551615 := by omega
  clear g1 g2 ha hb hc hd ta tb tc td p1 q1 r1 s1 b3 d3 xa1 xa2 xb1 xb2 xc1 xc2 xd1 xd2
  have hg : 0 < gz p s := gz_pos_right (by omega)
  have hh : 0 < gz r q := gz_pos_right (by omega)
  have hgl := gz_le_right (a := p) (b := s) (by omega)
  have hhl := gz_le_right (a := r) (b := q) (by omega)
  have P0 : 0 ≤ crossP p q r s := Int.mul_nonneg (ediv_nonneg' p0 hg) (ediv_nonneg' r0 hh)
  have Q0 : 0 < crossQ p q r s := crossQ_pos (by omega) (by omega)
  have eP := crossP_mul p q r s
  have eQ := crossQ_mul p q r s
  have hcop := cross_coprime (a := p) (b := q) (c := r) (d := s) (by omega) (by omega) hpq hrs
  have hx := cross_eq p q r s
  have hz := crossP_zero (a := p) (b := q) (c := r) (d := s) (by omega) (by omega)
  have hcopH : Hid (gz (crossP p q r s) (crossQ p q r s) = 1) := hcop
  have hxH : Hid (crossP p q r s * (q * s) = p * r * crossQ p q r s) := hx
  have hzH : Hid (crossP p q r s = 0 ↔ p = 0 ∨ r = 0) := hz
  have l1 : ∀ L, Hid (decide (p * r ≤ L * gz p s * gz r q) = decide (crossP p q r s ≤ L)) := fun L => le_scaled hg hh eP
  have l2 : ∀ L, Hid (decide (q * s ≤ L * gz p s * gz r q) = decide (crossQ p q r s ≤ L)) := fun L => le_scaled hg hh eQ
  clear eP eQ hcop hx hz hpq hrs
  go_wp2_with fail
  refine (xgcd_any _ _ p0 (by omega) p2 s2 _).mono ?_
  rintro e wx ⟨rfl, hw⟩
  subst wx
  go_wp2_with fail
  refine (xgcd_any _ _ r0 (by omega) r2 q2 _).mono ?_
  rintro e wx ⟨rfl, hw⟩
  subst wx
  cases neg
  · go_wp2_with fail
    refine (kmul3_any _ _ _ p0 p2 r0 r2 (by decide) (by decide) _).mono ?_
    rintro e w3 ⟨rfl, g3⟩
    go_wp2_with fail
    refine (kmul3_any _ _ _ (by decide) (by decide) (by omega) (by omega) (by omega) (by omega) _).mono ?_
    rintro e w4 ⟨rfl, g4⟩
    go_wp2_with fail
    refine (kle_any _ _ _).mono ?_
    rw [(l1 _).out]
    rintro e w5 ⟨rfl, g5⟩
    have G5 := ((G2.trans g3).trans g4).trans g5
    clear G2 g3 g4 g5
    have hfit := fit_pos (P := crossP p q r s) (Q := crossQ p q r s) P0
    by_cases hP : crossP p q r s ≤ 9223372036854775807
    · go_wp2_with fail
      refine (kmul3_any _ _ _ (by omega) q2 (by omega) s2 (by decide) (by decide) _).mono ?_
      rintro e w6 ⟨rfl, g6⟩
      go_wp2_with fail
      refine (kmul3_any _ _ _ (by decide) (by decide) (by omega) (by omega) (by omega) (by omega) _).mono ?_
      rintro e w7 ⟨rfl, g7⟩
      go_wp2_with fail
      refine (kle_any _ _ _).mono ?_
      rw [(l2 _).out]
      rintro e w8 ⟨rfl, g8⟩
      have G8 := ((G5.trans g6).trans g7).trans g8
      clear G5 g6 g7 g8 l1 l2
      by_cases hQ : crossQ p q r s ≤ 9223372036854775807
      · have hf := hfit.mpr ⟨hP, hQ⟩
        have hr1 : ratN (sg false (crossP p q r s)) (crossQ p q r s) = crossP p q r s := ratN_yes hf
        have hr2 := ratD_yes hf
        clear hfit
        go_wp2_with fail
        refine (product_any _ _ _ _ _ p0 p2 (by omega) q2 r0 r2 (by omega) s2 _).mono ?_
        rintro e w9 ⟨rfl, g9⟩
        have hcop := hcopH.out
        have hx := hxH.out
        rw [← Int.mul_assoc] at hx
        have hz := hzH.out
        clear hcopH hxH hzH
        generalize crossP p q r s = P at *
        generalize crossQ p q r s = Q at *
        have hn : decide (P < 0) = false := decide_eq_false (by omega)
        clear hz
        go_wp2_with fail
        refine (xgcd_any _ _ P0 (by omega) (by omega) (by omega) _).mono ?_
        rintro e wx ⟨rfl, hw⟩
        subst wx
        go_wp2_with fail
        refine (kmul3_any _ _ _ P0 (by omega) (by omega) q2 (by omega) s2 _).mono ?_
        rintro e w10 ⟨rfl, g10⟩
        go_wp2_with fail
        refine (kmul3_any _ _ _ p0 p2 r0 r2 (by omega) (by omega) _).mono ?_
        rintro e w11 ⟨rfl, g11⟩
        have harr := arr3_eq
        go_wp2_with fail
        go_ret
        exact ⟨rfl, ((((G8.trans g9).alloc _ _).trans g10).trans g11).grown⟩
      · have hf : fitB (sg false (crossP p q r s)) (crossQ p q r s) = false := Bool.eq_false_iff.mpr (fun h => hQ (hfit.mp h).2)
        have hr1 := ratN_no hf
        have hr2 := ratD_no hf
        clear hfit
        go_wp2_with fail
        refine (product_any _ _ _ _ _ p0 p2 (by omega) q2 r0 r2 (by omega) s2 _).mono ?_
        rintro e w9 ⟨rfl, g9⟩
        go_wp2_with fail
        go_ret
        exact ⟨rfl, ((G8.trans g9).alloc _ _).grown⟩
    · have hf : fitB (sg false (crossP p q r s)) (crossQ p q r s) = false := Bool.eq_false_iff.mpr (fun h => hP (hfit.mp h).1)
      have hr1 := ratN_no hf
      have hr2 := ratD_no hf
      clear hfit l1 l2
      go_wp2_with fail
      refine (product_any _ _ _ _ _ p0 p2 (by omega) q2 r0 r2 (by omega) s2 _).mono ?_
      rintro e w9 ⟨rfl, g9⟩
      go_wp2_with fail
      go_ret
      exact ⟨rfl, ((G5.trans g9).alloc _ _).grown⟩
  · go_wp2_with fail
    refine (kmul3_any _ _ _ p0 p2 r0 r2 (by decide) (by decide) _).mono ?_
    rintro e w3 ⟨rfl, g3⟩
    go_wp2_with fail
    refine (kmul3_any _ _ _ (by decide) (by decide) (by omega) (by omega) (by omega) (by omega) _).mono ?_
    rintro e w4 ⟨rfl, g4⟩
    go_wp2_with fail
    refine (kle_any _ _ _).mono ?_
    rw [(l1 _).out]
    rintro e w5 ⟨rfl, g5⟩
    have G5 := ((G2.trans g3).trans g4).trans g5
    clear G2 g3 g4 g5
    have hfit := fit_neg (P := crossP p q r s) (Q := crossQ p q r s) P0
    by_cases hP : crossP p q r s ≤ 9223372036854775808
    · go_wp2_with fail
      refine (kmul3_any _ _ _ (by omega) q2 (by omega) s2 (by decide) (by decide) _).mono ?_
      rintro e w6 ⟨rfl, g6⟩
      go_wp2_with fail
      refine (kmul3_any _ _ _ (by decide) (by decide) (by omega) (by omega) (by omega) (by omega) _).mono ?_
      rintro e w7 ⟨rfl, g7⟩
      go_wp2_with fail
      refine (kle_any _ _ _).mono ?_
      rw [(l2 _).out]
      rintro e w8 ⟨rfl, g8⟩
      have G8 := ((G5.trans g6).trans g7).trans g8
      clear G5 g6 g7 g8 l1 l2
      by_cases hQ : crossQ p q r s ≤ 9223372036854775807
      · have hf := hfit.mpr ⟨hP, hQ⟩
        have hr1 : ratN (sg true (crossP p q r s)) (crossQ p q r s) = -crossP p q r s := ratN_yes hf
        have hr2 := ratD_yes hf
        clear hfit
        go_wp2_with fail
        refine (product_any _ _ _ _ _ p0 p2 (by omega) q2 r0 r2 (by omega) s2 _).mono ?_
        rintro e w9 ⟨rfl, g9⟩
        have hcop := hcopH.out
        have hx := hxH.out
        rw [← Int.mul_assoc] at hx
        have hz := hzH.out
        clear hcopH hxH hzH
        generalize crossP p q r s = P at *
        generalize crossQ p q r s = Q at *
        by_cases hP0 : P = 0
        · subst hP0
          have hpr := hz.mp rfl
          clear hz
          by_cases hp : p = 0
          · subst hp
            go_wp2_with fail
            refine (xgcd_any _ _ P0 (by omega) (by omega) (by omega) _).mono ?_
            rintro e wx ⟨rfl, hw⟩
            subst wx
            go_wp2_with fail
            refine (kmul3_any _ _ _ P0 (by omega) (by omega) q2 (by omega) s2 _).mono ?_
            rintro e w10 ⟨rfl, g10⟩
            go_wp2_with fail
            refine (kmul3_any _ _ _ p0 p2 r0 r2 (by omega) (by omega) _).mono ?_
            rintro e w11 ⟨rfl, g11⟩
            have harr := arr3_eq
            go_wp2_with fail
            go_ret
            exact ⟨rfl, ((((G8.trans g9).alloc _ _).trans g10).trans g11).grown⟩
          · have hr : r = 0 := hpr.resolve_left hp
            subst hr
            have hp' : (p != 0) = true := by simpa using hp
            go_wp2_with fail
            refine (xgcd_any _ _ P0 (by omega) (by omega) (by omega) _).mono ?_
            rintro e wx ⟨rfl, hw⟩
            subst wx
            go_wp2_with fail
            refine (kmul3_any _ _ _ P0 (by omega) (by omega) q2 (by omega) s2 _).mono ?_
            rintro e w10 ⟨rfl, g10⟩
            go_wp2_with fail
            refine (kmul3_any _ _ _ p0 p2 r0 r2 (by omega) (by omega) _).mono ?_
            rintro e w11 ⟨rfl, g11⟩
            have harr := arr3_eq
            go_wp2_with fail
            go_ret
            exact ⟨rfl, ((((G8.trans g9).alloc _ _).trans g10).trans g11).grown⟩
        · have hp' : (p != 0) = true := by simpa using (fun h => hP0 (hz.mpr (Or.inl h)))
          have hr' : (r != 0) = true := by simpa using (fun h => hP0 (hz.mpr (Or.inr h)))
          have hn : 0 < P := by omega
          have hw1 : IntKind.u64.wrap (-IntKind.u64.wrap (-P)) = P := by rw [IntKind.wrap_u64, IntKind.wrap_u64]; omega
          clear hz
          go_wp2_with fail
          refine (xgcd_any _ _ P0 (by omega) (by omega) (by omega) _).mono ?_
          rintro e wx ⟨rfl, hw⟩
          subst wx
          go_wp2_with fail
          refine (kmul3_any _ _ _ P0 (by omega) (by omega) q2 (by omega) s2 _).mono ?_
          rintro e w10 ⟨rfl, g10⟩
          go_wp2_with fail
          refine (kmul3_any _ _ _ p0 p2 r0 r2 (by omega) (by omega) _).mono ?_
          rintro e w11 ⟨rfl, g11⟩
          have harr := arr3_eq
          go_wp2_with fail
          go_ret
          exact ⟨rfl, ((((G8.trans g9).alloc _ _).trans g10).trans g11).grown⟩
      · have hf : fitB (sg true (crossP p q r s)) (crossQ p q r s) = false := Bool.eq_false_iff.mpr (fun h => hQ (hfit.mp h).2)
        have hr1 := ratN_no hf
        have hr2 := ratD_no hf
        clear hfit
        go_wp2_with fail
        refine (product_any _ _ _ _ _ p0 p2 (by omega) q2 r0 r2 (by omega) s2 _).mono ?_
        rintro e w9 ⟨rfl, g9⟩
        go_wp2_with fail
        go_ret
        exact ⟨rfl, ((G8.trans g9).alloc _ _).grown⟩
    · have hf : fitB (sg true (crossP p q r s)) (crossQ p q r s) = false := Bool.eq_false_iff.mpr (fun h => hP (hfit.mp h).1)
      have hr1 := ratN_no hf
      have hr2 := ratD_no hf
      clear hfit l1 l2
      go_wp2_with fail
      refine (product_any _ _ _ _ _ p0 p2 (by omega) q2 r0 r2 (by omega) s2 _).mono ?_
      rintro e w9 ⟨rfl, g9⟩
      go_wp2_with fail
      go_ret
      exact ⟨rfl, ((G5.trans g9).alloc _ _).grown⟩
end Go.Proofs.Ymbrdf
