/-
  THE WALK of the law FSmall (Add, 32-bit parts).
-/
import Derived.Test.YmbrdeWalkF
import Derived.Test.YmbrdeWalkAdd
namespace Go.Proofs.Ymbrde
open Go.RowKit

theorem tdiv_mag (n d : Int) : n.tdiv (gz (magZ n) d) = redN n d := by rw [gz_mag_left]; exact tdiv_red n d
theorem tdiv_mag' (n d : Int) : d.tdiv (gz (magZ n) d) = redD n d := by rw [gz_mag_left]; exact tdiv_red' n d
theorem mul_box {x y : Int} (x1 : -2147483648 ≤ x) (x2 : x ≤ 2147483647) (y1 : 0 ≤ y) (y2 : y ≤ 2147483647) : -4611686016279904256 ≤ x * y ∧ x * y ≤ 4611686014132420609 := by
  have h1 := Int.mul_le_mul_of_nonneg_right x1 y1
  have h2 := Int.mul_le_mul_of_nonneg_right x2 y1
  omega

theorem ffrac_small (n d : Int) (raw : Bool) (n1 : -2147483648 ≤ n) (n2 : n ≤ 2147483647) (d1 : -2147483648 ≤ d) (d2 : d ≤ 2147483647) (w : World) :
    Calls Ydem.prog 20 #[.int .i64 n, .int .i64 d, .bool raw] w fun e w' => (∃ p q : Int, (-2147483648 ≤ p ∧ p ≤ 2147483647 ∧ q ≤ 2147483647) ∧ e = .returned (.agg #[.int .i64 p, .int .i64 q])) ∧ Gr w w' := by
  cases raw
  · refine (ffrac_red n d (by omega) (by omega) (by omega) (by omega) w).mono ?_
    rintro _ w' ⟨rfl, g⟩
    have hx : 1 ≤ denH d ∧ denH d ≤ 2147483647 := by unfold denH; split <;> split <;> omega
    obtain ⟨r1, r2, r3, r4, -⟩ := red_i64 (n := n) (d := denH d) (by omega) (by omega) hx.1
    have hl := red_le n (denH d) (by omega)
    have e1 := redN_mul n (denH d)
    have hg : 0 < gz n (denH d) := gz_pos_right (by omega)
    refine ⟨⟨_, _, ⟨by omega, ?_, by omega⟩, rfl⟩, g⟩
    rcases Int.lt_or_le n 0 with h | h
    · rcases Int.lt_or_le 0 (redN n (denH d)) with h3 | h3
      · have := Int.mul_pos h3 hg; omega
      · omega
    · omega
  · refine (ffrac_raw n d w).mono ?_
    rintro _ w' ⟨rfl, g⟩
    exact ⟨⟨n, d, ⟨n1, n2, d2⟩, rfl⟩, g⟩

set_option maxHeartbeats 4000000 in
theorem law_FSmall (xn xd yn yd : Int) (raw : Bool) (b1 : -2147483648 ≤ xn ∧ xn ≤ 2147483647) (b2 : -2147483648 ≤ xd ∧ xd ≤ 2147483647)
    (b3 : -2147483648 ≤ yn ∧ yn ≤ 2147483647) (b4 : -2147483648 ≤ yd ∧ yd ≤ 2147483647) (w : World) :
    Calls Ydem.prog 6 #[.int .i32 xn, .int .i32 xd, .int .i32 yn, .int .i32 yd, .bool raw] w fun e w' => e = .returned (.bool true) ∧ Grown w w' := by
  obtain ⟨xn1, xn2⟩ := b1
  obtain ⟨xd1, xd2⟩ := b2
  obtain ⟨yn1, yn2⟩ := b3
  obtain ⟨yd1, yd2⟩ := b4
  go_enter Ydem.func6, Ydem.ntmps6
  go_wp2_with fail
  refine (ffrac_small _ _ _ xn1 xn2 xd1 xd2 _).mono ?_
  rintro _ w1 ⟨⟨p, q, ⟨p1, p2, q2⟩, rfl⟩, g1⟩
  go_wp2_with fail
  refine (ffrac_small _ _ _ yn1 yn2 yd1 yd2 _).mono ?_
  rintro _ w2 ⟨⟨r, s, ⟨r1, r2, s2⟩, rfl⟩, g2⟩
  obtain ⟨hc2, hf2, hz2⟩ := gcell g2
  have s12 : w1.heap.size < w2.heap.size := by simp at hz2; omega
  clear hz2 xn1 xn2 xd1 xd2 yn1 yn2 yd1 yd2
  go_wp2_with fail
  refine (add_any _ _ _ _ (by omega) (by omega) (by omega) (by omega) (by omega) (by omega) _).mono ?_
  rintro _ w3 ⟨rfl, g3⟩
  obtain ⟨hc3, hf3, hz3⟩ := gcell g3
  have s13 : w1.heap.size < w3.heap.size := by simp at hz3; omega
  have s23 : w2.heap.size < w3.heap.size := by simp at hz3; omega
  clear hz3
  go_wp2_with fail
  refine (fvalid_any _ _ (by omega) (by omega) (by omega) _).mono ?_
  rintro _ w4 ⟨rfl, g4⟩
  obtain ⟨hc4, hf4, hz4⟩ := gcell g4
  have s14 : w1.heap.size < w4.heap.size := by simp at hz4; omega
  have s24 : w2.heap.size < w4.heap.size := by simp at hz4; omega
  have s34 : w3.heap.size < w4.heap.size := by simp at hz4; omega
  clear hz4
  have G4 : Gr w w4 := ((((g1.alloc _ _).trans g2).alloc _ _).trans g3 |>.alloc _ _).trans g4
  clear g1 g2 g3 g4
  by_cases hv1 : validB p q = true
  · go_wp2_with fail
    refine (fvalid_any _ _ (by omega) (by omega) (by omega) _).mono ?_
    rintro _ w5 ⟨rfl, g5⟩
    obtain ⟨hc5, hf5, hz5⟩ := gcell g5
    have G5 := G4.trans g5
    clear hz5 g5 G4
    by_cases hv2 : validB r s = true
    · obtain ⟨vB, vN, vD⟩ := sum_val hv1 hv2
      have q1 := (validB_iff.mp hv1).1
      have s1 := (validB_iff.mp hv2).1
      obtain ⟨m1a, m1b⟩ := mul_box p1 p2 (show 0 ≤ s by omega) s2
      obtain ⟨m2a, m2b⟩ := mul_box r1 r2 (show 0 ≤ q by omega) q2
      have m3 := mul_bound (x := q) (y := s) (A := 2147483647) (B := 2147483647) (by omega) (by omega)
      have m4 : 0 < q * s := Int.mul_pos (by omega) (by omega)
      have m5 : q * s ≤ 4611686014132420609 := by omega
      have hf := fit_small (N := p * s + r * q) (D := q * s) m4 (by omega) (by omega) (by omega)
      rw [hf] at vB
      rw [ratN_yes hf] at vN
      rw [ratD_yes hf] at vD
      have t1 := tdiv_mag (p * s + r * q) (q * s)
      have t2 := tdiv_mag' (p * s + r * q) (q * s)
      have hg : 0 < gz (magZ (p * s + r * q)) (q * s) := gz_pos_right (by omega)
      have hgl := gz_le_right (a := magZ (p * s + r * q)) (b := q * s) m4
      obtain ⟨f1, f2, f3⟩ := fitB_iff.mp hf
      have r4 := redD_pos (N := p * s + r * q) m4
      have hmag0 := magZ_nonneg (p * s + r * q)
      have hmag1 := magZ_le (n := p * s + r * q) (by omega) (by omega)
      clear hf m3
      generalize redN (p * s + r * q) (q * s) = RN at *
      generalize redD (p * s + r * q) (q * s) = RD at *
      have N1 : -9223372036854775808 ≤ p * s + r * q := by omega
      have N2 : p * s + r * q ≤ 9223372036854775807 := by omega
      generalize hgv : gz (magZ (p * s + r * q)) (q * s) = g at *
      generalize hMv : magZ (p * s + r * q) = M at *
      generalize hNv : p * s + r * q = N at *
      generalize hEv : q * s = E at *
      have u1 := IntWalk.wrap64_in RN ⟨by omega, by omega⟩
      have u2 := IntWalk.wrap64_in RD ⟨by omega, by omega⟩
      have hg0 : ¬ g = 0 := by omega
      go_wp2_with fail
      refine (fabs_any _ (by omega) (by omega) _).mono ?_
      rintro _ wx ⟨rfl, hw⟩
      subst wx
      rw [hMv]
      go_wp2_with fail
      refine (fgcd_any _ _ (by omega) (by omega) (by omega) (by omega) _).mono ?_
      rintro _ wx ⟨rfl, hw⟩
      subst wx
      rw [hgv]
      go_wp2_with fail
      go_quiet (fail)
      go_wp2_with fail
      go_ret
      exact ⟨rfl, (G5.drewN _).grown⟩
    · have hv2 : validB r s = false := by simpa using hv2
      obtain ⟨vB, vN, vD⟩ := sum_inv (a := p) (b := q) (Or.inr hv2)
      go_wp2_with fail
      go_ret
      exact ⟨rfl, G5.grown⟩
  · have hv1 : validB p q = false := by simpa using hv1
    obtain ⟨vB, vN, vD⟩ := sum_inv (c := r) (d := s) (Or.inl hv1)
    go_wp2_with fail
    go_ret
    exact ⟨rfl, G4.grown⟩
end Go.Proofs.Ymbrde
