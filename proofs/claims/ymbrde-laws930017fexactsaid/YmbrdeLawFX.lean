/-
  THE WALK of the law FExact (Add at all int64 parts).
-/
import Derived.Test.YmbrdeWalkF
import Derived.Test.YmbrdeWalkF3
import Derived.Test.YmbrdeWalkAdd
namespace Go.Proofs.Ymbrde
open Go.RowKit

/-- ffrac: some parts within int64. -/
theorem ffrac_any (n d : Int) (raw : Bool) (n1 : -9223372036854775808 ≤ n) (n2 : n ≤ 9223372036854775807) (d1 : -9223372036854775808 ≤ d) (d2 : d ≤ 9223372036854775807) (w : World) :
    Calls Ydem.prog 20 #[.int .i64 n, .int .i64 d, .bool raw] w fun e w' => (∃ p q : Int, (-9223372036854775808 ≤ p ∧ p ≤ 9223372036854775807 ∧ q ≤ 9223372036854775807) ∧ e = .returned (.agg #[.int .i64 p, .int .i64 q])) ∧ Gr w w' := by
  cases raw
  · refine (ffrac_red n d n1 n2 d1 d2 w).mono ?_
    rintro _ w' ⟨rfl, g⟩
    obtain ⟨x1, x2⟩ := denH_bound d1 d2
    obtain ⟨r1, r2, r3, r4, -⟩ := red_i64 (n := n) (d := denH d) n1 n2 x1
    exact ⟨⟨_, _, ⟨r1, r2, by omega⟩, rfl⟩, g⟩
  · refine (ffrac_raw n d w).mono ?_
    rintro _ w' ⟨rfl, g⟩
    exact ⟨⟨n, d, ⟨n1, n2, d2⟩, rfl⟩, g⟩

/-- The answer given is the exact sum. -/
theorem sum_exact {a b c d : Int} (h : sumB a b c d = true) : a * d * sumD a b c d + c * b * sumD a b c d = sumN a b c d * b * d := by
  obtain ⟨e1, e2⟩ := sum_yes h
  rw [e1, e2]
  have hx := red_cross (a * d + c * b) (b * d)
  rw [← Int.add_mul, ← hx, Int.mul_assoc]
/-- Any valid fraction that is the exact sum is the answer given. -/
theorem sum_only {a b c d p q : Int} (h1 : validB a b = true) (h2 : validB c d = true) (h3 : validB p q = true) (p1 : -9223372036854775808 ≤ p) (p2 : p ≤ 9223372036854775807) (q2 : q ≤ 9223372036854775807)
    (hx : a * d * q + c * b * q = p * b * d) : sumB a b c d = true ∧ sumN a b c d = p ∧ sumD a b c d = q := by
  obtain ⟨b1, -⟩ := validB_iff.mp h1
  obtain ⟨d1, -⟩ := validB_iff.mp h2
  obtain ⟨q1, g3⟩ := validB_iff.mp h3
  have hp : 0 < b * d := Int.mul_pos (by omega) (by omega)
  have r := red_unique (N := a * d + c * b) (D := b * d) (p := p) (q := q) hp (by omega) g3 (by rw [Int.add_mul, hx, Int.mul_assoc])
  have hB : sumB a b c d = true := by
    rw [(sum_val h1 h2).1, r.1, r.2]
    exact fitB_iff.mpr ⟨p1, p2, q2⟩
  obtain ⟨e1, e2⟩ := sum_yes hB
  exact ⟨hB, by rw [e1, r.1], by rw [e2, r.2]⟩
/-- An answer given is valid. -/
theorem sum_valid {a b c d : Int} (h : sumB a b c d = true) : validB (sumN a b c d) (sumD a b c d) = true ∧ -9223372036854775808 ≤ sumN a b c d ∧ sumN a b c d ≤ 9223372036854775807 ∧ sumD a b c d ≤ 9223372036854775807 := by
  obtain ⟨e1, e2⟩ := sum_yes h
  unfold sumB at h
  simp only [Bool.and_eq_true] at h
  obtain ⟨⟨h1, h2⟩, h3⟩ := h
  have b1 := (validB_iff.mp h1).1
  have d1 := (validB_iff.mp h2).1
  have hp : 0 < b * d := Int.mul_pos (by omega) (by omega)
  rw [e1, e2]
  obtain ⟨f1, f2, f3⟩ := fitB_iff.mp h3
  exact ⟨validB_mk (redD_pos hp) (red_coprime hp), f1, f2, f3⟩

set_option maxHeartbeats 4000000 in
theorem law_FExact (xn xd yn yd zn zd : Int) (raw : Bool) (b1 : -9223372036854775808 ≤ xn ∧ xn ≤ 9223372036854775807) (b2 : -9223372036854775808 ≤ xd ∧ xd ≤ 9223372036854775807)
    (b3 : -9223372036854775808 ≤ yn ∧ yn ≤ 9223372036854775807) (b4 : -9223372036854775808 ≤ yd ∧ yd ≤ 9223372036854775807)
    (b5 : -9223372036854775808 ≤ zn ∧ zn ≤ 9223372036854775807) (b6 : -9223372036854775808 ≤ zd ∧ zd ≤ 9223372036854775807) (w : World) :
    Calls Ydem.prog 7 #[.int .i64 xn, .int .i64 xd, .int .i64 yn, .int .i64 yd, .int .i64 zn, .int .i64 zd, .bool raw] w fun e w' => e = .returned (.bool true) ∧ Grown w w' := by
  obtain ⟨u1, u2⟩ := denH_bound b6.1 b6.2
  obtain ⟨z1, z2, z3, z4, z5⟩ := red_i64 (n := zn) (d := denH zd) b5.1 b5.2 u1
  have z6 : redD zn (denH zd) ≤ 9223372036854775807 := by omega
  clear z4
  go_enter Ydem.func7, Ydem.ntmps7
  go_wp2_with fail
  refine (ffrac_any _ _ _ b1.1 b1.2 b2.1 b2.2 _).mono ?_
  rintro _ w1 ⟨⟨p, q, ⟨p1, p2, q2⟩, rfl⟩, g1⟩
  go_wp2_with fail
  refine (ffrac_any _ _ _ b3.1 b3.2 b4.1 b4.2 _).mono ?_
  rintro _ w2 ⟨⟨r, s, ⟨r1, r2, s2⟩, rfl⟩, g2⟩
  obtain ⟨hc2, hf2, hz2⟩ := gcell g2
  have s12 : w1.heap.size < w2.heap.size := by simp at hz2; omega
  clear hz2
  go_wp2_with fail
  refine (ffrac_red _ _ b5.1 b5.2 b6.1 b6.2 _).mono ?_
  rintro _ w3 ⟨rfl, g3⟩
  obtain ⟨hc3, hf3, hz3⟩ := gcell g3
  have s13 : w1.heap.size < w3.heap.size := by simp at hz3; omega
  have s23 : w2.heap.size < w3.heap.size := by simp at hz3; omega
  clear hz3 b1 b2 b3 b4 b5 b6 u1 u2
  generalize redN zn (denH zd) = t at *
  generalize redD zn (denH zd) = v at *
  go_wp2_with fail
  refine (add_any _ _ _ _ p1 p2 q2 r1 r2 s2 _).mono ?_
  rintro _ w4 ⟨rfl, g4⟩
  obtain ⟨hc4, hf4, hz4⟩ := gcell g4
  have s14 : w1.heap.size < w4.heap.size := by simp at hz4; omega
  have s24 : w2.heap.size < w4.heap.size := by simp at hz4; omega
  have s34 : w3.heap.size < w4.heap.size := by simp at hz4; omega
  clear hz4
  go_wp2_with fail
  refine (fvalid_any _ _ p1 p2 q2 _).mono ?_
  rintro _ w5 ⟨rfl, g5⟩
  obtain ⟨hc5, hf5, hz5⟩ := gcell g5
  have s15 : w1.heap.size < w5.heap.size := by simp at hz5; omega
  have s25 : w2.heap.size < w5.heap.size := by simp at hz5; omega
  have s35 : w3.heap.size < w5.heap.size := by simp at hz5; omega
  have s45 : w4.heap.size < w5.heap.size := by simp at hz5; omega
  clear hz5
  have G5 : Gr w w5 := (((((g1.alloc _ _).trans g2).alloc _ _).trans g3 |>.alloc _ _).trans g4 |>.alloc _ _).trans g5
  clear g1 g2 g3 g4 g5
  by_cases hv1 : validB p q = true
  · go_wp2_with fail
    refine (fvalid_any _ _ r1 r2 s2 _).mono ?_
    rintro _ w6 ⟨rfl, g6⟩
    obtain ⟨hc6, hf6, hz6⟩ := gcell g6
    have s16 : w1.heap.size < w6.heap.size := by omega
    have s26 : w2.heap.size < w6.heap.size := by omega
    have s36 : w3.heap.size < w6.heap.size := by omega
    have s46 : w4.heap.size < w6.heap.size := by omega
    have G6 := G5.trans g6
    clear hz6 g6 G5
    by_cases hv2 : validB r s = true
    · have q1 := (validB_iff.mp hv1).1
      have s1 := (validB_iff.mp hv2).1
      have t1 := (validB_iff.mp z5).1
      by_cases hB : sumB p q r s = true
      · obtain ⟨w0, n1, n2, n3⟩ := sum_valid hB
        have n4 := (validB_iff.mp w0).1
        have hx : decide (p * s * sumD p q r s + r * q * sumD p q r s = sumN p q r s * q * s) = true := decide_eq_true (sum_exact hB)
        generalize sumN p q r s = N at *
        generalize sumD p q r s = D at *
        go_wp2_with fail
        refine (fvalid_any _ _ n1 n2 n3 _).mono ?_
        rintro _ w7 ⟨rfl, g7⟩
        obtain ⟨hc7, hf7, hz7⟩ := gcell g7
        go_wp2_with fail
        refine (fissum_any _ _ _ _ _ _ p1 p2 (by omega) q2 r1 r2 (by omega) s2 n1 n2 (by omega) n3 _).mono ?_
        rw [hx]
        rintro _ w8 ⟨rfl, g8⟩
        go_wp2_with fail
        go_ret
        exact ⟨rfl, ((G6.trans g7).trans g8).grown⟩
      · have hB : sumB p q r s = false := by simpa using hB
        obtain ⟨n1, n2⟩ := sum_none hB
        have hx : decide (p * s * v + r * q * v = t * q * s) = false := decide_eq_false (fun h => by
          have := (sum_only hv1 hv2 z5 z1 z2 z6 h).1
          rw [hB] at this; exact absurd this (by decide))
        go_wp2_with fail
        refine (fissum_any _ _ _ _ _ _ p1 p2 (by omega) q2 r1 r2 (by omega) s2 z1 z2 (by omega) z6 _).mono ?_
        rw [hx]
        rintro _ w8 ⟨rfl, g8⟩
        go_wp2_with fail
        go_ret
        exact ⟨rfl, (G6.trans g8).grown⟩
    · have hv2 : validB r s = false := by simpa using hv2
      obtain ⟨vB, vN, vD⟩ := sum_inv (a := p) (b := q) (Or.inr hv2)
      go_wp2_with fail
      go_ret
      exact ⟨rfl, G6.grown⟩
  · have hv1 : validB p q = false := by simpa using hv1
    obtain ⟨vB, vN, vD⟩ := sum_inv (c := r) (d := s) (Or.inl hv1)
    go_wp2_with fail
    go_ret
    exact ⟨rfl, G5.grown⟩
end Go.Proofs.Ymbrde
