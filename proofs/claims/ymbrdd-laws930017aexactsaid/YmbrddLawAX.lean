/-
  THE WALK of the law AExact (sum at all parts).
-/
import Derived.Test.YmbrddWalkAA
import Derived.Test.YmbrddWalkB
import Derived.Test.YmbrddWalkA4
namespace Go.Proofs.Ymbrdd
open Go.RowKit

/-- The reduced sum is the exact sum. -/
theorem asum_exact {a b c d : Int} : redN (a * d + c * b) (b * d) * b * d = a * d * redD (a * d + c * b) (b * d) + c * b * redD (a * d + c * b) (b * d) := by
  have hx := red_cross (a * d + c * b) (b * d)
  rw [← Int.add_mul, ← hx, Int.mul_assoc]
/-- Any valid fraction that is the exact sum is the reduced sum. -/
theorem asum_only {a b c d p q : Int} (b1 : 1 ≤ b) (d1 : 1 ≤ d) (h3 : validB p q = true)
    (hx : p * b * d = a * d * q + c * b * q) : redN (a * d + c * b) (b * d) = p ∧ redD (a * d + c * b) (b * d) = q := by
  obtain ⟨q1, g3⟩ := validB_iff.mp h3
  have hp : 0 < b * d := Int.mul_pos (by omega) (by omega)
  exact red_unique (N := a * d + c * b) (D := b * d) (p := p) (q := q) hp (by omega) g3 (by rw [Int.add_mul, ← hx, Int.mul_assoc])

/-- The part of y brought below 2^63. -/
def lowA (c : Int) : Int := if c > 9223372036854775808 then c - 9223372036854775808 else c

set_option maxHeartbeats 8000000 in
theorem law_AExact (xn xd : Int) (ys : Bool) (c d zn zd : Int) (b1 : -9223372036854775808 ≤ xn ∧ xn ≤ 9223372036854775807) (b2 : 0 ≤ xd ∧ xd ≤ 18446744073709551615)
    (b3 : 0 ≤ c ∧ c ≤ 18446744073709551615) (b4 : 0 ≤ d ∧ d ≤ 18446744073709551615)
    (b5 : -9223372036854775808 ≤ zn ∧ zn ≤ 9223372036854775807) (b6 : 0 ≤ zd ∧ zd ≤ 18446744073709551615) (w : World) :
    Calls Yddm.prog 3 #[.int .i64 xn, .int .u64 xd, .bool ys, .int .u64 c, .int .u64 d, .int .i64 zn, .int .u64 zd] w fun e w' => e = .returned (.bool true) ∧ Grown w w' := by
  obtain ⟨u1, u2⟩ := denA_bound xd
  obtain ⟨v1, v2⟩ := denA_bound d
  obtain ⟨y1, y2⟩ := denA_bound zd
  obtain ⟨x1, x2, x3, x4, x5⟩ := red_i64 (n := xn) (d := denA xd) b1.1 b1.2 u1
  obtain ⟨z1, z2, z3, z4, z5⟩ := red_i64 (n := zn) (d := denA zd) b5.1 b5.2 y1
  have x6 : redD xn (denA xd) ≤ 9223372036854775807 := by omega
  have z6 : redD zn (denA zd) ≤ 9223372036854775807 := by omega
  have hgx := (validB_iff.mp x5).2
  clear x4 z4 x5 u1 u2 y1 y2
  have hm0 : 0 ≤ lowA c ∧ lowA c ≤ 9223372036854775808 := by unfold lowA; split <;> omega
  have hgc := red_coprime (N := lowA c) (D := denA d) (by omega)
  have hcl := red_le (lowA c) (denA d) (by omega)
  have hcp := redD_pos (N := lowA c) (D := denA d) (by omega)
  have hc0 : 0 ≤ redN (lowA c) (denA d) := ediv_nonneg' hm0.1 (gz_pos_right (by omega))
  have hc1 : redN (lowA c) (denA d) ≤ 9223372036854775808 := by omega
  have hd1 : redD (lowA c) (denA d) ≤ 9223372036854775807 := by omega
  have hd0 : 1 ≤ redD (lowA c) (denA d) := by omega
  clear hcl hcp v1 v2
  have SY := fun w => alow_any (lowA c) d hm0.1 (by omega) b4.1 b4.2 w
  generalize redN (lowA c) (denA d) = r at *
  generalize redD (lowA c) (denA d) = s at *
  have hlow : (c > 9223372036854775808 ∧ lowA c = c - 9223372036854775808) ∨ (¬ c > 9223372036854775808 ∧ lowA c = c) := by
    unfold lowA
    by_cases h : c > 9223372036854775808
    · exact Or.inl ⟨h, if_pos h⟩
    · exact Or.inr ⟨h, if_neg h⟩
  have rest : ∀ (w1 : World), Gr w w1 → True := fun _ _ => trivial
  clear rest
  rcases hlow with ⟨hl, hl2⟩ | ⟨hl, hl2⟩
  all_goals
    rw [hl2] at SY
    clear hl2 hm0
    go_enter Yddm.func3, Yddm.ntmps3
    go_wp2_with fail
    refine (arat_any _ _ b1.1 b1.2 b2.1 b2.2 _).mono ?_
    rintro _ w1 ⟨rfl, g1⟩
    go_wp2_with fail
    refine (SY _).mono ?_
    rintro _ w2 ⟨rfl, g2⟩
    obtain ⟨hc2, hf2, hz2⟩ := gcell g2
    have s12 : w1.heap.size < w2.heap.size := by simp at hz2; omega
    clear hz2
    go_wp2_with fail
    refine (arat_any _ _ b5.1 b5.2 b6.1 b6.2 _).mono ?_
    rintro _ w3 ⟨rfl, g3⟩
    obtain ⟨hc3, hf3, hz3⟩ := gcell g3
    have s13 : w1.heap.size < w3.heap.size := by omega
    clear hz3 SY
    generalize redN xn (denA xd) = p at *
    generalize redD xn (denA xd) = q at *
    generalize redN zn (denA zd) = t at *
    generalize redD zn (denA zd) = v at *
    go_wp2_with fail
    refine (sum_any _ _ _ _ _ x1 x2 x3 x6 hc0 hc1 hd0 hd1 hgx hgc _).mono ?_
    rintro _ w4 ⟨rfl, g4⟩
    obtain ⟨hc4, hf4, hz4⟩ := gcell g4
    have s14 : w1.heap.size < w4.heap.size := by simp at hz4; omega
    have s34 : w3.heap.size < w4.heap.size := by simp at hz4; omega
    clear hz4
    have G4 : Gr w w4 := (((((g1.alloc _ _).trans g2)).trans g3 |>.alloc _ _).trans g4)
    clear g1 g2 g3 g4
    have hex := asum_exact (a := p) (b := q) (c := sg ys r) (d := s)
    have hon := asum_only (a := p) (b := q) (c := sg ys r) (d := s) (p := t) (q := v) x3 hd0 z5
    have hqs : 0 < q * s := Int.mul_pos (by omega) (by omega)
    have hcop := validB_mk (redD_pos (N := p * s + sg ys r * q) hqs) (red_coprime (N := p * s + sg ys r * q) hqs)
    have hDp := redD_pos (N := p * s + sg ys r * q) hqs
    generalize redN (p * s + sg ys r * q) (q * s) = N at *
    generalize redD (p * s + sg ys r * q) (q * s) = D at *
    have ex1 : decide (N * q * s = p * s * D + sg ys r * q * D) = true := decide_eq_true hex
    clear hex
    by_cases hB : fitB N D = true
    · obtain ⟨n1, n2, n3⟩ := fitB_iff.mp hB
      have er1 := ratN_yes hB
      have er2 := ratD_yes hB
      rw [hB, er1, er2]
      clear er1 er2 hB
      go_wp2_with fail
      refine (valid_any _ _ n1 n2 n3 _).mono ?_
      rw [hcop]
      rintro _ w5 ⟨rfl, g5⟩
      obtain ⟨hc5, hf5, hz5⟩ := gcell g5
      have s15 : w1.heap.size < w5.heap.size := by simp at hz5; omega
      have s35 : w3.heap.size < w5.heap.size := by simp at hz5; omega
      have s45 : w4.heap.size < w5.heap.size := by simp at hz5; omega
      clear hz5
      go_wp2_with fail
      refine (aissum_any _ _ _ _ _ _ _ x1 x2 (by omega) x6 hc0 hc1 (by omega) hd1 n1 n2 (by omega) n3 _).mono ?_
      rw [ex1]
      rintro _ w6 ⟨rfl, g6⟩
      obtain ⟨hc6, hf6, hz6⟩ := gcell g6
      have s16 : w1.heap.size < w6.heap.size := by omega
      have s36 : w3.heap.size < w6.heap.size := by omega
      have s46 : w4.heap.size < w6.heap.size := by omega
      clear hz6
      have G6 := ((G4.alloc _ _).trans g5).trans g6
      go_wp2_with fail
      refine (aissum_any _ _ _ _ _ _ _ x1 x2 (by omega) x6 hc0 hc1 (by omega) hd1 z1 z2 (by omega) z6 _).mono ?_
      by_cases hx : t * q * s = p * s * v + sg ys r * q * v
      · obtain ⟨o1, o2⟩ := hon hx
        rw [decide_eq_true hx]
        clear hx hon hcop ex1
        subst o1; subst o2
        rintro _ w7 ⟨rfl, g7⟩
        obtain ⟨hc7, hf7, hz7⟩ := gcell g7
        have s17 : w1.heap.size < w7.heap.size := by omega
        have s37 : w3.heap.size < w7.heap.size := by omega
        have s47 : w4.heap.size < w7.heap.size := by omega
        clear hz7
        go_wp2_with fail
        go_ret
        exact ⟨rfl, (G6.trans g7).grown⟩
      · rw [decide_eq_false hx]
        clear hx hon hcop ex1
        rintro _ w7 ⟨rfl, g7⟩
        go_wp2_with fail
        go_ret
        exact ⟨rfl, (G6.trans g7).grown⟩
    · have hB : fitB N D = false := by simpa using hB
      have hx : decide (t * q * s = p * s * v + sg ys r * q * v) = false := decide_eq_false (fun h => by
        obtain ⟨o1, o2⟩ := hon h
        rw [o1, o2] at hB
        rw [fitB_iff.mpr ⟨z1, z2, z6⟩] at hB; exact absurd hB (by decide))
      have er1 := ratN_no hB
      have er2 := ratD_no hB
      rw [hB, er1, er2]
      clear er1 er2 hB hon hcop ex1
      go_wp2_with fail
      refine (aissum_any _ _ _ _ _ _ _ x1 x2 (by omega) x6 hc0 hc1 (by omega) hd1 z1 z2 (by omega) z6 _).mono ?_
      rw [hx]
      rintro _ w7 ⟨rfl, g7⟩
      go_wp2_with fail
      go_ret
      exact ⟨rfl, ((G4.alloc _ _).trans g7).grown⟩
end Go.Proofs.Ymbrdd
