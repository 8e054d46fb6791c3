/-
  THE WALKS of the laws C (Neg).
-/
import Derived.Test.YmbrddWalkC
namespace Go.Proofs.Ymbrdd
open Go.RowKit

set_option maxHeartbeats 1000000 in
theorem law_CExact (n d : Int) (bn : -9223372036854775808 ≤ n ∧ n ≤ 9223372036854775807) (bd : -9223372036854775808 ≤ d ∧ d ≤ 9223372036854775807) (w : World) :
    Calls Yddm.prog 9 #[.int .i64 n, .int .i64 d] w fun e w' => e = .returned (.bool true) ∧ Grown w w' := by
  obtain ⟨n1, n2⟩ := bn
  obtain ⟨d1, d2⟩ := bd
  by_cases hd : d ≤ 0
  · have hv := validB_low (n := n) hd
    go_enter Yddm.func9, Yddm.ntmps9
    go_wp2_with fail
    refine (neg_no _ _ n1 n2 d2 (Or.inl hv) _).mono ?_
    rintro e w1 ⟨rfl, g1⟩
    go_wp2_with fail
    go_ret
    exact ⟨rfl, (g1.alloc _ _).grown⟩
  · by_cases hn : n = -9223372036854775808
    · subst hn
      go_enter Yddm.func9, Yddm.ntmps9
      go_wp2_with fail
      refine (neg_no _ _ n1 n2 d2 (Or.inr rfl) _).mono ?_
      rintro e w1 ⟨rfl, g1⟩
      go_wp2_with fail
      go_ret
      exact ⟨rfl, (g1.alloc _ _).grown⟩
    · have hn' : (n == -9223372036854775808) = false := by simpa using hn
      by_cases hv : validB n d = true
      · go_enter Yddm.func9, Yddm.ntmps9
        go_wp2_with fail
        refine (neg_yes _ _ (by omega) n2 d2 hv _).mono ?_
        rintro e w1 ⟨rfl, g1⟩
        go_wp2_with (go_at_call 32; refine (ccoprime_any _ _ (by omega) d2 _).mono ?_; rintro e wx ⟨rfl, hw⟩; subst wx)
        go_ret
        exact ⟨rfl, (g1.alloc _ _).grown⟩
      · have hv : validB n d = false := by simpa using hv
        go_enter Yddm.func9, Yddm.ntmps9
        go_wp2_with fail
        refine (neg_no _ _ (by omega) n2 d2 (Or.inl hv) _).mono ?_
        rintro e w1 ⟨rfl, g1⟩
        go_wp2_with (go_at_call 32; refine (ccoprime_any _ _ (by omega) d2 _).mono ?_; rintro e wx ⟨rfl, hw⟩; subst wx)
        go_ret
        exact ⟨rfl, (g1.alloc _ _).grown⟩

set_option maxHeartbeats 1000000 in
theorem law_CTwice (n d : Int) (bn : -9223372036854775808 ≤ n ∧ n ≤ 9223372036854775807) (bd : 0 ≤ d ∧ d ≤ 18446744073709551615) (w : World) :
    Calls Yddm.prog 10 #[.int .i64 n, .int .u64 d] w fun e w' => e = .returned (.bool true) ∧ Grown w w' := by
  obtain ⟨n1, n2⟩ := bn
  go_enter Yddm.func10, Yddm.ntmps10
  go_wp2_with fail
  refine (cden_any _ bd.1 bd.2 _).mono ?_
  rintro e wx ⟨⟨m, ⟨m1, m2⟩, rfl⟩, hw⟩
  subst wx
  clear bd
  go_wp2_with fail
  by_cases hv : validB n m = true
  · by_cases hn : n = -9223372036854775808
    · subst hn
      refine (neg_no _ _ n1 n2 m2 (Or.inr rfl) _).mono ?_
      rintro e w1 ⟨rfl, g1⟩
      obtain ⟨hc1, hf1, hz1⟩ := gcell g1
      have hz1a : w.heap.size < w1.heap.size := by simp at hz1; omega
      clear hz1
      go_wp2_with fail
      refine (valid_any _ _ n1 n2 m2 _).mono ?_
      rintro e w2 ⟨rfl, g2⟩
      obtain ⟨hc2, hf2, hz2⟩ := gcell g2
      go_wp2_with fail
      go_ret
      exact ⟨rfl, (((((Gr.refl _).alloc _ _).trans g1).alloc _ _).trans g2).grown⟩
    · have hn' : (n != -9223372036854775808) = true := by simpa using hn
      refine (neg_yes _ _ (by omega) n2 m2 hv _).mono ?_
      rintro e w1 ⟨rfl, g1⟩
      obtain ⟨hc1, hf1, hz1⟩ := gcell g1
      have hz1a : w.heap.size < w1.heap.size := by simp at hz1; omega
      clear hz1
      go_wp2_with fail
      refine (valid_any _ _ n1 n2 m2 _).mono ?_
      rintro e w2 ⟨rfl, g2⟩
      obtain ⟨hc2, hf2, hz2⟩ := gcell g2
      have hz2a : w.heap.size < w2.heap.size := by simp at hz2; omega
      have hz2b : w1.heap.size < w2.heap.size := by simp at hz2; omega
      clear hz2
      have hv2 : validB (-n) m = true := (validB_neg n m).trans hv
      go_wp2_with fail
      refine (neg_yes _ _ (by omega) (by omega) m2 hv2 _).mono ?_
      rintro e w3 ⟨rfl, g3⟩
      obtain ⟨hc3, hf3, hz3⟩ := gcell g3
      have hz3a : w.heap.size < w3.heap.size := by omega
      have hz3b : w1.heap.size < w3.heap.size := by omega
      go_wp2_with fail
      refine (valid_any _ _ (by omega) (by omega) m2 _).mono ?_
      rintro e w4 ⟨rfl, g4⟩
      obtain ⟨hc4, hf4, hz4⟩ := gcell g4
      have hz4a : w.heap.size < w4.heap.size := by simp at hz4; omega
      have hz4b : w1.heap.size < w4.heap.size := by simp at hz4; omega
      have hz4c : w3.heap.size < w4.heap.size := by simp at hz4; omega
      clear hz4
      go_wp2_with fail
      go_ret
      exact ⟨rfl, (((((((((Gr.refl _).alloc _ _).trans g1).alloc _ _).trans g2)).trans g3).alloc _ _).trans g4).grown⟩
  · have hv : validB n m = false := by simpa using hv
    refine (neg_no _ _ n1 n2 m2 (Or.inl hv) _).mono ?_
    rintro e w1 ⟨rfl, g1⟩
    obtain ⟨hc1, hf1, hz1⟩ := gcell g1
    have hz1a : w.heap.size < w1.heap.size := by simp at hz1; omega
    clear hz1
    go_wp2_with fail
    refine (valid_any _ _ n1 n2 m2 _).mono ?_
    rintro e w2 ⟨rfl, g2⟩
    obtain ⟨hc2, hf2, hz2⟩ := gcell g2
    go_wp2_with fail
    go_ret
    exact ⟨rfl, (((((Gr.refl _).alloc _ _).trans g1).alloc _ _).trans g2).grown⟩

theorem floor_sum {n m : Int} (h : 2 ≤ m) (hv : validB n m = true) : n / m + (-n) / m = -1 := by
  have hg := (validB_iff.mp hv).2
  have h1 := Int.emod_nonneg n (b := m) (by omega)
  have h2 := Int.emod_lt_of_pos n (b := m) (by omega)
  have h3 := Int.emod_add_mul_ediv n m
  have h4 : n % m ≠ 0 := by
    intro e
    have hd : m ∣ gz n m := dvd_gz (Int.dvd_of_emod_eq_zero e) (Int.dvd_refl m)
    rw [hg] at hd
    have := Int.le_of_dvd (by decide) hd
    omega
  have h5 : (-n) / m = -(n / m) - 1 := by
    refine ((Int.ediv_emod_unique (a := -n) (b := m) (r := m - n % m) (q := -(n / m) - 1) (by omega)).mpr ⟨?_, by omega, by omega⟩).1
    rw [Int.mul_sub, Int.mul_neg, Int.mul_one]; omega
  omega
theorem floor_bound {n m : Int} (n1 : -9223372036854775808 ≤ n) (n2 : n ≤ 9223372036854775807) (hm : 1 ≤ m) : -9223372036854775808 ≤ n / m ∧ n / m ≤ 9223372036854775807 := by
  constructor
  · rw [Int.le_ediv_iff_mul_le (by omega)]
    have := Int.mul_le_mul_of_nonneg_left hm (show (0 : Int) ≤ 9223372036854775808 by decide)
    omega
  · refine Int.le_of_lt_add_one (Int.ediv_lt_of_lt_mul (by omega) ?_)
    have := Int.mul_le_mul_of_nonneg_left hm (show (0 : Int) ≤ 9223372036854775808 by decide)
    omega

set_option maxHeartbeats 1000000 in
theorem law_CFloor (n d : Int) (bn : -9223372036854775808 ≤ n ∧ n ≤ 9223372036854775807) (bd : 0 ≤ d ∧ d ≤ 18446744073709551615) (w : World) :
    Calls Yddm.prog 11 #[.int .i64 n, .int .u64 d] w fun e w' => e = .returned (.bool true) ∧ Grown w w' := by
  obtain ⟨n1, n2⟩ := bn
  go_enter Yddm.func11, Yddm.ntmps11
  go_wp2_with fail
  refine (cden_any _ bd.1 bd.2 _).mono ?_
  rintro e wx ⟨⟨m, ⟨m1, m2⟩, rfl⟩, hw⟩
  subst wx
  clear bd
  go_wp2_with fail
  by_cases hn : n = -9223372036854775808
  · subst hn
    refine (neg_no _ _ n1 n2 m2 (Or.inr rfl) _).mono ?_
    rintro e w1 ⟨rfl, g1⟩
    go_wp2_with fail
    go_ret
    exact ⟨rfl, ((((Gr.refl _).alloc _ _).trans g1).alloc _ _).grown⟩
  · have hn' : (n == -9223372036854775808) = false := by simpa using hn
    by_cases hv : validB n m = true
    · have hv2 : validB (-n) m = true := (validB_neg n m).trans hv
      obtain ⟨f1, f2⟩ := floor_bound n1 n2 m1
      obtain ⟨f3, f4⟩ := floor_bound (n := -n) (m := m) (by omega) (by omega) m1
      have hs : (m = 1 ∧ n / m + (-n) / m = 0) ∨ ((m == 1) = false ∧ n / m + (-n) / m = -1) := by
        by_cases h : m = 1
        · subst h; left; exact ⟨rfl, by simp; omega⟩
        · right; exact ⟨by simpa using h, floor_sum (by omega) hv⟩
      refine (neg_yes _ _ (by omega) n2 m2 hv _).mono ?_
      rintro e w1 ⟨rfl, g1⟩
      obtain ⟨hc1, hf1, hz1⟩ := gcell g1
      have hz1a : w.heap.size < w1.heap.size := by simp at hz1; omega
      clear hz1
      go_wp2_with fail
      refine (floor_yes _ _ n1 n2 m2 hv _).mono ?_
      rintro e w2 ⟨rfl, g2⟩
      obtain ⟨hc2, hf2, hz2⟩ := gcell g2
      have hz2a : w.heap.size < w2.heap.size := by simp at hz2; omega
      have hz2b : w1.heap.size < w2.heap.size := by simp at hz2; omega
      clear hz2
      go_wp2_with fail
      refine (floor_yes _ _ (by omega) (by omega) m2 hv2 _).mono ?_
      rintro e w3 ⟨rfl, g3⟩
      obtain ⟨hc3, hf3, hz3⟩ := gcell g3
      have G : Gr w w3 := (((((Gr.refl _).alloc _ _).trans g1).alloc _ _).trans g2).trans g3
      rcases hs with ⟨rfl, hs⟩ | ⟨hs1, hs⟩
      · go_wp2_with fail
        go_ret
        exact ⟨ret_true (by simp; omega), G.grown⟩
      · generalize n / m = f at *
        generalize -n / m = g at *
        go_wp2_with fail
        go_ret
        exact ⟨ret_true (by simp), G.grown⟩
    · have hv : validB n m = false := by simpa using hv
      refine (neg_no _ _ n1 n2 m2 (Or.inl hv) _).mono ?_
      rintro e w1 ⟨rfl, g1⟩
      obtain ⟨hc1, hf1, hz1⟩ := gcell g1
      have hz1a : w.heap.size < w1.heap.size := by simp at hz1; omega
      clear hz1
      go_wp2_with fail
      refine (valid_any _ _ n1 n2 m2 _).mono ?_
      rintro e w2 ⟨rfl, g2⟩
      go_wp2_with fail
      go_ret
      exact ⟨rfl, (((((Gr.refl _).alloc _ _).trans g1).alloc _ _).trans g2).grown⟩
end Go.Proofs.Ymbrdd
