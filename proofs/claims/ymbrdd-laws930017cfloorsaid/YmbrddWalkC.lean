/-
  THE WALKS, 3 (seat d): Neg, Floor, ccoprime, cden.
-/
import Derived.Test.YmbrddWalkB
namespace Go.Proofs.Ymbrdd
open Go.RowKit

set_option maxHeartbeats 1000000 in
theorem neg_yes (n d : Int) (n1 : -9223372036854775808 < n) (n2 : n ≤ 9223372036854775807) (d2 : d ≤ 9223372036854775807) (hv : validB n d = true) (w : World) :
    Calls Yddm.prog 31 #[.agg #[.int .i64 n, .int .i64 d]] w fun e w' => e = .returned (.tuple #[.agg #[.int .i64 (-n), .int .i64 d], .bool true]) ∧ Gr w w' := by
  have hd1 : 1 ≤ d := (validB_iff.mp hv).1
  have m1 := magZ_nonneg n
  have hcase : (decide (n < 0) = true ∧ n < 0 ∧ magZ n = -n) ∨ (decide (n < 0) = false ∧ 0 ≤ n ∧ magZ n = n) := by
    rcases Int.lt_or_le n 0 with h | h
    · exact Or.inl ⟨by simpa using h, h, magZ_neg h⟩
    · exact Or.inr ⟨by simpa using h, h, magZ_pos h⟩
  rcases hcase with ⟨hd, hn, hm⟩ | ⟨hd, hn, hm⟩
  all_goals
    go_enter Yddm.func31, Yddm.ntmps31
    go_wp2_with fail
    refine (valid_any _ _ (by omega) (by omega) d2 _).mono ?_
    rintro e w1 ⟨rfl, g1⟩
    obtain ⟨hc1, hf1, hz1⟩ := gcell g1
    have hz1a : w.heap.size < w1.heap.size := by simp at hz1; omega
    have hz1b : w.heap.size + 1 < w1.heap.size := by simp at hz1; omega
    clear hz1
    go_wp2_with fail
    refine (magnitude_any _ (by omega) (by omega) _).mono ?_
    rintro e wx ⟨rfl, hw⟩
    subst wx
    go_wp2_with fail
    refine (pack_yes _ _ _ (by omega) (by omega) (by omega) (by simp; omega) _).mono ?_
    rintro e w2 ⟨rfl, g2⟩
    obtain ⟨hc2, hf2, hz2⟩ := gcell g2
    go_wp2_with fail
    refine bodyPost_ret (v := .tuple #[.agg #[.int .i64 (-n), .int .i64 d], .bool true]) ?_ rfl ⟨rfl, ?_⟩
    · simp [results, Yddm.results31, go_sem, hc1, hc2, hz1b]
    · exact (((((Gr.refl _).alloc _ _).alloc _ _).trans g1).trans g2).setCell (by simp) _ |>.setCell (by simp) _

set_option maxHeartbeats 1000000 in
theorem neg_no (n d : Int) (n1 : -9223372036854775808 ≤ n) (n2 : n ≤ 9223372036854775807) (d2 : d ≤ 9223372036854775807) (hv : validB n d = false ∨ n = -9223372036854775808) (w : World) :
    Calls Yddm.prog 31 #[.agg #[.int .i64 n, .int .i64 d]] w fun e w' => e = .returned (.tuple #[.agg #[.int .i64 0, .int .i64 0], .bool false]) ∧ Gr w w' := by
  by_cases hV : validB n d = false
  · go_enter Yddm.func31, Yddm.ntmps31
    go_wp2_with fail
    refine (valid_any _ _ (by omega) (by omega) d2 _).mono ?_
    rintro e w1 ⟨rfl, g1⟩
    obtain ⟨hc1, hf1, hz1⟩ := gcell g1
    have hz1b : w.heap.size + 1 < w1.heap.size := by simp at hz1; omega
    clear hz1
    go_wp2_with fail
    refine bodyPost_ret (v := .tuple #[.agg #[.int .i64 0, .int .i64 0], .bool false]) ?_ rfl ⟨rfl, ?_⟩
    · simp [results, Yddm.results31, go_sem, hc1]
    · exact (((Gr.refl _).alloc _ _).alloc _ _).trans g1 |>.setCell (by simp) _ |>.setCell (by simp) _
  · have hV : validB n d = true := by simpa using hV
    obtain rfl : n = -9223372036854775808 := by
      rcases hv with h | h
      · rw [hV] at h; exact absurd h (by decide)
      · exact h
    clear hv
    have hd1 : 1 ≤ d := (validB_iff.mp hV).1
    have hm : magZ (-9223372036854775808) = 9223372036854775808 := rfl
    go_enter Yddm.func31, Yddm.ntmps31
    go_wp2_with fail
    refine (valid_any _ _ (by omega) (by omega) d2 _).mono ?_
    rintro e w1 ⟨rfl, g1⟩
    obtain ⟨hc1, hf1, hz1⟩ := gcell g1
    have hz1a : w.heap.size < w1.heap.size := by simp at hz1; omega
    have hz1b : w.heap.size + 1 < w1.heap.size := by simp at hz1; omega
    clear hz1
    go_wp2_with fail
    refine (magnitude_any _ (by omega) (by omega) _).mono ?_
    rintro e wx ⟨rfl, hw⟩
    subst wx
    go_wp2_with fail
    refine (pack_no _ _ _ (by omega) (by omega) (Or.inr ⟨by omega, Or.inl rfl⟩) _).mono ?_
    rintro e w2 ⟨rfl, g2⟩
    obtain ⟨hc2, hf2, hz2⟩ := gcell g2
    go_wp2_with fail
    refine bodyPost_ret (v := .tuple #[.agg #[.int .i64 0, .int .i64 0], .bool false]) ?_ rfl ⟨rfl, ?_⟩
    · simp [results, Yddm.results31, go_sem, hc1, hc2, hz1b]
    · exact (((((Gr.refl _).alloc _ _).alloc _ _).trans g1).trans g2).setCell (by simp) _ |>.setCell (by simp) _

/-! ### Floor -/
theorem tdiv_floor {n d : Int} (hd : 1 ≤ d) : (n.tmod d < 0 → n.tdiv d - 1 = n / d) ∧ (0 ≤ n.tmod d → n.tdiv d = n / d) := by
  have e1 := Int.tmod_add_mul_tdiv n d
  have e2 := Int.emod_add_mul_ediv n d
  have h1 := Int.emod_nonneg n (b := d) (by omega)
  have h2 := Int.emod_lt_of_pos n (b := d) (by omega)
  have h3 := Int.lt_tmod_of_pos n (b := d) (by omega)
  have h4 := Int.tmod_lt_of_pos n (b := d) (by omega)
  have key : ∀ k : Int, d * (n / d) = d * n.tdiv d + k → -d < k → k < d → n / d = n.tdiv d := by
    intro k hk k1 k2
    have : d * (n / d - n.tdiv d) = k := by rw [Int.mul_sub]; omega
    have a1 : n / d - n.tdiv d < 1 := by
      rcases Int.lt_or_le (n / d - n.tdiv d) 1 with h | h
      · exact h
      · have := Int.mul_le_mul_of_nonneg_left h (show 0 ≤ d by omega); omega
    have a2 : -1 < n / d - n.tdiv d := by
      rcases Int.lt_or_le (-1) (n / d - n.tdiv d) with h | h
      · exact h
      · have := Int.mul_le_mul_of_nonneg_left h (show 0 ≤ d by omega); omega
    omega
  constructor
  · intro h
    have : n / d = n.tdiv d - 1 := by
      have e3 : d * (n / d - (n.tdiv d - 1)) = n.tmod d + d - n % d := by rw [Int.mul_sub, Int.mul_sub]; omega
      have a1 : n / d - (n.tdiv d - 1) < 1 := by
        rcases Int.lt_or_le (n / d - (n.tdiv d - 1)) 1 with h | h
        · exact h
        · have := Int.mul_le_mul_of_nonneg_left h (show 0 ≤ d by omega); omega
      have a2 : -1 < n / d - (n.tdiv d - 1) := by
        rcases Int.lt_or_le (-1) (n / d - (n.tdiv d - 1)) with h | h
        · exact h
        · have := Int.mul_le_mul_of_nonneg_left h (show 0 ≤ d by omega); omega
      omega
    exact this.symm
  · intro h
    exact (key (n.tmod d - n % d) (by omega) (by omega) (by omega)).symm

theorem tdiv_bound {n d : Int} (n1 : -9223372036854775808 ≤ n) (n2 : n ≤ 9223372036854775807) (hd : 1 ≤ d) : -9223372036854775808 ≤ n.tdiv d ∧ n.tdiv d ≤ 9223372036854775807 ∧ (n.tmod d < 0 → -9223372036854775808 < n.tdiv d) := by
  have e1 := Int.tmod_add_mul_tdiv n d
  have ha := Int.natAbs_tdiv_le_natAbs n d
  rcases Int.lt_or_le n 0 with h | h
  · have h5 := Int.tdiv_nonneg (a := -n) (b := d) (by omega) (by omega)
    rw [Int.neg_tdiv] at h5
    have h6 := Int.mul_le_mul_of_nonneg_right hd h5
    rw [Int.one_mul, Int.mul_neg] at h6
    refine ⟨by omega, by omega, fun _ => by omega⟩
  · have h5 := Int.tdiv_nonneg (a := n) (b := d) h (by omega)
    refine ⟨by omega, by omega, fun _ => by omega⟩

set_option maxHeartbeats 1000000 in
theorem floor_yes (n d : Int) (n1 : -9223372036854775808 ≤ n) (n2 : n ≤ 9223372036854775807) (d2 : d ≤ 9223372036854775807) (hv : validB n d = true) (w : World) :
    Calls Yddm.prog 34 #[.agg #[.int .i64 n, .int .i64 d]] w fun e w' => e = .returned (.tuple #[.int .i64 (n / d), .bool true]) ∧ Gr w w' := by
  have hd1 : 1 ≤ d := (validB_iff.mp hv).1
  obtain ⟨b1, b2, b3⟩ := tdiv_bound n1 n2 hd1
  obtain ⟨f1, f2⟩ := tdiv_floor (n := n) hd1
  rcases Int.lt_or_le n 0 with hn | hn
  · rcases Int.lt_or_le (n.tmod d) 0 with hm | hm
    · have b3' := b3 hm
      have f1' := f1 hm
      have F : Hid (n.tdiv d - 1 = n / d) := f1'
      clear f1 f2 f1' b3
      go_enter Yddm.func34, Yddm.ntmps34
      go_wp2_with fail
      refine (valid_any _ _ (by omega) (by omega) d2 _).mono ?_
      rintro e w1 ⟨rfl, g1⟩
      obtain ⟨hc1, hf1, hz1⟩ := gcell g1
      go_wp2_with fail
      go_ret2
      exact ⟨by rw [← F.out]; rfl, ((Gr.refl _).alloc _ _).trans g1⟩
    · have f1' := f2 hm
      have F : Hid (n.tdiv d = n / d) := f1'
      clear f1 f2 f1' b3
      go_enter Yddm.func34, Yddm.ntmps34
      go_wp2_with fail
      refine (valid_any _ _ (by omega) (by omega) d2 _).mono ?_
      rintro e w1 ⟨rfl, g1⟩
      obtain ⟨hc1, hf1, hz1⟩ := gcell g1
      go_wp2_with fail
      go_ret2
      exact ⟨by rw [← F.out]; rfl, ((Gr.refl _).alloc _ _).trans g1⟩
  · have hm := Int.emod_nonneg n (b := d) (by omega)
    have e3 := Int.tdiv_eq_ediv_of_nonneg (a := n) (b := d) hn
    rw [e3] at b1 b2
    clear f1 f2 b3 e3
    go_enter Yddm.func34, Yddm.ntmps34
    go_wp2_with fail
    refine (valid_any _ _ (by omega) (by omega) d2 _).mono ?_
    rintro e w1 ⟨rfl, g1⟩
    obtain ⟨hc1, hf1, hz1⟩ := gcell g1
    go_wp2_with fail
    go_ret2
    exact ⟨rfl, ((Gr.refl _).alloc _ _).trans g1⟩

/-! ### ccoprime, cden -/
theorem tmod_mag (x : Int) {y : Int} (h : y ≠ 0) : -magZ y < x.tmod y ∧ x.tmod y < magZ y := by
  have h1 := Int.natAbs_tmod x y
  have h2 := Nat.mod_lt x.natAbs (show 0 < y.natAbs by omega)
  rw [magZ_natAbs]
  omega

theorem gz_zero_mag (x : Int) : gz x 0 = magZ x := by
  unfold gz; rw [Int.gcd_zero_right, magZ_natAbs]

set_option maxHeartbeats 1000000 in
theorem ccoprime_any (n d : Int) (d1 : 1 ≤ d) (d2 : d ≤ 9223372036854775807) (w : World) :
    Calls Yddm.prog 32 #[.int .i64 n, .int .i64 d] w fun e w' => e = .returned (.bool (validB n d)) ∧ w' = w := by
  have hb0 := tmod_mag n (y := d) (by omega)
  rw [magZ_pos (by omega)] at hb0
  obtain ⟨b1, b2⟩ := hb0
  go_enter Yddm.func32, Yddm.ntmps32
  go_wp2
  go_loop [5, 6] (fun s t => ∃ x y : Int, x ≠ 0 ∧ -9223372036854775808 < x ∧ x ≤ 9223372036854775807 ∧ -9223372036854775808 < y ∧ y ≤ 9223372036854775807 ∧ s = .int .i64 x ∧ t = .int .i64 y ∧ Hid (gz x y = gz n d)) (fun _ t => (magZ (intOf t)).toNat)
  case atStart => exact ⟨d, n.tmod d, by omega, by omega, by omega, by omega, by omega, rfl, rfl, gz_tmod n d⟩
  case round =>
    obtain ⟨x, y, hx, x1, x2, y1, y2, rfl, rfl, hg⟩ := hrel
    by_cases h : y = 0
    · subst h
      have hfin : Hid (validB n d = (x == 1 || x == -1)) := by
        show _ = _
        rw [validB_of d1, ← hg.out, gz_zero_mag, Bool.eq_iff_iff]
        unfold magZ
        simp
        omega
      by_cases h1 : x = 1
      · subst h1
        go_wp2
        go_ret
        exact ⟨by rw [hfin.out]; rfl, rfl⟩
      · have h1' : (x == 1) = false := by simpa using h1
        go_wp2
        go_ret
        exact ⟨by rw [hfin.out, h1']; rfl, rfl⟩
    · obtain ⟨m1, m2⟩ := tmod_mag x h
      have m3 : magZ y ≤ 9223372036854775807 := by unfold magZ; split <;> omega
      have hg2 : Hid (gz y (x.tmod y) = gz n d) := (gz_tmod x y).trans hg
      go_wp2
      go_round
      case rel => exact ⟨y, x.tmod y, h, y1, y2, by omega, by omega, rfl, rfl, hg2⟩
      case measure => simp [intOf]; rw [magZ_natAbs (x.tmod y)]; omega

theorem cden_any (d : Int) (d1 : 0 ≤ d) (d2 : d ≤ 18446744073709551615) (w : World) :
    Calls Yddm.prog 33 #[.int .u64 d] w fun e w' => (∃ m : Int, (1 ≤ m ∧ m ≤ 9223372036854775807) ∧ e = .returned (.int .i64 m)) ∧ w' = w := by
  by_cases h0 : d = 0
  · subst h0
    go_enter Yddm.func33, Yddm.ntmps33
    go_wp2
    go_ret
    exact ⟨⟨1, by omega, rfl⟩, rfl⟩
  · go_enter Yddm.func33, Yddm.ntmps33
    go_wp2
    all_goals
      go_ret
      refine ⟨⟨_, ?_, rfl⟩, rfl⟩
      omega
end Go.Proofs.Ymbrdd
