/-
  THE WALKS of the laws G (Make).
-/
import Derived.Test.YmbrdeWalkG
namespace Go.Proofs.Ymbrde
open Go.RowKit

/-! ### The plain law of GFits -/
theorem gz_pow_odd {n : Int} (h : n % 2 = 1) : gz n 9223372036854775808 = 1 := by
  unfold gz
  have h1 : Int.gcd n 2 = 1 := by
    have := Int.gcd_eq_one_iff (m := n) (n := 2)
    refine this.mpr (fun c h1 h2 => ?_)
    have h3 : c ∣ 2 * (n / 2) := Int.dvd_trans h2 ⟨n / 2, rfl⟩
    have h4 := Int.dvd_sub h1 h3
    rwa [show n - 2 * (n / 2) = 1 by omega] at h4
  have h2 := Int.gcd_pow_right_of_gcd_eq_one (k := 63) h1
  have h3 : Int.gcd n 9223372036854775808 = 1 := h2
  rw [h3]; rfl
theorem gz_even {n d : Int} (h : n % 2 = 0) (h2 : d % 2 = 0) : gz n d ≠ 1 := by
  intro e
  have := dvd_gz (Int.dvd_of_emod_eq_zero h) (Int.dvd_of_emod_eq_zero h2)
  rw [e] at this
  have := Int.le_of_dvd (by decide) this
  omega
theorem mkN_bound {n d : Int} (n1 : -9223372036854775808 ≤ n) (n2 : n ≤ 9223372036854775807) : -9223372036854775808 ≤ mkN n d ∧ mkN n d ≤ 9223372036854775808 := by
  unfold mkN; split <;> omega
theorem quot_cases {x y g : Int} (hg : 1 ≤ g) (h : x * g = y) (hy : y ≤ 9223372036854775808) (hx : 9223372036854775807 < x) : g = 1 ∧ y = 9223372036854775808 := by
  rcases Int.lt_or_le 1 g with h1 | h1
  · have h2 := Int.mul_le_mul_of_nonneg_left (show 2 ≤ g by omega) (show 0 ≤ x by omega)
    omega
  · have : g = 1 := by omega
    subst this
    omega
theorem quot_low {x y g : Int} (hg : 1 ≤ g) (h : x * g = y) (hy : -9223372036854775808 ≤ y) : -9223372036854775808 ≤ x := by
  rcases Int.lt_or_le x (-9223372036854775808) with h1 | h1
  · have h2 := Int.mul_le_mul_of_nonneg_left hg (show 0 ≤ -x by omega)
    rw [Int.neg_mul, Int.neg_mul] at h2
    omega
  · exact h1
/-- Where Make fits. -/
theorem make_fit {n d : Int} (n1 : -9223372036854775808 ≤ n) (n2 : n ≤ 9223372036854775807) (d1 : -9223372036854775808 ≤ d) (d2 : d ≤ 9223372036854775807) (hd : d ≠ 0)
    (h1 : d = -9223372036854775808 → n % 2 = 0) (h2 : n = -9223372036854775808 → d < 0 → d % 2 = 0) : fitB (redN (mkN n d) (magZ d)) (redD (mkN n d) (magZ d)) = true := by
  have hD : magZ d = d.natAbs := magZ_natAbs d
  have hg : 1 ≤ gz (mkN n d) (magZ d) := gz_pos_right (by omega)
  have hgz : gz (mkN n d) (magZ d) = gz n d := by rw [gz_mkN, gz_comm, gz_mag_left, gz_comm]
  have e1 := redN_mul (mkN n d) (magZ d)
  have e2 := redD_mul (mkN n d) (magZ d)
  have hb := mkN_bound (d := d) n1 n2
  rw [fitB_iff]
  refine ⟨quot_low hg e1 hb.1, ?_, ?_⟩
  · rcases Int.lt_or_le 9223372036854775807 (redN (mkN n d) (magZ d)) with h | h
    · obtain ⟨h3, h4⟩ := quot_cases hg e1 hb.2 h
      unfold mkN at h4
      have h5 : d < 0 ∧ n = -9223372036854775808 := by
        split at h4
        · omega
        · omega
      have h6 := h2 h5.2 h5.1
      rw [hgz] at h3
      exact absurd h3 (gz_even (by rw [h5.2]; rfl) h6)
    · exact h
  · rcases Int.lt_or_le 9223372036854775807 (redD (mkN n d) (magZ d)) with h | h
    · obtain ⟨h3, h4⟩ := quot_cases hg e2 (by omega) h
      have h5 : d = -9223372036854775808 := by omega
      have h6 := h1 h5
      rw [hgz] at h3
      exact absurd h3 (gz_even h6 (by rw [h5]; rfl))
    · exact h
theorem make_unfit {n d : Int} (h : (d = -9223372036854775808 ∧ n % 2 = 1) ∨ (n = -9223372036854775808 ∧ d < 0 ∧ d % 2 = 1)) :
    fitB (redN (mkN n d) (magZ d)) (redD (mkN n d) (magZ d)) = false := by
  have hgz : gz (mkN n d) (magZ d) = gz n d := by rw [gz_mkN, gz_comm, gz_mag_left, gz_comm]
  have e1 := redN_mul (mkN n d) (magZ d)
  have e2 := redD_mul (mkN n d) (magZ d)
  rw [hgz] at e1 e2
  refine Bool.eq_false_iff.mpr (fun hf => ?_)
  have hf := fitB_iff.mp hf
  rcases h with ⟨rfl, ho⟩ | ⟨rfl, hd, ho⟩
  · have hg : gz n (-9223372036854775808) = 1 := by rw [gz_comm, gz_neg_left, gz_comm]; exact gz_pow_odd ho
    rw [hg] at e2
    have : magZ (-9223372036854775808) = 9223372036854775808 := rfl
    omega
  · have hg : gz (-9223372036854775808) d = 1 := by rw [gz_neg_left, gz_comm]; exact gz_pow_odd ho
    rw [hg] at e1
    unfold mkN at e1
    rw [if_pos hd] at e1
    unfold mkN at hf
    rw [if_pos hd] at hf
    omega
theorem tmod2 (n : Int) : (n % 2 = 0 → n.tmod 2 = 0) ∧ (n % 2 = 1 → (n.tmod 2 != 0) = true) := by
  constructor
  · intro h; exact Int.tmod_eq_zero_of_dvd (Int.dvd_of_emod_eq_zero h)
  · intro h
    refine bne_iff_ne.mpr (fun e => ?_)
    have := Int.emod_eq_zero_of_dvd (Int.dvd_of_tmod_eq_zero e)
    omega

set_option maxHeartbeats 1000000 in
theorem law_GFits (n d : Int) (bn : -9223372036854775808 ≤ n ∧ n ≤ 9223372036854775807) (bd : -9223372036854775808 ≤ d ∧ d ≤ 9223372036854775807) (w : World) :
    Calls Ydem.prog 9 #[.int .i64 n, .int .i64 d] w fun e w' => e = .returned (.bool true) ∧ Grown w w' := by
  obtain ⟨n1, n2⟩ := bn
  obtain ⟨d1, d2⟩ := bd
  by_cases hd : d = 0
  · subst hd
    by_cases hn : n = -9223372036854775808
    · subst hn
      go_enter Ydem.func9, Ydem.ntmps9
      go_wp2_with (go_at_call 26; refine (make_zero _ _).mono ?_; rintro e w1 ⟨rfl, g1⟩)
      go_ret
      exact ⟨rfl, (g1.alloc _ _).grown⟩
    · have hn' : (n == -9223372036854775808) = false := by simpa using hn
      go_enter Ydem.func9, Ydem.ntmps9
      go_wp2_with (go_at_call 26; refine (make_zero _ _).mono ?_; rintro e w1 ⟨rfl, g1⟩)
      go_ret
      exact ⟨rfl, (g1.alloc _ _).grown⟩
  · have hd' : (d == 0) = false := by simpa using hd
    by_cases hdl : d = -9223372036854775808
    · subst hdl
      have hfy := make_fit n1 n2 d1 d2 hd
      have hfn := make_unfit (n := n) (d := -9223372036854775808)
      by_cases hn : n = -9223372036854775808
      · subst hn
        have hf := hfy (by intro _; rfl) (by intro _ _; rfl)
        clear hfy hfn
        go_enter Ydem.func9, Ydem.ntmps9
        go_wp2_with (go_at_call 26; refine (make_any _ _ n1 n2 d1 d2 hd _).mono ?_; rintro e w1 ⟨rfl, g1⟩)
        go_ret
        exact ⟨rfl, (g1.alloc _ _).grown⟩
      · have hn' : (n == -9223372036854775808) = false := by simpa using hn
        by_cases ho : n % 2 = 0
        · have hf := hfy (by intro _; exact ho) (by intro h; exact absurd h hn)
          have hm := (tmod2 n).1 ho
          clear hfy hfn ho
          go_enter Ydem.func9, Ydem.ntmps9
          go_wp2_with (go_at_call 26; refine (make_any _ _ n1 n2 d1 d2 hd _).mono ?_; rintro e w1 ⟨rfl, g1⟩)
          go_ret
          exact ⟨rfl, (g1.alloc _ _).grown⟩
        · have ho' : n % 2 = 1 := by omega
          have hf := hfn (Or.inl ⟨rfl, ho'⟩)
          have hr1 := ratN_no hf
          have hr2 := ratD_no hf
          have hm := (tmod2 n).2 ho'
          clear hfy hfn ho ho'
          go_enter Ydem.func9, Ydem.ntmps9
          go_wp2_with (go_at_call 26; refine (make_any _ _ n1 n2 d1 d2 hd _).mono ?_; rintro e w1 ⟨rfl, g1⟩)
          go_ret
          exact ⟨rfl, (g1.alloc _ _).grown⟩
    · have hdl' : (d == -9223372036854775808) = false := by simpa using hdl
      have hfy := make_fit n1 n2 d1 d2 hd (by intro h; exact absurd h hdl)
      have hfn := make_unfit (n := n) (d := d)
      by_cases hn : n = -9223372036854775808
      · subst hn
        by_cases hneg : d < 0
        · by_cases ho : d % 2 = 0
          · have hf := hfy (by intro _ _; exact ho)
            have hm := (tmod2 d).1 ho
            clear hfy hfn ho
            go_enter Ydem.func9, Ydem.ntmps9
            go_wp2_with (go_at_call 26; refine (make_any _ _ n1 n2 d1 d2 hd _).mono ?_; rintro e w1 ⟨rfl, g1⟩)
            go_ret
            exact ⟨rfl, (g1.alloc _ _).grown⟩
          · have ho' : d % 2 = 1 := by omega
            have hf := hfn (Or.inr ⟨rfl, hneg, ho'⟩)
            have hr1 := ratN_no hf
            have hr2 := ratD_no hf
            have hm := (tmod2 d).2 ho'
            clear hfy hfn ho ho'
            go_enter Ydem.func9, Ydem.ntmps9
            go_wp2_with (go_at_call 26; refine (make_any _ _ n1 n2 d1 d2 hd _).mono ?_; rintro e w1 ⟨rfl, g1⟩)
            go_ret
            exact ⟨rfl, (g1.alloc _ _).grown⟩
        · have hneg' : decide (d < 0) = false := by simpa using hneg
          have hf := hfy (by intro _ h; exact absurd h hneg)
          clear hfy hfn
          go_enter Ydem.func9, Ydem.ntmps9
          go_wp2_with (go_at_call 26; refine (make_any _ _ n1 n2 d1 d2 hd _).mono ?_; rintro e w1 ⟨rfl, g1⟩)
          go_ret
          exact ⟨rfl, (g1.alloc _ _).grown⟩
      · have hn' : (n == -9223372036854775808) = false := by simpa using hn
        have hf := hfy (by intro h; exact absurd h hn)
        clear hfy hfn
        go_enter Ydem.func9, Ydem.ntmps9
        go_wp2_with (go_at_call 26; refine (make_any _ _ n1 n2 d1 d2 hd _).mono ?_; rintro e w1 ⟨rfl, g1⟩)
        go_ret
        exact ⟨rfl, (g1.alloc _ _).grown⟩

set_option maxHeartbeats 1000000 in
theorem law_GScale (p q k : Int) (bp : -2147483648 ≤ p ∧ p ≤ 2147483647) (bq : -2147483648 ≤ q ∧ q ≤ 2147483647) (bk : -2147483648 ≤ k ∧ k ≤ 2147483647) (w : World) :
    Calls Ydem.prog 11 #[.int .i32 p, .int .i32 q, .int .i32 k] w fun e w' => e = .returned (.bool true) ∧ Grown w w' := by
  obtain ⟨p1, p2⟩ := bp
  obtain ⟨q1, q2⟩ := bq
  obtain ⟨k1, k2⟩ := bk
  obtain ⟨f, hf0, f1, f2, hfk⟩ : ∃ f : Int, f ≠ 0 ∧ -2147483648 ≤ f ∧ f ≤ 2147483647 ∧ ((k = 0 ∧ f = -1) ∨ ((k == 0) = false ∧ f = k)) := by
    by_cases h : k = 0
    · exact ⟨-1, by decide, by decide, by decide, Or.inl ⟨h, rfl⟩⟩
    · exact ⟨k, h, k1, k2, Or.inr ⟨by simpa using h, rfl⟩⟩
  have m1 := mul_bound (x := p) (y := f) (A := 2147483648) (B := 2147483648) (by omega) (by omega)
  have m2 := mul_bound (x := q) (y := f) (A := 2147483648) (B := 2147483648) (by omega) (by omega)
  have m1a : -4611686018427387904 ≤ p * f := by omega
  have m1b : p * f ≤ 4611686018427387904 := by omega
  have m2a : -4611686018427387904 ≤ q * f := by omega
  have m2b : q * f ≤ 4611686018427387904 := by omega
  clear m1 m2
  by_cases hq : q = 0
  · subst hq
    have hz : (0 : Int) * f = 0 := Int.zero_mul f
    rcases hfk with ⟨rfl, rfl⟩ | ⟨hk, rfl⟩
    all_goals
      go_enter Ydem.func11, Ydem.ntmps11
      go_wp2_with fail
      refine (make_zero _ _).mono ?_
      rintro e w1 ⟨rfl, g1⟩
      go_wp2_with fail
      refine (make_zero _ _).mono ?_
      rintro e w2 ⟨rfl, g2⟩
      obtain ⟨hc2, hf2, hz2⟩ := gcell g2
      have hz2a : w1.heap.size < w2.heap.size := by simp at hz2; omega
      clear hz2
      go_wp2_with fail
      go_ret
      exact ⟨rfl, (((g1.alloc _ _).trans g2).alloc _ _).grown⟩
  · have hqf : q * f ≠ 0 := Int.mul_ne_zero hq hf0
    have hqm : 0 < magZ q := by have := magZ_natAbs q; omega
    have hfm : 0 < magZ f := by have := magZ_natAbs f; omega
    have hN := mkN_scale (n := p) hf0 hq
    have hD := mag_mul q f
    have hs := red_scale (N := mkN p q) (D := magZ q) hfm
    rw [← hN, ← hD] at hs
    obtain ⟨hs1, hs2⟩ := hs
    have hmk : -2147483648 ≤ mkN p q ∧ mkN p q ≤ 2147483648 := by unfold mkN; split <;> omega
    have hmq : magZ q ≤ 2147483648 := by unfold magZ; split <;> omega
    have hfit := fit_small (N := mkN p q) (D := magZ q) hqm (by omega) (by omega) (by omega)
    have r1 := ratN_yes hfit
    have r2 := ratD_yes hfit
    have hq' : (q != 0) = true := by simpa using hq
    clear hN hD hmk hmq
    rcases hfk with ⟨rfl, rfl⟩ | ⟨hk, rfl⟩
    · simp only [Int.mul_neg, Int.mul_one] at hs1 hs2 m1a m1b m2a m2b hqf
      go_enter Ydem.func11, Ydem.ntmps11
      go_wp2_with fail
      refine (make_any _ _ (by omega) (by omega) (by omega) (by omega) hq _).mono ?_
      rintro e w1 ⟨rfl, g1⟩
      go_wp2_with fail
      refine (make_any _ _ (by omega) (by omega) (by omega) (by omega) hqf _).mono ?_
      rintro e w2 ⟨rfl, g2⟩
      obtain ⟨hc2, hf2, hz2⟩ := gcell g2
      have hz2a : w1.heap.size < w2.heap.size := by simp at hz2; omega
      clear hz2
      go_wp2_with fail
      go_ret
      exact ⟨rfl, (((g1.alloc _ _).trans g2).alloc _ _).grown⟩
    · go_enter Ydem.func11, Ydem.ntmps11
      go_wp2_with fail
      refine (make_any _ _ (by omega) (by omega) (by omega) (by omega) hq _).mono ?_
      rintro e w1 ⟨rfl, g1⟩
      go_wp2_with fail
      refine (make_any _ _ (by omega) (by omega) (by omega) (by omega) hqf _).mono ?_
      rintro e w2 ⟨rfl, g2⟩
      obtain ⟨hc2, hf2, hz2⟩ := gcell g2
      have hz2a : w1.heap.size < w2.heap.size := by simp at hz2; omega
      clear hz2
      go_wp2_with fail
      go_ret
      exact ⟨rfl, (((g1.alloc _ _).trans g2).alloc _ _).grown⟩
end Go.Proofs.Ymbrde
