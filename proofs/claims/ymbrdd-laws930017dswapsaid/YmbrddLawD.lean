/-
  THE WALKS of the laws D (gcd).
-/
import Derived.Test.YmbrddWalkA
namespace Go.Proofs.Ymbrdd
open Go.RowKit

theorem law_DSwap (a b : Int) (ha : 0 ≤ a ∧ a ≤ 18446744073709551615) (hb : 0 ≤ b ∧ b ≤ 18446744073709551615) (w : World) :
    Calls Yddm.prog 14 #[.int .u64 a, .int .u64 b] w fun e w' => e = .returned (.bool true) ∧ Grown w w' := by
  obtain ⟨a1, a2⟩ := ha
  obtain ⟨b1, b2⟩ := hb
  have h1 := gz_zero a a1
  have h2 := gz_zero_left b b1
  generalize hgv : gz a b = g
  have h3 : gz b a = g := (gz_comm b a).trans hgv
  go_enter Yddm.func14, Yddm.ntmps14
  go_wp2_with (go_at_call 21; refine (gcd_any _ _ (by omega) (by omega) (by omega) (by omega) _).mono ?_; rintro e w' ⟨rfl, k, rfl⟩)
  go_ret
  exact ⟨rfl, ((Gr.refl _).drewN _).grown⟩

theorem neq_mod {n k : Int} (h : k ∣ n) : (n % k != 0) = false := by
  rw [Int.emod_eq_zero_of_dvd h]; rfl
theorem beq_mod {n k : Int} : (n % k == 0) = decide (k ∣ n) := by
  rw [Bool.beq_eq_decide_eq]; exact decide_eq_decide.mpr ⟨Int.dvd_of_emod_eq_zero, Int.emod_eq_zero_of_dvd⟩

theorem law_DDivisors (a b d : Int) (ha : 0 ≤ a ∧ a ≤ 18446744073709551615) (hb : 0 ≤ b ∧ b ≤ 18446744073709551615) (hd : 0 ≤ d ∧ d ≤ 18446744073709551615) (w : World) :
    Calls Yddm.prog 12 #[.int .u64 a, .int .u64 b, .int .u64 d] w fun e w' => e = .returned (.bool true) ∧ Grown w w' := by
  obtain ⟨a1, a2⟩ := ha
  obtain ⟨b1, b2⟩ := hb
  obtain ⟨d1, d2⟩ := hd
  by_cases hz : gz a b = 0
  · obtain ⟨rfl, rfl⟩ := gz_eq_zero hz
    go_enter Yddm.func12, Yddm.ntmps12
    go_wp2_with (go_at_call 21; refine (gcd_any _ _ (by omega) (by omega) (by omega) (by omega) _).mono ?_; rintro e w' ⟨rfl, k, rfl⟩)
    go_ret
    exact ⟨rfl, ((Gr.refl _).drewN _).grown⟩
  · have hnn := gz_nonneg a b
    have e1 := neq_mod (gz_dvd_left a b)
    have e2 := neq_mod (gz_dvd_right a b)
    have hp : 0 < gz a b := by omega
    have hnz : a = 0 → b = 0 → False := by
      intro h1 h2; subst h1 h2; exact hz (by rfl)
    have hcd : (d ∣ a ∧ d ∣ b) ↔ d ∣ gz a b := ⟨fun h => dvd_gz h.1 h.2, fun h => ⟨Int.dvd_trans h (gz_dvd_left a b), Int.dvd_trans h (gz_dvd_right a b)⟩⟩
    generalize hgv : gz a b = g at hnn e1 e2 hp hcd
    clear hz
    by_cases hd0 : d = 0
    · subst hd0
      clear hcd
      by_cases ha0 : a = 0
      · subst ha0
        have hb0 : (b != 0) = true := by simpa using (hnz rfl)
        clear hnz
        go_enter Yddm.func12, Yddm.ntmps12
        go_wp2_with (go_at_call 21; refine (gcd_any _ _ (by omega) (by omega) (by omega) (by omega) _).mono ?_; rintro e w' ⟨rfl, k, rfl⟩)
        go_ret
        exact ⟨rfl, ((Gr.refl _).drewN _).grown⟩
      · have ha0' : (a != 0) = true := by simpa using ha0
        clear hnz
        go_enter Yddm.func12, Yddm.ntmps12
        go_wp2_with (go_at_call 21; refine (gcd_any _ _ (by omega) (by omega) (by omega) (by omega) _).mono ?_; rintro e w' ⟨rfl, k, rfl⟩)
        go_ret
        exact ⟨rfl, ((Gr.refl _).drewN _).grown⟩
    · clear hnz
      by_cases h1 : d ∣ a
      · have m1 : (a % d == 0) = true := by rw [beq_mod]; exact decide_eq_true h1
        by_cases h2 : d ∣ b
        · have m2 : (b % d == 0) = true := by rw [beq_mod]; exact decide_eq_true h2
          have m3 : (g % d == 0) = true := by rw [beq_mod]; exact decide_eq_true (hcd.mp ⟨h1, h2⟩)
          clear h1 h2 hcd
          go_enter Yddm.func12, Yddm.ntmps12
          go_wp2_with (go_at_call 21; refine (gcd_any _ _ (by omega) (by omega) (by omega) (by omega) _).mono ?_; rintro e w' ⟨rfl, k, rfl⟩)
          go_ret
          exact ⟨rfl, ((Gr.refl _).drewN _).grown⟩
        · have m2 : (b % d == 0) = false := by rw [beq_mod]; exact decide_eq_false h2
          have m3 : (g % d == 0) = false := by rw [beq_mod]; exact decide_eq_false (fun h => h2 (hcd.mpr h).2)
          clear h1 h2 hcd
          go_enter Yddm.func12, Yddm.ntmps12
          go_wp2_with (go_at_call 21; refine (gcd_any _ _ (by omega) (by omega) (by omega) (by omega) _).mono ?_; rintro e w' ⟨rfl, k, rfl⟩)
          go_ret
          exact ⟨rfl, ((Gr.refl _).drewN _).grown⟩
      · have m1 : (a % d == 0) = false := by rw [beq_mod]; exact decide_eq_false h1
        have m3 : (g % d == 0) = false := by rw [beq_mod]; exact decide_eq_false (fun h => h1 (hcd.mpr h).1)
        clear h1 hcd
        go_enter Yddm.func12, Yddm.ntmps12
        go_wp2_with (go_at_call 21; refine (gcd_any _ _ (by omega) (by omega) (by omega) (by omega) _).mono ?_; rintro e w' ⟨rfl, k, rfl⟩)
        go_ret
        exact ⟨rfl, ((Gr.refl _).drewN _).grown⟩
end Go.Proofs.Ymbrdd
