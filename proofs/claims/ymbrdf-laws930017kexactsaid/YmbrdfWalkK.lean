/-
  THE WALKS (seat f): klow, kscale.
-/
import Derived.Test.YmbrdfWalkP
import Derived.Test.YmbrdfWalkE
namespace Go.Proofs.Ymbrdf
open Go.RowKit

/-- A denominator 0 is read as 1. -/
def den1 (d : Int) : Int := if d = 0 then 1 else d
theorem den1_pos {d : Int} (h : 0 ≤ d) : 1 ≤ den1 d := by unfold den1; split <;> omega
theorem den1_le {d M : Int} (h : d ≤ M) (hM : 1 ≤ M) : den1 d ≤ M := by unfold den1; split <;> omega

set_option maxHeartbeats 1000000 in
theorem klow_core (n d : Int) (n1 : 0 ≤ n) (n2 : n ≤ 18446744073709551615) (d0 : 1 ≤ d) (d2 : d ≤ 18446744073709551615) (w : World) :
    Calls Ydfm.prog 17 #[.int .u64 n, .int .u64 d] w fun e w' => e = .returned (.tuple #[.int .u64 (redN n d), .int .u64 (redD n d)]) ∧ Gr w w' := by
  have hg : 0 < gz n d := gz_pos_right (by omega)
  have hg0 : ¬ gz n d = 0 := by omega
  have q1 := ediv_nonneg' n1 hg
  have q2 := ediv_le_self' (g := gz n d) n1
  have q3 := ediv_nonneg' (show 0 ≤ d by omega) hg
  have q4 := ediv_le_self' (g := gz n d) (show 0 ≤ d by omega)
  have t1 := tdiv_of_nonneg (gz n d) n1
  have t2 := tdiv_of_nonneg (gz n d) (show 0 ≤ d by omega)
  have u1 := wrapu_id q1 (by omega)
  have u2 := wrapu_id q3 (by omega)
  unfold redN redD
  generalize hgv : gz n d = g at *
  go_enter Ydfm.func17, Ydfm.ntmps17
  go_wp2_with (go_at_call 20; refine (xgcd_any _ _ (by omega) (by omega) (by omega) (by omega) _).mono ?_; rintro e wx ⟨rfl, hw⟩; subst wx)
  go_quiet (fail)
  go_wp2_with fail
  go_ret2
  exact ⟨rfl, (Gr.refl _).drewN _⟩

set_option maxHeartbeats 1000000 in
theorem klow_zero (n : Int) (n1 : 0 ≤ n) (n2 : n ≤ 18446744073709551615) (w : World) :
    Calls Ydfm.prog 17 #[.int .u64 n, .int .u64 0] w fun e w' => e = .returned (.tuple #[.int .u64 (redN n 1), .int .u64 (redD n 1)]) ∧ Gr w w' := by
  have hgv : gz n 1 = 1 := by rw [gz_comm]; exact gz_one_left n
  unfold redN redD
  have u1 := wrapu_id n1 n2
  rw [hgv]
  go_enter Ydfm.func17, Ydfm.ntmps17
  go_wp2_with (go_at_call 20; refine (xgcd_any _ _ (by omega) (by omega) (by omega) (by omega) _).mono ?_; rintro e wx ⟨rfl, hw⟩; subst wx)
  go_quiet (fail)
  go_wp2_with fail
  go_ret2
  exact ⟨by simp, (Gr.refl _).drewN _⟩

theorem klow_any (n d : Int) (n1 : 0 ≤ n) (n2 : n ≤ 18446744073709551615) (d1 : 0 ≤ d) (d2 : d ≤ 18446744073709551615) (w : World) :
    Calls Ydfm.prog 17 #[.int .u64 n, .int .u64 d] w fun e w' => e = .returned (.tuple #[.int .u64 (redN n (den1 d)), .int .u64 (redD n (den1 d))]) ∧ Gr w w' := by
  by_cases h : d = 0
  · subst h; exact klow_zero n n1 n2 w
  · have e : den1 d = d := if_neg h
    rw [e]
    exact klow_core n d n1 n2 (by omega) d2 w
/-- What comes of klow. -/
theorem red_bounds {n d : Int} (n1 : 0 ≤ n) (d1 : 0 ≤ d) : 0 ≤ redN n (den1 d) ∧ redN n (den1 d) ≤ n ∧ 1 ≤ redD n (den1 d) ∧ redD n (den1 d) ≤ den1 d ∧ gz (redN n (den1 d)) (redD n (den1 d)) = 1 := by
  have hp := den1_pos d1
  have h1 := red_le n (den1 d) (by omega)
  have h2 : 0 ≤ redN n (den1 d) := ediv_nonneg' n1 (gz_pos_right (by omega))
  exact ⟨h2, by omega, redD_pos (by omega), h1.2, red_coprime (by omega)⟩

theorem kscale_any (v s : Int) (v1 : 0 ≤ v) (v2 : v ≤ 18446744073709551615) (s1 : 0 ≤ s) (s2 : s ≤ 255) (w : World) :
    Calls Ydfm.prog 19 #[.int .u64 v, .int .u8 s] w fun e w' => (∃ x : Int, (0 ≤ x ∧ x ≤ 18446744073709551615) ∧ e = .returned (.int .u64 x)) ∧ w' = w := by
  have h : s % 3 = 0 ∨ s % 3 = 1 ∨ s % 3 = 2 := by omega
  rcases h with h | h | h
  all_goals
    go_enter Ydfm.func19, Ydfm.ntmps19
    go_wp2
    go_ret
    refine ⟨⟨_, ?_, rfl⟩, rfl⟩
    first | exact ⟨v1, v2⟩ | (rw [IntKind.wrap_u64]; omega)
end Go.Proofs.Ymbrdf
