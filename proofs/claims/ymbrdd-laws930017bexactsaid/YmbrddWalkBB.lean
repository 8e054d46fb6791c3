/-
  THE WALKS (seat d): bmag, bgcd's user bvalid, bnorm.
-/
import Derived.Test.YmbrddWalkE
import Derived.Test.YmbrddWalkSub
namespace Go.Proofs.Ymbrdd
open Go.RowKit

theorem wrap_negu (n : Int) (h0 : -9223372036854775808 ≤ n) (h : n < 0) : IntKind.u64.wrap n = n + 18446744073709551616 := by
  rw [IntKind.wrap_u64]; omega
theorem wrap_neguu (n : Int) (h0 : -9223372036854775808 ≤ n) (h : n < 0) : IntKind.u64.wrap (-(n + 18446744073709551616)) = -n := by
  rw [IntKind.wrap_u64]; omega
theorem xmag_any (n : Int) (h0 : -9223372036854775808 ≤ n) (h1 : n ≤ 9223372036854775807) (w : World) :
    Calls Yddm.prog 25 #[.int .i64 n] w fun e w' => e = .returned (.int .u64 (magZ n)) ∧ w' = w := by
  by_cases h : n < 0
  · have hm := magZ_neg h
    have u1 := wrap_negu n h0 h
    have u2 := wrap_neguu n h0 h
    go_enter Yddm.func25, Yddm.ntmps25
    go_wp2
    go_ret
    exact ⟨ret_int (by omega), rfl⟩
  · have hm := magZ_pos (n := n) (by omega)
    go_enter Yddm.func25, Yddm.ntmps25
    go_wp2
    go_ret
    exact ⟨ret_int (by omega), rfl⟩

theorem bvalid_any (n d : Int) (n1 : -9223372036854775808 ≤ n) (n2 : n ≤ 9223372036854775807) (d2 : d ≤ 9223372036854775807) (w : World) :
    Calls Yddm.prog 29 #[.int .i64 n, .int .i64 d] w fun e w' => e = .returned (.bool (validB n d)) ∧ w' = w := by
  by_cases hd : 0 < d
  · have m1 := magZ_nonneg n
    have m2 := magZ_le n1 n2
    have hv : Hid (validB n d = (gz (magZ n) d == 1)) := by
      show _ = _
      rw [validB_of (by omega), gz_mag_left, ← Bool.beq_eq_decide_eq]
    go_enter Yddm.func29, Yddm.ntmps29
    go_wp2_with (first | (go_at_call 25; refine (xmag_any _ n1 n2 _).mono ?_; rintro e wx ⟨rfl, hw⟩; subst wx) | (go_at_call 24; refine (xgcd_any _ _ m1 (by omega) (by omega) (by omega) _).mono ?_; rintro e wx ⟨rfl, hw⟩; subst wx))
    go_ret
    exact ⟨by rw [hv.out]; rfl, rfl⟩
  · have hv := validB_low (n := n) (d := d) (by omega)
    have hd' : decide (0 < d) = false := by simpa using hd
    go_enter Yddm.func29, Yddm.ntmps29
    go_wp2_with fail
    go_ret
    exact ⟨by first | rfl | (rw [hv]; rfl), rfl⟩

/-- Any int64, brought to a positive one by its absolute value (1 where that does not fit, or is 0). -/
def denB (d : Int) : Int := if d < 0 then (if d = -9223372036854775808 then 1 else -d) else (if d = 0 then 1 else d)
theorem denB_bound {d : Int} (d1 : -9223372036854775808 ≤ d) (d2 : d ≤ 9223372036854775807) : 1 ≤ denB d ∧ denB d ≤ 9223372036854775807 := by
  unfold denB; split <;> split <;> omega
theorem denB_pos {d : Int} (h : 1 ≤ d) : denB d = d := by unfold denB; rw [if_neg (by omega), if_neg (by omega)]

set_option maxHeartbeats 2000000 in
theorem bnorm_any (n d : Int) (n1 : -9223372036854775808 ≤ n) (n2 : n ≤ 9223372036854775807) (d1 : -9223372036854775808 ≤ d) (d2 : d ≤ 9223372036854775807) (w : World) :
    Calls Yddm.prog 23 #[.int .i64 n, .int .i64 d] w fun e w' => e = .returned (.agg #[.int .i64 (redN n (denB d)), .int .i64 (redD n (denB d))]) ∧ Gr w w' := by
  obtain ⟨x1, x2⟩ := denB_bound d1 d2
  obtain ⟨r1, r2, r3, r4, -⟩ := red_i64 n1 n2 x1
  have t1 := tdiv_red n (denB d)
  have t2 := tdiv_red' n (denB d)
  have u1 := IntWalk.wrap64_in (redN n (denB d)) ⟨by omega, by omega⟩
  have u2 := IntWalk.wrap64_in (redD n (denB d)) ⟨by omega, by omega⟩
  have hg0 : ¬ gz n (denB d) = 0 := by have := gz_pos_right (a := n) (b := denB d) (by omega); omega
  have hg1 := gz_le_right (a := n) (b := denB d) (by omega)
  have hg2 := gz_nonneg n (denB d)
  have hm := gz_mag_left n (denB d)
  have m1 := magZ_nonneg n
  have m2 := magZ_le n1 n2
  have hcase : (d < 0 ∧ d = -9223372036854775808 ∧ denB d = 1) ∨ (d < 0 ∧ -9223372036854775808 < d ∧ -d = denB d) ∨ (d = 0 ∧ denB d = 1) ∨ (0 < d ∧ d = denB d) := by
    unfold denB
    split
    · split
      · left; omega
      · right; left; omega
    · split
      · right; right; left; omega
      · right; right; right; omega
  generalize redN n (denB d) = p at *
  generalize redD n (denB d) = q at *
  generalize denB d = x at *
  generalize gz n x = g at *
  have hcase2 : (d < 0 ∧ wrap64 (-d) = -9223372036854775808 ∧ x = 1) ∨ (d < 0 ∧ -9223372036854775808 < d ∧ -d = x) ∨ (d = 0 ∧ x = 1) ∨ (0 < d ∧ d = x) := by
    rcases hcase with ⟨h1, h2, h3⟩ | h | h | h
    · left; refine ⟨h1, ?_, h3⟩; rw [h2]; unfold wrap64; rfl
    · right; left; exact h
    · right; right; left; exact h
    · right; right; right; exact h
  clear hcase
  rcases hcase2 with ⟨h1, h2, rfl⟩ | ⟨h1, h2, h3⟩ | ⟨rfl, rfl⟩ | ⟨h1, rfl⟩
  all_goals
    go_enter Yddm.func23, Yddm.ntmps23
    go_wp2_with fail
    refine (xmag_any _ n1 n2 _).mono ?_
    rintro _ wx ⟨rfl, hw⟩
    subst wx
    go_wp2_with fail
    refine (xgcd_any _ _ m1 (by omega) (by omega) (by omega) _).mono ?_
    rintro _ wx ⟨rfl, hw⟩
    subst wx
    rw [hm]
    go_wp2_with fail
    go_region
    all_goals
      go_wp2_with fail
      refine bodyPost_ret (v := .agg #[.int .i64 p, .int .i64 q]) ?_ rfl ⟨rfl, ?_⟩
      · simp [results, Yddm.results23, go_sem]
      · exact ((Gr.refl _).alloc _ _).drew
end Go.Proofs.Ymbrdd
