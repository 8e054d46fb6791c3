/-
  THE WALKS (seat e): fgcd (it calls itself), fabs, fvalid, ffrac.
-/
import Derived.Test.YmbrdeWalkA
namespace Go.Proofs.Ymbrde
open Go.RowKit

theorem fgcd_rec (k : Nat) : ∀ (a b : Int) (w : World), b ≤ k → 0 ≤ a → 0 ≤ b → a ≤ 18446744073709551615 → b ≤ 18446744073709551615 →
    Calls Ydem.prog 23 #[.int .u64 a, .int .u64 b] w fun e w' => e = .returned (.int .u64 (gz a b)) ∧ w' = w := by
  induction k with
  | zero =>
    intro a b w hk ha hb ha' hb'
    have hb0 : b = 0 := by omega
    subst hb0
    have hz := gz_zero a ha
    go_enter Ydem.func23, Ydem.ntmps23
    go_wp2_with fail
    go_ret
    exact ⟨ret_int hz.symm, rfl⟩
  | succ k ih =>
    intro a b w hk ha hb ha' hb'
    by_cases h : b = 0
    · subst h
      have hz := gz_zero a ha
      clear ih
      go_enter Ydem.func23, Ydem.ntmps23
      go_wp2_with fail
      go_ret
      exact ⟨ret_int hz.symm, rfl⟩
    · have hm := Int.emod_nonneg a h
      have hl := Int.emod_lt_of_pos a (show 0 < b by omega)
      have hg : Hid (gz b (a % b) = gz a b) := gz_emod a b
      have h' : (b == 0) = false := by simpa using h
      have IH : Hid (∀ (a b : Int) (w : World), b ≤ k → 0 ≤ a → 0 ≤ b → a ≤ 18446744073709551615 → b ≤ 18446744073709551615 →
        Calls Ydem.prog 23 #[.int .u64 a, .int .u64 b] w fun e w' => e = .returned (.int .u64 (gz a b)) ∧ w' = w) := ih
      clear ih
      go_enter Ydem.func23, Ydem.ntmps23
      go_wp2_with fail
      refine (IH.out b (a % b) _ (by omega) (by omega) (by omega) (by omega) (by omega)).mono ?_
      rintro _ wx ⟨rfl, hw⟩
      subst wx
      go_wp2_with fail
      go_ret
      exact ⟨ret_int hg.out, rfl⟩

theorem fgcd_any (a b : Int) (ha : 0 ≤ a) (hb : 0 ≤ b) (ha' : a ≤ 18446744073709551615) (hb' : b ≤ 18446744073709551615) (w : World) :
    Calls Ydem.prog 23 #[.int .u64 a, .int .u64 b] w fun e w' => e = .returned (.int .u64 (gz a b)) ∧ w' = w :=
  fgcd_rec b.toNat a b w (by omega) ha hb ha' hb'

theorem wrap_negf (n : Int) (h0 : -9223372036854775808 ≤ n) (h : n < 0) : IntKind.u64.wrap n = n + 18446744073709551616 := by
  rw [IntKind.wrap_u64]; omega
theorem wrap_negff (n : Int) (h0 : -9223372036854775808 ≤ n) (h : n < 0) : IntKind.u64.wrap (-(n + 18446744073709551616)) = -n := by
  rw [IntKind.wrap_u64]; omega
theorem fabs_any (n : Int) (h0 : -9223372036854775808 ≤ n) (h1 : n ≤ 9223372036854775807) (w : World) :
    Calls Ydem.prog 24 #[.int .i64 n] w fun e w' => e = .returned (.int .u64 (magZ n)) ∧ w' = w := by
  by_cases h : n < 0
  · have hm := magZ_neg h
    have u1 := wrap_negf n h0 h
    have u2 := wrap_negff n h0 h
    go_enter Ydem.func24, Ydem.ntmps24
    go_wp2
    go_ret
    exact ⟨ret_int (by omega), rfl⟩
  · have hm := magZ_pos (n := n) (by omega)
    go_enter Ydem.func24, Ydem.ntmps24
    go_wp2
    go_ret
    exact ⟨ret_int (by omega), rfl⟩

set_option maxHeartbeats 1000000 in
theorem fvalid_any (n d : Int) (n1 : -9223372036854775808 ≤ n) (n2 : n ≤ 9223372036854775807) (d2 : d ≤ 9223372036854775807) (w : World) :
    Calls Ydem.prog 22 #[.agg #[.int .i64 n, .int .i64 d]] w fun e w' => e = .returned (.bool (validB n d)) ∧ Gr w w' := by
  by_cases hd : 1 ≤ d
  · have m1 := magZ_nonneg n
    have m2 := magZ_le n1 n2
    have hv : Hid (validB n d = (gz (magZ n) d == 1)) := by
      show _ = _
      rw [validB_of hd, gz_mag_left, ← Bool.beq_eq_decide_eq]
    have u1 := wrapu_id (a := d) (by omega) (by omega)
    have X := fun w => fabs_any n n1 n2 w
    have Y := fun w => fgcd_any (magZ n) d m1 (by omega) (by omega) (by omega) w
    go_enter Ydem.func22, Ydem.ntmps22
    go_wp2_with fail
    go_quiet ((first | (go_at_call 24; exact Calls.quiet_of_same (X _)) | (go_at_call 23; exact Calls.quiet_of_same (Y _))))
    go_wp2_with fail
    go_ret
    exact ⟨by rw [hv.out]; rfl, ((Gr.refl _).alloc _ _).drewN _⟩
  · have hv := validB_low (n := n) (d := d) (by omega)
    have hd' : decide (1 ≤ d) = false := by simpa using hd
    go_enter Ydem.func22, Ydem.ntmps22
    go_wp2_with fail
    go_quiet (fail)
    go_wp2_with fail
    go_ret
    exact ⟨by first | rfl | (rw [hv]; rfl), ((Gr.refl _).alloc _ _).drewN _⟩

/-- ffrac, raw: the parts as they stand. -/
theorem ffrac_raw (n d : Int) (w : World) :
    Calls Ydem.prog 20 #[.int .i64 n, .int .i64 d, .bool true] w fun e w' => e = .returned (.agg #[.int .i64 n, .int .i64 d]) ∧ Gr w w' := by
  go_enter Ydem.func20, Ydem.ntmps20
  go_wp2_with fail
  refine bodyPost_ret (v := .agg #[.int .i64 n, .int .i64 d]) ?_ rfl ⟨rfl, ?_⟩
  · simp [results, Ydem.results20, go_sem]
  · exact (Gr.refl _).alloc _ _

set_option maxHeartbeats 2000000 in
theorem ffrac_red (n d : Int) (n1 : -9223372036854775808 ≤ n) (n2 : n ≤ 9223372036854775807) (d1 : -9223372036854775808 ≤ d) (d2 : d ≤ 9223372036854775807) (w : World) :
    Calls Ydem.prog 20 #[.int .i64 n, .int .i64 d, .bool false] w fun e w' => e = .returned (.agg #[.int .i64 (redN n (denH d)), .int .i64 (redD n (denH d))]) ∧ Gr w w' := by
  obtain ⟨x1, x2⟩ := denH_bound d1 d2
  obtain ⟨r1, r2, r3, r4, -⟩ := red_i64 n1 n2 x1
  have t1 := tdiv_red n (denH d)
  have t2 := tdiv_red' n (denH d)
  have u1 := IntWalk.wrap64_in (redN n (denH d)) ⟨by omega, by omega⟩
  have u2 := IntWalk.wrap64_in (redD n (denH d)) ⟨by omega, by omega⟩
  have hg0 : ¬ gz n (denH d) = 0 := by have := gz_pos_right (a := n) (b := denH d) (by omega); omega
  have hg1 := gz_le_right (a := n) (b := denH d) (by omega)
  have hg2 := gz_nonneg n (denH d)
  have hm := gz_mag_left n (denH d)
  have m1 := magZ_nonneg n
  have m2 := magZ_le n1 n2
  have hcase : (d = -1 ∧ denH d = 1) ∨ (d < -1 ∧ -(d + 1) = denH d) ∨ (d = 0 ∧ denH d = 1) ∨ (0 < d ∧ d = denH d) := by
    unfold denH
    split
    · split
      · left; omega
      · right; left; omega
    · split
      · right; right; left; omega
      · right; right; right; omega
  generalize redN n (denH d) = p at *
  generalize redD n (denH d) = q at *
  generalize denH d = x at *
  generalize gz n x = g at *
  rcases hcase with ⟨rfl, rfl⟩ | ⟨h1, h3⟩ | ⟨rfl, rfl⟩ | ⟨h1, rfl⟩
  all_goals
    go_enter Ydem.func20, Ydem.ntmps20
    go_wp2_with fail
    refine (fabs_any _ n1 n2 _).mono ?_
    rintro _ wx ⟨rfl, hw⟩
    subst wx
    go_wp2_with fail
    refine (fgcd_any _ _ m1 (by omega) (by omega) (by omega) _).mono ?_
    rintro _ wx ⟨rfl, hw⟩
    subst wx
    rw [hm]
    go_wp2_with fail
    go_region
    all_goals
      go_wp2_with fail
      refine bodyPost_ret (v := .agg #[.int .i64 p, .int .i64 q]) ?_ rfl ⟨rfl, ?_⟩
      · simp [results, Ydem.results20, go_sem]
      · exact ((Gr.refl _).alloc _ _).drew
end Go.Proofs.Ymbrde
