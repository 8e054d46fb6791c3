/-
  THE WALKS of the laws I (Valid).
-/
import Derived.Test.YmbrdfWalkB
namespace Go.Proofs.Ymbrdf
open Go.RowKit

/-- No k from 2 to below m divides both. -/
def NoCommon (n d m : Int) : Prop := ∀ j, 2 ≤ j → j < m → ¬ (j ∣ n ∧ j ∣ d)
theorem noCommon_all {n d m : Int} (h : NoCommon n d m) (h1 : 1 ≤ d) (h2 : d < m) : validB n d = true := by
  refine validB_mk h1 ?_
  have hp := gz_pos_right (a := n) (b := d) (by omega)
  have hl := gz_le_right (a := n) (b := d) (by omega)
  rcases Int.lt_or_le (gz n d) 2 with h3 | h3
  · omega
  · exact absurd ⟨gz_dvd_left n d, gz_dvd_right n d⟩ (h _ h3 (by omega))
theorem common_no {n d k : Int} (h : 2 ≤ k) (h1 : k ∣ n) (h2 : k ∣ d) : validB n d = false := by
  refine validB_no (fun h3 => ?_)
  have := dvd_gz h1 h2
  rw [h3] at this
  have := Int.le_of_dvd (by decide) this
  omega
theorem noCommon_succ {n d k : Int} (h : NoCommon n d k) (h1 : ¬ (k ∣ n ∧ k ∣ d)) : NoCommon n d (k + 1) := by
  intro j j1 j2
  rcases Int.lt_or_eq_of_le (show j ≤ k by omega) with h3 | h3
  · exact h j j1 h3
  · rw [h3]; exact h1
theorem beq_mod_yes {n k : Int} (h : k ∣ n) : (n % k == 0) = true ∧ (n.tmod k == 0) = true := by
  rw [Int.emod_eq_zero_of_dvd h, Int.tmod_eq_zero_of_dvd h]; exact ⟨rfl, rfl⟩
theorem beq_mod_no {n k : Int} (h : ¬ k ∣ n) : (n % k == 0) = false ∧ (n.tmod k == 0) = false := by
  constructor
  · exact beq_eq_false_iff_ne.mpr (fun e => h (Int.dvd_of_emod_eq_zero e))
  · exact beq_eq_false_iff_ne.mpr (fun e => h (Int.dvd_of_tmod_eq_zero e))

set_option maxHeartbeats 1000000 in
theorem law_ITrial (n d : Int) (bn : -9223372036854775808 ≤ n ∧ n ≤ 9223372036854775807) (bd : -9223372036854775808 ≤ d ∧ d ≤ 9223372036854775807) (w : World) :
    Calls Ydfm.prog 3 #[.int .i64 n, .int .i64 d] w fun e w' => e = .returned (.bool true) ∧ Grown w w' := by
  obtain ⟨n1, n2⟩ := bn
  obtain ⟨d1, d2⟩ := bd
  by_cases hbig : 65536 < d
  · go_enter Ydfm.func3, Ydfm.ntmps3
    go_wp2_with fail
    go_ret
    exact ⟨rfl, Grown.refl _⟩
  · go_enter Ydfm.func3, Ydfm.ntmps3
    go_wp2_with fail
    go_loop [5, 6] (fun v t => ∃ k : Int, 2 ≤ k ∧ k ≤ 65537 ∧ t = .int .i64 k ∧ v = .bool (decide (1 ≤ d)) ∧ Hid (NoCommon n d k)) (fun _ t => (65537 - intOf t).toNat)
    case atStart => exact ⟨2, by omega, by omega, rfl, rfl, fun j _ _ => by omega⟩
    case round =>
      obtain ⟨k, k1, k2, rfl, rfl, hN⟩ := hrel
      by_cases hk : k ≤ d
      · by_cases hd1 : k ∣ n
        · obtain ⟨e1, e2⟩ := beq_mod_yes hd1
          by_cases hd2 : k ∣ d
          · obtain ⟨e3, e4⟩ := beq_mod_yes hd2
            have hv := common_no k1 hd1 hd2
            clear hd1 hd2
            go_wp2_with (go_at_call 14; refine (valid_any _ _ n1 n2 d2 _).mono ?_; rintro e w' ⟨rfl, hg⟩)
            go_ret
            exact ⟨by simp, hg.grown⟩
          · obtain ⟨e3, e4⟩ := beq_mod_no hd2
            have hS : Hid (NoCommon n d (k + 1)) := noCommon_succ hN (fun h => hd2 h.2)
            clear hd1 hd2
            go_wp2_with fail
            go_round
            case rel => exact ⟨k + 1, by omega, by omega, rfl, rfl, hS⟩
            case measure => simp [intOf]; omega
        · obtain ⟨e1, e2⟩ := beq_mod_no hd1
          have hS : Hid (NoCommon n d (k + 1)) := noCommon_succ hN (fun h => hd1 h.1)
          clear hd1
          go_wp2_with fail
          go_round
          case rel => exact ⟨k + 1, by omega, by omega, rfl, rfl, hS⟩
          case measure => simp [intOf]; omega
      · have hv : validB n d = decide (1 ≤ d) := by
          by_cases h1 : 1 ≤ d
          · rw [noCommon_all hN.out h1 (by omega)]; simp [h1]
          · rw [validB_low (by omega)]; simp [h1]
        go_wp2_with (go_at_call 14; refine (valid_any _ _ n1 n2 d2 _).mono ?_; rintro e w' ⟨rfl, hg⟩)
        go_ret
        exact ⟨by simp, hg.grown⟩

theorem validB_zero {d : Int} (h : 1 ≤ d) : validB 0 d = (d == 1) := by
  rw [validB_of h, gz_zero_left d (by omega), Bool.beq_eq_decide_eq]

set_option maxHeartbeats 1000000 in
theorem law_IReduce (n d : Int) (bn : -9223372036854775808 ≤ n ∧ n ≤ 9223372036854775807) (bd : -9223372036854775808 ≤ d ∧ d ≤ 9223372036854775807) (w : World) :
    Calls Ydfm.prog 5 #[.int .i64 n, .int .i64 d] w fun e w' => e = .returned (.bool true) ∧ Grown w w' := by
  obtain ⟨n1, n2⟩ := bn
  obtain ⟨d1, d2⟩ := bd
  by_cases hd : d < 1
  · have hv := validB_low (n := n) (d := d) (by omega)
    go_enter Ydfm.func5, Ydfm.ntmps5
    go_wp2_with fail
    refine (valid_any _ _ n1 n2 d2 _).mono ?_
    rintro e w1 ⟨rfl, g1⟩
    go_wp2_with fail
    go_ret
    exact ⟨by simp, g1.grown⟩
  · have hv0 := validB_zero (d := d) (by omega)
    have hv1 := validB_mk (n := 1) (d := d) (by omega) (gz_one_left d)
    have hv2 := validB_mk (n := d - 1) (d := d) (by omega) (gz_pred d)
    have hv3 : validB (wrap64 (-n)) d = validB n d := by
      by_cases hm : n = -9223372036854775808
      · subst hm; rw [show wrap64 (- -9223372036854775808) = -9223372036854775808 from by unfold wrap64; rfl]
      · rw [IntWalk.wrap64_in (-n) ⟨by omega, by omega⟩, validB_neg]
    have hv3' := validB_neg n d
    have hv4 := validB_tmod n d
    have hv4' := validB_emod n d
    have t1 : -9223372036854775808 ≤ n.tmod d ∧ n.tmod d ≤ 9223372036854775807 := by
      have h1 := Int.lt_tmod_of_pos n (b := d) (by omega)
      have h2 := Int.tmod_lt_of_pos n (b := d) (by omega)
      omega
    have t2 : 0 ≤ n % d ∧ n % d ≤ 9223372036854775807 := by
      have h1 := Int.emod_nonneg n (b := d) (by omega)
      have h2 := Int.emod_lt_of_pos n (b := d) (by omega)
      omega
    obtain ⟨t1, t1'⟩ := t1
    obtain ⟨t2, t2'⟩ := t2
    generalize hV : validB n d = V at hv3 hv3' hv4 hv4'
    go_enter Ydfm.func5, Ydfm.ntmps5
    go_wp2_with fail
    refine (valid_any _ _ n1 n2 d2 _).mono ?_
    rintro e w1 ⟨rfl, g1⟩
    go_wp2_with fail
    refine (valid_any _ _ (by omega) (by omega) d2 _).mono ?_
    rintro e w2 ⟨rfl, g2⟩
    go_wp2_with fail
    refine (valid_any _ _ (by omega) (by omega) d2 _).mono ?_
    rintro e w3 ⟨rfl, g3⟩
    obtain ⟨hc3, hf3, hz3⟩ := gcell g3
    simp at hz3
    go_wp2_with fail
    refine (valid_any _ _ (by omega) (by omega) d2 _).mono ?_
    rintro e w4 ⟨rfl, g4⟩
    have w64 : -9223372036854775808 ≤ wrap64 (-n) ∧ wrap64 (-n) ≤ 9223372036854775807 := by unfold wrap64; omega
    obtain ⟨w64, w64'⟩ := w64
    have G4 := (((((g1.alloc _ _).trans g2).alloc _ _).alloc _ _).trans g3).trans g4
    clear hc3 hf3 hz3 g1 g2 g3 g4
    by_cases hn : 0 < n
    · have hv5 : validB d n = V := (validB_swap (by omega) (by omega)).trans hV
      go_wp2_with fail
      refine (valid_any _ _ (by omega) (by omega) d2 _).mono ?_
      rintro e w5 ⟨rfl, g5⟩
      go_wp2_with fail
      refine (valid_any _ _ (by omega) (by omega) d2 _).mono ?_
      rintro e w6 ⟨rfl, g6⟩
      go_wp2_with fail
      refine (valid_any _ _ (by omega) (by omega) n2 _).mono ?_
      rintro e w7 ⟨rfl, g7⟩
      go_wp2_with fail
      go_ret
      exact ⟨rfl, (((((((G4.alloc _ _).trans g5)).alloc _ _).trans g6).alloc _ _).trans g7).grown⟩
    · go_wp2_with fail
      refine (valid_any _ _ (by omega) (by omega) d2 _).mono ?_
      rintro e w5 ⟨rfl, g5⟩
      go_wp2_with fail
      refine (valid_any _ _ (by omega) (by omega) d2 _).mono ?_
      rintro e w6 ⟨rfl, g6⟩
      go_wp2_with fail
      go_ret
      exact ⟨rfl, ((((G4.alloc _ _).trans g5).alloc _ _).trans g6).grown⟩
end Go.Proofs.Ymbrdf
