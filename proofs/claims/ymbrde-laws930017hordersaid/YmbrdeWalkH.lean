/-
  THE WALKS (seat e): Cmp.
-/
import Derived.Test.YmbrdeWalkB
import Derived.Test.YmbrdeWalkM
namespace Go.Proofs.Ymbrde
open Go.RowKit

set_option maxHeartbeats 1000000 in
theorem cmp_no (a b c d : Int) (a1 : -9223372036854775808 ≤ a) (a2 : a ≤ 9223372036854775807) (b2 : b ≤ 9223372036854775807)
    (c1 : -9223372036854775808 ≤ c) (c2 : c ≤ 9223372036854775807) (d2 : d ≤ 9223372036854775807) (hv : validB a b = false ∨ validB c d = false) (w : World) :
    Calls Ydem.prog 30 #[.agg #[.int .i64 a, .int .i64 b], .agg #[.int .i64 c, .int .i64 d]] w fun e w' => e = .returned (.tuple #[.int .i64 0, .bool false]) ∧ Gr w w' := by
  by_cases hv1 : validB a b = false
  · go_enter Ydem.func30, Ydem.ntmps30
    go_wp2_with fail
    refine (valid_any _ _ a1 a2 b2 _).mono ?_
    rintro e w1 ⟨rfl, g1⟩
    go_wp2_with fail
    go_ret2
    exact ⟨rfl, (((Gr.refl _).alloc _ _).alloc _ _).trans g1⟩
  · have hv2 : validB c d = false := hv.resolve_left hv1
    have hv1 : validB a b = true := by simpa using hv1
    clear hv
    go_enter Ydem.func30, Ydem.ntmps30
    go_wp2_with fail
    refine (valid_any _ _ a1 a2 b2 _).mono ?_
    rintro e w1 ⟨rfl, g1⟩
    obtain ⟨hc1, hf1, hz1⟩ := gcell g1
    go_wp2_with fail
    refine (valid_any _ _ c1 c2 d2 _).mono ?_
    rintro e w2 ⟨rfl, g2⟩
    go_wp2_with fail
    go_ret2
    exact ⟨rfl, ((((Gr.refl _).alloc _ _).alloc _ _).trans g1).trans g2⟩

/-- The five ways of comparing two products word by word. -/
theorem words_cases (X Y : Int) :
    (X = Y ∧ (hi64 X == hi64 Y) = true ∧ (lo64 X == lo64 Y) = true) ∨
    (X < Y ∧ hi64 X < hi64 Y ∧ (hi64 X == hi64 Y) = false) ∨
    (X < Y ∧ (hi64 X == hi64 Y) = true ∧ ¬ hi64 X < hi64 Y ∧ (lo64 X == lo64 Y) = false ∧ lo64 X < lo64 Y) ∨
    (Y < X ∧ (hi64 X == hi64 Y) = true ∧ ¬ hi64 X < hi64 Y ∧ (lo64 X == lo64 Y) = false ∧ ¬ lo64 X < lo64 Y) ∨
    (Y < X ∧ ¬ hi64 X < hi64 Y ∧ (hi64 X == hi64 Y) = false) := by
  have h1 := hl_lt (X := X) (Y := Y)
  have h2 := hl_eq (X := X) (Y := Y)
  simp only [beq_iff_eq, beq_eq_false_iff_ne, ne_eq]
  omega

set_option maxHeartbeats 4000000 in
theorem cmp_yes (a b c d : Int) (a1 : -9223372036854775808 ≤ a) (a2 : a ≤ 9223372036854775807) (b2 : b ≤ 9223372036854775807)
    (c1 : -9223372036854775808 ≤ c) (c2 : c ≤ 9223372036854775807) (d2 : d ≤ 9223372036854775807) (hv1 : validB a b = true) (hv2 : validB c d = true) (w : World) :
    Calls Ydem.prog 30 #[.agg #[.int .i64 a, .int .i64 b], .agg #[.int .i64 c, .int .i64 d]] w fun e w' => e = .returned (.tuple #[.int .i64 (cmpZ (a * d) (c * b)), .bool true]) ∧ Gr w w' := by
  have b1 := (validB_iff.mp hv1).1
  have d1 := (validB_iff.mp hv2).1
  have m1 := magZ_nonneg a
  have m2 := magZ_le a1 a2
  have m3 := magZ_nonneg c
  have m4 := magZ_le c1 c2
  go_enter Ydem.func30, Ydem.ntmps30
  go_wp2_with fail
  refine (valid_any _ _ a1 a2 b2 _).mono ?_
  rintro e w1 ⟨rfl, g1⟩
  obtain ⟨hc1, hf1, hz1⟩ := gcell g1
  have hz1a : w.heap.size < w1.heap.size := by simp at hz1; omega
  have hz1b : w.heap.size + 1 < w1.heap.size := by simp at hz1; omega
  clear hz1
  go_wp2_with fail
  refine (valid_any _ _ c1 c2 d2 _).mono ?_
  rintro e w2 ⟨rfl, g2⟩
  obtain ⟨hc2, hf2, hz2⟩ := gcell g2
  have G2 : Gr w w2 := ((((Gr.refl _).alloc _ _).alloc _ _).trans g1).trans g2
  go_wp2_with fail
  refine (magnitude_any _ a1 a2 _).mono ?_
  rintro e wx ⟨rfl, hw⟩
  subst wx
  go_wp2_with fail
  refine (magnitude_any _ c1 c2 _).mono ?_
  rintro e wx ⟨rfl, hw⟩
  subst wx
  by_cases ha : a < 0
  · have hma := magZ_neg ha
    by_cases hc : c < 0
    · have hmc := magZ_neg hc
      have e1 : magZ a * d = -(a * d) := by rw [hma, Int.neg_mul]
      have e2 : magZ c * b = -(c * b) := by rw [hmc, Int.neg_mul]
      clear hma hmc
      generalize hX : magZ a * d = X at e1
      generalize hY : magZ c * b = Y at e2
      have E1 : Hid (X = _) := e1
      have E2 : Hid (Y = _) := e2
      clear e1 e2
      go_wp2_with fail
      refine (mul64_any _ _ m1 (by omega) (by omega) (by omega) _).mono ?_
      rintro e wx ⟨rfl, hw⟩
      subst wx
      go_wp2_with fail
      refine (mul64_any _ _ m3 (by omega) (by omega) (by omega) _).mono ?_
      rintro e wx ⟨rfl, hw⟩
      subst wx
      rcases words_cases X Y with ⟨h, k1, k2⟩ | ⟨h, k1, k2⟩ | ⟨h, k1, k2, k3, k4⟩ | ⟨h, k1, k2, k3, k4⟩ | ⟨h, k1, k2⟩
      · have hz : Hid (cmpZ (a * d) (c * b) = _) := cmpZ_eq (by have := E1.out; have := E2.out; omega)
        clear E1 E2 h
        go_wp2_with fail
        go_ret2
        exact ⟨by rw [hz.out]; rfl, G2⟩
      · have hz : Hid (cmpZ (a * d) (c * b) = _) := cmpZ_gt (by have := E1.out; have := E2.out; omega)
        clear E1 E2 h
        go_wp2_with fail
        go_ret2
        exact ⟨by rw [hz.out]; rfl, G2⟩
      · have hz : Hid (cmpZ (a * d) (c * b) = _) := cmpZ_gt (by have := E1.out; have := E2.out; omega)
        clear E1 E2 h
        go_wp2_with fail
        go_ret2
        exact ⟨by rw [hz.out]; rfl, G2⟩
      · have hz : Hid (cmpZ (a * d) (c * b) = _) := cmpZ_lt (by have := E1.out; have := E2.out; omega)
        clear E1 E2 h
        go_wp2_with fail
        go_ret2
        exact ⟨by rw [hz.out]; rfl, G2⟩
      · have hz : Hid (cmpZ (a * d) (c * b) = _) := cmpZ_lt (by have := E1.out; have := E2.out; omega)
        clear E1 E2 h
        go_wp2_with fail
        go_ret2
        exact ⟨by rw [hz.out]; rfl, G2⟩
    · have hc' : decide (c < 0) = false := decide_eq_false hc
      have hlt : a * d < c * b := by
        have h1 := Int.mul_neg_of_neg_of_pos ha (show 0 < d by omega)
        have h2 := Int.mul_nonneg (show 0 ≤ c by omega) (show 0 ≤ b by omega)
        omega
      have hz := cmpZ_lt hlt
      go_wp2_with fail
      go_ret2
      exact ⟨by rw [hz]; rfl, G2⟩
  · have ha' : decide (a < 0) = false := decide_eq_false ha
    have hma := magZ_pos (n := a) (by omega)
    by_cases hc : c < 0
    · have hlt : c * b < a * d := by
        have h1 := Int.mul_neg_of_neg_of_pos hc (show 0 < b by omega)
        have h2 := Int.mul_nonneg (show 0 ≤ a by omega) (show 0 ≤ d by omega)
        omega
      have hz := cmpZ_gt hlt
      go_wp2_with fail
      go_ret2
      exact ⟨by rw [hz]; rfl, G2⟩
    · have hc' : decide (c < 0) = false := decide_eq_false hc
      have hmc := magZ_pos (n := c) (by omega)
      have e1 : magZ a * d = a * d := by rw [hma]
      have e2 : magZ c * b = c * b := by rw [hmc]
      clear hma hmc
      generalize hX : magZ a * d = X at e1
      generalize hY : magZ c * b = Y at e2
      have E1 : Hid (X = _) := e1
      have E2 : Hid (Y = _) := e2
      clear e1 e2
      go_wp2_with fail
      refine (mul64_any _ _ m1 (by omega) (by omega) (by omega) _).mono ?_
      rintro e wx ⟨rfl, hw⟩
      subst wx
      go_wp2_with fail
      refine (mul64_any _ _ m3 (by omega) (by omega) (by omega) _).mono ?_
      rintro e wx ⟨rfl, hw⟩
      subst wx
      rcases words_cases X Y with ⟨h, k1, k2⟩ | ⟨h, k1, k2⟩ | ⟨h, k1, k2, k3, k4⟩ | ⟨h, k1, k2, k3, k4⟩ | ⟨h, k1, k2⟩
      · have hz : Hid (cmpZ (a * d) (c * b) = _) := cmpZ_eq (by have := E1.out; have := E2.out; omega)
        clear E1 E2 h
        go_wp2_with fail
        go_ret2
        exact ⟨by rw [hz.out]; rfl, G2⟩
      · have hz : Hid (cmpZ (a * d) (c * b) = _) := cmpZ_lt (by have := E1.out; have := E2.out; omega)
        clear E1 E2 h
        go_wp2_with fail
        go_ret2
        exact ⟨by rw [hz.out]; rfl, G2⟩
      · have hz : Hid (cmpZ (a * d) (c * b) = _) := cmpZ_lt (by have := E1.out; have := E2.out; omega)
        clear E1 E2 h
        go_wp2_with fail
        go_ret2
        exact ⟨by rw [hz.out]; rfl, G2⟩
      · have hz : Hid (cmpZ (a * d) (c * b) = _) := cmpZ_gt (by have := E1.out; have := E2.out; omega)
        clear E1 E2 h
        go_wp2_with fail
        go_ret2
        exact ⟨by rw [hz.out]; rfl, G2⟩
      · have hz : Hid (cmpZ (a * d) (c * b) = _) := cmpZ_gt (by have := E1.out; have := E2.out; omega)
        clear E1 E2 h
        go_wp2_with fail
        go_ret2
        exact ⟨by rw [hz.out]; rfl, G2⟩
end Go.Proofs.Ymbrde
