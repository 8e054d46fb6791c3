/-
  THE WALK of the law BExact (Sub at all int64 parts, against a 128-bit reckoning).
-/
import Derived.Test.YmbrddWalkBB
import Derived.Test.YmbrddWalkSub
import Derived.Test.YmbrddWalkM
import Derived.Test.YmbrddWalkW3
import Derived.Deep.Cut
namespace Go.Proofs.Ymbrdd
open Go.RowKit

/-- Does the fraction fit? By the words of its parts. -/
theorem fit_words {s : Bool} {Q D qh ql dh dl : Int} (eQ : qh * 18446744073709551616 + ql = Q) (eD : dh * 18446744073709551616 + dl = D) (a0 : 0 ≤ qh) (b0 : 0 ≤ ql) (b1 : ql ≤ 18446744073709551615)
    (c0 : 0 ≤ dh) (d0 : 0 ≤ dl) (d1 : dl ≤ 18446744073709551615) :
    (fitB (sg s Q) D = true ∧ qh = 0 ∧ dh = 0 ∧ dl < 9223372036854775808 ∧ ql < 9223372036854775808) ∨
    (fitB (sg s Q) D = true ∧ qh = 0 ∧ dh = 0 ∧ dl < 9223372036854775808 ∧ ql = 9223372036854775808 ∧ s = true) ∨
    (fitB (sg s Q) D = false ∧ ¬ qh = 0) ∨ (fitB (sg s Q) D = false ∧ qh = 0 ∧ ¬ dh = 0) ∨ (fitB (sg s Q) D = false ∧ qh = 0 ∧ dh = 0 ∧ 9223372036854775808 ≤ dl) ∨
    (fitB (sg s Q) D = false ∧ qh = 0 ∧ dh = 0 ∧ dl < 9223372036854775808 ∧ 9223372036854775808 ≤ ql ∧ s = false) ∨
    (fitB (sg s Q) D = false ∧ qh = 0 ∧ dh = 0 ∧ dl < 9223372036854775808 ∧ 9223372036854775808 < ql ∧ s = true) := by
  have hp := fit_pos (P := Q) (Q := D) (by omega)
  have hn := fit_neg (P := Q) (Q := D) (by omega)
  have fls : ∀ {x : Bool}, (x = true → False) → x = false := fun {x} h => by cases x <;> simp_all
  cases s
  · by_cases f : fitB (sg false Q) D = true
    · have := hp.mp f
      exact Or.inl ⟨f, by omega, by omega, by omega, by omega⟩
    · have f2 := fls f
      have g : ¬ (Q ≤ 9223372036854775807 ∧ D ≤ 9223372036854775807) := fun h => f (hp.mpr h)
      by_cases e1 : qh = 0
      · by_cases e2 : dh = 0
        · by_cases e3 : dl < 9223372036854775808
          · exact Or.inr (Or.inr (Or.inr (Or.inr (Or.inr (Or.inl ⟨f2, e1, e2, e3, by omega, rfl⟩)))))
          · exact Or.inr (Or.inr (Or.inr (Or.inr (Or.inl ⟨f2, e1, e2, by omega⟩))))
        · exact Or.inr (Or.inr (Or.inr (Or.inl ⟨f2, e1, e2⟩)))
      · exact Or.inr (Or.inr (Or.inl ⟨f2, e1⟩))
  · by_cases f : fitB (sg true Q) D = true
    · have := hn.mp f
      by_cases e : ql < 9223372036854775808
      · exact Or.inl ⟨f, by omega, by omega, by omega, e⟩
      · exact Or.inr (Or.inl ⟨f, by omega, by omega, by omega, by omega, rfl⟩)
    · have f2 := fls f
      have g : ¬ (Q ≤ 9223372036854775808 ∧ D ≤ 9223372036854775807) := fun h => f (hn.mpr h)
      by_cases e1 : qh = 0
      · by_cases e2 : dh = 0
        · by_cases e3 : dl < 9223372036854775808
          · exact Or.inr (Or.inr (Or.inr (Or.inr (Or.inr (Or.inr ⟨f2, e1, e2, e3, by omega, rfl⟩)))))
          · exact Or.inr (Or.inr (Or.inr (Or.inr (Or.inl ⟨f2, e1, e2, by omega⟩))))
        · exact Or.inr (Or.inr (Or.inr (Or.inl ⟨f2, e1, e2⟩)))
      · exact Or.inr (Or.inr (Or.inl ⟨f2, e1⟩))

set_option maxHeartbeats 8000000 in
set_option maxRecDepth 100000 in
theorem law_BExact (xn xd yn yd : Int) (b1 : -9223372036854775808 ≤ xn ∧ xn ≤ 9223372036854775807) (b2 : -9223372036854775808 ≤ xd ∧ xd ≤ 9223372036854775807)
    (b3 : -9223372036854775808 ≤ yn ∧ yn ≤ 9223372036854775807) (b4 : -9223372036854775808 ≤ yd ∧ yd ≤ 9223372036854775807) (w : World) :
    Calls Yddm.prog 7 #[.int .i64 xn, .int .i64 xd, .int .i64 yn, .int .i64 yd] w fun e w' => e = .returned (.bool true) ∧ Grown w w' := by
  obtain ⟨u1, u2⟩ := denB_bound b2.1 b2.2
  obtain ⟨v1, v2⟩ := denB_bound b4.1 b4.2
  obtain ⟨x1, x2, x3, x4, x5⟩ := red_i64 (n := xn) (d := denB xd) b1.1 b1.2 u1
  obtain ⟨y1, y2, y3, y4, y5⟩ := red_i64 (n := yn) (d := denB yd) b3.1 b3.2 v1
  have x6 : redD xn (denB xd) ≤ 9223372036854775807 := by omega
  have y6 : redD yn (denB yd) ≤ 9223372036854775807 := by omega
  clear x4 y4 u1 u2 v1 v2
  go_enter Yddm.func7, Yddm.ntmps7
  go_wp2_with fail
  refine (bnorm_any _ _ b1.1 b1.2 b2.1 b2.2 _).mono ?_
  rintro _ w1 ⟨rfl, g1⟩
  go_wp2_with fail
  refine (bnorm_any _ _ b3.1 b3.2 b4.1 b4.2 _).mono ?_
  rintro _ w2 ⟨rfl, g2⟩
  obtain ⟨hc2, hf2, hz2⟩ := gcell g2
  have s12 : w1.heap.size < w2.heap.size := by simp at hz2; omega
  clear hz2
  generalize redN xn (denB xd) = a at *
  generalize redD xn (denB xd) = b at *
  generalize redN yn (denB yd) = c at *
  generalize redD yn (denB yd) = d at *
  clear b1 b2 b3 b4
  obtain ⟨hB0, hN0, hD0⟩ := sum_val x5 ((validB_neg c d).trans y5)
  have hB : Hid _ := hB0
  have hN : Hid _ := hN0
  have hD : Hid _ := hD0
  clear hB0 hN0 hD0
  go_wp2_with fail
  refine (sub_any _ _ _ _ x1 x2 x6 y1 y2 y6 _).mono ?_
  rintro _ w3 ⟨rfl, g3⟩
  obtain ⟨hc3, hf3, hz3⟩ := gcell g3
  have s13 : w1.heap.size < w3.heap.size := by simp at hz3; omega
  have s23 : w2.heap.size < w3.heap.size := by simp at hz3; omega
  clear hz3
  generalize sumB a b (-c) d = SB at *
  generalize sumN a b (-c) d = SN at *
  generalize sumD a b (-c) d = SD at *
  have m1 := magZ_nonneg a
  have m2 := magZ_le x1 x2
  have m3 := magZ_nonneg c
  have m4 := magZ_le y1 y2
  have ub := wrapu_id (a := b) (by omega) (by omega)
  have ud := wrapu_id (a := d) (by omega) (by omega)
  have X1 := fun w => xmag_any a x1 x2 w
  have X2 := fun w => mul64_any (magZ a) d m1 (by omega) (by omega) (by omega) w
  have Y1 := fun w => xmag_any c y1 y2 w
  have Y2 := fun w => mul64_any (magZ c) b m3 (by omega) (by omega) (by omega) w
  go_wp2_with fail
  go_quiet ((first | (go_at_call 25; exact Calls.quiet_of_same (X1 _)) | (go_at_call 26; exact Calls.quiet_of_same (X2 _))))
  have i0 : ((w3.alloc (.cells #[.int .i64 SN, .int .i64 SD] 24)).drewN nq).cell? ⟨w1.heap.size, 0, none⟩ = some (.int .i64 a) := by
    rw [(gcell (((Gr.refl w3).alloc #[.int .i64 SN, .int .i64 SD] 24).drewN nq)).1 w1.heap.size 0 s13, hc3 _ _ (by simp; omega), (gcell ((Gr.refl w2).alloc #[.int .i64 c, .int .i64 d] 24)).1 _ _ s12, hc2 _ _ (by simp)]; simp [go_sem]
  have i1 : ((w3.alloc (.cells #[.int .i64 SN, .int .i64 SD] 24)).drewN nq).cell? ⟨w1.heap.size, 1, none⟩ = some (.int .i64 b) := by
    rw [(gcell (((Gr.refl w3).alloc #[.int .i64 SN, .int .i64 SD] 24).drewN nq)).1 w1.heap.size 1 s13, hc3 _ _ (by simp; omega), (gcell ((Gr.refl w2).alloc #[.int .i64 c, .int .i64 d] 24)).1 _ _ s12, hc2 _ _ (by simp)]; simp [go_sem]
  have i2 : ((w3.alloc (.cells #[.int .i64 SN, .int .i64 SD] 24)).drewN nq).cell? ⟨w2.heap.size, 0, none⟩ = some (.int .i64 c) := by
    rw [(gcell (((Gr.refl w3).alloc #[.int .i64 SN, .int .i64 SD] 24).drewN nq)).1 w2.heap.size 0 s23, hc3 _ _ (by simp)]; simp [go_sem]
  have i3 : ((w3.alloc (.cells #[.int .i64 SN, .int .i64 SD] 24)).drewN nq).cell? ⟨w2.heap.size, 1, none⟩ = some (.int .i64 d) := by
    rw [(gcell (((Gr.refl w3).alloc #[.int .i64 SN, .int .i64 SD] 24).drewN nq)).1 w2.heap.size 1 s23, hc3 _ _ (by simp)]; simp [go_sem]
  have i4 : ((w3.alloc (.cells #[.int .i64 SN, .int .i64 SD] 24)).drewN nq).cell? ⟨w3.heap.size, 0, none⟩ = some (.int .i64 SN) := by simp [go_sem]
  have i5 : ((w3.alloc (.cells #[.int .i64 SN, .int .i64 SD] 24)).drewN nq).cell? ⟨w3.heap.size, 1, none⟩ = some (.int .i64 SD) := by simp [go_sem]
  have G4 : Gr w ((w3.alloc (.cells #[.int .i64 SN, .int .i64 SD] 24)).drewN nq) := (((((g1.alloc _ _).trans g2).alloc _ _).trans g3).alloc _ _).drewN _
  have z4 : w3.heap.size < ((w3.alloc (.cells #[.int .i64 SN, .int .i64 SD] 24)).drewN nq).heap.size := by simp
  have e1 : w1.heap.size < ((w3.alloc (.cells #[.int .i64 SN, .int .i64 SD] 24)).drewN nq).heap.size := by simp; omega
  have e2 : w2.heap.size < ((w3.alloc (.cells #[.int .i64 SN, .int .i64 SD] 24)).drewN nq).heap.size := by simp; omega
  generalize (w3.alloc (.cells #[.int .i64 SN, .int .i64 SD] 24)).drewN nq = w4 at *
  clear hc2 hf2 hc3 hf3 g1 g2 g3 nq
  go_wp2_with fail
  go_quiet ((first | (go_at_call 25; exact Calls.quiet_of_same (Y1 _)) | (go_at_call 26; exact Calls.quiet_of_same (Y2 _))))
  have G5 := G4.drewN nq
  have k0 : (w4.drewN nq).cell? ⟨w1.heap.size, 0, none⟩ = some (.int .i64 a) := i0
  have k1 : (w4.drewN nq).cell? ⟨w1.heap.size, 1, none⟩ = some (.int .i64 b) := i1
  have k2 : (w4.drewN nq).cell? ⟨w2.heap.size, 0, none⟩ = some (.int .i64 c) := i2
  have k3 : (w4.drewN nq).cell? ⟨w2.heap.size, 1, none⟩ = some (.int .i64 d) := i3
  have k4 : (w4.drewN nq).cell? ⟨w3.heap.size, 0, none⟩ = some (.int .i64 SN) := i4
  have k5 : (w4.drewN nq).cell? ⟨w3.heap.size, 1, none⟩ = some (.int .i64 SD) := i5
  have j0 : w3.heap.size < (w4.drewN nq).heap.size := z4
  have j1 : w1.heap.size < (w4.drewN nq).heap.size := e1
  have j2 : w2.heap.size < (w4.drewN nq).heap.size := e2
  generalize w4.drewN nq = w5 at G5 k0 k1 k2 k3 k4 k5 j0 j1 j2 ⊢
  clear G4 i0 i1 i2 i3 i4 i5 z4 e1 e2 nq X1 X2 Y1 Y2
  go_wp2_with fail
  refine (mul64_any _ _ (by omega) (by omega) (by omega) (by omega) _).mono ?_
  rintro _ wx ⟨rfl, hw⟩
  subst wx
  have bX := mul_bound' m1 m2 (show 0 ≤ d by omega) y6
  have bY := mul_bound' m3 m4 (show 0 ≤ b by omega) x6
  have hX : Hid (sg (decide (a < 0)) (magZ a * d) = a * d) := sg_of_mag a d
  have hY : Hid (sg (decide (c < 0)) (magZ c * b) = c * b) := sg_of_mag c b
  generalize magZ a * d = X at *
  generalize magZ c * b = Y at *
  clear m1 m2 m3 m4 ub ud
  have eX : Hid (hi64 X * 18446744073709551616 + lo64 X = X) := hl64 X
  have eY : Hid (hi64 Y * 18446744073709551616 + lo64 Y = Y) := hl64 Y
  have xl0 := lo64_bound X
  have yl0 := lo64_bound Y
  have xh0 : 0 ≤ hi64 X ∧ hi64 X ≤ 4611686018427387904 := by unfold hi64; omega
  have yh0 : 0 ≤ hi64 Y ∧ hi64 Y ≤ 4611686018427387904 := by unfold hi64; omega
  generalize hi64 X = xh at *
  generalize lo64 X = xl at *
  generalize hi64 Y = yh at *
  generalize lo64 Y = yl at *
  obtain ⟨xl0, xl1⟩ := xl0
  obtain ⟨yl0, yl1⟩ := yl0
  obtain ⟨xh0, xh1⟩ := xh0
  obtain ⟨yh0, yh1⟩ := yh0
  have bE := mul_bound' (show 0 ≤ b by omega) (show b ≤ 9223372036854775808 by omega) (show 0 ≤ d by omega) y6
  have hE0 : 0 < b * d := Int.mul_pos (by omega) (by omega)
  go_upto_if 83 with fail
  go_cut [13, 14, 15, 16, 19, 20, 21] from 34 (fun _ _ _ _ s19 s20 s21 wx => ∃ (s : Bool) (N : Int), s19 = .bool s ∧ s20 = .int .u64 (hi64 N) ∧ s21 = .int .u64 (lo64 N) ∧ 0 ≤ N ∧ N ≤ 170141183460469231731687303715884105728 ∧ Hid (sg s N = a * d - c * b) ∧ wx = w5)
  case first =>
    by_cases ha : a < 0 <;> by_cases hcn : c < 0
    · skip
      have pX : Hid (-X = a * d) := by have := hX.out; rw [decide_eq_true ha] at this; exact this
      have pY : Hid (-Y = c * b) := by have := hY.out; rw [decide_eq_true hcn] at this; exact this
      have hne : (!(decide (a < 0) == decide (c < 0))) = false := by simp [ha, hcn]
      have hne2 : (decide (a < 0) == decide (c < 0)) = true := by simp [ha, hcn]
      clear hX hY
      rw [hne]
      rcases Int.lt_trichotomy xh yh with hh | hh | hh
      · rcases Int.lt_or_le yl xl with hl | hl
        · skip
          have W : Hid _ := words_of (V := Y - X) (h := yh - xh - 1) (l := yl - xl + 18446744073709551616) (by omega) (by omega) (by have := eX.out; have := eY.out; omega)
          have hw : IntKind.u64.wrap (yl - xl) = yl - xl + 18446744073709551616 := by rw [IntKind.wrap_u64]; omega
          go_wp2_with fail
          go_meet
          case rel => exact ⟨false, Y - X, by first | rfl | simp [ha], congrArg (Value.int .u64) W.out.1, congrArg (Value.int .u64) W.out.2, by have := eX.out; have := eY.out; omega, by omega, by have h1 := pX.out; have h2 := pY.out; show Y - X = _; omega, rfl⟩
        · skip
          have W : Hid _ := words_of (V := Y - X) (h := yh - xh) (l := yl - xl) (by omega) (by omega) (by have := eX.out; have := eY.out; omega)
          go_wp2_with fail
          go_meet
          case rel => exact ⟨false, Y - X, by first | rfl | simp [ha], congrArg (Value.int .u64) W.out.1, congrArg (Value.int .u64) W.out.2, by have := eX.out; have := eY.out; omega, by omega, by have h1 := pX.out; have h2 := pY.out; show Y - X = _; omega, rfl⟩
      · subst hh
        rcases Int.lt_or_le xl yl with hl | hl
        · skip
          have W : Hid _ := words_of (V := Y - X) (h := 0) (l := yl - xl) (by omega) (by omega) (by have := eX.out; have := eY.out; omega)
          go_wp2_with fail
          go_meet
          case rel => exact ⟨false, Y - X, by first | rfl | simp [ha], congrArg (Value.int .u64) W.out.1, congrArg (Value.int .u64) W.out.2, by have := eX.out; have := eY.out; omega, by omega, by have h1 := pX.out; have h2 := pY.out; show Y - X = _; omega, rfl⟩
        · skip
          have W : Hid _ := words_of (V := X - Y) (h := 0) (l := xl - yl) (by omega) (by omega) (by have := eX.out; have := eY.out; omega)
          go_wp2_with fail
          go_meet
          case rel => exact ⟨true, X - Y, by first | rfl | simp [ha], congrArg (Value.int .u64) W.out.1, congrArg (Value.int .u64) W.out.2, by have := eX.out; have := eY.out; omega, by omega, by have h1 := pX.out; have h2 := pY.out; show -(X - Y) = _; omega, rfl⟩
      · rcases Int.lt_or_le xl yl with hl | hl
        · skip
          have W : Hid _ := words_of (V := X - Y) (h := xh - yh - 1) (l := xl - yl + 18446744073709551616) (by omega) (by omega) (by have := eX.out; have := eY.out; omega)
          have hw : IntKind.u64.wrap (xl - yl) = xl - yl + 18446744073709551616 := by rw [IntKind.wrap_u64]; omega
          go_wp2_with fail
          go_meet
          case rel => exact ⟨true, X - Y, by first | rfl | simp [ha], congrArg (Value.int .u64) W.out.1, congrArg (Value.int .u64) W.out.2, by have := eX.out; have := eY.out; omega, by omega, by have h1 := pX.out; have h2 := pY.out; show -(X - Y) = _; omega, rfl⟩
        · skip
          have W : Hid _ := words_of (V := X - Y) (h := xh - yh) (l := xl - yl) (by omega) (by omega) (by have := eX.out; have := eY.out; omega)
          go_wp2_with fail
          go_meet
          case rel => exact ⟨true, X - Y, by first | rfl | simp [ha], congrArg (Value.int .u64) W.out.1, congrArg (Value.int .u64) W.out.2, by have := eX.out; have := eY.out; omega, by omega, by have h1 := pX.out; have h2 := pY.out; show -(X - Y) = _; omega, rfl⟩
    · skip
      have pX : Hid (-X = a * d) := by have := hX.out; rw [decide_eq_true ha] at this; exact this
      have pY : Hid (Y = c * b) := by have := hY.out; rw [decide_eq_false hcn] at this; exact this
      have hne : (!(decide (a < 0) == decide (c < 0))) = true := by simp [ha, hcn]
      have hne2 : (decide (a < 0) == decide (c < 0)) = false := by simp [ha, hcn]
      clear hX hY
      rw [hne]
      rcases Int.lt_or_le (xl + yl) 18446744073709551616 with hl | hl
      · have W : Hid _ := words_of (V := X + Y) (h := xh + yh) (l := xl + yl) (by omega) (by omega) (by have := eX.out; have := eY.out; omega)
        go_wp2_with fail
        go_meet
        case rel => exact ⟨true, X + Y, by first | rfl | simp [ha], congrArg (Value.int .u64) W.out.1, congrArg (Value.int .u64) W.out.2, by omega, by omega, by have h1 := pX.out; have h2 := pY.out; show -(X + Y) = _; omega, rfl⟩
      · have W : Hid _ := words_of (V := X + Y) (h := xh + yh + 1) (l := xl + yl - 18446744073709551616) (by omega) (by omega) (by have := eX.out; have := eY.out; omega)
        have hw : IntKind.u64.wrap (xl + yl) = xl + yl - 18446744073709551616 := by rw [IntKind.wrap_u64]; omega
        go_wp2_with fail
        go_meet
        case rel => exact ⟨true, X + Y, by first | rfl | simp [ha], congrArg (Value.int .u64) W.out.1, congrArg (Value.int .u64) W.out.2, by omega, by omega, by have h1 := pX.out; have h2 := pY.out; show -(X + Y) = _; omega, rfl⟩
    · skip
      have pX : Hid (X = a * d) := by have := hX.out; rw [decide_eq_false ha] at this; exact this
      have pY : Hid (-Y = c * b) := by have := hY.out; rw [decide_eq_true hcn] at this; exact this
      have hne : (!(decide (a < 0) == decide (c < 0))) = true := by simp [ha, hcn]
      have hne2 : (decide (a < 0) == decide (c < 0)) = false := by simp [ha, hcn]
      clear hX hY
      rw [hne]
      rcases Int.lt_or_le (xl + yl) 18446744073709551616 with hl | hl
      · have W : Hid _ := words_of (V := X + Y) (h := xh + yh) (l := xl + yl) (by omega) (by omega) (by have := eX.out; have := eY.out; omega)
        go_wp2_with fail
        go_meet
        case rel => exact ⟨false, X + Y, by first | rfl | simp [ha], congrArg (Value.int .u64) W.out.1, congrArg (Value.int .u64) W.out.2, by omega, by omega, by have h1 := pX.out; have h2 := pY.out; show X + Y = _; omega, rfl⟩
      · have W : Hid _ := words_of (V := X + Y) (h := xh + yh + 1) (l := xl + yl - 18446744073709551616) (by omega) (by omega) (by have := eX.out; have := eY.out; omega)
        have hw : IntKind.u64.wrap (xl + yl) = xl + yl - 18446744073709551616 := by rw [IntKind.wrap_u64]; omega
        go_wp2_with fail
        go_meet
        case rel => exact ⟨false, X + Y, by first | rfl | simp [ha], congrArg (Value.int .u64) W.out.1, congrArg (Value.int .u64) W.out.2, by omega, by omega, by have h1 := pX.out; have h2 := pY.out; show X + Y = _; omega, rfl⟩
    · skip
      have pX : Hid (X = a * d) := by have := hX.out; rw [decide_eq_false ha] at this; exact this
      have pY : Hid (Y = c * b) := by have := hY.out; rw [decide_eq_false hcn] at this; exact this
      have hne : (!(decide (a < 0) == decide (c < 0))) = false := by simp [ha, hcn]
      have hne2 : (decide (a < 0) == decide (c < 0)) = true := by simp [ha, hcn]
      clear hX hY
      rw [hne]
      rcases Int.lt_trichotomy xh yh with hh | hh | hh
      · rcases Int.lt_or_le yl xl with hl | hl
        · skip
          have W : Hid _ := words_of (V := Y - X) (h := yh - xh - 1) (l := yl - xl + 18446744073709551616) (by omega) (by omega) (by have := eX.out; have := eY.out; omega)
          have hw : IntKind.u64.wrap (yl - xl) = yl - xl + 18446744073709551616 := by rw [IntKind.wrap_u64]; omega
          go_wp2_with fail
          go_meet
          case rel => exact ⟨true, Y - X, by first | rfl | simp [ha], congrArg (Value.int .u64) W.out.1, congrArg (Value.int .u64) W.out.2, by have := eX.out; have := eY.out; omega, by omega, by have h1 := pX.out; have h2 := pY.out; show -(Y - X) = _; omega, rfl⟩
        · skip
          have W : Hid _ := words_of (V := Y - X) (h := yh - xh) (l := yl - xl) (by omega) (by omega) (by have := eX.out; have := eY.out; omega)
          go_wp2_with fail
          go_meet
          case rel => exact ⟨true, Y - X, by first | rfl | simp [ha], congrArg (Value.int .u64) W.out.1, congrArg (Value.int .u64) W.out.2, by have := eX.out; have := eY.out; omega, by omega, by have h1 := pX.out; have h2 := pY.out; show -(Y - X) = _; omega, rfl⟩
      · subst hh
        rcases Int.lt_or_le xl yl with hl | hl
        · skip
          have W : Hid _ := words_of (V := Y - X) (h := 0) (l := yl - xl) (by omega) (by omega) (by have := eX.out; have := eY.out; omega)
          go_wp2_with fail
          go_meet
          case rel => exact ⟨true, Y - X, by first | rfl | simp [ha], congrArg (Value.int .u64) W.out.1, congrArg (Value.int .u64) W.out.2, by have := eX.out; have := eY.out; omega, by omega, by have h1 := pX.out; have h2 := pY.out; show -(Y - X) = _; omega, rfl⟩
        · skip
          have W : Hid _ := words_of (V := X - Y) (h := 0) (l := xl - yl) (by omega) (by omega) (by have := eX.out; have := eY.out; omega)
          go_wp2_with fail
          go_meet
          case rel => exact ⟨false, X - Y, by first | rfl | simp [ha], congrArg (Value.int .u64) W.out.1, congrArg (Value.int .u64) W.out.2, by have := eX.out; have := eY.out; omega, by omega, by have h1 := pX.out; have h2 := pY.out; show X - Y = _; omega, rfl⟩
      · rcases Int.lt_or_le xl yl with hl | hl
        · skip
          have W : Hid _ := words_of (V := X - Y) (h := xh - yh - 1) (l := xl - yl + 18446744073709551616) (by omega) (by omega) (by have := eX.out; have := eY.out; omega)
          have hw : IntKind.u64.wrap (xl - yl) = xl - yl + 18446744073709551616 := by rw [IntKind.wrap_u64]; omega
          go_wp2_with fail
          go_meet
          case rel => exact ⟨false, X - Y, by first | rfl | simp [ha], congrArg (Value.int .u64) W.out.1, congrArg (Value.int .u64) W.out.2, by have := eX.out; have := eY.out; omega, by omega, by have h1 := pX.out; have h2 := pY.out; show X - Y = _; omega, rfl⟩
        · skip
          have W : Hid _ := words_of (V := X - Y) (h := xh - yh) (l := xl - yl) (by omega) (by omega) (by have := eX.out; have := eY.out; omega)
          go_wp2_with fail
          go_meet
          case rel => exact ⟨false, X - Y, by first | rfl | simp [ha], congrArg (Value.int .u64) W.out.1, congrArg (Value.int .u64) W.out.2, by have := eX.out; have := eY.out; omega, by omega, by have h1 := pX.out; have h2 := pY.out; show X - Y = _; omega, rfl⟩
  case rest =>
    obtain ⟨s, N, rfl, rfl, rfl, n0, n1, hs, rfl⟩ := hcut
    have e : a * d + -c * b = sg s N := by rw [hs.out, Int.neg_mul]; omega
    have hB1 := hB.out
    have hN1 := hN.out
    have hD1 := hD.out
    rw [e] at hB1 hN1 hD1
    clear hB hN hD hX hY eX eY e hs
    generalize b * d = E at *
    obtain ⟨r1, r2⟩ := red_sg s N E hE0
    rw [r1, r2] at hB1 hN1 hD1
    clear r1 r2
    have hG := gz_pos_right (a := N) (b := E) (by omega)
    have hGl := gz_le_right (a := N) (b := E) hE0
    have q0 : 0 ≤ redN N E := ediv_nonneg' n0 hG
    have d0 := redD_pos (N := N) hE0
    have C := fun w => bgcdwide_any N E n0 (by omega) (by omega) (by omega) w
    have C1 := fun w => bdivmod_any N (gz N E) n0 (by omega) (by omega) (by omega) w
    have C2 := fun w => bdivmod_any E (gz N E) (by omega) (by omega) (by omega) (by omega) w
    have z1 : N / gz N E = redN N E := rfl
    have z2 : E / gz N E = redD N E := rfl
    rw [z1] at C1
    rw [z2] at C2
    clear z1 z2
    have F0 := fit_words (s := s) (hl64 (redN N E)) (hl64 (redD N E)) (hi64_nonneg q0) (lo64_bound _).1 (lo64_bound _).2 (hi64_nonneg (by omega)) (lo64_bound _).1 (lo64_bound _).2
    have eQ : Hid (hi64 (redN N E) * 18446744073709551616 + lo64 (redN N E) = redN N E) := hl64 _
    have eD : Hid (hi64 (redD N E) * 18446744073709551616 + lo64 (redD N E) = redD N E) := hl64 _
    have qb := lo64_bound (redN N E)
    have db := lo64_bound (redD N E)
    have qhb := hi64_nonneg q0
    have dhb := hi64_nonneg (p := redD N E) (by omega)
    generalize redN N E = QN at *
    generalize redD N E = QD at *
    generalize hi64 QN = qh at *
    generalize lo64 QN = ql at *
    generalize hi64 QD = dh at *
    generalize lo64 QD = dl at *
    generalize hi64 (N % gz N E) = t1 at *
    generalize lo64 (N % gz N E) = t2 at *
    generalize hi64 (E % gz N E) = t3 at *
    generalize lo64 (E % gz N E) = t4 at *
    obtain ⟨qb0, qb1⟩ := qb
    obtain ⟨db0, db1⟩ := db
    have F : Hid _ := F0
    have hB : Hid _ := hB1
    have hN : Hid _ := hN1
    have hD : Hid _ := hD1
    clear F0 hB1 hN1 hD1
    go_wp2_with fail
    refine (C _).mono ?_
    rintro _ wx ⟨rfl, hw⟩
    subst wx
    go_wp2_with fail
    refine (C1 _).mono ?_
    rintro _ wx ⟨rfl, hw⟩
    subst wx
    go_wp2_with fail
    refine (C2 _).mono ?_
    rintro _ wx ⟨rfl, hw⟩
    subst wx
    clear C C1 C2 hG hGl
    rcases F.out with ⟨f, h1, h2, h3, h4⟩ | ⟨f, h1, h2, h3, h4, h5⟩ | ⟨f, h1⟩ | ⟨f, h1, h2⟩ | ⟨f, h1, h2, h3⟩ | ⟨f, h1, h2, h3, h4, h5⟩ | ⟨f, h1, h2, h3, h4, h5⟩
    · have v1 : QN = ql := by have := eQ.out; omega
      have v2 : QD = dl := by have := eD.out; omega
      have o1 := hB.out.trans f
      have o2 := hN.out.trans (ratN_yes f)
      have o3 := hD.out.trans (ratD_yes f)
      clear hB hN hD eQ eD F f
      subst v1; subst v2; subst o1; subst o3
      subst h1; subst h2
      cases s
      · rw [sg_false] at o2
        subst o2
        go_wp2_with fail
        go_ret
        exact ⟨rfl, G5.grown⟩
      · rw [sg_true] at o2
        subst o2
        go_wp2_with fail
        go_ret
        exact ⟨rfl, G5.grown⟩
    · have v1 : QN = ql := by have := eQ.out; omega
      have v2 : QD = dl := by have := eD.out; omega
      have o1 := hB.out.trans f
      have o2 := hN.out.trans (ratN_yes f)
      have o3 := hD.out.trans (ratD_yes f)
      clear hB hN hD eQ eD F f
      subst v1; subst v2; subst o1; subst o3
      subst h1; subst h2; subst h5
      rw [sg_true] at o2
      subst o2
      subst h4
      have hw : wrap64 (-wrap64 9223372036854775808) = -9223372036854775808 := by unfold wrap64; decide
      go_wp2_with fail
      go_ret
      exact ⟨rfl, G5.grown⟩
    all_goals
      have o1 := hB.out.trans f
      have o2 := hN.out.trans (ratN_no f)
      have o3 := hD.out.trans (ratD_no f)
      clear hB hN hD eQ eD F f
      subst o1; subst o2; subst o3
    · go_wp2_with fail
      go_ret
      exact ⟨rfl, G5.grown⟩
    · subst h1
      go_wp2_with fail
      go_ret
      exact ⟨rfl, G5.grown⟩
    · subst h1; subst h2
      go_wp2_with fail
      go_ret
      exact ⟨rfl, G5.grown⟩
    · subst h1; subst h2; subst h5
      have c1 : decide (ql < 9223372036854775808) = false := decide_eq_false (by omega)
      go_wp2_with fail
      go_ret
      exact ⟨rfl, G5.grown⟩
    · subst h1; subst h2; subst h5
      have c1 : decide (ql < 9223372036854775808) = false := decide_eq_false (by omega)
      have c2 : (ql == 9223372036854775808) = false := beq_eq_false_iff_ne.mpr (by omega)
      go_wp2_with fail
      go_ret
      exact ⟨rfl, G5.grown⟩
end Go.Proofs.Ymbrdd
