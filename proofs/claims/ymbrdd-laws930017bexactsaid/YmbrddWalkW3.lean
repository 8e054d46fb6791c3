/-
  THE WALKS (seat d): bdivmod by whole numbers, bgcdwide.
-/
import Derived.Test.YmbrddWalkW2
namespace Go.Proofs.Ymbrdd
open Go.RowKit

theorem words_of {V h l : Int} (l0 : 0 ≤ l) (l1 : l ≤ 18446744073709551615) (e : V = h * 18446744073709551616 + l) : h = hi64 V ∧ l = lo64 V := by
  unfold hi64 lo64; omega
theorem hi64_bound {V : Int} (h0 : 0 ≤ V) (h1 : V < 340282366920938463463374607431768211456) : 0 ≤ hi64 V ∧ hi64 V ≤ 18446744073709551615 := by unfold hi64; omega

theorem bdivmod_any (N D : Int) (n0 : 0 ≤ N) (n1 : N < 340282366920938463463374607431768211456) (d0 : 1 ≤ D) (d1 : D ≤ 170141183460469231731687303715884105728) (w : World) :
    Calls Yddm.prog 28 #[.int .u64 (hi64 N), .int .u64 (lo64 N), .int .u64 (hi64 D), .int .u64 (lo64 D)] w fun e w' =>
      e = .returned (.tuple #[.int .u64 (hi64 (N / D)), .int .u64 (lo64 (N / D)), .int .u64 (hi64 (N % D)), .int .u64 (lo64 (N % D))]) ∧ w' = w := by
  have hn := hi64_bound n0 n1
  have hd := hi64_bound (V := D) (by omega) (by omega)
  have ln := lo64_bound N
  have ld := lo64_bound D
  refine (bdivmod_words _ _ _ _ hn.1 hn.2 ln.1 ln.2 hd.1 hd.2 ld.1 ld.2 (by rw [hl64]; exact d0) (by rw [hl64]; exact d1) w).mono ?_
  rintro _ w' ⟨⟨qh, ql, rh, rl, rfl, -, q1, -, r1, eq, er⟩, rfl⟩
  rw [hl64, hl64] at eq er
  obtain ⟨a, b⟩ := words_of q1.1 q1.2 eq
  obtain ⟨c, d⟩ := words_of r1.1 r1.2 er
  exact ⟨by rw [a, b, c, d], rfl⟩

theorem ret_words {V h l : Int} (l0 : 0 ≤ l) (l1 : l ≤ 18446744073709551615) (e : V = h * 18446744073709551616 + l) : Ending.returned (.tuple #[.int .u64 h, .int .u64 l]) = .returned (.tuple #[.int .u64 (hi64 V), .int .u64 (lo64 V)]) := by
  obtain ⟨a, b⟩ := words_of l0 l1 e
  rw [a, b]

set_option maxHeartbeats 4000000 in
theorem bgcdwide_any (A B : Int) (a0 : 0 ≤ A) (a1 : A < 340282366920938463463374607431768211456) (b0 : 0 ≤ B) (b1 : B ≤ 170141183460469231731687303715884105728) (w : World) :
    Calls Yddm.prog 27 #[.int .u64 (hi64 A), .int .u64 (lo64 A), .int .u64 (hi64 B), .int .u64 (lo64 B)] w fun e w' =>
      e = .returned (.tuple #[.int .u64 (hi64 (gz A B)), .int .u64 (lo64 (gz A B))]) ∧ w' = w := by
  have hn := hi64_bound a0 a1
  have hd := hi64_bound (V := B) (by omega) (by omega)
  have ln := lo64_bound A
  have ld := lo64_bound B
  have st : Hid (gz (hi64 A * 18446744073709551616 + lo64 A) (hi64 B * 18446744073709551616 + lo64 B) = gz A B) := by unfold Hid; rw [hl64, hl64]
  have sb : Hid (hi64 B * 18446744073709551616 + lo64 B ≤ 170141183460469231731687303715884105728) := by unfold Hid; rw [hl64]; exact b1
  clear a0 a1 b0 b1
  go_enter Yddm.func27, Yddm.ntmps27
  go_wp2_with fail
  go_loop [0, 1, 2, 3] (fun s0 s1 s2 s3 => ∃ xh xl yh yl : Int, s0 = .int .u64 xh ∧ s1 = .int .u64 xl ∧ s2 = .int .u64 yh ∧ s3 = .int .u64 yl ∧
      (0 ≤ xh ∧ xh ≤ 18446744073709551615) ∧ (0 ≤ xl ∧ xl ≤ 18446744073709551615) ∧ (0 ≤ yh ∧ yh ≤ 18446744073709551615) ∧ (0 ≤ yl ∧ yl ≤ 18446744073709551615) ∧
      Hid (gz (xh * 18446744073709551616 + xl) (yh * 18446744073709551616 + yl) = gz A B) ∧ Hid (yh * 18446744073709551616 + yl ≤ 170141183460469231731687303715884105728))
    (fun _ _ s2 s3 => (intOf s2 * 18446744073709551616 + intOf s3).toNat)
  case atStart => exact ⟨_, _, _, _, rfl, rfl, rfl, rfl, hn, ln, hd, ld, st, sb⟩
  case round =>
    obtain ⟨xh, xl, yh, yl, rfl, rfl, rfl, rfl, ⟨c0, c1⟩, ⟨d0, d1⟩, ⟨e0, e1⟩, ⟨f0, f1⟩, hg, hb⟩ := hrel
    by_cases hz : yh * 18446744073709551616 + yl = 0
    · have z1 : yh = 0 := by omega
      have z2 : yl = 0 := by omega
      clear hz
      subst z1; subst z2
      have hg2 : Hid (gz A B = xh * 18446744073709551616 + xl) := by
        unfold Hid; rw [← hg.out]; exact gz_zero _ (by omega)
      go_wp2_with fail
      go_ret2
      exact ⟨ret_words d0 d1 hg2.out, rfl⟩
    · have hy : 1 ≤ yh * 18446744073709551616 + yl := by omega
      have S := fun w => bdivmod_words xh xl yh yl c0 c1 d0 d1 e0 e1 f0 f1 hy hb.out w
      have hlt := Int.emod_lt_of_pos (xh * 18446744073709551616 + xl) (show 0 < yh * 18446744073709551616 + yl by omega)
      have hge := gz_emod (xh * 18446744073709551616 + xl) (yh * 18446744073709551616 + yl)
      by_cases hh : yh = 0
      · have hl : ¬ yl = 0 := by omega
        subst hh
        go_wp2_with fail
        refine (S _).mono ?_
        rintro _ wx ⟨⟨qh, ql, rh, rl, rfl, -, -, r1, r2, eq, er⟩, hw⟩
        subst wx
        have hg3 : Hid (gz (0 * 18446744073709551616 + yl) (rh * 18446744073709551616 + rl) = gz A B) := by
          unfold Hid; rw [← er, hge]; exact hg.out
        have hb3 : Hid (rh * 18446744073709551616 + rl ≤ 170141183460469231731687303715884105728) := by
          have := hb.out; unfold Hid; omega
        have hm3 : Hid (rh * 18446744073709551616 + rl < 0 * 18446744073709551616 + yl) := by unfold Hid; omega
        clear S hlt hge hy hz eq er
        go_wp2_with fail
        go_round
        case rel => exact ⟨0, yl, rh, rl, rfl, rfl, rfl, rfl, by omega, ⟨f0, f1⟩, r1, r2, hg3, hb3⟩
        case measure => have := hm3.out; simp [intOf]; omega
      · go_wp2_with fail
        refine (S _).mono ?_
        rintro _ wx ⟨⟨qh, ql, rh, rl, rfl, -, -, r1, r2, eq, er⟩, hw⟩
        subst wx
        have hg3 : Hid (gz (yh * 18446744073709551616 + yl) (rh * 18446744073709551616 + rl) = gz A B) := by
          unfold Hid; rw [← er, hge]; exact hg.out
        have hb3 : Hid (rh * 18446744073709551616 + rl ≤ 170141183460469231731687303715884105728) := by
          have := hb.out; unfold Hid; omega
        have hm3 : Hid (rh * 18446744073709551616 + rl < yh * 18446744073709551616 + yl) := by unfold Hid; omega
        clear S hlt hge hy hz eq er
        go_wp2_with fail
        go_round
        case rel => exact ⟨yh, yl, rh, rl, rfl, rfl, rfl, rfl, ⟨e0, e1⟩, ⟨f0, f1⟩, r1, r2, hg3, hb3⟩
        case measure => have := hm3.out; simp [intOf]; omega
end Go.Proofs.Ymbrdd
