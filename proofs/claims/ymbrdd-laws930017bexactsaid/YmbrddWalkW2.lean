/-
  THE WALKS (seat d): bdivmod (shift and subtract over 128 bits).
-/
import Derived.Test.YmbrddWalkW
namespace Go.Proofs.Ymbrdd
open Go.RowKit

set_option maxHeartbeats 8000000 in
theorem bdivmod_words (Nh Nl dh dl : Int) (a0 : 0 ≤ Nh) (a1 : Nh ≤ 18446744073709551615) (b0 : 0 ≤ Nl) (b1 : Nl ≤ 18446744073709551615) (i0 : 0 ≤ dh) (i1 : dh ≤ 18446744073709551615) (j0 : 0 ≤ dl) (j1 : dl ≤ 18446744073709551615)
    (hD : 1 ≤ dh * 18446744073709551616 + dl) (hD2 : dh * 18446744073709551616 + dl ≤ 170141183460469231731687303715884105728) (w : World) :
    Calls Yddm.prog 28 #[.int .u64 Nh, .int .u64 Nl, .int .u64 dh, .int .u64 dl] w fun e w' => (∃ qh ql rh rl : Int, e = .returned (.tuple #[.int .u64 qh, .int .u64 ql, .int .u64 rh, .int .u64 rl]) ∧
      (0 ≤ qh ∧ qh ≤ 18446744073709551615) ∧ (0 ≤ ql ∧ ql ≤ 18446744073709551615) ∧ (0 ≤ rh ∧ rh ≤ 18446744073709551615) ∧ (0 ≤ rl ∧ rl ≤ 18446744073709551615) ∧
      (Nh * 18446744073709551616 + Nl) / (dh * 18446744073709551616 + dl) = qh * 18446744073709551616 + ql ∧ (Nh * 18446744073709551616 + Nl) % (dh * 18446744073709551616 + dl) = rh * 18446744073709551616 + rl) ∧ w' = w := by
  have hI : Hid (DI (Nh * 18446744073709551616 + Nl) (dh * 18446744073709551616 + dl) 128 (Nh * 18446744073709551616 + Nl) (0 * 18446744073709551616 + 0) (0 * 18446744073709551616 + 0)) :=
    DI.init (by omega) (by omega) (by omega)
  have hDH : Hid (1 ≤ dh * 18446744073709551616 + dl) := hD
  have hDH2 : Hid (dh * 18446744073709551616 + dl ≤ 170141183460469231731687303715884105728) := hD2
  clear hD hD2
  generalize hNv0 : Nh * 18446744073709551616 + Nl = N at hI ⊢
  have hNv : Hid (_ = N) := hNv0
  clear hNv0
  go_enter Yddm.func28, Yddm.ntmps28
  go_wp2_with fail
  go_loop [0, 1, 12, 13, 14, 15, 16] (fun s0 s1 s12 s13 s14 s15 s16 => ∃ (nh nl qh ql rh rl : Int) (k : Nat), s0 = .int .u64 nh ∧ s1 = .int .u64 nl ∧ s12 = .int .u64 qh ∧ s13 = .int .u64 ql ∧ s14 = .int .u64 rh ∧ s15 = .int .u64 rl ∧ s16 = .int .i64 (128 - (k : Int)) ∧ k ≤ 128 ∧
      (0 ≤ nh ∧ nh ≤ 18446744073709551615) ∧ (0 ≤ nl ∧ nl ≤ 18446744073709551615) ∧ (0 ≤ qh ∧ qh ≤ 18446744073709551615) ∧ (0 ≤ ql ∧ ql ≤ 18446744073709551615) ∧ (0 ≤ rh ∧ rh ≤ 18446744073709551615) ∧ (0 ≤ rl ∧ rl ≤ 18446744073709551615) ∧
      Hid (DI N (dh * 18446744073709551616 + dl) k (nh * 18446744073709551616 + nl) (qh * 18446744073709551616 + ql) (rh * 18446744073709551616 + rl)))
    (fun _ _ _ _ _ _ s16 => (128 - intOf s16).toNat)
  case atStart => exact ⟨Nh, Nl, 0, 0, 0, 0, 128, rfl, rfl, rfl, rfl, rfl, rfl, rfl, by omega, ⟨a0, a1⟩, ⟨b0, b1⟩, by omega, by omega, by omega, by omega, by rw [hNv.out]; exact hI⟩
  case round =>
    obtain ⟨nh, nl, qh, ql, rh, rl, k, rfl, rfl, rfl, rfl, rfl, rfl, rfl, hk, ⟨n0, n1⟩, ⟨m0, m1⟩, ⟨q0, q1⟩, ⟨p0, p1⟩, ⟨r0, r1⟩, ⟨l0, l1⟩, hS⟩ := hrel
    rcases k with _ | k
    · have F := hS.out.final
      have F1 : Hid (N / (dh * 18446744073709551616 + dl) = qh * 18446744073709551616 + ql) := F.1
      have F2 : Hid (N % (dh * 18446744073709551616 + dl) = rh * 18446744073709551616 + rl) := F.2
      clear F
      go_wp2_with fail
      refine bodyPost_ret (v := .tuple #[.int .u64 qh, .int .u64 ql, .int .u64 rh, .int .u64 rl]) (by simp [results, Yddm.results28, go_sem]) rfl ?_
      exact ⟨⟨qh, ql, rh, rl, rfl, ⟨q0, q1⟩, ⟨p0, p1⟩, ⟨r0, r1⟩, ⟨l0, l1⟩, F1.out, F2.out⟩, rfl⟩
    · obtain ⟨RH, RL, NH, NL, QH, QL, o1, o2, o3, o4, o5, o6, o7, ⟨x0, x1⟩, ⟨y0, y1⟩, ⟨z0, z1⟩, ⟨u0, u1⟩, ⟨v0, v1⟩, ⟨w0, w1⟩, S1, S2⟩ := div_words hS.out m0 m1 p0 p1 l0 l1 j0 j1 hDH.out hDH2.out
      have S1 : Hid _ := S1
      have S2 : Hid _ := S2
      have hi : 128 - ((k + 1 : Nat) : Int) = 127 - (k : Int) := by omega
      rw [hi]
      have hk2 : (k : Int) ≤ 127 := by omega
      have hk3 : 0 ≤ (k : Int) := by omega
      clear hS hi hk
      rcases Int.lt_trichotomy RH dh with hc | hc | hc
      · have T := S1.out (Or.inl hc)
        clear S1 S2
        go_wp2_with fail
        go_round
        case rel => exact ⟨NH, NL, QH, QL, RH, RL, k, rfl, rfl, rfl, rfl, rfl, rfl, by congr 1; omega, by omega, ⟨z0, z1⟩, ⟨u0, u1⟩, ⟨v0, v1⟩, ⟨w0, by omega⟩, ⟨x0, x1⟩, ⟨y0, y1⟩, T⟩
        case measure => simp [intOf]; omega
      · rcases Int.lt_or_le RL dl with hl | hl
        · have T : Hid _ := S1.out (Or.inr ⟨hc, hl⟩)
          clear S1 S2
          subst hc
          go_wp2_with fail
          go_round
          case rel => exact ⟨NH, NL, QH, QL, RH, RL, k, rfl, rfl, rfl, rfl, rfl, rfl, by congr 1; omega, by omega, ⟨z0, z1⟩, ⟨u0, u1⟩, ⟨v0, v1⟩, ⟨w0, by omega⟩, ⟨x0, x1⟩, ⟨y0, y1⟩, T⟩
          case measure => simp [intOf]; omega
        · have T := S2.out (Or.inr ⟨hc, hl⟩)
          have e : RH * 18446744073709551616 + RL - (dh * 18446744073709551616 + dl) = 0 * 18446744073709551616 + (RL - dl) := by omega
          rw [e] at T
          have T : Hid _ := T
          clear S1 S2 e
          subst hc
          go_wp2_with fail
          go_round
          case rel => exact ⟨NH, NL, QH, QL + 1, 0, RL - dl, k, rfl, rfl, rfl, rfl, rfl, rfl, by congr 1; omega, by omega, ⟨z0, z1⟩, ⟨u0, u1⟩, ⟨v0, v1⟩, ⟨by omega, by omega⟩, by omega, by omega, T⟩
          case measure => simp [intOf]; omega
      · rcases Int.lt_or_le RL dl with hl | hl
        · have T := S2.out (Or.inl hc)
          have e : RH * 18446744073709551616 + RL - (dh * 18446744073709551616 + dl) = (RH - 1 - dh) * 18446744073709551616 + (RL - dl + 18446744073709551616) := by omega
          rw [e] at T
          have T : Hid _ := T
          have hw : IntKind.u64.wrap (RL - dl) = RL - dl + 18446744073709551616 := by rw [IntKind.wrap_u64]; omega
          clear S1 S2 e
          go_wp2_with fail
          go_round
          case rel => exact ⟨NH, NL, QH, QL + 1, RH - 1 - dh, RL - dl + 18446744073709551616, k, rfl, rfl, rfl, rfl, rfl, rfl, by congr 1; omega, by omega, ⟨z0, z1⟩, ⟨u0, u1⟩, ⟨v0, v1⟩, ⟨by omega, by omega⟩, by omega, by omega, T⟩
          case measure => simp [intOf]; omega
        · have T := S2.out (Or.inl hc)
          have e : RH * 18446744073709551616 + RL - (dh * 18446744073709551616 + dl) = (RH - dh) * 18446744073709551616 + (RL - dl) := by omega
          rw [e] at T
          have T : Hid _ := T
          clear S1 S2 e
          go_wp2_with fail
          go_round
          case rel => exact ⟨NH, NL, QH, QL + 1, RH - dh, RL - dl, k, rfl, rfl, rfl, rfl, rfl, rfl, by congr 1; omega, by omega, ⟨z0, z1⟩, ⟨u0, u1⟩, ⟨v0, v1⟩, ⟨by omega, by omega⟩, by omega, by omega, T⟩
          case measure => simp [intOf]; omega
end Go.Proofs.Ymbrdd
