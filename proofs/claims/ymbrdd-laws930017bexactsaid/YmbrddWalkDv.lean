/-
  THE WALKS: math/bits.Div64, Rem64 (Knuth's division, two digits of base 2^32).
-/
import Derived.Test.YmbrddWalkM
import Derived.Test.YmbrddPlainDiv
import Derived.Test.YmbrddLen64
namespace Go.Proofs.Ymbrdd
open Go.RowKit

set_option maxHeartbeats 1000000 in
theorem div64_low (lo y : Int) (l0 : 0 ≤ lo) (l1 : lo ≤ 18446744073709551615) (y0 : 0 < y) (y1 : y ≤ 18446744073709551615) (w : World) :
    Calls Yddm.prog 38 #[.int .u64 0, .int .u64 lo, .int .u64 y] w fun e w' => e = .returned (.tuple #[.int .u64 (lo / y), .int .u64 (lo % y)]) ∧ Gr w w' := by
  have hy : ¬ y = 0 := by omega
  have t1 := tdiv_of_nonneg y l0
  have t2 := Int.tmod_eq_emod_of_nonneg (b := y) l0
  have q1 := ediv_nonneg' l0 y0
  have q2 := ediv_le_self' (g := y) l0
  have q3 := Int.emod_nonneg lo (b := y) (by omega)
  have q4 := Int.emod_lt_of_pos lo (b := y) y0
  have u1 := wrapu_id q1 (by omega)
  have u2 := wrapu_id q3 (by omega)
  go_enter Yddm.func38, Yddm.ntmps38
  go_wp2_with fail
  go_quiet (fail)
  go_wp2_with fail
  go_ret2
  exact ⟨rfl, (Gr.refl _).drewN _⟩

theorem ret2_int {a a' b b' : Int} (h1 : a = a') (h2 : b = b') : Ending.returned (.tuple #[.int .u64 a, .int .u64 b]) = .returned (.tuple #[.int .u64 a', .int .u64 b']) := by rw [h1, h2]
theorem mask32 {a : Int} (h0 : 0 ≤ a) (h1 : a ≤ 18446744073709551615) : bits .and .u64 a 4294967295 = a % 4294967296 := by
  obtain ⟨k, rfl⟩ := Int.eq_ofNat_of_zero_le h0
  have h := M64.maskN k (by omega)
  rw [h]; omega
/-- 'or' of two numbers that share no bit. -/
theorem or_add (h l : Int) (S : Nat) (h0 : 0 ≤ h) (h1 : h * 2 ^ S ≤ 18446744073709551615) (l0 : 0 ≤ l) (l1 : l < 2 ^ S) (l2 : l ≤ 18446744073709551615) (l3 : h * 2 ^ S + l ≤ 18446744073709551615) : bits .or .u64 (h * 2 ^ S) l = h * 2 ^ S + l := by
  obtain ⟨a, rfl⟩ := Int.eq_ofNat_of_zero_le h0
  obtain ⟨b, rfl⟩ := Int.eq_ofNat_of_zero_le l0
  have hc : (a : Int) * 2 ^ S = ((a * 2 ^ S : Nat) : Int) := by rw [Int.natCast_mul, Int.natCast_pow]; rfl
  have hp : ((2 ^ S : Nat) : Int) = (2 : Int) ^ S := by rw [Int.natCast_pow]; rfl
  have hb : b < 2 ^ S := by rw [← hp] at l1; omega
  rw [hc] at h1 l3 ⊢
  have hor : a * 2 ^ S + b = a * 2 ^ S ||| b := by
    have := Nat.shiftLeft_add_eq_or_of_lt hb a
    rwa [Nat.shiftLeft_eq] at this
  show IntKind.u64.wrap ((BitVec.ofInt 64 ((a * 2 ^ S : Nat) : Int) ||| BitVec.ofInt 64 (b : Int)).toNat : Int) = _
  have e1 : (BitVec.ofInt 64 ((a * 2 ^ S : Nat) : Int)).toNat = a * 2 ^ S := by
    rw [BitVec.ofInt_natCast, BitVec.toNat_ofNat]; exact Nat.mod_eq_of_lt (by omega)
  have e2 : (BitVec.ofInt 64 (b : Int)).toNat = b := by
    rw [BitVec.ofInt_natCast, BitVec.toNat_ofNat]; exact Nat.mod_eq_of_lt (by omega)
  rw [BitVec.toNat_or, e1, e2, ← hor, IntKind.wrap_u64]
  omega
/-- The rest of a digit, as the Go text computes it modulo 2^64. -/
theorem rest_wrap {u w q Y : Int} (hY : 0 < Y) (hY2 : Y ≤ 18446744073709551615) (hq : q = (u * 4294967296 + w) / Y) :
    IntKind.u64.wrap (IntKind.u64.wrap (IntKind.u64.wrap (u * 4294967296) + w) - IntKind.u64.wrap (q * Y)) = (u * 4294967296 + w) % Y := by
  have e := Int.emod_add_mul_ediv (u * 4294967296 + w) Y
  have r0 := Int.emod_nonneg (u * 4294967296 + w) (b := Y) (by omega)
  have r1 := Int.emod_lt_of_pos (u * 4294967296 + w) hY
  rw [← hq, Int.mul_comm Y] at e
  simp only [IntKind.wrap_u64]
  omega

set_option maxHeartbeats 4000000 in
theorem div64_high (hi lo y : Int) (h0 : 0 < hi) (h1 : hi < y) (l0 : 0 ≤ lo) (l1 : lo ≤ 18446744073709551615) (y1 : y ≤ 18446744073709551615) (w : World) :
    Calls Yddm.prog 38 #[.int .u64 hi, .int .u64 lo, .int .u64 y] w fun e w' => e = .returned (.tuple #[.int .u64 ((hi * 18446744073709551616 + lo) / y), .int .u64 ((hi * 18446744073709551616 + lo) % y)]) ∧ Gr w w' := by
  obtain ⟨S, hS, s1, n1, n2, hMK⟩ := norm_shift (y := y) (by omega) y1
  have hM : (0 : Int) < 2 ^ S := Int.pow_pos (by decide)
  obtain ⟨hX, k0, k1, k2⟩ := norm_dividend (hi := hi) (lo := lo) (y := y) h1 l0 l1 hM hMK
  have hUp : 0 ≤ hi * 2 ^ S := Int.mul_nonneg (by omega) (by omega)
  have hw1 : IntKind.u64.wrap (hi * 2 ^ S) = hi * 2 ^ S := wrapu_id hUp (by omega)
  have hor := or_add hi (lo / 2 ^ (64 - S)) S (by omega) (by omega) k0 k1 (by omega) (by omega)
  rw [← hw1] at hor
  have hVw : IntKind.u64.wrap (lo * 2 ^ S) = lo * 2 ^ S % 18446744073709551616 := IntKind.wrap_u64 _
  have hV0 : 0 ≤ lo * 2 ^ S % 18446744073709551616 ∧ lo * 2 ^ S % 18446744073709551616 ≤ 18446744073709551615 := by omega
  have hfin : ∀ Q1 R1 Q0 R0 : Int, Q1 = ((hi * 2 ^ S + lo / 2 ^ (64 - S)) * 4294967296 + (lo * 2 ^ S % 18446744073709551616) / 4294967296) / (y * 2 ^ S) → R1 = ((hi * 2 ^ S + lo / 2 ^ (64 - S)) * 4294967296 + (lo * 2 ^ S % 18446744073709551616) / 4294967296) % (y * 2 ^ S) →
      Q0 = (R1 * 4294967296 + (lo * 2 ^ S % 18446744073709551616) % 4294967296) / (y * 2 ^ S) → R0 = (R1 * 4294967296 + (lo * 2 ^ S % 18446744073709551616) % 4294967296) % (y * 2 ^ S) →
      Q1 * 4294967296 + Q0 = (hi * 18446744073709551616 + lo) / y ∧ R0 / 2 ^ S = (hi * 18446744073709551616 + lo) % y :=
    fun Q1 R1 Q0 R0 a b c d => div64_final (by omega) hM (by rw [hX]; omega) rfl a b c d
  rw [hw1] at hor
  generalize hUv : hi * 2 ^ S + lo / 2 ^ (64 - S) = U at *
  generalize hVv : lo * 2 ^ S % 18446744073709551616 = V at *
  generalize hYv : y * 2 ^ S = Y at *
  have hm1 := mask32 (a := Y) (by omega) n2
  have hm2 := mask32 (a := V) hV0.1 hV0.2
  generalize hc1 : V / 4294967296 = c1 at *
  generalize hc0 : V % 4294967296 = c0 at *
  generalize hv1 : Y / 4294967296 = v1 at *
  generalize hv0 : Y % 4294967296 = v0 at *
  have hY : v1 * 4294967296 + v0 = Y := by omega
  have D : DG U c1 v1 v0 := ⟨by omega, by omega, by omega, by omega, by omega, by omega, by omega, by omega⟩
  generalize hQ1 : (U * 4294967296 + c1) / Y = Q1 at *
  generalize hR1 : (U * 4294967296 + c1) % Y = R1 at *
  have hrw1 := rest_wrap (u := U) (w := c1) (q := Q1) (Y := Y) (by omega) n2 hQ1.symm
  rw [hR1] at hrw1
  have R0a : 0 ≤ R1 := by rw [← hR1]; exact Int.emod_nonneg _ (by omega)
  have R0b : R1 < Y := by rw [← hR1]; exact Int.emod_lt_of_pos _ (by omega)
  have D2 : Hid (DG R1 c0 v1 v0) := ⟨R0a, by omega, by omega, by omega, by omega, by omega, by omega, by omega⟩
  generalize hQ0 : (R1 * 4294967296 + c0) / Y = Q0 at *
  generalize hR0 : (R1 * 4294967296 + c0) % Y = R0 at *
  have hrw0 := rest_wrap (u := R1) (w := c0) (q := Q0) (Y := Y) (by omega) n2 hQ0.symm
  rw [hR0] at hrw0
  have F := hfin Q1 R1 Q0 R0 rfl rfl hQ0.symm hR0.symm
  have F1 : Hid (Q1 * 4294967296 + Q0 = _) := F.1
  have F2 : Hid (R0 / 2 ^ S = _) := F.2
  have Q1b := quo_lt D
  have Q0b := quo_lt D2.out
  rw [hY, hQ1] at Q1b
  rw [hY, hQ0] at Q0b
  obtain ⟨Q1a, Q1b⟩ := Q1b
  obtain ⟨Q0a, Q0b⟩ := Q0b
  have R0c : 0 ≤ R0 := by rw [← hR0]; exact Int.emod_nonneg _ (by omega)
  have R0d : R0 < Y := by rw [← hR0]; exact Int.emod_lt_of_pos _ (by omega)
  have DH : Hid (DG U c1 v1 v0) := D
  have HY : Hid (v1 * 4294967296 + v0 = Y) := hY
  obtain ⟨u0, u1, w0, w1, a0, a1, b0, b1⟩ := D
  have g1 := QI.init DH.out
  have g2 := QI.init D2.out
  have g1a := g1.r0
  have g1b := g1.r1
  have g1c := g1.q0
  have g1d := g1.q1
  have g1e := Int.mul_nonneg g1c (show 0 ≤ v1 by omega)
  have g2a := g2.r0
  have g2b := g2.r1
  have g2c := g2.q0
  have g2d := g2.q1
  have g2e := Int.mul_nonneg g2c (show 0 ≤ v1 by omega)
  have c0b : c0 < 4294967296 := by omega
  have c0a : 0 ≤ c0 := by omega
  clear g1 g2 hfin hX hMK k0 k1 k2 hUp hUv hVv hc0 hv0 hV0 F hR1 hR0
  go_enter Yddm.func38, Yddm.ntmps38
  go_wp2_with fail
  refine (bits_LeadingZeros64 y _ (by omega) y1).mono ?_
  rw [hS]
  rintro e wx ⟨rfl, hw⟩
  subst wx
  go_wp2_with fail
  go_loop [15, 16] (fun s t => ∃ q r : Int, s = .int .u64 q ∧ t = .int .u64 r ∧ Hid (QI U c1 v1 v0 q r)) (fun s _ => (intOf s).toNat)
  case atStart => exact ⟨U / v1, U - U / v1 * v1, rfl, rfl, QI.init DH.out⟩
  case round =>
    obtain ⟨q, r, rfl, rfl, hI⟩ := hrel
    have qi := hI.out
    have q0 := qi.q0
    have q1 := qi.q1
    have r0 := qi.r0
    have r1 := qi.r1
    have m0 : 0 ≤ q * v0 := Int.mul_nonneg q0 b0
    have m1 : q * v0 ≤ 4294967297 * 4294967295 := mul_le_mul' q1 (by omega) b0 (by decide)
    by_cases t1 : 4294967296 ≤ q
    · by_cases t2 : 4294967296 ≤ r + v1
      · have hq := qi.brk DH.out (Or.inl t1) t2
        rw [HY.out, hQ1] at hq
        clear qi hI m0 m1
        go_wp2_with fail
        go_loop [16, 18] (fun t s => ∃ q r : Int, s = .int .u64 q ∧ t = .int .u64 r ∧ Hid (QI R1 c0 v1 v0 q r)) (fun _ s => (intOf s).toNat)
        case atStart => exact ⟨R1 / v1, R1 - R1 / v1 * v1, rfl, rfl, QI.init D2.out⟩
        case round =>
          obtain ⟨q, r, rfl, rfl, hI⟩ := hrel
          have qi := hI.out
          have q0 := qi.q0
          have q1 := qi.q1
          have r0 := qi.r0
          have r1 := qi.r1
          have m0 : 0 ≤ q * v0 := Int.mul_nonneg q0 b0
          have m1 : q * v0 ≤ 4294967297 * 4294967295 := mul_le_mul' q1 (by omega) b0 (by decide)
          by_cases t1 : 4294967296 ≤ q
          · by_cases t2 : 4294967296 ≤ r + v1
            · have hq := qi.brk D2.out (Or.inl t1) t2
              rw [HY.out, hQ0] at hq
              clear qi hI m0 m1
              go_wp2_with fail
              go_ret2
              exact ⟨ret2_int F1.out F2.out, Gr.refl _⟩
            · have hI2 : Hid (QI R1 c0 v1 v0 (q - 1) (r + v1)) := qi.next D2.out (Or.inl t1) (by omega)
              clear qi hI m0 m1
              go_wp2_with fail
              go_round
              case rel => exact ⟨q - 1, r + v1, rfl, rfl, hI2⟩
              case measure => simp [intOf]; omega
          · by_cases t3 : 4294967296 * r + c0 < q * v0
            · by_cases t2 : 4294967296 ≤ r + v1
              · have hq := qi.brk D2.out (Or.inr t3) t2
                have q2 := (qi.step D2.out (Or.inr t3)).2.1
                rw [HY.out, hQ0] at hq
                clear qi hI
                go_wp2_with fail
                go_ret2
                exact ⟨ret2_int F1.out F2.out, Gr.refl _⟩
              · have hI2 : Hid (QI R1 c0 v1 v0 (q - 1) (r + v1)) := qi.next D2.out (Or.inr t3) (by omega)
                have q2 := (qi.step D2.out (Or.inr t3)).2.1
                clear qi hI
                go_wp2_with fail
                go_round
                case rel => exact ⟨q - 1, r + v1, rfl, rfl, hI2⟩
                case measure => simp [intOf]; omega
            · have hq := qi.done D2.out (by omega)
              rw [HY.out, hQ0] at hq
              clear qi hI
              subst hq
              go_wp2_with fail
              go_ret2
              exact ⟨ret2_int F1.out F2.out, Gr.refl _⟩
      · have hI2 : Hid (QI U c1 v1 v0 (q - 1) (r + v1)) := qi.next DH.out (Or.inl t1) (by omega)
        clear qi hI m0 m1
        go_wp2_with fail
        go_round
        case rel => exact ⟨q - 1, r + v1, rfl, rfl, hI2⟩
        case measure => simp [intOf]; omega
    · by_cases t3 : 4294967296 * r + c1 < q * v0
      · by_cases t2 : 4294967296 ≤ r + v1
        · have hq := qi.brk DH.out (Or.inr t3) t2
          have q2 := (qi.step DH.out (Or.inr t3)).2.1
          rw [HY.out, hQ1] at hq
          clear qi hI
          go_wp2_with fail
          go_loop [16, 18] (fun t s => ∃ q r : Int, s = .int .u64 q ∧ t = .int .u64 r ∧ Hid (QI R1 c0 v1 v0 q r)) (fun _ s => (intOf s).toNat)
          case atStart => exact ⟨R1 / v1, R1 - R1 / v1 * v1, rfl, rfl, QI.init D2.out⟩
          case round =>
            obtain ⟨q, r, rfl, rfl, hI⟩ := hrel
            have qi := hI.out
            have q0 := qi.q0
            have q1 := qi.q1
            have r0 := qi.r0
            have r1 := qi.r1
            have m0 : 0 ≤ q * v0 := Int.mul_nonneg q0 b0
            have m1 : q * v0 ≤ 4294967297 * 4294967295 := mul_le_mul' q1 (by omega) b0 (by decide)
            by_cases t1 : 4294967296 ≤ q
            · by_cases t2 : 4294967296 ≤ r + v1
              · have hq := qi.brk D2.out (Or.inl t1) t2
                rw [HY.out, hQ0] at hq
                clear qi hI m0 m1
                go_wp2_with fail
                go_ret2
                exact ⟨ret2_int F1.out F2.out, Gr.refl _⟩
              · have hI2 : Hid (QI R1 c0 v1 v0 (q - 1) (r + v1)) := qi.next D2.out (Or.inl t1) (by omega)
                clear qi hI m0 m1
                go_wp2_with fail
                go_round
                case rel => exact ⟨q - 1, r + v1, rfl, rfl, hI2⟩
                case measure => simp [intOf]; omega
            · by_cases t3 : 4294967296 * r + c0 < q * v0
              · by_cases t2 : 4294967296 ≤ r + v1
                · have hq := qi.brk D2.out (Or.inr t3) t2
                  have q2 := (qi.step D2.out (Or.inr t3)).2.1
                  rw [HY.out, hQ0] at hq
                  clear qi hI
                  go_wp2_with fail
                  go_ret2
                  exact ⟨ret2_int F1.out F2.out, Gr.refl _⟩
                · have hI2 : Hid (QI R1 c0 v1 v0 (q - 1) (r + v1)) := qi.next D2.out (Or.inr t3) (by omega)
                  have q2 := (qi.step D2.out (Or.inr t3)).2.1
                  clear qi hI
                  go_wp2_with fail
                  go_round
                  case rel => exact ⟨q - 1, r + v1, rfl, rfl, hI2⟩
                  case measure => simp [intOf]; omega
              · have hq := qi.done D2.out (by omega)
                rw [HY.out, hQ0] at hq
                clear qi hI
                subst hq
                go_wp2_with fail
                go_ret2
                exact ⟨ret2_int F1.out F2.out, Gr.refl _⟩
        · have hI2 : Hid (QI U c1 v1 v0 (q - 1) (r + v1)) := qi.next DH.out (Or.inr t3) (by omega)
          have q2 := (qi.step DH.out (Or.inr t3)).2.1
          clear qi hI
          go_wp2_with fail
          go_round
          case rel => exact ⟨q - 1, r + v1, rfl, rfl, hI2⟩
          case measure => simp [intOf]; omega
      · have hq := qi.done DH.out (by omega)
        rw [HY.out, hQ1] at hq
        clear qi hI
        subst hq
        go_wp2_with fail
        go_loop [16, 18] (fun t s => ∃ q r : Int, s = .int .u64 q ∧ t = .int .u64 r ∧ Hid (QI R1 c0 v1 v0 q r)) (fun _ s => (intOf s).toNat)
        case atStart => exact ⟨R1 / v1, R1 - R1 / v1 * v1, rfl, rfl, QI.init D2.out⟩
        case round =>
          obtain ⟨q, r, rfl, rfl, hI⟩ := hrel
          have qi := hI.out
          have q0 := qi.q0
          have q1 := qi.q1
          have r0 := qi.r0
          have r1 := qi.r1
          have m0 : 0 ≤ q * v0 := Int.mul_nonneg q0 b0
          have m1 : q * v0 ≤ 4294967297 * 4294967295 := mul_le_mul' q1 (by omega) b0 (by decide)
          by_cases t1 : 4294967296 ≤ q
          · by_cases t2 : 4294967296 ≤ r + v1
            · have hq := qi.brk D2.out (Or.inl t1) t2
              rw [HY.out, hQ0] at hq
              clear qi hI m0 m1
              go_wp2_with fail
              go_ret2
              exact ⟨ret2_int F1.out F2.out, Gr.refl _⟩
            · have hI2 : Hid (QI R1 c0 v1 v0 (q - 1) (r + v1)) := qi.next D2.out (Or.inl t1) (by omega)
              clear qi hI m0 m1
              go_wp2_with fail
              go_round
              case rel => exact ⟨q - 1, r + v1, rfl, rfl, hI2⟩
              case measure => simp [intOf]; omega
          · by_cases t3 : 4294967296 * r + c0 < q * v0
            · by_cases t2 : 4294967296 ≤ r + v1
              · have hq := qi.brk D2.out (Or.inr t3) t2
                have q2 := (qi.step D2.out (Or.inr t3)).2.1
                rw [HY.out, hQ0] at hq
                clear qi hI
                go_wp2_with fail
                go_ret2
                exact ⟨ret2_int F1.out F2.out, Gr.refl _⟩
              · have hI2 : Hid (QI R1 c0 v1 v0 (q - 1) (r + v1)) := qi.next D2.out (Or.inr t3) (by omega)
                have q2 := (qi.step D2.out (Or.inr t3)).2.1
                clear qi hI
                go_wp2_with fail
                go_round
                case rel => exact ⟨q - 1, r + v1, rfl, rfl, hI2⟩
                case measure => simp [intOf]; omega
            · have hq := qi.done D2.out (by omega)
              rw [HY.out, hQ0] at hq
              clear qi hI
              subst hq
              go_wp2_with fail
              go_ret2
              exact ⟨ret2_int F1.out F2.out, Gr.refl _⟩

theorem div64_any (hi lo y : Int) (h0 : 0 ≤ hi) (h1 : hi < y) (l0 : 0 ≤ lo) (l1 : lo ≤ 18446744073709551615) (y1 : y ≤ 18446744073709551615) (w : World) :
    Calls Yddm.prog 38 #[.int .u64 hi, .int .u64 lo, .int .u64 y] w fun e w' => e = .returned (.tuple #[.int .u64 ((hi * 18446744073709551616 + lo) / y), .int .u64 ((hi * 18446744073709551616 + lo) % y)]) ∧ Gr w w' := by
  by_cases h : hi = 0
  · subst h
    have e : (0 : Int) * 18446744073709551616 + lo = lo := by omega
    rw [e]
    exact div64_low lo y l0 l1 h1 y1 w
  · exact div64_high hi lo y (by omega) h1 l0 l1 y1 w

set_option maxHeartbeats 1000000 in
theorem rem64_any (hi lo y : Int) (h0 : 0 ≤ hi) (h1 : hi ≤ 18446744073709551615) (l0 : 0 ≤ lo) (l1 : lo ≤ 18446744073709551615) (y0 : 0 < y) (y1 : y ≤ 18446744073709551615) (w : World) :
    Calls Yddm.prog 37 #[.int .u64 hi, .int .u64 lo, .int .u64 y] w fun e w' => e = .returned (.int .u64 ((hi * 18446744073709551616 + lo) % y)) ∧ Gr w w' := by
  have q3 := Int.emod_nonneg hi (b := y) (by omega)
  have q4 := Int.emod_lt_of_pos hi y0
  have e : (hi % y * 18446744073709551616 + lo) % y = (hi * 18446744073709551616 + lo) % y := by
    rw [Int.add_emod, Int.mul_emod, Int.emod_emod_of_dvd _ (Int.dvd_refl y), ← Int.mul_emod, ← Int.add_emod]
  have hy : ¬ y = 0 := by omega
  go_enter Yddm.func37, Yddm.ntmps37
  go_wp2_with (go_at_call 38; refine (div64_any _ _ _ q3 q4 l0 l1 y1 _).mono ?_; rintro e w1 ⟨rfl, g1⟩)
  go_ret
  exact ⟨rfl, g1⟩
end Go.Proofs.Ymbrdd
