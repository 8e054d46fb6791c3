/-
  THE WALK of the law ASmall (sum, small parts).
-/
import Derived.Test.YmbrddWalkAA
import Derived.Test.YmbrddWalkSum
namespace Go.Proofs.Ymbrdd
open Go.RowKit

theorem tdiv_mag (n d : Int) : n.tdiv (gz (magZ n) d) = redN n d := by rw [gz_mag_left]; exact tdiv_red n d
theorem tdiv_mag' (n d : Int) : d.tdiv (gz (magZ n) d) = redD n d := by rw [gz_mag_left]; exact tdiv_red' n d

set_option maxHeartbeats 4000000 in
theorem small_core (x b : Int) (ys : Bool) (c e : Int) (x1 : -2147483648 ≤ x) (x2 : x ≤ 2147483647) (b1 : 1 ≤ b) (b2 : b ≤ 65536) (c1 : 0 ≤ c) (c2 : c ≤ 4294967295) (e1 : 1 ≤ e) (e2 : e ≤ 65536) :
    (∀ w, Calls Yddm.prog 17 #[.agg #[.int .i64 (redN x b), .int .i64 (redD x b)], .bool ys, .int .u64 (redN c e), .int .u64 (redD c e)] w fun r w' =>
      r = .returned (.tuple #[.agg #[.int .i64 (redN (x * e + sg ys (c * b)) (b * e)), .int .i64 (redD (x * e + sg ys (c * b)) (b * e))], .bool true]) ∧ Gr w w') ∧
    -9223372036854775808 ≤ redN (x * e + sg ys (c * b)) (b * e) ∧ redN (x * e + sg ys (c * b)) (b * e) ≤ 9223372036854775807 ∧ redD (x * e + sg ys (c * b)) (b * e) ≤ 9223372036854775807 ∧ 1 ≤ redD (x * e + sg ys (c * b)) (b * e) := by
  obtain ⟨p1, p2, p3, p4, p5⟩ := red_i64 (n := x) (d := b) (by omega) (by omega) b1
  have hgx := (validB_iff.mp p5).2
  have hgc := red_coprime (N := c) (D := e) (by omega)
  have hcl := red_le c e (by omega)
  have hcp := redD_pos (N := c) (D := e) (by omega)
  have hc0 : 0 ≤ redN c e := ediv_nonneg' c1 (gz_pos_right (by omega))
  obtain ⟨s1, s2⟩ := red_sg ys c e (by omega)
  obtain ⟨k1, k2⟩ := sum_red_red (p := x) (q := b) (s := sg ys c) (t := e) (by omega) (by omega)
  rw [s1, s2, sg_mul ys c b] at k1 k2
  have m1 := mul_bound (x := x) (y := e) (A := 2147483648) (B := 65536) (by omega) (by omega)
  have m2 := mul_bound (x := c) (y := b) (A := 4294967295) (B := 65536) (by omega) (by omega)
  have m3 := mul_bound (x := b) (y := e) (A := 65536) (B := 65536) (by omega) (by omega)
  have m4 : 0 < b * e := Int.mul_pos (by omega) (by omega)
  have m5 : 0 ≤ c * b := Int.mul_nonneg c1 (by omega)
  have hN : -9223372036854775808 < x * e + sg ys (c * b) ∧ x * e + sg ys (c * b) < 9223372036854775808 := by cases ys <;> simp [sg] <;> omega
  have hf := fit_small (N := x * e + sg ys (c * b)) (D := b * e) m4 hN.1 hN.2 (by omega)
  refine ⟨fun w => ?_, (fitB_iff.mp hf).1, (fitB_iff.mp hf).2.1, (fitB_iff.mp hf).2.2, redD_pos m4⟩
  have h := sum_any (redN x b) (redD x b) ys (redN c e) (redD c e) p1 p2 p3 (by omega) hc0 (by omega) (by omega) (by omega) hgx hgc w
  rw [k1, k2, ratN_yes hf, ratD_yes hf, hf] at h
  exact h

set_option maxHeartbeats 4000000 in
theorem law_ASmall (xn xd : Int) (ys : Bool) (c d : Int) (bx : -2147483648 ≤ xn ∧ xn ≤ 2147483647) (bd : 0 ≤ xd ∧ xd ≤ 65535) (bc : 0 ≤ c ∧ c ≤ 4294967295) (be : 0 ≤ d ∧ d ≤ 65535) (w : World) :
    Calls Yddm.prog 5 #[.int .i32 xn, .int .u16 xd, .bool ys, .int .u32 c, .int .u16 d] w fun e w' => e = .returned (.bool true) ∧ Grown w w' := by
  obtain ⟨x1, x2⟩ := bx
  obtain ⟨d1, d2⟩ := bd
  obtain ⟨c1, c2⟩ := bc
  obtain ⟨e1, e2⟩ := be
  have hb := denA_small (d := xd + 1) (by omega) (by omega)
  have he := denA_small (d := d + 1) (by omega) (by omega)
  obtain ⟨SC, z1, z2, z3, z4⟩ := small_core xn (xd + 1) ys c (d + 1) x1 x2 (by omega) (by omega) c1 c2 (by omega) (by omega)
  have t1 := tdiv_mag (xn * (d + 1) + sg ys (c * (xd + 1))) ((xd + 1) * (d + 1))
  have t2 := tdiv_mag' (xn * (d + 1) + sg ys (c * (xd + 1))) ((xd + 1) * (d + 1))
  have m1 := mul_bound (x := xn) (y := d + 1) (A := 2147483648) (B := 65536) (by omega) (by omega)
  have m2 := mul_bound (x := c) (y := xd + 1) (A := 4294967295) (B := 65536) (by omega) (by omega)
  have m3 := mul_bound (x := xd + 1) (y := d + 1) (A := 65536) (B := 65536) (by omega) (by omega)
  have m4 : 0 < (xd + 1) * (d + 1) := Int.mul_pos (by omega) (by omega)
  have m5 : 0 ≤ c * (xd + 1) := Int.mul_nonneg c1 (by omega)
  have hg : 0 < gz (magZ (xn * (d + 1) + sg ys (c * (xd + 1)))) ((xd + 1) * (d + 1)) := gz_pos_right (by omega)
  have hgl := gz_le_right (a := magZ (xn * (d + 1) + sg ys (c * (xd + 1)))) (b := (xd + 1) * (d + 1)) m4
  have hN : -9223372036854775808 < xn * (d + 1) + sg ys (c * (xd + 1)) ∧ xn * (d + 1) + sg ys (c * (xd + 1)) < 9223372036854775808 := by cases ys <;> simp [sg] <;> omega
  generalize hbv : xd + 1 = b at *
  generalize hev : d + 1 = e at *
  generalize redN (xn * e + sg ys (c * b)) (b * e) = RN at *
  generalize redD (xn * e + sg ys (c * b)) (b * e) = RD at *
  have u1 := IntWalk.wrap64_in RN ⟨by omega, by omega⟩
  have u2 := IntWalk.wrap64_in RD ⟨by omega, by omega⟩
  have u3 := wrapi_id (a := RN) (by omega) (by omega)
  have u4 := wrapi_id (a := RD) (by omega) (by omega)
  have hbo : 1 ≤ b ∧ b ≤ 65536 := by omega
  have heo : 1 ≤ e ∧ e ≤ 65536 := by omega
  obtain ⟨bo1, bo2⟩ := hbo
  obtain ⟨eo1, eo2⟩ := heo
  generalize hNv : xn * e + sg ys (c * b) = N at *
  generalize hDv : b * e = D at *
  have D2 : D ≤ 4294967296 := by omega
  have hmag0 := magZ_nonneg N
  have hmag1 := magZ_le (n := N) (by omega) (by omega)
  generalize hgv : gz (magZ N) D = g at *
  have hg0 : ¬ g = 0 := by omega
  have m1a : -140737488355328 ≤ xn * e := by omega
  have m1b : xn * e ≤ 140737488355328 := by omega
  have m2b : c * b ≤ 281474976645120 := by omega
  obtain ⟨N1, N2⟩ := hN
  clear m1 m2 m3
  cases ys
  · have hN2 : xn * e + c * b = N := by rw [← hNv, sg_false]
    clear hNv
    go_enter Yddm.func5, Yddm.ntmps5
    go_wp2_with fail
    refine (arat_any _ _ (by omega) (by omega) (by omega) (by omega) _).mono ?_
    rw [hb]
    rintro _ w1 ⟨rfl, g1⟩
    go_wp2_with fail
    refine (alow_any _ _ (by omega) (by omega) (by omega) (by omega) _).mono ?_
    rw [he]
    rintro _ w2 ⟨rfl, g2⟩
    obtain ⟨hc2, hf2, hz2⟩ := gcell g2
    go_wp2_with fail
    refine (SC _).mono ?_
    rintro _ w3 ⟨rfl, g3⟩
    go_wp2_with fail
    refine (magnitude_any _ (by omega) (by omega) _).mono ?_
    rintro _ wx ⟨rfl, hw⟩
    subst wx
    go_wp2_with fail
    refine (gcd_gr _ _ (by omega) (by omega) (by omega) (by omega) _).mono ?_
    rintro _ w4 ⟨rfl, g4⟩
    obtain ⟨hc4, hf4, hz4⟩ := gcell g4
    go_wp2_with fail
    go_quiet (fail)
    go_wp2_with fail
    go_ret
    exact ⟨rfl, (((((((g1.alloc _ _).trans g2).trans g3).alloc _ _).trans g4)).drewN _).grown⟩
  · have hN2 : xn * e - c * b = N := by rw [← hNv, sg_true]; omega
    clear hNv
    go_enter Yddm.func5, Yddm.ntmps5
    go_wp2_with fail
    refine (arat_any _ _ (by omega) (by omega) (by omega) (by omega) _).mono ?_
    rw [hb]
    rintro _ w1 ⟨rfl, g1⟩
    go_wp2_with fail
    refine (alow_any _ _ (by omega) (by omega) (by omega) (by omega) _).mono ?_
    rw [he]
    rintro _ w2 ⟨rfl, g2⟩
    obtain ⟨hc2, hf2, hz2⟩ := gcell g2
    go_wp2_with fail
    refine (SC _).mono ?_
    rintro _ w3 ⟨rfl, g3⟩
    go_wp2_with fail
    refine (magnitude_any _ (by omega) (by omega) _).mono ?_
    rintro _ wx ⟨rfl, hw⟩
    subst wx
    go_wp2_with fail
    refine (gcd_gr _ _ (by omega) (by omega) (by omega) (by omega) _).mono ?_
    rintro _ w4 ⟨rfl, g4⟩
    obtain ⟨hc4, hf4, hz4⟩ := gcell g4
    go_wp2_with fail
    go_quiet (fail)
    go_wp2_with fail
    go_ret
    exact ⟨rfl, (((((((g1.alloc _ _).trans g2).trans g3).alloc _ _).trans g4)).drewN _).grown⟩
end Go.Proofs.Ymbrdd
