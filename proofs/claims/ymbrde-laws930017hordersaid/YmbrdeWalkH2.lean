/-
  THE WALKS (seat e): hgcd, hden, hrat, hcf.
-/
import Derived.Test.YmbrdeWalkH
namespace Go.Proofs.Ymbrde
open Go.RowKit

set_option maxHeartbeats 1000000 in
theorem hgcd_any (n d : Int) (d1 : 1 ≤ d) (d2 : d ≤ 9223372036854775807) (w : World) :
    Calls Ydem.prog 32 #[.int .i64 n, .int .i64 d] w fun e w' => e = .returned (.int .i64 (gz n d)) ∧ Gr w w' := by
  have hb0 := tmod_mag n (y := d) (by omega)
  rw [magZ_pos (by omega)] at hb0
  obtain ⟨b1, b2⟩ := hb0
  have hd0 : ¬ d = 0 := by omega
  go_enter Ydem.func32, Ydem.ntmps32
  go_wp2
  go_quiet (fail)
  have gq := (Gr.refl w).drewN nq
  generalize w.drewN nq = w1 at gq ⊢
  go_wp2
  go_loop [5, 6] (fun s t => ∃ x y : Int, x ≠ 0 ∧ -9223372036854775808 < x ∧ x ≤ 9223372036854775807 ∧ -9223372036854775808 < y ∧ y ≤ 9223372036854775807 ∧ s = .int .i64 x ∧ t = .int .i64 y ∧ Hid (gz x y = gz n d)) (fun _ t => (magZ (intOf t)).toNat)
  case atStart => exact ⟨d, n.tmod d, by omega, by omega, by omega, by omega, by omega, rfl, rfl, gz_tmod n d⟩
  case round =>
    obtain ⟨x, y, hx, x1, x2, y1, y2, rfl, rfl, hg⟩ := hrel
    by_cases h : y = 0
    · subst h
      have hfin : Hid (gz n d = magZ x) := by
        show _ = _
        rw [← hg.out, gz_zero_mag]
      by_cases h1 : x < 0
      · have hm := magZ_neg h1
        go_wp2
        go_ret
        exact ⟨ret_int (by rw [hfin.out, hm]), gq⟩
      · have hm := magZ_pos (n := x) (by omega)
        go_wp2
        go_ret
        exact ⟨ret_int (by rw [hfin.out, hm]), gq⟩
    · obtain ⟨m1, m2⟩ := tmod_mag x h
      have m3 : magZ y ≤ 9223372036854775807 := by unfold magZ; split <;> omega
      have hg2 : Hid (gz y (x.tmod y) = gz n d) := (gz_tmod x y).trans hg
      go_wp2
      go_round
      case rel => exact ⟨y, x.tmod y, h, y1, y2, by omega, by omega, rfl, rfl, hg2⟩
      case measure => simp [intOf]; rw [magZ_natAbs (x.tmod y)]; omega

/-- hden. -/
def denH (d : Int) : Int := if d < 0 then (if d = -1 then 1 else -(d + 1)) else (if d = 0 then 1 else d)
theorem denH_bound {d : Int} (d1 : -9223372036854775808 ≤ d) (d2 : d ≤ 9223372036854775807) : 1 ≤ denH d ∧ denH d ≤ 9223372036854775807 := by
  unfold denH; split <;> split <;> omega
theorem hden_any (d : Int) (d1 : -9223372036854775808 ≤ d) (d2 : d ≤ 9223372036854775807) (w : World) :
    Calls Ydem.prog 29 #[.int .i64 d] w fun e w' => e = .returned (.int .i64 (denH d)) ∧ w' = w := by
  by_cases h : d < 0
  · by_cases h1 : d = -1
    · subst h1
      go_enter Ydem.func29, Ydem.ntmps29
      go_wp2
      go_ret
      exact ⟨rfl, rfl⟩
    · have he : Hid (denH d = -(d + 1)) := by show _ = _; unfold denH; rw [if_pos h, if_neg h1]
      go_enter Ydem.func29, Ydem.ntmps29
      go_wp2
      go_ret
      exact ⟨ret_int (by rw [he.out]), rfl⟩
  · by_cases h1 : d = 0
    · subst h1
      go_enter Ydem.func29, Ydem.ntmps29
      go_wp2
      go_ret
      exact ⟨rfl, rfl⟩
    · have he : Hid (denH d = d) := by show _ = _; unfold denH; rw [if_neg h, if_neg h1]
      go_enter Ydem.func29, Ydem.ntmps29
      go_wp2
      go_ret
      exact ⟨ret_int (by rw [he.out]), rfl⟩

theorem red_i64 {n d : Int} (n1 : -9223372036854775808 ≤ n) (n2 : n ≤ 9223372036854775807) (d1 : 1 ≤ d) :
    -9223372036854775808 ≤ redN n d ∧ redN n d ≤ 9223372036854775807 ∧ 1 ≤ redD n d ∧ redD n d ≤ d ∧ validB (redN n d) (redD n d) = true := by
  have hg : 1 ≤ gz n d := gz_pos_right (by omega)
  have h1 := red_le n d (by omega)
  have h2 := redD_pos (N := n) (D := d) (by omega)
  have e1 := redN_mul n d
  refine ⟨by omega, ?_, by omega, h1.2, validB_mk (by omega) (red_coprime (by omega))⟩
  rcases Int.lt_or_le n 0 with h | h
  · rcases Int.lt_or_le 0 (redN n d) with h3 | h3
    · have := Int.mul_pos h3 (show 0 < gz n d by omega); omega
    · omega
  · omega
theorem tdiv_red (n d : Int) : n.tdiv (gz n d) = redN n d := Int.tdiv_eq_ediv_of_dvd (gz_dvd_left n d)
theorem tdiv_red' (n d : Int) : d.tdiv (gz n d) = redD n d := Int.tdiv_eq_ediv_of_dvd (gz_dvd_right n d)

set_option maxHeartbeats 1000000 in
theorem hrat_any (n d : Int) (n1 : -9223372036854775808 ≤ n) (n2 : n ≤ 9223372036854775807) (d1 : 1 ≤ d) (d2 : d ≤ 9223372036854775807) (w : World) :
    Calls Ydem.prog 31 #[.int .i64 n, .int .i64 d] w fun e w' => e = .returned (.agg #[.int .i64 (redN n d), .int .i64 (redD n d)]) ∧ Gr w w' := by
  obtain ⟨r1, r2, r3, r4, -⟩ := red_i64 n1 n2 d1
  have t1 := tdiv_red n d
  have t2 := tdiv_red' n d
  have u1 := IntWalk.wrap64_in (redN n d) ⟨by omega, by omega⟩
  have u2 := IntWalk.wrap64_in (redD n d) ⟨by omega, by omega⟩
  have hg0 : ¬ gz n d = 0 := by have := gz_pos_right (a := n) (b := d) (by omega); omega
  generalize redN n d = p at *
  generalize redD n d = q at *
  go_enter Ydem.func31, Ydem.ntmps31
  go_wp2_with fail
  refine (hgcd_any _ _ d1 d2 _).mono ?_
  rintro e w1 ⟨rfl, g1⟩
  obtain ⟨hc1, hf1, hz1⟩ := gcell g1
  go_wp2_with fail
  generalize gz n d = g at *
  go_region
  all_goals
    go_wp2_with fail
    refine bodyPost_ret (v := .agg #[.int .i64 p, .int .i64 q]) ?_ rfl ⟨rfl, ?_⟩
    · simp [results, Ydem.results31, go_sem, hc1]
    · exact (((Gr.refl _).alloc _ _).trans g1).setCell (by simp) _ |>.setCell (by simp) _ |>.drew

/-! ### hcf -/
set_option maxHeartbeats 4000000 in
theorem hcf_any (a b c d : Int) (a1 : -9223372036854775808 ≤ a) (a2 : a ≤ 9223372036854775807) (b1 : 1 ≤ b) (b2 : b ≤ 9223372036854775807)
    (c1 : -9223372036854775808 ≤ c) (c2 : c ≤ 9223372036854775807) (d1 : 1 ≤ d) (d2 : d ≤ 9223372036854775807) (w : World) :
    Calls Ydem.prog 33 #[.int .i64 a, .int .i64 b, .int .i64 c, .int .i64 d] w fun e w' => e = .returned (.int .i64 (cmpZ (a * d) (c * b))) ∧ Gr w w' := by
  generalize hcm : cmpZ (a * d) (c * b) = z
  go_enter Ydem.func33, Ydem.ntmps33
  go_wp2
  go_loopw [0, 1, 2, 3, 9] (fun v0 v1 v2 v3 v9 w' => ∃ a b c d s : Int, (-9223372036854775808 ≤ a ∧ a ≤ 9223372036854775807 ∧ 1 ≤ b ∧ b ≤ 9223372036854775807 ∧ -9223372036854775808 ≤ c ∧ c ≤ 9223372036854775807 ∧ 1 ≤ d ∧ d ≤ 9223372036854775807) ∧ (s = 1 ∨ s = -1) ∧ v0 = .int .i64 a ∧ v1 = .int .i64 b ∧ v2 = .int .i64 c ∧ v3 = .int .i64 d ∧ v9 = .int .i64 s ∧ Hid (z = s * cmpZ (a * d) (c * b)) ∧ Gr w w') (fun _ v1 _ _ _ _ => (intOf v1).toNat)
  case atStart => exact ⟨a, b, c, d, 1, ⟨a1, a2, b1, b2, c1, c2, d1, d2⟩, Or.inl rfl, rfl, rfl, rfl, rfl, rfl, by show _ = _; rw [hcm, Int.one_mul], Gr.refl _⟩
  case round =>
    clear hcm a1 a2 b1 b2 c1 c2 d1 d2
    obtain ⟨a, b, c, d, s, ⟨a1, a2, b1, b2, c1, c2, d1, d2⟩, hs, rfl, rfl, rfl, rfl, rfl, hz, G⟩ := hrel
    obtain ⟨P, R, ha, r0, r1, p1, p2, hPR⟩ := floor_step a1 a2 b1 b2
    obtain ⟨Q, T, hc, t0, t1, q1, q2, hQT⟩ := floor_step c1 c2 d1 d2
    obtain ⟨k1, k2, k3⟩ := cf_cmp b1 d1 ha hc r0 r1 t0 t1
    clear ha hc
    have b0 : ¬ b = 0 := by omega
    have d0 : ¬ d = 0 := by omega
    have s1 : -1 ≤ s := by omega
    have s2 : s ≤ 1 := by omega
    have K1 : Hid (P < Q → cmpZ (a * d) (c * b) = -1) := k1
    have K2 : Hid (Q < P → cmpZ (a * d) (c * b) = 1) := k2
    have K3 : Hid (P = Q → cmpZ (a * d) (c * b) = cmpZ (R * d) (T * b)) := k3
    clear k1 k2 k3
    rcases hPR with ⟨e1, e2⟩ | ⟨e1, e2, e3, e4⟩
    all_goals
      have u1 := IntWalk.wrap64_in (a.tdiv b) ⟨by omega, by omega⟩
      have u2 := IntWalk.wrap64_in (a.tmod b) ⟨by omega, by omega⟩
      rw [e1] at u1
      rw [e2] at u2
      rcases hQT with ⟨f1, f2⟩ | ⟨f1, f2, f3, f4⟩
      all_goals
        have u3 := IntWalk.wrap64_in (c.tdiv d) ⟨by omega, by omega⟩
        have u4 := IntWalk.wrap64_in (c.tmod d) ⟨by omega, by omega⟩
        rw [f1] at u3
        rw [f2] at u4
        rcases Int.lt_trichotomy P Q with h | h | h
        · have hres : Hid (z = -s) := by show _ = _; rw [hz.out, K1.out h]; omega
          clear hz K1 K2 K3
          go_wp2
          go_quiet (fail)
          have gq := G.drewN nq
          generalize World.drewN _ nq = w1 at gq ⊢
          clear nq
          go_wp2
          go_quiet (fail)
          have gq2 := gq.drewN nq
          generalize World.drewN _ nq = w2 at gq2 ⊢
          go_wp2
          go_ret
          exact ⟨ret_int hres.out.symm, gq2⟩
        · subst h
          have hz2 : Hid (z = s * cmpZ (R * d) (T * b)) := by show _ = _; rw [hz.out, K3.out rfl]
          clear hz K1 K2 K3
          by_cases hR : R = 0
          · subst hR
            by_cases hT : T = 0
            · subst hT
              have hres : Hid (z = 0) := by show _ = _; rw [hz2.out, Int.zero_mul, Int.zero_mul, cmpZ_eq rfl, Int.mul_zero]
              clear hz2
              go_wp2
              go_quiet (fail)
              have gq := G.drewN nq
              generalize World.drewN _ nq = w1 at gq ⊢
              clear nq
              go_wp2
              go_quiet (fail)
              have gq2 := gq.drewN nq
              generalize World.drewN _ nq = w2 at gq2 ⊢
              go_wp2
              go_ret
              exact ⟨ret_int hres.out.symm, gq2⟩
            · have hres : Hid (z = -s) := by
                show _ = _
                rw [hz2.out, Int.zero_mul, cmpZ_lt (Int.mul_pos (by omega) (by omega))]; omega
              have hT' : (T == 0) = false := by simpa using hT
              clear hz2
              go_wp2
              go_quiet (fail)
              have gq := G.drewN nq
              generalize World.drewN _ nq = w1 at gq ⊢
              clear nq
              go_wp2
              go_quiet (fail)
              have gq2 := gq.drewN nq
              generalize World.drewN _ nq = w2 at gq2 ⊢
              go_wp2
              go_ret
              exact ⟨ret_int hres.out.symm, gq2⟩
          · have hR' : (R == 0) = false := by simpa using hR
            by_cases hT : T = 0
            · subst hT
              have hres : Hid (z = s) := by
                show _ = _
                rw [hz2.out, Int.zero_mul, cmpZ_gt (Int.mul_pos (by omega) (by omega))]; omega
              clear hz2
              go_wp2
              go_quiet (fail)
              have gq := G.drewN nq
              generalize World.drewN _ nq = w1 at gq ⊢
              clear nq
              go_wp2
              go_quiet (fail)
              have gq2 := gq.drewN nq
              generalize World.drewN _ nq = w2 at gq2 ⊢
              go_wp2
              go_ret
              exact ⟨ret_int hres.out.symm, gq2⟩
            · have hT' : (T == 0) = false := by simpa using hT
              have hnew : Hid (z = -s * cmpZ (b * T) (d * R)) := by
                show _ = _
                rw [hz2.out, Int.mul_comm b T, Int.mul_comm d R, cmpZ_swap (R * d) (T * b), Int.neg_mul_neg]
              clear hz2
              go_wp2
              go_quiet (fail)
              have gq := G.drewN nq
              generalize World.drewN _ nq = w1 at gq ⊢
              clear nq
              go_wp2
              go_quiet (fail)
              have gq2 := gq.drewN nq
              generalize World.drewN _ nq = w2 at gq2 ⊢
              go_wp2
              go_roundw
              case rel => exact ⟨b, R, d, T, -s, ⟨by omega, by omega, by omega, by omega, by omega, by omega, by omega, by omega⟩, by omega, rfl, rfl, rfl, rfl, rfl, hnew, gq2⟩
              case measure => simp [intOf]; omega
        · have hres : Hid (z = s) := by show _ = _; rw [hz.out, K2.out h]; omega
          clear hz K1 K2 K3
          go_wp2
          go_quiet (fail)
          have gq := G.drewN nq
          generalize World.drewN _ nq = w1 at gq ⊢
          clear nq
          go_wp2
          go_quiet (fail)
          have gq2 := gq.drewN nq
          generalize World.drewN _ nq = w2 at gq2 ⊢
          go_wp2
          go_ret
          exact ⟨ret_int hres.out.symm, gq2⟩
end Go.Proofs.Ymbrde
