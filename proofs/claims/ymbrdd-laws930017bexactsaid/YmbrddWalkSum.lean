/-
  THE WALKS: math/bits.Sub64 (a stand-in of the model's); sum.
-/
import Derived.Test.YmbrddWalkDv
import Derived.Test.YmbrddPlainSum
namespace Go.Proofs.Ymbrdd
open Go.RowKit

theorem sub64_run (x y b : Int) (hx : 0 ≤ x) (hx2 : x ≤ 18446744073709551615) (hy : 0 ≤ y) (hy2 : y ≤ 18446744073709551615) (hb0 : 0 ≤ b) (hb : b ≤ 1) (w : World) : (callFunc 36 #[.int .u64 x, .int .u64 y, .int .u64 b]).run Yddm.prog w =
    .ok (.value (.tuple #[.int .u64 (lo64 (x - y - b)), .int .u64 (bor x (y + b))])) w := by
  obtain ⟨x, rfl⟩ := Int.eq_ofNat_of_zero_le hx
  obtain ⟨y, rfl⟩ := Int.eq_ofNat_of_zero_le hy
  obtain ⟨b, rfl⟩ := Int.eq_ofNat_of_zero_le hb0
  have e1 : lo64 ((x : Int) - y - b) = (((x + 18446744073709551616 - y - b) % 18446744073709551616 : Nat) : Int) := by unfold lo64; omega
  have e2 : bor (x : Int) ((y : Int) + b) = ((if x < y + b then 1 else 0 : Nat) : Int) := by unfold bor; split <;> split <;> omega
  rw [e1, e2, run_callFunc_extern Yddm.func36 (by kernel_rfl) (by kernel_rfl) (by kernel_rfl) (e := sub64Entry) (by kernel_rfl), run_sub64 x y b (by omega)]
  rfl

/-- What 'sum' does behind the numerator H (its sign s): one walk for all three ways. -/
theorem mul_bound' {a k : Int} (a0 : 0 ≤ a) (a1 : a ≤ 9223372036854775808) (k0 : 0 ≤ k) (k1 : k ≤ 9223372036854775807) : 0 ≤ a * k ∧ a * k ≤ 85070591730234615865843651857942052864 := by
  have h1 := Int.mul_nonneg a0 k0
  have h2 := mul_le_mul' a1 k1 k0 (by decide)
  omega

set_option maxHeartbeats 4000000 in
theorem sum_any (n b : Int) (ys : Bool) (c d : Int) (n1 : -9223372036854775808 ≤ n) (n2 : n ≤ 9223372036854775807) (b1 : 1 ≤ b) (b2 : b ≤ 9223372036854775807)
    (c1 : 0 ≤ c) (c2 : c ≤ 9223372036854775808) (d1 : 1 ≤ d) (d2 : d ≤ 9223372036854775807) (h1 : gz n b = 1) (h2 : gz c d = 1) (w : World) :
    Calls Yddm.prog 17 #[.agg #[.int .i64 n, .int .i64 b], .bool ys, .int .u64 c, .int .u64 d] w fun e w' =>
      e = .returned (.tuple #[.agg #[.int .i64 (ratN (redN (n * d + sg ys c * b) (b * d)) (redD (n * d + sg ys c * b) (b * d))), .int .i64 (ratD (redN (n * d + sg ys c * b) (b * d)) (redD (n * d + sg ys c * b) (b * d)))], .bool (fitB (redN (n * d + sg ys c * b) (b * d)) (redD (n * d + sg ys c * b) (b * d)))]) ∧ Gr w w' := by
  have hred := fun s H hs => sum_red (n := n) (b := b) (y := sg ys c) (d := d) (s := s) (H := H) (by omega) (by omega) h1 (by rw [gz_sg]; exact h2) hs
  generalize redN (n * d + sg ys c * b) (b * d) = VN at *
  generalize redD (n * d + sg ys c * b) (b * d) = VD at *
  have hg : 0 < gz b d := gz_pos_right (by omega)
  have hgl := gz_le_right (a := b) (b := d) (by omega)
  have m1 := magZ_nonneg n
  have m2 := magZ_le n1 n2
  have qd1 := ediv_nonneg' (show 0 ≤ d by omega) hg
  have qd2 := ediv_le_self' (g := gz b d) (show 0 ≤ d by omega)
  have qb1 := ediv_nonneg' (show 0 ≤ b by omega) hg
  have qb2 := ediv_le_self' (g := gz b d) (show 0 ≤ b by omega)
  have hXb := mul_bound' m1 m2 qd1 (by omega)
  have hZb := mul_bound' c1 c2 qb1 (by omega)
  have hsX := sg_of_mag n (d / gz b d)
  have hsZ := sg_mul ys c (b / gz b d)
  have hdvd : ∀ H, gz H (gz b d) ∣ d := fun H => Int.dvd_trans (gz_dvd_right H _) (gz_dvd_right b d)
  generalize hgv : gz b d = g at *
  generalize hdv : d / g = d' at *
  generalize hbv : b / g = b' at *
  generalize hXv : magZ n * d' = X at *
  generalize hZv : c * b' = Z at *
  obtain ⟨X0, X1⟩ := hXb
  obtain ⟨Z0, Z1⟩ := hZb
  generalize hnv : decide (n < 0) = neg at *
  -- the numerator, its sign, its two words
  have xl := lo64_bound X
  have zl := lo64_bound Z
  have xh : 0 ≤ hi64 X ∧ hi64 X ≤ 4611686018427387904 := by unfold hi64; omega
  have zh : 0 ≤ hi64 Z ∧ hi64 Z ≤ 4611686018427387904 := by unfold hi64; omega
  obtain ⟨xl0, xl1⟩ := xl
  obtain ⟨zl0, zl1⟩ := zl
  obtain ⟨xh0, xh1⟩ := xh
  obtain ⟨zh0, zh1⟩ := zh
  by_cases hsame : (neg == ys) = true
  · have hsm : neg = ys := by simpa using hsame
    subst hsm
    have hs : sg neg (X + Z) = n * d' + sg neg c * b' := by rw [sg_add, hsX, hsZ]
    obtain ⟨aw1, aw2, aw3, aw4⟩ := add_words X0 X1 Z0 Z1
    obtain ⟨hVN, hVD⟩ := hred neg (X + Z) hs
    clear hred hs hsX hsZ
    have hev := hdvd (X + Z)
    have he : 0 < gz (X + Z) g := gz_pos_right (by omega)
    have hel := gz_le_right (a := X + Z) (b := g) hg
    have hem := gz_emod (X + Z) g
    have hHl := hl64 (X + Z)
    have Hl := lo64_bound (X + Z)
    have Hh : 0 ≤ hi64 (X + Z) ∧ hi64 (X + Z) ≤ 18446744073709551615 := by unfold hi64; omega
    have H0 : 0 ≤ X + Z := by omega
    generalize hHv : X + Z = H at *
    obtain ⟨Hl0, Hl1⟩ := Hl
    obtain ⟨Hh0, Hh1⟩ := Hh
    generalize hhh : hi64 H = hh at *
    generalize hhl : lo64 H = hl at *
    generalize hee : gz H g = e at *
    have qe1 := Int.ediv_pos_of_pos_of_dvd (show 0 < d by omega) (Int.le_of_lt he) hev
    have qe2 := ediv_le_self' (g := e) (show 0 ≤ d by omega)
    clear hev hdvd
    generalize hdev : d / e = de at *
    subst hVN
    subst hVD
    have he0 : ¬ e = 0 := by omega
    have hg0 : ¬ g = 0 := by omega
    have td := tdiv_of_nonneg e (show 0 ≤ d by omega)
    have tb := tdiv_of_nonneg g (show 0 ≤ b by omega)
    rw [hdev] at td
    rw [hbv] at tb
    have ud := wrapu_id (a := de) (by omega) (by omega)
    have ub := wrapu_id (a := b') (by omega) (by omega)
    have hQ0 := Int.mul_nonneg qb1 (show 0 ≤ de by omega)
    generalize hQv : b' * de = Q at *
    have hPn : 0 ≤ H / e := ediv_nonneg' H0 he
    generalize hPv : H / e = P at *
    have hbig : e ≤ hh → 18446744073709551615 < P := by
      intro h
      have h3 := (Int.le_ediv_iff_mul_le (a := 18446744073709551616) (b := H) he).mpr (by omega)
      omega
    have hsml : hh < e → P ≤ 18446744073709551615 := by
      intro h
      have h3 : H / e < 18446744073709551616 := Int.ediv_lt_of_lt_mul he (by omega)
      omega
    have HBIG : Hid (e ≤ hh → 18446744073709551615 < P) := hbig
    have HSML : Hid (hh < e → P ≤ 18446744073709551615) := hsml
    clear hbig hsml h1 h2
    generalize hxh : hi64 X = xh at *
    generalize hxl : lo64 X = xl at *
    generalize hzh : hi64 Z = zh at *
    generalize hzl : lo64 Z = zl at *
    have A1 := fun w => add64_run xl zl 0 xl0 zl0 (by decide) (by decide) w
    simp only [Int.add_zero, aw1] at A1
    have A2 := fun w => add64_run xh zh (hi64 (xl + zl)) xh0 zh0 aw3 aw4 w
    simp only [aw2] at A2
    go_enter Yddm.func17, Yddm.ntmps17
    go_wp2_with fail
    refine (magnitude_any _ n1 n2 _).mono ?_
    rintro _ wx ⟨rfl, hw⟩
    subst wx
    go_wp2_with fail
    refine (gcd_gr _ _ (by omega) (by omega) (by omega) (by omega) _).mono ?_
    rintro _ w1 ⟨rfl, g1⟩
    have G1 := g1
    obtain ⟨hc1, hf1, hz1⟩ := gcell g1
    have s1 : w.heap.size + 1 < w1.heap.size := by simp at hz1; omega
    clear hz1 g1
    go_wp2_with fail
    refine (mul64_any _ _ m1 (by omega) qd1 (by omega) _).mono ?_
    rintro _ wx ⟨rfl, hw⟩
    subst wx
    go_wp2_with fail
    refine (mul64_any _ _ c1 (by omega) qb1 (by omega) _).mono ?_
    rintro _ wx ⟨rfl, hw⟩
    subst wx
    go_wp2_with fail
    refine (rem64_any _ _ _ Hh0 Hh1 Hl0 Hl1 hg (by omega) _).mono ?_
    rw [hHl]
    rintro _ w2 ⟨rfl, g2⟩
    go_wp2_with fail
    refine (gcd_gr _ _ (by omega) (Int.emod_nonneg _ hg0) (by omega) (by have := Int.emod_lt_of_pos H hg; omega) _).mono ?_
    rw [hem]
    rintro _ w3 ⟨rfl, g3⟩
    have G3 := (G1.trans g2).trans g3
    have g13 := g2.trans g3
    obtain ⟨hc3, hf3, hz3⟩ := gcell g13
    have s3 : w.heap.size + 1 < w3.heap.size := by omega
    clear hz3 g2 g3 g13 G1
    by_cases hge : e ≤ hh
    · have hf := fit_big (s := neg) (P := P) (Q := Q) (Or.inl (HBIG.out hge))
      have hr1 := ratN_no hf
      have hr2 := ratD_no hf
      clear HBIG HSML
      go_wp2_with fail
      refine bodyPost_ret (v := .tuple #[.agg #[.int .i64 0, .int .i64 0], .bool false]) ?_ rfl ⟨by first | rfl | rw [hr1, hr2, hf], ?_⟩
      · simp [results, Yddm.results17, go_sem, hc1, hc3, s1]
      · exact ((((Gr.refl _).alloc _ _).alloc _ _).trans G3).setCell (by simp) _ |>.setCell (by simp) _
    · have hP1 := HSML.out (by omega)
      clear HBIG HSML
      go_wp2_with fail
      refine (div64_any _ _ _ Hh0 (by omega) Hl0 Hl1 (by omega) _).mono ?_
      rw [hHl, hPv]
      rintro _ w4 ⟨rfl, g4⟩
      go_wp2_with fail
      go_quiet ((go_at_call 26; exact Calls.quiet_of_same (mul64_any _ _ qb1 (by omega) (by omega) (by omega) _)))
      have g5 := g4.drewN nq
      generalize w4.drewN nq = w5 at g5 ⊢
      have G5 := G3.trans g5
      obtain ⟨hc5, hf5, hz5⟩ := gcell g5
      have s5 : w.heap.size + 1 < w5.heap.size := by omega
      clear hz5 g4 g5 G3
      by_cases hQb : 18446744073709551615 < Q
      · have hi : (hi64 Q != 0) = true := bne_iff_ne.mpr (fun e => by have := (hi64_zero_iff hQ0).mp e; omega)
        have hf := fit_big (s := neg) (P := P) (Q := Q) (Or.inr hQb)
        have hr1 := ratN_no hf
        have hr2 := ratD_no hf
        go_wp2_with fail
        refine bodyPost_ret (v := .tuple #[.agg #[.int .i64 0, .int .i64 0], .bool false]) ?_ rfl ⟨by first | rfl | rw [hr1, hr2, hf], ?_⟩
        · simp [results, Yddm.results17, go_sem, hc1, hc3, hc5, s1, s3]
        · exact ((((Gr.refl _).alloc _ _).alloc _ _).trans G5).setCell (by simp) _ |>.setCell (by simp) _
      · have hQh : hi64 Q = 0 := (hi64_zero_iff hQ0).mpr (by omega)
        have hQl : lo64 Q = Q := lo64_of_small hQ0 (by omega)
        go_wp2_with fail
        refine (pack_any _ _ _ hPn hQ0 hP1 _).mono ?_
        rintro _ w6 ⟨rfl, g6⟩
        obtain ⟨hc6, hf6, hz6⟩ := gcell g6
        go_wp2_with fail
        refine bodyPost_ret (v := .tuple #[.agg #[.int .i64 (ratN (sg neg P) Q), .int .i64 (ratD (sg neg P) Q)], .bool (fitB (sg neg P) Q)]) ?_ rfl ⟨rfl, ?_⟩
        · simp [results, Yddm.results17, go_sem, hc1, hc3, hc5, hc6, s1, s3, s5]
        · exact (((((Gr.refl _).alloc _ _).alloc _ _).trans G5).trans g6).setCell (by simp) _ |>.setCell (by simp) _
  · have hsame' : (neg == ys) = false := by simpa using hsame
    have hZn := sg_not neg ys hsame' Z
    by_cases hle : Z ≤ X
    · have hs : sg neg (X - Z) = n * d' + sg ys c * b' := by rw [sg_sub, hsX, hsZ, hZn]; omega
      obtain ⟨aw1, aw2, aw3⟩ := sub_words X1 Z0 hle
      obtain ⟨aw4, aw5⟩ := bor_bound (lo64 X) (lo64 Z)
      obtain ⟨hVN, hVD⟩ := hred neg (X - Z) hs
      clear hred hs hsX hsZ
      have hev := hdvd (X - Z)
      have he : 0 < gz (X - Z) g := gz_pos_right (by omega)
      have hel := gz_le_right (a := X - Z) (b := g) hg
      have hem := gz_emod (X - Z) g
      have hHl := hl64 (X - Z)
      have Hl := lo64_bound (X - Z)
      have Hh : 0 ≤ hi64 (X - Z) ∧ hi64 (X - Z) ≤ 18446744073709551615 := by unfold hi64; omega
      have H0 : 0 ≤ X - Z := by omega
      generalize hHv : X - Z = H at *
      obtain ⟨Hl0, Hl1⟩ := Hl
      obtain ⟨Hh0, Hh1⟩ := Hh
      generalize hhh : hi64 H = hh at *
      generalize hhl : lo64 H = hl at *
      generalize hee : gz H g = e at *
      have qe1 := Int.ediv_pos_of_pos_of_dvd (show 0 < d by omega) (Int.le_of_lt he) hev
      have qe2 := ediv_le_self' (g := e) (show 0 ≤ d by omega)
      clear hev hdvd
      generalize hdev : d / e = de at *
      subst hVN
      subst hVD
      have he0 : ¬ e = 0 := by omega
      have hg0 : ¬ g = 0 := by omega
      have td := tdiv_of_nonneg e (show 0 ≤ d by omega)
      have tb := tdiv_of_nonneg g (show 0 ≤ b by omega)
      rw [hdev] at td
      rw [hbv] at tb
      have ud := wrapu_id (a := de) (by omega) (by omega)
      have ub := wrapu_id (a := b') (by omega) (by omega)
      have hQ0 := Int.mul_nonneg qb1 (show 0 ≤ de by omega)
      generalize hQv : b' * de = Q at *
      have hPn : 0 ≤ H / e := ediv_nonneg' H0 he
      generalize hPv : H / e = P at *
      have hbig : e ≤ hh → 18446744073709551615 < P := by
        intro h
        have h3 := (Int.le_ediv_iff_mul_le (a := 18446744073709551616) (b := H) he).mpr (by omega)
        omega
      have hsml : hh < e → P ≤ 18446744073709551615 := by
        intro h
        have h3 : H / e < 18446744073709551616 := Int.ediv_lt_of_lt_mul he (by omega)
        omega
      have HBIG : Hid (e ≤ hh → 18446744073709551615 < P) := hbig
      have HSML : Hid (hh < e → P ≤ 18446744073709551615) := hsml
      clear hbig hsml h1 h2
      generalize hxh : hi64 X = xh at *
      generalize hxl : lo64 X = xl at *
      generalize hzh : hi64 Z = zh at *
      generalize hzl : lo64 Z = zl at *
      generalize hbo : bor xl zl = bo at *
      have A1 := fun w => sub64_run xl zl 0 xl0 xl1 zl0 zl1 (by decide) (by decide) w
      simp only [Int.add_zero, Int.sub_zero, aw1, hbo] at A1
      have A2 := fun w => sub64_run xh zh bo xh0 (by omega) zh0 (by omega) aw4 aw5 w
      simp only [aw2, aw3] at A2
      go_enter Yddm.func17, Yddm.ntmps17
      go_wp2_with fail
      refine (magnitude_any _ n1 n2 _).mono ?_
      rintro _ wx ⟨rfl, hw⟩
      subst wx
      go_wp2_with fail
      refine (gcd_gr _ _ (by omega) (by omega) (by omega) (by omega) _).mono ?_
      rintro _ w1 ⟨rfl, g1⟩
      have G1 := g1
      obtain ⟨hc1, hf1, hz1⟩ := gcell g1
      have s1 : w.heap.size + 1 < w1.heap.size := by simp at hz1; omega
      clear hz1 g1
      go_wp2_with fail
      refine (mul64_any _ _ m1 (by omega) qd1 (by omega) _).mono ?_
      rintro _ wx ⟨rfl, hw⟩
      subst wx
      go_wp2_with fail
      refine (mul64_any _ _ c1 (by omega) qb1 (by omega) _).mono ?_
      rintro _ wx ⟨rfl, hw⟩
      subst wx
      go_wp2_with fail
      refine (rem64_any _ _ _ Hh0 Hh1 Hl0 Hl1 hg (by omega) _).mono ?_
      rw [hHl]
      rintro _ w2 ⟨rfl, g2⟩
      go_wp2_with fail
      refine (gcd_gr _ _ (by omega) (Int.emod_nonneg _ hg0) (by omega) (by have := Int.emod_lt_of_pos H hg; omega) _).mono ?_
      rw [hem]
      rintro _ w3 ⟨rfl, g3⟩
      have G3 := (G1.trans g2).trans g3
      have g13 := g2.trans g3
      obtain ⟨hc3, hf3, hz3⟩ := gcell g13
      have s3 : w.heap.size + 1 < w3.heap.size := by omega
      clear hz3 g2 g3 g13 G1
      by_cases hge : e ≤ hh
      · have hf := fit_big (s := neg) (P := P) (Q := Q) (Or.inl (HBIG.out hge))
        have hr1 := ratN_no hf
        have hr2 := ratD_no hf
        clear HBIG HSML
        go_wp2_with fail
        refine bodyPost_ret (v := .tuple #[.agg #[.int .i64 0, .int .i64 0], .bool false]) ?_ rfl ⟨by first | rfl | rw [hr1, hr2, hf], ?_⟩
        · simp [results, Yddm.results17, go_sem, hc1, hc3, s1]
        · exact ((((Gr.refl _).alloc _ _).alloc _ _).trans G3).setCell (by simp) _ |>.setCell (by simp) _
      · have hP1 := HSML.out (by omega)
        clear HBIG HSML
        go_wp2_with fail
        refine (div64_any _ _ _ Hh0 (by omega) Hl0 Hl1 (by omega) _).mono ?_
        rw [hHl, hPv]
        rintro _ w4 ⟨rfl, g4⟩
        go_wp2_with fail
        go_quiet ((go_at_call 26; exact Calls.quiet_of_same (mul64_any _ _ qb1 (by omega) (by omega) (by omega) _)))
        have g5 := g4.drewN nq
        generalize w4.drewN nq = w5 at g5 ⊢
        have G5 := G3.trans g5
        obtain ⟨hc5, hf5, hz5⟩ := gcell g5
        have s5 : w.heap.size + 1 < w5.heap.size := by omega
        clear hz5 g4 g5 G3
        by_cases hQb : 18446744073709551615 < Q
        · have hi : (hi64 Q != 0) = true := bne_iff_ne.mpr (fun e => by have := (hi64_zero_iff hQ0).mp e; omega)
          have hf := fit_big (s := neg) (P := P) (Q := Q) (Or.inr hQb)
          have hr1 := ratN_no hf
          have hr2 := ratD_no hf
          go_wp2_with fail
          refine bodyPost_ret (v := .tuple #[.agg #[.int .i64 0, .int .i64 0], .bool false]) ?_ rfl ⟨by first | rfl | rw [hr1, hr2, hf], ?_⟩
          · simp [results, Yddm.results17, go_sem, hc1, hc3, hc5, s1, s3]
          · exact ((((Gr.refl _).alloc _ _).alloc _ _).trans G5).setCell (by simp) _ |>.setCell (by simp) _
        · have hQh : hi64 Q = 0 := (hi64_zero_iff hQ0).mpr (by omega)
          have hQl : lo64 Q = Q := lo64_of_small hQ0 (by omega)
          go_wp2_with fail
          refine (pack_any _ _ _ hPn hQ0 hP1 _).mono ?_
          rintro _ w6 ⟨rfl, g6⟩
          obtain ⟨hc6, hf6, hz6⟩ := gcell g6
          go_wp2_with fail
          refine bodyPost_ret (v := .tuple #[.agg #[.int .i64 (ratN (sg neg P) Q), .int .i64 (ratD (sg neg P) Q)], .bool (fitB (sg neg P) Q)]) ?_ rfl ⟨rfl, ?_⟩
          · simp [results, Yddm.results17, go_sem, hc1, hc3, hc5, hc6, s1, s3, s5]
          · exact (((((Gr.refl _).alloc _ _).alloc _ _).trans G5).trans g6).setCell (by simp) _ |>.setCell (by simp) _
    · have hlt : X < Z := by omega
      have hs : sg ys (Z - X) = n * d' + sg ys c * b' := by
        have hXn := sg_not neg ys hsame' X
        rw [sg_sub, hXn, hsX, hsZ]; omega
      obtain ⟨aw1, aw2, aw3⟩ := sub_words Z1 X0 (Int.le_of_lt hlt)
      have aw6 := sub_words_lt hlt
      obtain ⟨aw4, aw5⟩ := bor_bound (lo64 X) (lo64 Z)
      obtain ⟨aw7, aw8⟩ := bor_bound (lo64 Z) (lo64 X)
      obtain ⟨hVN, hVD⟩ := hred ys (Z - X) hs
      clear hred hs hsX hsZ
      have hev := hdvd (Z - X)
      have he : 0 < gz (Z - X) g := gz_pos_right (by omega)
      have hel := gz_le_right (a := Z - X) (b := g) hg
      have hem := gz_emod (Z - X) g
      have hHl := hl64 (Z - X)
      have Hl := lo64_bound (Z - X)
      have Hh : 0 ≤ hi64 (Z - X) ∧ hi64 (Z - X) ≤ 18446744073709551615 := by unfold hi64; omega
      have H0 : 0 ≤ Z - X := by omega
      generalize hHv : Z - X = H at *
      obtain ⟨Hl0, Hl1⟩ := Hl
      obtain ⟨Hh0, Hh1⟩ := Hh
      generalize hhh : hi64 H = hh at *
      generalize hhl : lo64 H = hl at *
      generalize hee : gz H g = e at *
      have qe1 := Int.ediv_pos_of_pos_of_dvd (show 0 < d by omega) (Int.le_of_lt he) hev
      have qe2 := ediv_le_self' (g := e) (show 0 ≤ d by omega)
      clear hev hdvd
      generalize hdev : d / e = de at *
      subst hVN
      subst hVD
      have he0 : ¬ e = 0 := by omega
      have hg0 : ¬ g = 0 := by omega
      have td := tdiv_of_nonneg e (show 0 ≤ d by omega)
      have tb := tdiv_of_nonneg g (show 0 ≤ b by omega)
      rw [hdev] at td
      rw [hbv] at tb
      have ud := wrapu_id (a := de) (by omega) (by omega)
      have ub := wrapu_id (a := b') (by omega) (by omega)
      have hQ0 := Int.mul_nonneg qb1 (show 0 ≤ de by omega)
      generalize hQv : b' * de = Q at *
      have hPn : 0 ≤ H / e := ediv_nonneg' H0 he
      generalize hPv : H / e = P at *
      have hbig : e ≤ hh → 18446744073709551615 < P := by
        intro h
        have h3 := (Int.le_ediv_iff_mul_le (a := 18446744073709551616) (b := H) he).mpr (by omega)
        omega
      have hsml : hh < e → P ≤ 18446744073709551615 := by
        intro h
        have h3 : H / e < 18446744073709551616 := Int.ediv_lt_of_lt_mul he (by omega)
        omega
      have HBIG : Hid (e ≤ hh → 18446744073709551615 < P) := hbig
      have HSML : Hid (hh < e → P ≤ 18446744073709551615) := hsml
      clear hbig hsml h1 h2
      generalize hxh : hi64 X = xh at *
      generalize hxl : lo64 X = xl at *
      generalize hzh : hi64 Z = zh at *
      generalize hzl : lo64 Z = zl at *
      generalize hbo : bor xl zl = bo at *
      generalize hbp : bor zl xl = bp at *
      have A1 := fun w => sub64_run xl zl 0 xl0 xl1 zl0 zl1 (by decide) (by decide) w
      simp only [Int.add_zero, Int.sub_zero, hbo] at A1
      have A2 := fun w => sub64_run xh zh bo xh0 (by omega) zh0 (by omega) aw4 aw5 w
      simp only [aw6] at A2
      have A3 := fun w => sub64_run zl xl 0 zl0 zl1 xl0 xl1 (by decide) (by decide) w
      simp only [Int.add_zero, Int.sub_zero, aw1, hbp] at A3
      have A4 := fun w => sub64_run zh xh bp zh0 (by omega) xh0 (by omega) aw7 aw8 w
      simp only [aw2] at A4
      go_enter Yddm.func17, Yddm.ntmps17
      go_wp2_with fail
      refine (magnitude_any _ n1 n2 _).mono ?_
      rintro _ wx ⟨rfl, hw⟩
      subst wx
      go_wp2_with fail
      refine (gcd_gr _ _ (by omega) (by omega) (by omega) (by omega) _).mono ?_
      rintro _ w1 ⟨rfl, g1⟩
      have G1 := g1
      obtain ⟨hc1, hf1, hz1⟩ := gcell g1
      have s1 : w.heap.size + 1 < w1.heap.size := by simp at hz1; omega
      clear hz1 g1
      go_wp2_with fail
      refine (mul64_any _ _ m1 (by omega) qd1 (by omega) _).mono ?_
      rintro _ wx ⟨rfl, hw⟩
      subst wx
      go_wp2_with fail
      refine (mul64_any _ _ c1 (by omega) qb1 (by omega) _).mono ?_
      rintro _ wx ⟨rfl, hw⟩
      subst wx
      go_wp2_with fail
      refine (rem64_any _ _ _ Hh0 Hh1 Hl0 Hl1 hg (by omega) _).mono ?_
      rw [hHl]
      rintro _ w2 ⟨rfl, g2⟩
      go_wp2_with fail
      refine (gcd_gr _ _ (by omega) (Int.emod_nonneg _ hg0) (by omega) (by have := Int.emod_lt_of_pos H hg; omega) _).mono ?_
      rw [hem]
      rintro _ w3 ⟨rfl, g3⟩
      have G3 := (G1.trans g2).trans g3
      have g13 := g2.trans g3
      obtain ⟨hc3, hf3, hz3⟩ := gcell g13
      have s3 : w.heap.size + 1 < w3.heap.size := by omega
      clear hz3 g2 g3 g13 G1
      by_cases hge : e ≤ hh
      · have hf := fit_big (s := ys) (P := P) (Q := Q) (Or.inl (HBIG.out hge))
        have hr1 := ratN_no hf
        have hr2 := ratD_no hf
        clear HBIG HSML
        go_wp2_with fail
        refine bodyPost_ret (v := .tuple #[.agg #[.int .i64 0, .int .i64 0], .bool false]) ?_ rfl ⟨by first | rfl | rw [hr1, hr2, hf], ?_⟩
        · simp [results, Yddm.results17, go_sem, hc1, hc3, s1]
        · exact ((((Gr.refl _).alloc _ _).alloc _ _).trans G3).setCell (by simp) _ |>.setCell (by simp) _
      · have hP1 := HSML.out (by omega)
        clear HBIG HSML
        go_wp2_with fail
        refine (div64_any _ _ _ Hh0 (by omega) Hl0 Hl1 (by omega) _).mono ?_
        rw [hHl, hPv]
        rintro _ w4 ⟨rfl, g4⟩
        go_wp2_with fail
        go_quiet ((go_at_call 26; exact Calls.quiet_of_same (mul64_any _ _ qb1 (by omega) (by omega) (by omega) _)))
        have g5 := g4.drewN nq
        generalize w4.drewN nq = w5 at g5 ⊢
        have G5 := G3.trans g5
        obtain ⟨hc5, hf5, hz5⟩ := gcell g5
        have s5 : w.heap.size + 1 < w5.heap.size := by omega
        clear hz5 g4 g5 G3
        by_cases hQb : 18446744073709551615 < Q
        · have hi : (hi64 Q != 0) = true := bne_iff_ne.mpr (fun e => by have := (hi64_zero_iff hQ0).mp e; omega)
          have hf := fit_big (s := ys) (P := P) (Q := Q) (Or.inr hQb)
          have hr1 := ratN_no hf
          have hr2 := ratD_no hf
          go_wp2_with fail
          refine bodyPost_ret (v := .tuple #[.agg #[.int .i64 0, .int .i64 0], .bool false]) ?_ rfl ⟨by first | rfl | rw [hr1, hr2, hf], ?_⟩
          · simp [results, Yddm.results17, go_sem, hc1, hc3, hc5, s1, s3]
          · exact ((((Gr.refl _).alloc _ _).alloc _ _).trans G5).setCell (by simp) _ |>.setCell (by simp) _
        · have hQh : hi64 Q = 0 := (hi64_zero_iff hQ0).mpr (by omega)
          have hQl : lo64 Q = Q := lo64_of_small hQ0 (by omega)
          go_wp2_with fail
          refine (pack_any _ _ _ hPn hQ0 hP1 _).mono ?_
          rintro _ w6 ⟨rfl, g6⟩
          obtain ⟨hc6, hf6, hz6⟩ := gcell g6
          go_wp2_with fail
          refine bodyPost_ret (v := .tuple #[.agg #[.int .i64 (ratN (sg ys P) Q), .int .i64 (ratD (sg ys P) Q)], .bool (fitB (sg ys P) Q)]) ?_ rfl ⟨rfl, ?_⟩
          · simp [results, Yddm.results17, go_sem, hc1, hc3, hc5, hc6, s1, s3, s5]
          · exact (((((Gr.refl _).alloc _ _).alloc _ _).trans G5).trans g6).setCell (by simp) _ |>.setCell (by simp) _
end Go.Proofs.Ymbrdd
