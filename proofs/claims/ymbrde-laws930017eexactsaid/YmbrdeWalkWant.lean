/-
  THE WALKS (seat e): evalid, ewant.
-/
import Derived.Test.YmbrdeWalkDiv
namespace Go.Proofs.Ymbrde
open Go.RowKit

set_option maxHeartbeats 1000000 in
theorem evalid_any (n d : Int) (n1 : -9223372036854775808 ≤ n) (n2 : n ≤ 9223372036854775807) (d2 : d ≤ 9223372036854775807) (w : World) :
    Calls Ydem.prog 39 #[.agg #[.int .i64 n, .int .i64 d]] w fun e w' => e = .returned (.bool (validB n d)) ∧ Gr w w' := by
  by_cases hd : 1 ≤ d
  · have m1 := magZ_nonneg n
    have m2 := magZ_le n1 n2
    have hv : Hid (validB n d = (gz (magZ n) d == 1)) := by
      show _ = _
      rw [validB_of hd, gz_mag_left, ← Bool.beq_eq_decide_eq]
    have u1 := wrapu_id (a := d) (by omega) (by omega)
    have X := fun w => xmag_any n n1 n2 w
    have Y := fun w => xgcd_any (magZ n) d m1 (by omega) (by omega) (by omega) w
    go_enter Ydem.func39, Ydem.ntmps39
    go_wp2_with fail
    go_quiet ((first | (go_at_call 35; exact Calls.quiet_of_same (X _)) | (go_at_call 34; exact Calls.quiet_of_same (Y _))))
    go_wp2_with fail
    go_ret
    exact ⟨by rw [hv.out]; rfl, ((Gr.refl _).alloc _ _).drewN _⟩
  · have hv := validB_low (n := n) (d := d) (by omega)
    have hd' : decide (1 ≤ d) = false := by simpa using hd
    go_enter Ydem.func39, Ydem.ntmps39
    go_wp2_with fail
    go_quiet (fail)
    go_wp2_with fail
    go_ret
    exact ⟨by rw [hv]; rfl, ((Gr.refl _).alloc _ _).drewN _⟩

theorem lim_div {L A C : Int} (hA : 0 < A) : L / A < C ↔ L < A * C := by rw [Int.ediv_lt_iff_lt_mul hA, Int.mul_comm]

set_option maxHeartbeats 4000000 in
theorem want_any (a b c d : Int) (a1 : -9223372036854775808 ≤ a) (a2 : a ≤ 9223372036854775807) (b2 : b ≤ 9223372036854775807)
    (c1 : -9223372036854775808 ≤ c) (c2 : c ≤ 9223372036854775807) (d2 : d ≤ 9223372036854775807) (w : World) :
    Calls Ydem.prog 18 #[.agg #[.int .i64 a, .int .i64 b], .agg #[.int .i64 c, .int .i64 d]] w fun e w' =>
      e = .returned (.tuple #[.agg #[.int .i64 (mulN a b c d), .int .i64 (mulD a b c d)], .bool (mulB a b c d)]) ∧ Gr w w' := by
  by_cases hv1 : validB a b = true
  · by_cases hv2 : validB c d = true
    · obtain ⟨hB, hN, hD⟩ := mul_val hv1 hv2
      obtain ⟨r1, r2⟩ := mul_red hv1 hv2
      rw [hB, hN, hD, ← r1, ← r2]
      clear hB hN hD r1 r2
      have b1 := (validB_iff.mp hv1).1
      have d1 := (validB_iff.mp hv2).1
      have m1 := magZ_nonneg a
      have m2 := magZ_le a1 a2
      have m3 := magZ_nonneg c
      have m4 := magZ_le c1 c2
      have g1 : 0 < gz (magZ a) d := gz_pos_right (by omega)
      have g2 : 0 < gz (magZ c) b := gz_pos_right (by omega)
      have qa1 := ediv_nonneg' m1 g1
      have qa2 := ediv_le_self' (g := gz (magZ a) d) m1
      have qc1 := ediv_nonneg' m3 g2
      have qc2 := ediv_le_self' (g := gz (magZ c) b) m3
      have qb1 := Int.ediv_pos_of_pos_of_dvd (show 0 < b by omega) (Int.le_of_lt g2) (gz_dvd_right (magZ c) b)
      have qb2 := ediv_le_self' (g := gz (magZ c) b) (show 0 ≤ b by omega)
      have qd1 := Int.ediv_pos_of_pos_of_dvd (show 0 < d by omega) (Int.le_of_lt g1) (gz_dvd_right (magZ a) d)
      have qd2 := ediv_le_self' (g := gz (magZ a) d) (show 0 ≤ d by omega)
      have hP : magZ a / gz (magZ a) d * (magZ c / gz (magZ c) b) = crossP (magZ a) b (magZ c) d := rfl
      have hQ : b / gz (magZ c) b * (d / gz (magZ a) d) = crossQ (magZ a) b (magZ c) d := rfl
      generalize crossP (magZ a) b (magZ c) d = P at *
      generalize crossQ (magZ a) b (magZ c) d = Q at *
      have P0 : 0 ≤ P := by rw [← hP]; exact Int.mul_nonneg qa1 qc1
      have Q0 : 0 < Q := by rw [← hQ]; exact Int.mul_pos qb1 qd1
      generalize hgv : gz (magZ a) d = g at *
      generalize hhv : gz (magZ c) b = h at *
      generalize hav : magZ a / g = A at *
      generalize hcv : magZ c / h = C at *
      generalize hbv : b / h = B at *
      generalize hdv : d / g = D at *
      generalize hneg : (!(decide (a < 0) == decide (c < 0))) = neg at *
      have A2 : A ≤ 9223372036854775808 := by omega
      have C2 : C ≤ 9223372036854775808 := by omega
      have B2 : B ≤ 9223372036854775807 := by omega
      have D2 : D ≤ 9223372036854775807 := by omega
      go_enter Ydem.func18, Ydem.ntmps18
      go_wp2_with fail
      refine (evalid_any _ _ a1 a2 b2 _).mono ?_
      rintro e w1 ⟨rfl, k1⟩
      obtain ⟨hc1, hf1, hz1⟩ := gcell k1
      have s1 : w.heap.size < w1.heap.size := by simp at hz1; omega
      have s2 : w.heap.size + 1 < w1.heap.size := by simp at hz1; omega
      have s3 : w.heap.size + 1 + 1 < w1.heap.size := by simp at hz1; omega
      clear hz1
      go_wp2_with fail
      refine (evalid_any _ _ c1 c2 d2 _).mono ?_
      rintro e w2 ⟨rfl, k2⟩
      obtain ⟨hc2, hf2, hz2⟩ := gcell k2
      clear hz2
      have G2 : Gr w w2 := (((((Gr.refl _).alloc _ _).alloc _ _).alloc _ _).trans k1).trans k2
      clear k1 k2
      go_wp2_with fail
      refine (xmag_any _ a1 a2 _).mono ?_
      rintro e wx ⟨rfl, hw⟩
      subst wx
      go_wp2_with fail
      refine (xmag_any _ c1 c2 _).mono ?_
      rintro e wx ⟨rfl, hw⟩
      subst wx
      go_wp2_with fail
      refine (xgcd_any _ _ m1 (by omega) (by omega) (by omega) _).mono ?_
      rintro e wx ⟨rfl, hw⟩
      subst wx
      go_wp2_with fail
      refine (xgcd_any _ _ m3 (by omega) (by omega) (by omega) _).mono ?_
      rintro e wx ⟨rfl, hw⟩
      subst wx
      cases neg
      · have hfit := fit_pos (P := P) (Q := Q) P0
        have lB := lim_div (L := 9223372036854775807) (C := D) qb1
        rw [hQ] at lB
        have LB : Hid (9223372036854775807 / B < D ↔ 9223372036854775807 < Q) := lB
        clear lB
        by_cases hA : A = 0
        · have hPz : P = 0 := by rw [← hP, hA, Int.zero_mul]
          by_cases hQb : 9223372036854775807 < Q
          · have hdb := LB.out.mpr hQb
            have hf : fitB (sg false P) Q = false := Bool.eq_false_iff.mpr (fun h => by have := (hfit.mp h).2; omega)
            clear hfit LB hPz
            subst hA
            have hr1 := ratN_no hf
            have hr2 := ratD_no hf
            go_wp2_with fail
            refine bodyPost_ret (v := .tuple #[.agg #[.int .i64 0, .int .i64 0], .bool false]) ?_ rfl ⟨by first | rfl | rw [hr1, hr2, hf], ?_⟩
            · simp [results, Ydem.results18, go_sem, hc1, hc2, s3]
            · exact G2.setCell (by simp; omega) _ |>.setCell (by simp; omega) _
          · have hdb : ¬ 9223372036854775807 / B < D := fun h => hQb (LB.out.mp h)
            have hf : fitB (sg false P) Q = true := hfit.mpr ⟨by omega, by omega⟩
            have hPH : Hid (P = 0) := hPz
            clear hfit LB hPz
            subst hA
            have hr1 : ratN (sg false P) Q = P := ratN_yes hf
            have hr2 := ratD_yes hf
            have hwb := wrap_back P0 (by omega)
            go_wp2_with fail
            refine bodyPost_ret (v := .tuple #[.agg #[.int .i64 (P), .int .i64 Q], .bool true]) ?_ rfl ⟨by first | rfl | rw [hr1, hr2, hf], ?_⟩
            · simp [results, Ydem.results18, go_sem, hc1, hc2, s3]
            · exact G2.setCell (by simp; omega) _ |>.setCell (by simp; omega) _
        · have hA' : (A != 0) = true := by simpa using hA
          have lA := lim_div (L := 9223372036854775807) (A := A) (C := C) (by omega)
          rw [hP] at lA
          by_cases hPb : 9223372036854775807 < P
          · have hda := lA.mpr hPb
            have hf : fitB (sg false P) Q = false := Bool.eq_false_iff.mpr (fun h => by have := (hfit.mp h).1; omega)
            clear hfit LB lA
            have hr1 := ratN_no hf
            have hr2 := ratD_no hf
            go_wp2_with fail
            refine bodyPost_ret (v := .tuple #[.agg #[.int .i64 0, .int .i64 0], .bool false]) ?_ rfl ⟨by first | rfl | rw [hr1, hr2, hf], ?_⟩
            · simp [results, Ydem.results18, go_sem, hc1, hc2, s3]
            · exact G2.setCell (by simp; omega) _ |>.setCell (by simp; omega) _
          · have hda : ¬ 9223372036854775807 / A < C := fun h => hPb (lA.mp h)
            by_cases hQb : 9223372036854775807 < Q
            · have hdb := LB.out.mpr hQb
              have hf : fitB (sg false P) Q = false := Bool.eq_false_iff.mpr (fun h => by have := (hfit.mp h).2; omega)
              clear hfit LB lA
              have hr1 := ratN_no hf
              have hr2 := ratD_no hf
              go_wp2_with fail
              refine bodyPost_ret (v := .tuple #[.agg #[.int .i64 0, .int .i64 0], .bool false]) ?_ rfl ⟨by first | rfl | rw [hr1, hr2, hf], ?_⟩
              · simp [results, Ydem.results18, go_sem, hc1, hc2, s3]
              · exact G2.setCell (by simp; omega) _ |>.setCell (by simp; omega) _
            · have hdb : ¬ 9223372036854775807 / B < D := fun h => hQb (LB.out.mp h)
              have hf : fitB (sg false P) Q = true := hfit.mpr ⟨by omega, by omega⟩
              clear hfit LB lA
              have hr1 : ratN (sg false P) Q = P := ratN_yes hf
              have hr2 := ratD_yes hf
              have hwb := wrap_back P0 (by omega)
              go_wp2_with fail
              refine bodyPost_ret (v := .tuple #[.agg #[.int .i64 (P), .int .i64 Q], .bool true]) ?_ rfl ⟨by first | rfl | rw [hr1, hr2, hf], ?_⟩
              · simp [results, Ydem.results18, go_sem, hc1, hc2, s3]
              · exact G2.setCell (by simp; omega) _ |>.setCell (by simp; omega) _
      · have hfit := fit_neg (P := P) (Q := Q) P0
        have lB := lim_div (L := 9223372036854775807) (C := D) qb1
        rw [hQ] at lB
        have LB : Hid (9223372036854775807 / B < D ↔ 9223372036854775807 < Q) := lB
        clear lB
        by_cases hA : A = 0
        · have hPz : P = 0 := by rw [← hP, hA, Int.zero_mul]
          by_cases hQb : 9223372036854775807 < Q
          · have hdb := LB.out.mpr hQb
            have hf : fitB (sg true P) Q = false := Bool.eq_false_iff.mpr (fun h => by have := (hfit.mp h).2; omega)
            clear hfit LB hPz
            subst hA
            have hr1 := ratN_no hf
            have hr2 := ratD_no hf
            go_wp2_with fail
            refine bodyPost_ret (v := .tuple #[.agg #[.int .i64 0, .int .i64 0], .bool false]) ?_ rfl ⟨by first | rfl | rw [hr1, hr2, hf], ?_⟩
            · simp [results, Ydem.results18, go_sem, hc1, hc2, s3]
            · exact G2.setCell (by simp; omega) _ |>.setCell (by simp; omega) _
          · have hdb : ¬ 9223372036854775807 / B < D := fun h => hQb (LB.out.mp h)
            have hf : fitB (sg true P) Q = true := hfit.mpr ⟨by omega, by omega⟩
            have hPH : Hid (P = 0) := hPz
            clear hfit LB hPz
            subst hA
            have hr1 : ratN (sg true P) Q = -P := ratN_yes hf
            have hr2 := ratD_yes hf
            have hwb := wrap_back P0 (by omega)
            go_wp2_with fail
            refine bodyPost_ret (v := .tuple #[.agg #[.int .i64 (-P), .int .i64 Q], .bool true]) ?_ rfl ⟨by first | rfl | rw [hr1, hr2, hf], ?_⟩
            · simp [results, Ydem.results18, go_sem, hc1, hc2, s3]
            · exact G2.setCell (by simp; omega) _ |>.setCell (by simp; omega) _
        · have hA' : (A != 0) = true := by simpa using hA
          have lA := lim_div (L := 9223372036854775808) (A := A) (C := C) (by omega)
          rw [hP] at lA
          by_cases hPb : 9223372036854775808 < P
          · have hda := lA.mpr hPb
            have hf : fitB (sg true P) Q = false := Bool.eq_false_iff.mpr (fun h => by have := (hfit.mp h).1; omega)
            clear hfit LB lA
            have hr1 := ratN_no hf
            have hr2 := ratD_no hf
            go_wp2_with fail
            refine bodyPost_ret (v := .tuple #[.agg #[.int .i64 0, .int .i64 0], .bool false]) ?_ rfl ⟨by first | rfl | rw [hr1, hr2, hf], ?_⟩
            · simp [results, Ydem.results18, go_sem, hc1, hc2, s3]
            · exact G2.setCell (by simp; omega) _ |>.setCell (by simp; omega) _
          · have hda : ¬ 9223372036854775808 / A < C := fun h => hPb (lA.mp h)
            by_cases hQb : 9223372036854775807 < Q
            · have hdb := LB.out.mpr hQb
              have hf : fitB (sg true P) Q = false := Bool.eq_false_iff.mpr (fun h => by have := (hfit.mp h).2; omega)
              clear hfit LB lA
              have hr1 := ratN_no hf
              have hr2 := ratD_no hf
              go_wp2_with fail
              refine bodyPost_ret (v := .tuple #[.agg #[.int .i64 0, .int .i64 0], .bool false]) ?_ rfl ⟨by first | rfl | rw [hr1, hr2, hf], ?_⟩
              · simp [results, Ydem.results18, go_sem, hc1, hc2, s3]
              · exact G2.setCell (by simp; omega) _ |>.setCell (by simp; omega) _
            · have hdb : ¬ 9223372036854775807 / B < D := fun h => hQb (LB.out.mp h)
              have hf : fitB (sg true P) Q = true := hfit.mpr ⟨by omega, by omega⟩
              clear hfit LB lA
              have hr1 : ratN (sg true P) Q = -P := ratN_yes hf
              have hr2 := ratD_yes hf
              have hwb := wrap_back P0 (by omega)
              go_wp2_with fail
              refine bodyPost_ret (v := .tuple #[.agg #[.int .i64 (-P), .int .i64 Q], .bool true]) ?_ rfl ⟨by first | rfl | rw [hr1, hr2, hf], ?_⟩
              · simp [results, Ydem.results18, go_sem, hc1, hc2, s3]
              · exact G2.setCell (by simp; omega) _ |>.setCell (by simp; omega) _
    · have hv2 : validB c d = false := by simpa using hv2
      obtain ⟨hB, hN, hD⟩ := mul_inv (a := a) (b := b) (Or.inr hv2)
      rw [hB, hN, hD]
      go_enter Ydem.func18, Ydem.ntmps18
      go_wp2_with fail
      refine (evalid_any _ _ a1 a2 b2 _).mono ?_
      rintro e w1 ⟨rfl, g1⟩
      obtain ⟨hc1, hf1, hz1⟩ := gcell g1
      have s2 : w.heap.size + 1 < w1.heap.size := by simp at hz1; omega
      have s3 : w.heap.size + 1 + 1 < w1.heap.size := by simp at hz1; omega
      clear hz1
      go_wp2_with fail
      refine (evalid_any _ _ c1 c2 d2 _).mono ?_
      rintro e w2 ⟨rfl, g2⟩
      obtain ⟨hc2, hf2, hz2⟩ := gcell g2
      clear hz2
      go_wp2_with fail
      refine bodyPost_ret (v := .tuple #[.agg #[.int .i64 0, .int .i64 0], .bool false]) ?_ rfl ⟨rfl, ?_⟩
      · simp [results, Ydem.results18, go_sem, hc1, hc2, s3]
      · exact ((((((Gr.refl _).alloc _ _).alloc _ _).alloc _ _).trans g1).trans g2).setCell (by simp; omega) _ |>.setCell (by simp; omega) _
  · have hv1 : validB a b = false := by simpa using hv1
    obtain ⟨hB, hN, hD⟩ := mul_inv (c := c) (d := d) (Or.inl hv1)
    rw [hB, hN, hD]
    go_enter Ydem.func18, Ydem.ntmps18
    go_wp2_with fail
    refine (evalid_any _ _ a1 a2 b2 _).mono ?_
    rintro e w1 ⟨rfl, g1⟩
    obtain ⟨hc1, hf1, hz1⟩ := gcell g1
    clear hz1
    go_wp2_with fail
    refine bodyPost_ret (v := .tuple #[.agg #[.int .i64 0, .int .i64 0], .bool false]) ?_ rfl ⟨rfl, ?_⟩
    · simp [results, Ydem.results18, go_sem, hc1]
    · exact (((((Gr.refl _).alloc _ _).alloc _ _).alloc _ _).trans g1).setCell (by simp; omega) _ |>.setCell (by simp; omega) _
end Go.Proofs.Ymbrde
