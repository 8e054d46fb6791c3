/-
  THE WALKS: product.
-/
import Derived.Test.YmbrdeWalkB
import Derived.Test.YmbrdeWalkM
namespace Go.Proofs.Ymbrde
open Go.RowKit

set_option maxHeartbeats 1000000 in
theorem product_any (neg : Bool) (a b c d : Int) (a1 : 0 ≤ a) (a2 : a ≤ 18446744073709551615) (b1 : 1 ≤ b) (b2 : b ≤ 18446744073709551615)
    (c1 : 0 ≤ c) (c2 : c ≤ 18446744073709551615) (d1 : 1 ≤ d) (d2 : d ≤ 18446744073709551615) (w : World) :
    Calls Ydem.prog 38 #[.bool neg, .int .u64 a, .int .u64 b, .int .u64 c, .int .u64 d] w fun e w' =>
      e = .returned (.tuple #[.agg #[.int .i64 (ratN (sg neg (crossP a b c d)) (crossQ a b c d)), .int .i64 (ratD (sg neg (crossP a b c d)) (crossQ a b c d))], .bool (fitB (sg neg (crossP a b c d)) (crossQ a b c d))]) ∧ Gr w w' := by
  have hg : 0 < gz a d := gz_pos_right (by omega)
  have hh : 0 < gz c b := gz_pos_right (by omega)
  have hg0 : ¬ gz a d = 0 := by omega
  have hh0 : ¬ gz c b = 0 := by omega
  have q1 := ediv_nonneg' a1 hg
  have q2 := ediv_le_self' (g := gz a d) a1
  have q3 := ediv_nonneg' c1 hh
  have q4 := ediv_le_self' (g := gz c b) c1
  have q5 := ediv_nonneg' (show 0 ≤ b by omega) hh
  have q6 := ediv_le_self' (g := gz c b) (show 0 ≤ b by omega)
  have q7 := ediv_nonneg' (show 0 ≤ d by omega) hg
  have q8 := ediv_le_self' (g := gz a d) (show 0 ≤ d by omega)
  have hP : 0 ≤ crossP a b c d := Int.mul_nonneg q1 q3
  have hQ : 0 ≤ crossQ a b c d := Int.mul_nonneg q5 q7
  have eP : a / gz a d * (c / gz c b) = crossP a b c d := rfl
  have eQ : b / gz c b * (d / gz a d) = crossQ a b c d := rfl
  have t1 := tdiv_of_nonneg (gz a d) a1
  have t2 := tdiv_of_nonneg (gz c b) c1
  have t3 := tdiv_of_nonneg (gz c b) (show 0 ≤ b by omega)
  have t4 := tdiv_of_nonneg (gz a d) (show 0 ≤ d by omega)
  have u1 := wrapu_id q1 (by omega)
  have u2 := wrapu_id q3 (by omega)
  have u3 := wrapu_id q5 (by omega)
  have u4 := wrapu_id q7 (by omega)
  generalize crossP a b c d = P at *
  generalize crossQ a b c d = Q at *
  generalize hgv : gz a d = g at *
  generalize hhv : gz c b = h at *
  go_enter Ydem.func38, Ydem.ntmps38
  go_wp2_with fail
  refine (gcd_gr _ _ (by omega) (by omega) (by omega) (by omega) _).mono ?_
  rintro e w1 ⟨rfl, g1⟩
  go_wp2_with fail
  refine (gcd_gr _ _ (by omega) (by omega) (by omega) (by omega) _).mono ?_
  rintro e w2 ⟨rfl, g2⟩
  have G2 := g1.trans g2
  clear g1 g2
  go_wp2_with fail
  go_quiet ((go_at_call 45; exact Calls.quiet_of_same (mul64_any _ _ q1 (by omega) q3 (by omega) _)))
  have G3 := G2.drewN nq
  generalize w2.drewN nq = w3 at G3 ⊢
  clear G2 nq
  go_wp2_with fail
  go_quiet ((go_at_call 45; exact Calls.quiet_of_same (mul64_any _ _ q5 (by omega) q7 (by omega) _)))
  have G4 := G3.drewN nq
  generalize w3.drewN nq = w4 at G4 ⊢
  clear G3 nq
  obtain ⟨hc4, hf4, hz4⟩ := gcell G4
  have hz4a : w.heap.size < w4.heap.size := by simp at hz4; omega
  clear hz4
  simp only [eP, eQ]
  clear eP eQ
  by_cases hPb : 18446744073709551615 < P
  · have hi : (hi64 P != 0) = true := bne_iff_ne.mpr (fun e => by have := (hi64_zero_iff hP).mp e; omega)
    have hf := fit_big (s := neg) (P := P) (Q := Q) (Or.inl hPb)
    have hr1 := ratN_no hf
    have hr2 := ratD_no hf
    go_wp2_with fail
    refine bodyPost_ret (v := .tuple #[.agg #[.int .i64 0, .int .i64 0], .bool false]) ?_ rfl ⟨by first | rfl | rw [hr1, hr2, hf], ?_⟩
    · simp [results, Ydem.results38, go_sem, hc4]
    · exact (((Gr.refl _).alloc _ _).trans G4).setCell (by simp) _ |>.setCell (by simp) _
  · have hP0 : hi64 P = 0 := (hi64_zero_iff hP).mpr (by omega)
    have hPl : lo64 P = P := lo64_of_small hP (by omega)
    by_cases hQb : 18446744073709551615 < Q
    · have hi : (hi64 Q != 0) = true := bne_iff_ne.mpr (fun e => by have := (hi64_zero_iff hQ).mp e; omega)
      have hf := fit_big (s := neg) (P := P) (Q := Q) (Or.inr hQb)
      have hr1 := ratN_no hf
      have hr2 := ratD_no hf
      go_wp2_with fail
      refine bodyPost_ret (v := .tuple #[.agg #[.int .i64 0, .int .i64 0], .bool false]) ?_ rfl ⟨by first | rfl | rw [hr1, hr2, hf], ?_⟩
      · simp [results, Ydem.results38, go_sem, hc4]
      · exact (((Gr.refl _).alloc _ _).trans G4).setCell (by simp) _ |>.setCell (by simp) _
    · have hQ0 : hi64 Q = 0 := (hi64_zero_iff hQ).mpr (by omega)
      have hQl : lo64 Q = Q := lo64_of_small hQ (by omega)
      go_wp2_with fail
      refine (pack_any _ _ _ hP hQ (by omega) _).mono ?_
      rintro e w5 ⟨rfl, g5⟩
      obtain ⟨hc5, hf5, hz5⟩ := gcell g5
      go_wp2_with fail
      refine bodyPost_ret (v := .tuple #[.agg #[.int .i64 (ratN (sg neg P) Q), .int .i64 (ratD (sg neg P) Q)], .bool (fitB (sg neg P) Q)]) ?_ rfl ⟨rfl, ?_⟩
      · simp [results, Ydem.results38, go_sem, hc4, hc5, hz4a]
      · exact ((((Gr.refl _).alloc _ _).trans G4).trans g5).setCell (by simp) _ |>.setCell (by simp) _
end Go.Proofs.Ymbrde
