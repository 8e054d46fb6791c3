/-
  THE WALKS (seat f): kmul3, kle.
-/
import Derived.Test.YmbrdfWalkK
namespace Go.Proofs.Ymbrdf
open Go.RowKit

set_option maxHeartbeats 2000000 in
theorem kmul3_any (x y z : Int) (x0 : 0 ≤ x) (x1 : x ≤ 18446744073709551615) (y0 : 0 ≤ y) (y1 : y ≤ 18446744073709551615) (z0 : 0 ≤ z) (z1 : z ≤ 18446744073709551615) (w : World) :
    Calls Ydfm.prog 22 #[.int .u64 x, .int .u64 y, .int .u64 z] w fun e w' =>
      e = .returned (.agg #[.int .u64 (wa (x * y * z)), .int .u64 (wb (x * y * z)), .int .u64 (wc (x * y * z))]) ∧ Gr w w' := by
  obtain ⟨m1, m2, m3⟩ := words_mul (p := x * y) (z := z)
  obtain ⟨v1, v2⟩ := wa_bound x0 x1 y0 y1 z0 z1
  have b1 := lo64_bound (x * y)
  have b2 := hi64_mul_bound x0 x1 y0 y1
  have b3 := lo64_bound (hi64 (x * y) * z)
  have b4 := hi64_mul_bound b2.1 (show hi64 (x * y) ≤ 18446744073709551615 by omega) z0 z1
  have b5 := hi64_mul_bound b1.1 b1.2 z0 z1
  have b6 := lo64_bound (lo64 (x * y) * z)
  rw [m2, m3]
  rw [m1] at v1 v2 ⊢
  clear m1 m2 m3
  have c0 : hi64 (lo64 (hi64 (x * y) * z) + hi64 (lo64 (x * y) * z)) ≤ 1 := by unfold hi64 at *; omega
  have c1 : 0 ≤ hi64 (lo64 (hi64 (x * y) * z) + hi64 (lo64 (x * y) * z)) := hi64_nonneg (by omega)
  generalize hH : hi64 (x * y) = H at *
  generalize hL : lo64 (x * y) = L at *
  generalize hA1 : hi64 (H * z) = A1 at *
  generalize hA0 : lo64 (H * z) = A0 at *
  generalize hC1 : hi64 (L * z) = C1 at *
  generalize hC0 : lo64 (L * z) = C0 at *
  have hadd := fun w => add64_run A0 C1 0 b3.1 b5.1 (by decide) (by decide) w
  simp only [Int.add_zero] at hadd
  go_enter Ydfm.func22, Ydfm.ntmps22
  go_wp2_with fail
  refine (mul64_any _ _ x0 x1 y0 y1 _).mono ?_
  rintro e wx ⟨rfl, hw⟩
  subst wx
  go_wp2_with fail
  refine (mul64_any _ _ b1.1 b1.2 z0 z1 _).mono ?_
  rintro e wx ⟨rfl, hw⟩
  subst wx
  go_wp2_with fail
  refine (mul64_any _ _ b2.1 (by omega) z0 z1 _).mono ?_
  rintro e wx ⟨rfl, hw⟩
  subst wx
  go_wp2_with fail
  refine bodyPost_ret (v := .agg #[.int .u64 (A1 + hi64 (A0 + C1)), .int .u64 (lo64 (A0 + C1)), .int .u64 C0]) ?_ rfl ⟨rfl, ?_⟩
  · simp [results, Ydfm.results22, go_sem]
  · exact (Gr.refl _).alloc _ _

set_option maxHeartbeats 2000000 in
theorem kle_any (M N : Int) (w : World) :
    Calls Ydfm.prog 21 #[.agg #[.int .u64 (wa M), .int .u64 (wb M), .int .u64 (wc M)], .agg #[.int .u64 (wa N), .int .u64 (wb N), .int .u64 (wc N)]] w fun e w' =>
      e = .returned (.bool (decide (M ≤ N))) ∧ Gr w w' := by
  have hle := words_le (M := M) (N := N)
  generalize wa M = a1 at *
  generalize wb M = b1 at *
  generalize wc M = c1 at *
  generalize wa N = a2 at *
  generalize wb N = b2 at *
  generalize wc N = c2 at *
  by_cases h1 : a1 = a2
  · subst h1
    by_cases h2 : b1 = b2
    · subst h2
      have hd : Hid (decide (M ≤ N) = decide (c1 ≤ c2)) := decide_eq_decide.mpr (by rw [hle]; omega)
      clear hle
      go_enter Ydfm.func21, Ydfm.ntmps21
      go_wp2_with fail
      go_ret
      exact ⟨by rw [hd.out]; rfl, ((Gr.refl _).alloc _ _).alloc _ _⟩
    · have h2' : (b1 != b2) = true := by simpa using h2
      have hd : Hid (decide (M ≤ N) = decide (b1 < b2)) := decide_eq_decide.mpr (by rw [hle]; omega)
      clear hle
      go_enter Ydfm.func21, Ydfm.ntmps21
      go_wp2_with fail
      go_ret
      exact ⟨by rw [hd.out]; rfl, ((Gr.refl _).alloc _ _).alloc _ _⟩
  · have h1' : (a1 != a2) = true := by simpa using h1
    have hd : Hid (decide (M ≤ N) = decide (a1 < a2)) := decide_eq_decide.mpr (by rw [hle]; omega)
    clear hle
    go_enter Ydfm.func21, Ydfm.ntmps21
    go_wp2_with fail
    go_ret
    exact ⟨by rw [hd.out]; rfl, ((Gr.refl _).alloc _ _).alloc _ _⟩
end Go.Proofs.Ymbrdf
