/-
  THE WALKS, 2: Valid.
-/
import Derived.Test.YmbrddWalkA
namespace Go.Proofs.Ymbrdd
open Go.RowKit

theorem valid_any (n d : Int) (n1 : -9223372036854775808 ≤ n) (n2 : n ≤ 9223372036854775807) (d2 : d ≤ 9223372036854775807) (w : World) :
    Calls Yddm.prog 18 #[.agg #[.int .i64 n, .int .i64 d]] w fun e w' => e = .returned (.bool (validB n d)) ∧ Gr w w' := by
  by_cases hd : d ≤ 0
  · have hv := validB_low (n := n) hd
    go_enter Yddm.func18, Yddm.ntmps18
    go_wp2
    go_ret
    exact ⟨by simp [hv], (Gr.refl _).alloc _ _⟩
  · have m1 := magZ_nonneg n
    have m2 := magZ_le n1 n2
    have hv : Hid (validB n d = (gz (magZ n) d == 1)) := by
      show _ = _
      rw [validB_of (by omega), gz_mag_left, ← Bool.beq_eq_decide_eq]
    go_enter Yddm.func18, Yddm.ntmps18
    go_wp2_with (first | (go_at_call 20; refine (magnitude_any _ n1 n2 _).mono ?_; rintro e w' ⟨rfl, rfl⟩) | (go_at_call 21; refine (gcd_any _ _ (by omega) (by omega) (by omega) (by omega) _).mono ?_; rintro e w' ⟨rfl, k, rfl⟩))
    go_ret
    exact ⟨by rw [hv.out]; rfl, ((Gr.refl _).alloc _ _).drewN _⟩
end Go.Proofs.Ymbrdd
