/-
  THE WALKS: the law texts' own Euclid (a loop with three assignments).
-/
import Derived.Test.YmbrddWalkA
namespace Go.Proofs.Ymbrdd
open Go.RowKit

theorem xgcd_any (a b : Int) (ha : 0 ≤ a) (hb : 0 ≤ b) (ha' : a ≤ 18446744073709551615) (hb' : b ≤ 18446744073709551615) (w : World) :
    Calls Yddm.prog 24 #[.int .u64 a, .int .u64 b] w fun e w' => e = .returned (.int .u64 (gz a b)) ∧ w' = w := by
  go_enter Yddm.func24, Yddm.ntmps24
  go_wp2
  go_loop [0, 1] (fun s t => ∃ x y : Int, 0 ≤ x ∧ 0 ≤ y ∧ x ≤ 18446744073709551615 ∧ y ≤ 18446744073709551615 ∧ s = .int .u64 x ∧ t = .int .u64 y ∧ Hid (gz x y = gz a b)) (fun _ t => (intOf t).toNat)
  case atStart => exact ⟨a, b, ha, hb, ha', hb', rfl, rfl, rfl⟩
  case round =>
    obtain ⟨x, y, hx, hy, hx', hy', rfl, rfl, hg⟩ := hrel
    by_cases h : y = 0
    · subst h
      go_wp2
      go_ret
      exact ⟨ret_int (by rw [← hg.out, gz_zero x hx]), rfl⟩
    · have hm := Int.emod_nonneg x h
      have hl := Int.emod_lt_of_pos x (show 0 < y by omega)
      have hg2 : Hid (gz y (x % y) = gz a b) := (gz_emod x y).trans hg
      go_wp2
      go_round
      case rel => exact ⟨y, x % y, by omega, hm, by omega, by omega, rfl, rfl, hg2⟩
      case measure => simp [intOf]; omega
end Go.Proofs.Ymbrdd
