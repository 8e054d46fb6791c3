/-
  THE WALKS, 1: magnitude, gcd, pack; what 'Grown' gives to a walk.
-/
import Derived.Test.YmbrdfRows
import Derived.Test.YmbrdfPlain
import Derived.WalkKit
import Derived.WalkSpells
import Derived.ProofKit
import Derived.RowKit3
import Derived.Deep.QuietTactic
import Derived.BigQuiet
namespace Go.Proofs.Ymbrdf
open Go.RowKit

/-! ### Worlds -/
theorem Grown.trans' {a b c : World} (h : Grown a b) (k : Grown b c) : Grown a c := by
  obtain ⟨h1, h2, h3⟩ := h
  obtain ⟨k1, k2, k3⟩ := k
  exact ⟨World.keptBut_trans h1 k1, fun x => (k2 x).trans (h2 x), Nat.le_trans h3 k3⟩

theorem grown_drewN {a w : World} (h : Grown a w) (n : Nat) : Grown a (w.drewN n) := h

theorem ret_int {k : IntKind} {a b : Int} (h : a = b) : Ending.returned (.int k a) = .returned (.int k b) := by rw [h]
theorem ret_true {a : Bool} (h : a = true) : Ending.returned (.bool a) = .returned (.bool true) := by rw [h]
theorem ret_bool {a b : Bool} (h : a = b) : Ending.returned (.bool a) = .returned (.bool b) := by rw [h]

/-! ### magnitude -/
theorem magnitude_any (n : Int) (h0 : -9223372036854775808 ≤ n) (h1 : n ≤ 9223372036854775807) (w : World) :
    Calls Ydfm.prog 23 #[.int .i64 n] w fun e w' => e = .returned (.tuple #[.bool (decide (n < 0)), .int .u64 (magZ n)]) ∧ w' = w := by
  by_cases h : n < 0
  · have hm := magZ_neg h
    go_enter Ydfm.func23, Ydfm.ntmps23
    go_wp2
    go_ret2
    exact ⟨by simp [h, hm]; omega, rfl⟩
  · have hm := magZ_pos (n := n) (by omega)
    go_enter Ydfm.func23, Ydfm.ntmps23
    go_wp2
    go_ret2
    exact ⟨by simp; omega, rfl⟩

/-! ### gcd -/
theorem gcd_any (a b : Int) (ha : 0 ≤ a) (hb : 0 ≤ b) (ha' : a ≤ 18446744073709551615) (hb' : b ≤ 18446744073709551615) (w : World) :
    Calls Ydfm.prog 24 #[.int .u64 a, .int .u64 b] w fun e w' => e = .returned (.int .u64 (gz a b)) ∧ ∃ n, w' = w.drewN n := by
  go_enter Ydfm.func24, Ydfm.ntmps24
  go_wp2
  go_loopw [0, 1] (fun s t w' => ∃ x y : Int, 0 ≤ x ∧ 0 ≤ y ∧ x ≤ 18446744073709551615 ∧ y ≤ 18446744073709551615 ∧ s = .int .u64 x ∧ t = .int .u64 y ∧ Hid (gz x y = gz a b) ∧ ∃ n, w' = w.drewN n) (fun _ t _ => (intOf t).toNat)
  case atStart => exact ⟨a, b, ha, hb, ha', hb', rfl, rfl, rfl, 0, rfl⟩
  case round =>
    obtain ⟨x, y, hx, hy, hx', hy', rfl, rfl, hg, n, rfl⟩ := hrel
    by_cases h : y = 0
    · subst h
      go_wp2
      go_ret
      exact ⟨ret_int (by rw [← hg.out, gz_zero x hx]), n, rfl⟩
    · have hm := Int.emod_nonneg x h
      have hl := Int.emod_lt_of_pos x (show 0 < y by omega)
      have hg2 : Hid (gz y (x % y) = gz a b) := (gz_emod x y).trans hg
      go_wp2
      go_quiet (fail)
      go_wp2
      go_roundw
      case rel => exact ⟨y, x % y, by omega, hm, by omega, by omega, rfl, rfl, hg2, _, World.drewN_drewN _ _ _⟩
      case measure => simp [intOf]; omega

/-! ### pack: by its ways -/
theorem pack_yes (neg : Bool) (num den : Int) (h0 : 0 ≤ num) (h1 : 0 ≤ den) (hd : den ≤ 9223372036854775807)
    (hn : num ≤ 9223372036854775807 ∨ (neg = true ∧ num = 9223372036854775808)) (w : World) :
    Calls Ydfm.prog 16 #[.bool neg, .int .u64 num, .int .u64 den] w fun e w' =>
      e = .returned (.tuple #[.agg #[.int .i64 (if neg then -num else num), .int .i64 den], .bool true]) ∧ Grown w w' := by
  rcases hn with hn | ⟨rfl, rfl⟩
  · cases neg
    · go_enter Ydfm.func16, Ydfm.ntmps16
      go_wp2
      refine bodyPost_ret (v := .tuple #[.agg #[.int .i64 num, .int .i64 den], .bool true]) (by simp [results, Ydfm.results16, go_sem]) rfl ⟨by simp, ?_⟩
      exact (Grown.refl _).alloc _ _
    · go_enter Ydfm.func16, Ydfm.ntmps16
      go_wp2
      refine bodyPost_ret (v := .tuple #[.agg #[.int .i64 (-num), .int .i64 den], .bool true]) (by simp [results, Ydfm.results16, go_sem]) rfl ⟨by simp, ?_⟩
      exact (Grown.refl _).alloc _ _
  · go_enter Ydfm.func16, Ydfm.ntmps16
    go_wp2
    refine bodyPost_ret (v := .tuple #[.agg #[.int .i64 (-9223372036854775808), .int .i64 den], .bool true]) (by simp [results, Ydfm.results16, go_sem]) rfl ⟨by simp, ?_⟩
    exact (Grown.refl _).alloc _ _

theorem pack_no (neg : Bool) (num den : Int) (h0 : 0 ≤ num) (hn1 : num ≤ 18446744073709551615)
    (hn : 9223372036854775808 ≤ den ∨ (9223372036854775808 ≤ num ∧ (neg = false ∨ 9223372036854775808 < num))) (w : World) :
    Calls Ydfm.prog 16 #[.bool neg, .int .u64 num, .int .u64 den] w fun e w' =>
      e = .returned (.tuple #[.agg #[.int .i64 0, .int .i64 0], .bool false]) ∧ Grown w w' := by
  by_cases hd : 9223372036854775808 ≤ den
  · go_enter Ydfm.func16, Ydfm.ntmps16
    go_wp2
    refine bodyPost_ret (v := .tuple #[.agg #[.int .i64 0, .int .i64 0], .bool false]) (by simp [results, Ydfm.results16, go_sem]) rfl ⟨rfl, ?_⟩
    exact (Grown.refl _).alloc _ _
  · have hn' : 9223372036854775808 ≤ num ∧ (neg = false ∨ 9223372036854775808 < num) := by
      rcases hn with h | h
      · exact absurd h hd
      · exact h
    clear hn
    obtain ⟨hn1, hn2⟩ := hn'
    cases neg
    · go_enter Ydfm.func16, Ydfm.ntmps16
      go_wp2
      refine bodyPost_ret (v := .tuple #[.agg #[.int .i64 0, .int .i64 0], .bool false]) (by simp [results, Ydfm.results16, go_sem]) rfl ⟨rfl, ?_⟩
      exact (Grown.refl _).alloc _ _
    · have hn3 : 9223372036854775808 < num := by
        rcases hn2 with h | h
        · exact absurd h (by decide)
        · exact h
      clear hn2
      go_enter Ydfm.func16, Ydfm.ntmps16
      go_wp2
      refine bodyPost_ret (v := .tuple #[.agg #[.int .i64 0, .int .i64 0], .bool false]) (by simp [results, Ydfm.results16, go_sem]) rfl ⟨rfl, ?_⟩
      exact (Grown.refl _).alloc _ _
end Go.Proofs.Ymbrdf
