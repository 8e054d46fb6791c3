/-
  THE WALKS, 1: magnitude, gcd, pack; what 'Grown' gives to a walk.
-/
import Derived.Test.YmbrddRows
import Derived.Test.YmbrddPlain
import Derived.WalkKit
import Derived.WalkSpells
import Derived.ProofKit
import Derived.RowKit3
import Derived.Deep.QuietTactic
import Derived.BigQuiet
namespace Go.Proofs.Ymbrdd
open Go.RowKit

/-! ### Worlds -/
/-- The world has at most new blocks, and draws. -/
def Gr (w w' : World) : Prop := Below w.heap.size w w' ∧ ∀ a, w'.frozen? a = w.frozen? a
theorem Gr.refl (w : World) : Gr w w := ⟨Below.refl _ _, fun _ => rfl⟩
theorem Gr.drewN {a w : World} (h : Gr a w) (n : Nat) : Gr a (w.drewN n) := ⟨⟨h.1.os, h.1.tape, h.1.output, h.1.size, h.1.block⟩, h.2⟩
theorem Gr.drew {a w : World} (h : Gr a w) : Gr a w.drew := ⟨h.1.drew, h.2⟩
theorem Gr.size {a w : World} (h : Gr a w) : a.heap.size ≤ w.heap.size := h.1.size
theorem Gr.alloc {a w : World} (h : Gr a w) (c : Array Value) (t : TypeId) : Gr a (w.alloc (.cells c t)) :=
  ⟨h.1.alloc h.1.size _, fun x => (frozen?_alloc_cells _ _ _ x).trans (h.2 x)⟩
theorem Gr.trans {a b c : World} (h : Gr a b) (k : Gr b c) : Gr a c := ⟨h.1.trans (k.1.mono h.1.size), fun x => (k.2 x).trans (h.2 x)⟩
theorem Gr.setCell {a w : World} (h : Gr a w) {p : Addr} (hp : a.heap.size ≤ p.block) (u : Value) : Gr a (w.setCell p u) :=
  ⟨h.1.setCell hp u, fun x => (World.frozen?_setCell _ _ _ _).trans (h.2 x)⟩
theorem Gr.grown {a w : World} (h : Gr a w) : Grown a w := ⟨h.1.frame _, h.2, h.1.size⟩

/-- What a walk wants to know behind a callee that only lays new blocks. -/
theorem gcell {W w1 : World} (h : Gr W w1) : (∀ b o, b < W.heap.size → w1.cell? ⟨b, o, none⟩ = W.cell? ⟨b, o, none⟩) ∧ (∀ a, w1.frozen? a = W.frozen? a) ∧ W.heap.size ≤ w1.heap.size :=
  ⟨fun b o hb => h.1.cell (p := ⟨b, o, none⟩) hb, h.2, h.1.size⟩

/-- A struct of two fields, stored. -/
theorem store2 {w : World} {b : Nat} {u0 u1 : Value} (v0 v1 : Value) (h0 : w.cell? ⟨b, 0, none⟩ = some u0) (h1 : w.cell? ⟨b, 1, none⟩ = some u1) :
    ((w.setCell ⟨b, 0, none⟩ v0).setCell ⟨b, 1, none⟩ v1).cell? ⟨b, 0, none⟩ = some v0 ∧ ((w.setCell ⟨b, 0, none⟩ v0).setCell ⟨b, 1, none⟩ v1).cell? ⟨b, 1, none⟩ = some v1 ∧
    ∀ b' o, b' ≠ b → ((w.setCell ⟨b, 0, none⟩ v0).setCell ⟨b, 1, none⟩ v1).cell? ⟨b', o, none⟩ = w.cell? ⟨b', o, none⟩ := by
  refine ⟨?_, ?_, fun b' o hb => ?_⟩
  · rw [World.cell?_setCell_other _ _ _ _ (by simp)]; exact World.cell?_setCell_same _ _ _ h0
  · refine World.cell?_setCell_same _ _ _ (u := u1) ?_
    rw [World.cell?_setCell_other _ _ _ _ (by simp)]; exact h1
  · rw [World.cell?_setCell_other _ _ _ _ (fun e => hb (congrArg Addr.block e).symm), World.cell?_setCell_other _ _ _ _ (fun e => hb (congrArg Addr.block e).symm)]

theorem ret_int {k : IntKind} {a b : Int} (h : a = b) : Ending.returned (.int k a) = .returned (.int k b) := by rw [h]
theorem ret_true {a : Bool} (h : a = true) : Ending.returned (.bool a) = .returned (.bool true) := by rw [h]
theorem ret_bool {a b : Bool} (h : a = b) : Ending.returned (.bool a) = .returned (.bool b) := by rw [h]

theorem wrapu_id {a : Int} (h0 : 0 ≤ a) (h1 : a ≤ 18446744073709551615) : IntKind.u64.wrap a = a := by
  rw [IntKind.wrap_u64]; omega

theorem wrapi_id {a : Int} (h0 : -9223372036854775808 ≤ a) (h1 : a ≤ 9223372036854775807) : IntKind.i64.wrap a = a := by
  simp [IntKind.wrap, IntKind.bits, IntKind.signed]; omega

theorem wrap_back {P : Int} (h0 : 0 ≤ P) (h1 : P ≤ 9223372036854775808) : wrap64 (IntKind.u64.wrap (-P)) = -P := by
  rw [IntKind.wrap_u64]; unfold wrap64; omega

/-! ### magnitude -/
theorem magnitude_any (n : Int) (h0 : -9223372036854775808 ≤ n) (h1 : n ≤ 9223372036854775807) (w : World) :
    Calls Yddm.prog 20 #[.int .i64 n] w fun e w' => e = .returned (.tuple #[.bool (decide (n < 0)), .int .u64 (magZ n)]) ∧ w' = w := by
  by_cases h : n < 0
  · have hm := magZ_neg h
    go_enter Yddm.func20, Yddm.ntmps20
    go_wp2
    go_ret2
    exact ⟨by simp [h, hm]; omega, rfl⟩
  · have hm := magZ_pos (n := n) (by omega)
    go_enter Yddm.func20, Yddm.ntmps20
    go_wp2
    go_ret2
    exact ⟨by simp; omega, rfl⟩

/-! ### gcd -/
theorem gcd_any (a b : Int) (ha : 0 ≤ a) (hb : 0 ≤ b) (ha' : a ≤ 18446744073709551615) (hb' : b ≤ 18446744073709551615) (w : World) :
    Calls Yddm.prog 21 #[.int .u64 a, .int .u64 b] w fun e w' => e = .returned (.int .u64 (gz a b)) ∧ ∃ n, w' = w.drewN n := by
  go_enter Yddm.func21, Yddm.ntmps21
  go_wp2
  go_loopw [0, 1] (fun s t w' => ∃ x y : Int, 0 ≤ x ∧ 0 ≤ y ∧ x ≤ 18446744073709551615 ∧ y ≤ 18446744073709551615 ∧ s = .int .u64 x ∧ t = .int .u64 y ∧ Hid (gz x y = gz a b) ∧ ∃ n, w' = w.drewN n) (fun _ t _ => (intOf t).toNat)
  case atStart => exact ⟨a, b, ha, hb, ha', hb', rfl, rfl, rfl, 0, rfl⟩
  case round =>
    obtain ⟨x, y, hx, hy, hx', hy', rfl, rfl, hg, n, rfl⟩ := hrel
    by_cases h : y = 0
    · subst h
      go_wp2
      go_ret
      exact ⟨ret_int (by rw [← hg.out, gz_zero x hx]), n, rfl⟩
    · have hm := Int.emod_nonneg x h
      have hl := Int.emod_lt_of_pos x (show 0 < y by omega)
      have hg2 : Hid (gz y (x % y) = gz a b) := (gz_emod x y).trans hg
      go_wp2
      go_quiet (fail)
      go_wp2
      go_roundw
      case rel => exact ⟨y, x % y, by omega, hm, by omega, by omega, rfl, rfl, hg2, _, World.drewN_drewN _ _ _⟩
      case measure => simp [intOf]; omega

/-- .. the world behind it only named. -/
theorem gcd_gr (a b : Int) (ha : 0 ≤ a) (hb : 0 ≤ b) (ha' : a ≤ 18446744073709551615) (hb' : b ≤ 18446744073709551615) (w : World) :
    Calls Yddm.prog 21 #[.int .u64 a, .int .u64 b] w fun e w' => e = .returned (.int .u64 (gz a b)) ∧ Gr w w' :=
  (gcd_any a b ha hb ha' hb' w).mono fun _ _ ⟨he, n, hn⟩ => ⟨he, hn ▸ (Gr.refl w).drewN n⟩

/-! ### pack: by its ways -/
theorem pack_yes (neg : Bool) (num den : Int) (h0 : 0 ≤ num) (h1 : 0 ≤ den) (hd : den ≤ 9223372036854775807)
    (hn : num ≤ 9223372036854775807 ∨ (neg = true ∧ num = 9223372036854775808)) (w : World) :
    Calls Yddm.prog 39 #[.bool neg, .int .u64 num, .int .u64 den] w fun e w' =>
      e = .returned (.tuple #[.agg #[.int .i64 (if neg then -num else num), .int .i64 den], .bool true]) ∧ Gr w w' := by
  rcases hn with hn | ⟨rfl, rfl⟩
  · cases neg
    · go_enter Yddm.func39, Yddm.ntmps39
      go_wp2
      refine bodyPost_ret (v := .tuple #[.agg #[.int .i64 num, .int .i64 den], .bool true]) (by simp [results, Yddm.results39, go_sem]) rfl ⟨by simp, ?_⟩
      exact (Gr.refl _).alloc _ _
    · go_enter Yddm.func39, Yddm.ntmps39
      go_wp2
      refine bodyPost_ret (v := .tuple #[.agg #[.int .i64 (-num), .int .i64 den], .bool true]) (by simp [results, Yddm.results39, go_sem]) rfl ⟨by simp, ?_⟩
      exact (Gr.refl _).alloc _ _
  · go_enter Yddm.func39, Yddm.ntmps39
    go_wp2
    refine bodyPost_ret (v := .tuple #[.agg #[.int .i64 (-9223372036854775808), .int .i64 den], .bool true]) (by simp [results, Yddm.results39, go_sem]) rfl ⟨by simp, ?_⟩
    exact (Gr.refl _).alloc _ _

theorem pack_no (neg : Bool) (num den : Int) (h0 : 0 ≤ num) (hn1 : num ≤ 18446744073709551615)
    (hn : 9223372036854775808 ≤ den ∨ (9223372036854775808 ≤ num ∧ (neg = false ∨ 9223372036854775808 < num))) (w : World) :
    Calls Yddm.prog 39 #[.bool neg, .int .u64 num, .int .u64 den] w fun e w' =>
      e = .returned (.tuple #[.agg #[.int .i64 0, .int .i64 0], .bool false]) ∧ Gr w w' := by
  by_cases hd : 9223372036854775808 ≤ den
  · go_enter Yddm.func39, Yddm.ntmps39
    go_wp2
    refine bodyPost_ret (v := .tuple #[.agg #[.int .i64 0, .int .i64 0], .bool false]) (by simp [results, Yddm.results39, go_sem]) rfl ⟨rfl, ?_⟩
    exact (Gr.refl _).alloc _ _
  · have hn' : 9223372036854775808 ≤ num ∧ (neg = false ∨ 9223372036854775808 < num) := by
      rcases hn with h | h
      · exact absurd h hd
      · exact h
    clear hn
    obtain ⟨hn1, hn2⟩ := hn'
    cases neg
    · go_enter Yddm.func39, Yddm.ntmps39
      go_wp2
      refine bodyPost_ret (v := .tuple #[.agg #[.int .i64 0, .int .i64 0], .bool false]) (by simp [results, Yddm.results39, go_sem]) rfl ⟨rfl, ?_⟩
      exact (Gr.refl _).alloc _ _
    · have hn3 : 9223372036854775808 < num := by
        rcases hn2 with h | h
        · exact absurd h (by decide)
        · exact h
      clear hn2
      go_enter Yddm.func39, Yddm.ntmps39
      go_wp2
      refine bodyPost_ret (v := .tuple #[.agg #[.int .i64 0, .int .i64 0], .bool false]) (by simp [results, Yddm.results39, go_sem]) rfl ⟨rfl, ?_⟩
      exact (Gr.refl _).alloc _ _

/-- pack, in one word. -/
theorem pack_any (neg : Bool) (num den : Int) (h0 : 0 ≤ num) (h1 : 0 ≤ den) (hn1 : num ≤ 18446744073709551615) (w : World) :
    Calls Yddm.prog 39 #[.bool neg, .int .u64 num, .int .u64 den] w fun e w' =>
      e = .returned (.tuple #[.agg #[.int .i64 (ratN (sg neg num) den), .int .i64 (ratD (sg neg num) den)], .bool (fitB (sg neg num) den)]) ∧ Gr w w' := by
  by_cases h : fitB (sg neg num) den = true
  · rw [ratN_yes h, ratD_yes h, h]
    have hf := fitB_iff.mp h
    refine (pack_yes neg num den h0 h1 hf.2.2 ?_ w).mono ?_
    · cases neg <;> simp [sg] at hf ⊢ <;> omega
    · rintro e w' ⟨rfl, hg⟩
      exact ⟨rfl, hg⟩
  · have h' : fitB (sg neg num) den = false := by simpa using h
    rw [ratN_no h', ratD_no h', h']
    refine pack_no neg num den h0 hn1 ?_ w
    rw [fitB_iff] at h
    cases neg <;> simp [sg] at h ⊢ <;> omega
end Go.Proofs.Ymbrdd
