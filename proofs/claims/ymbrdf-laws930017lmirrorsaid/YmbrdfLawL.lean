/-
  THE WALKS of the laws L (magnitude).
-/
import Derived.Test.YmbrdfWalkA
import Derived.Laws.Bits64b
namespace Go.Proofs.Ymbrdf
open Go.RowKit

theorem law_LMirror (n : Int) (b : -9223372036854775808 ≤ n ∧ n ≤ 9223372036854775807) (w : World) :
    Calls Ydfm.prog 13 #[.int .i64 n] w fun e w' => e = .returned (.bool true) ∧ Grown w w' := by
  obtain ⟨b1, b2⟩ := b
  by_cases h1 : n = -9223372036854775808
  · subst h1
    have hm : magZ (-9223372036854775808) = 9223372036854775808 := rfl
    go_enter Ydfm.func13, Ydfm.ntmps13
    go_wp2_with (go_at_call 23; refine (magnitude_any _ (by omega) (by omega) _).mono ?_; rintro e w' ⟨rfl, rfl⟩)
    go_ret
    exact ⟨rfl, Grown.refl _⟩
  · rcases Int.lt_trichotomy n 0 with h2 | h2 | h2
    · have hm := magZ_neg h2
      have hm2 := magZ_pos (n := -n) (by omega)
      go_enter Ydfm.func13, Ydfm.ntmps13
      go_wp2_with (go_at_call 23; refine (magnitude_any _ (by omega) (by omega) _).mono ?_; rintro e w' ⟨rfl, rfl⟩)
      go_ret
      exact ⟨ret_true (by simp; omega), Grown.refl _⟩
    · subst h2
      have hm : magZ 0 = 0 := rfl
      go_enter Ydfm.func13, Ydfm.ntmps13
      go_wp2_with (go_at_call 23; refine (magnitude_any _ (by omega) (by omega) _).mono ?_; rintro e w' ⟨rfl, rfl⟩)
      go_ret
      exact ⟨rfl, Grown.refl _⟩
    · have hm := magZ_pos (n := n) (by omega)
      have hm2 := magZ_neg (n := -n) (by omega)
      go_enter Ydfm.func13, Ydfm.ntmps13
      go_wp2_with (go_at_call 23; refine (magnitude_any _ (by omega) (by omega) _).mono ?_; rintro e w' ⟨rfl, rfl⟩)
      go_ret
      exact ⟨ret_true (by simp; omega), Grown.refl _⟩

theorem and_top (a : Int) (h0 : 0 ≤ a) (h1 : a ≤ 18446744073709551615) : bits .and .u64 a 9223372036854775807 = a % 9223372036854775808 := by
  obtain ⟨k, rfl⟩ := Int.eq_ofNat_of_zero_le h0
  have h := bits_and_u64_nat k 9223372036854775807 (by omega) (by omega)
  have e : k &&& 9223372036854775807 = k % 9223372036854775808 := Nat.and_two_pow_sub_one_eq_mod k 63
  rw [e] at h
  exact h

theorem law_LRebuild (below : Bool) (raw : Int) (b : 0 ≤ raw ∧ raw ≤ 18446744073709551615) (w : World) :
    Calls Ydfm.prog 12 #[.bool below, .int .u64 raw] w fun e w' => e = .returned (.bool true) ∧ Grown w w' := by
  obtain ⟨b1, b2⟩ := b
  have ha := and_top raw b1 b2
  have c1 : 0 ≤ raw % 9223372036854775808 := by omega
  have c2 : raw % 9223372036854775808 ≤ 9223372036854775807 := by omega
  generalize raw % 9223372036854775808 = m at ha c1 c2
  cases below
  · have hm := magZ_pos (n := m) c1
    go_enter Ydfm.func12, Ydfm.ntmps12
    go_wp2_with (go_at_call 23; refine (magnitude_any _ (by omega) (by omega) _).mono ?_; rintro e w' ⟨rfl, rfl⟩)
    go_ret
    exact ⟨ret_true (by simp; omega), Grown.refl _⟩
  · have hm := magZ_neg (n := -1 - m) (by omega)
    go_enter Ydfm.func12, Ydfm.ntmps12
    go_wp2_with (go_at_call 23; refine (magnitude_any _ (by omega) (by omega) _).mono ?_; rintro e w' ⟨rfl, rfl⟩)
    go_ret
    exact ⟨ret_true (by simp; omega), Grown.refl _⟩

theorem xor_ones (n : Int) (b1 : -9223372036854775808 ≤ n) (b2 : n ≤ 9223372036854775807) : bits .xor .i64 n (-1) = -1 - n := by
  show IntKind.i64.wrap ((BitVec.ofInt 64 n ^^^ BitVec.ofInt 64 (-1)).toNat : Int) = _
  have h1 : BitVec.ofInt 64 (-1) = BitVec.allOnes 64 := by decide
  rw [h1, BitVec.xor_allOnes, BitVec.toNat_not, BitVec.toNat_ofInt]
  simp [IntKind.wrap, IntKind.bits, IntKind.signed]
  omega
theorem xor_zero (n : Int) (b1 : -9223372036854775808 ≤ n) (b2 : n ≤ 9223372036854775807) : bits .xor .i64 n 0 = n := by
  show IntKind.i64.wrap ((BitVec.ofInt 64 n ^^^ BitVec.ofInt 64 0).toNat : Int) = _
  have h1 : BitVec.ofInt 64 0 = 0#64 := by decide
  rw [h1, BitVec.xor_zero, BitVec.toNat_ofInt]
  simp [IntKind.wrap, IntKind.bits, IntKind.signed]
  omega

theorem law_LExact (n : Int) (b : -9223372036854775808 ≤ n ∧ n ≤ 9223372036854775807) (w : World) :
    Calls Ydfm.prog 11 #[.int .i64 n] w fun e w' => e = .returned (.bool true) ∧ Grown w w' := by
  obtain ⟨b1, b2⟩ := b
  by_cases h : n < 0
  · have hm := magZ_neg h
    have hq : n / 9223372036854775808 = -1 := by omega
    have hx := xor_ones n b1 b2
    go_enter Ydfm.func11, Ydfm.ntmps11
    go_wp2_with (go_at_call 23; refine (magnitude_any _ (by omega) (by omega) _).mono ?_; rintro e w' ⟨rfl, rfl⟩)
    go_ret
    exact ⟨ret_true (by simp [IntKind.wrap_u64, wrap64]; omega), Grown.refl _⟩
  · have hm := magZ_pos (n := n) (by omega)
    have hq : n / 9223372036854775808 = 0 := by omega
    have hx := xor_zero n b1 b2
    have hd : decide (n < 0) = false := by simpa using h
    go_enter Ydfm.func11, Ydfm.ntmps11
    go_wp2_with (go_at_call 23; refine (magnitude_any _ (by omega) (by omega) _).mono ?_; rintro e w' ⟨rfl, rfl⟩)
    go_ret
    exact ⟨ret_true (by simp), Grown.refl _⟩
end Go.Proofs.Ymbrdf
