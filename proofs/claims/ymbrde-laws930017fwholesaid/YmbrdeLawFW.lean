/-
  THE WALK of the law FWhole (Add on whole numbers).
-/
import Derived.Test.YmbrdeWalkAdd
namespace Go.Proofs.Ymbrde
open Go.RowKit

theorem sum_whole (a b : Int) : redN (a * 1 + b * 1) (1 * 1) = a + b ∧ redD (a * 1 + b * 1) (1 * 1) = 1 := by
  have h : gz (a * 1 + b * 1) (1 * 1) = 1 := by rw [gz_comm]; exact gz_one_left _
  unfold redN redD
  rw [h]; omega
theorem valid_whole (a : Int) : validB a 1 = true := validB_mk (by decide) (by rw [gz_comm]; exact gz_one_left a)
theorem xor_range (a : Int) : -9223372036854775808 ≤ bits .xor .i64 a 9223372036854775807 ∧ bits .xor .i64 a 9223372036854775807 ≤ 9223372036854775807 := by
  show -9223372036854775808 ≤ IntKind.i64.wrap _ ∧ IntKind.i64.wrap _ ≤ 9223372036854775807
  simp only [IntKind.wrap, IntKind.bits, IntKind.signed]
  simp
  omega

set_option maxHeartbeats 2000000 in
theorem law_FWhole (a0 b0 : Int) (fa fb : Bool) (ba : -9223372036854775808 ≤ a0 ∧ a0 ≤ 9223372036854775807) (bb : -9223372036854775808 ≤ b0 ∧ b0 ≤ 9223372036854775807) (w : World) :
    Calls Ydem.prog 8 #[.int .i64 a0, .int .i64 b0, .bool fa, .bool fb] w fun e w' => e = .returned (.bool true) ∧ Grown w w' := by
  have xa := xor_range a0
  have xb := xor_range b0
  obtain ⟨a, ha, a1, a2⟩ : ∃ a : Int, ((fa = true ∧ bits .xor .i64 a0 9223372036854775807 = a) ∨ (fa = false ∧ a0 = a)) ∧ -9223372036854775808 ≤ a ∧ a ≤ 9223372036854775807 := by
    cases fa
    · exact ⟨a0, Or.inr ⟨rfl, rfl⟩, ba.1, ba.2⟩
    · exact ⟨_, Or.inl ⟨rfl, rfl⟩, xa.1, xa.2⟩
  obtain ⟨b, hb, b1, b2⟩ : ∃ b : Int, ((fb = true ∧ bits .xor .i64 b0 9223372036854775807 = b) ∨ (fb = false ∧ b0 = b)) ∧ -9223372036854775808 ≤ b ∧ b ≤ 9223372036854775807 := by
    cases fb
    · exact ⟨b0, Or.inr ⟨rfl, rfl⟩, bb.1, bb.2⟩
    · exact ⟨_, Or.inl ⟨rfl, rfl⟩, xb.1, xb.2⟩
  clear xa xb ba bb
  obtain ⟨vB, vN, vD⟩ := sum_val (valid_whole a) (valid_whole b)
  obtain ⟨e1, e2⟩ := sum_whole a b
  rw [e1, e2] at vB vN vD
  clear e1 e2
  have hcase : (fitB (a + b) 1 = true ∧ -9223372036854775808 ≤ a + b ∧ a + b ≤ 9223372036854775807) ∨
      (fitB (a + b) 1 = false ∧ decide (a < 0) = false ∧ decide (b < 0) = false ∧ wrap64 (a + b) < 0) ∨
      (fitB (a + b) 1 = false ∧ a < 0 ∧ b < 0 ∧ decide (wrap64 (a + b) < 0) = false) := by
    by_cases h : -9223372036854775808 ≤ a + b ∧ a + b ≤ 9223372036854775807
    · left; exact ⟨fitB_iff.mpr ⟨h.1, h.2, by decide⟩, h⟩
    · right
      have hf : fitB (a + b) 1 = false := Bool.eq_false_iff.mpr (fun hh => h ⟨(fitB_iff.mp hh).1, (fitB_iff.mp hh).2.1⟩)
      rcases Int.lt_or_le (a + b) 0 with h2 | h2
      · right
        refine ⟨hf, by omega, by omega, decide_eq_false ?_⟩
        unfold wrap64; omega
      · left
        refine ⟨hf, decide_eq_false (by omega), decide_eq_false (by omega), ?_⟩
        unfold wrap64; omega
  have hsg : (a < 0 ∧ b < 0 ∧ a + b < 0) ∨ (decide (a < 0) = false ∧ decide (b < 0) = false ∧ decide (a + b < 0) = false) ∨ (a < 0 ∧ decide (b < 0) = false) ∨ (decide (a < 0) = false ∧ b < 0) := by
    simp only [decide_eq_false_iff_not]; omega
  rcases ha with ⟨rfl, ha⟩ | ⟨rfl, rfl⟩ <;> rcases hb with ⟨rfl, hb⟩ | ⟨rfl, rfl⟩
  all_goals
    rcases hcase with ⟨hf, s1, s2⟩ | ⟨hf, n1, n2, n3⟩ | ⟨hf, n1, n2, n3⟩
    · rw [hf] at vB
      rw [ratN_yes hf] at vN
      rw [ratD_yes hf] at vD
      go_enter Ydem.func8, Ydem.ntmps8
      go_wp2_with fail
      refine (add_any _ _ _ _ a1 a2 (by decide) b1 b2 (by decide) _).mono ?_
      rw [vB, vN, vD]
      rintro _ w1 ⟨rfl, g1⟩
      clear vB vN vD hf
      rcases hsg with ⟨k1, k2, k3⟩ | ⟨k1, k2, k3⟩ | ⟨k1, k2⟩ | ⟨k1, k2⟩
      all_goals
        go_wp2_with fail
        go_ret
        exact ⟨rfl, (g1.alloc _ _).grown⟩
    · rw [hf] at vB
      rw [ratN_no hf] at vN
      rw [ratD_no hf] at vD
      go_enter Ydem.func8, Ydem.ntmps8
      go_wp2_with fail
      refine (add_any _ _ _ _ a1 a2 (by decide) b1 b2 (by decide) _).mono ?_
      rw [vB, vN, vD]
      rintro _ w1 ⟨rfl, g1⟩
      clear vB vN vD hf
      go_wp2_with fail
      go_ret
      exact ⟨rfl, (g1.alloc _ _).grown⟩
    · rw [hf] at vB
      rw [ratN_no hf] at vN
      rw [ratD_no hf] at vD
      go_enter Ydem.func8, Ydem.ntmps8
      go_wp2_with fail
      refine (add_any _ _ _ _ a1 a2 (by decide) b1 b2 (by decide) _).mono ?_
      rw [vB, vN, vD]
      rintro _ w1 ⟨rfl, g1⟩
      clear vB vN vD hf
      go_wp2_with fail
      go_ret
      exact ⟨rfl, (g1.alloc _ _).grown⟩
end Go.Proofs.Ymbrde
