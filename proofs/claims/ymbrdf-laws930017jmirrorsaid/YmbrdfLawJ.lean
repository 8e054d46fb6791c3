/-
  THE WALKS of the laws J (pack).
-/
import Derived.Test.YmbrdfWalkA
namespace Go.Proofs.Ymbrdf
open Go.RowKit

theorem wrap_neg (n : Int) (h0 : -9223372036854775808 ≤ n) (h : n < 0) : IntKind.u64.wrap n = n + 18446744073709551616 := by
  rw [IntKind.wrap_u64]; omega
theorem wrap_negneg (n : Int) (h0 : -9223372036854775808 ≤ n) (h : n < 0) : IntKind.u64.wrap (-(n + 18446744073709551616)) = -n := by
  rw [IntKind.wrap_u64]; omega

set_option maxHeartbeats 400000 in
theorem law_JRound (n d : Int) (bn : -9223372036854775808 ≤ n ∧ n ≤ 9223372036854775807) (bd : -9223372036854775808 ≤ d ∧ d ≤ 9223372036854775807) (w : World) :
    Calls Ydfm.prog 7 #[.int .i64 n, .int .i64 d] w fun e w' => e = .returned (.bool true) ∧ Grown w w' := by
  obtain ⟨n1, n2⟩ := bn
  obtain ⟨d1, d2⟩ := bd
  by_cases hn : n < 0
  · have hw := wrap_neg n n1 hn
    have hw' := wrap_negneg n n1 hn
    by_cases hd : d < 0
    · have hw2 := wrap_neg d d1 hd
      go_enter Ydfm.func7, Ydfm.ntmps7
      go_wp2_with (go_at_call 16; refine (pack_no _ _ _ (by omega) (by omega) (Or.inl (by omega)) _).mono ?_; rintro e w1 ⟨rfl, hg⟩)
      go_ret
      exact ⟨rfl, (hg.alloc _ _).grown⟩
    · go_enter Ydfm.func7, Ydfm.ntmps7
      go_wp2_with (go_at_call 16; refine (pack_yes true (-n) d (by omega) (by omega) (by omega) (by simp; omega) _).mono ?_; rintro e w1 ⟨rfl, hg⟩)
      go_ret
      exact ⟨ret_true (by simp), (hg.alloc _ _).grown⟩
  · have hdn : decide (n < 0) = false := by simpa using hn
    by_cases hd : d < 0
    · have hw2 := wrap_neg d d1 hd
      go_enter Ydfm.func7, Ydfm.ntmps7
      go_wp2_with (go_at_call 16; refine (pack_no _ _ _ (by omega) (by omega) (Or.inl (by omega)) _).mono ?_; rintro e w1 ⟨rfl, hg⟩)
      go_ret
      exact ⟨rfl, (hg.alloc _ _).grown⟩
    · go_enter Ydfm.func7, Ydfm.ntmps7
      go_wp2_with (go_at_call 16; refine (pack_yes false n d (by omega) (by omega) (by omega) (by simp; omega) _).mono ?_; rintro e w1 ⟨rfl, hg⟩)
      go_ret
      exact ⟨ret_true (by simp), (hg.alloc _ _).grown⟩

/-- jplace: some uint64 (which one does not matter to the laws). -/
theorem jplace_any (s x : Int) (hs : 0 ≤ s ∧ s ≤ 255) (hx : 0 ≤ x ∧ x ≤ 18446744073709551615) (w : World) :
    Calls Ydfm.prog 15 #[.int .u8 s, .int .u64 x] w fun e w' => (∃ v : Int, (0 ≤ v ∧ v ≤ 18446744073709551615) ∧ e = .returned (.int .u64 v)) ∧ w' = w := by
  obtain ⟨s1, s2⟩ := hs
  obtain ⟨x1, x2⟩ := hx
  go_enter Ydfm.func15, Ydfm.ntmps15
  go_wp2
  all_goals
    go_ret
    refine ⟨⟨_, ?_, rfl⟩, rfl⟩
    first | exact ⟨x1, x2⟩ | (rw [IntKind.wrap_u64]; omega)

set_option maxHeartbeats 1000000 in
theorem law_JMirror (s x t y : Int) (hs : 0 ≤ s ∧ s ≤ 255) (hx : 0 ≤ x ∧ x ≤ 18446744073709551615) (ht : 0 ≤ t ∧ t ≤ 255) (hy : 0 ≤ y ∧ y ≤ 18446744073709551615) (w : World) :
    Calls Ydfm.prog 8 #[.int .u8 s, .int .u64 x, .int .u8 t, .int .u64 y] w fun e w' => e = .returned (.bool true) ∧ Grown w w' := by
  go_enter Ydfm.func8, Ydfm.ntmps8
  go_wp2_with fail
  refine (jplace_any _ _ hs hx _).mono ?_
  rintro e w' ⟨⟨a, ⟨a1, a2⟩, rfl⟩, rfl⟩
  go_wp2_with fail
  refine (jplace_any _ _ ht hy _).mono ?_
  rintro e w' ⟨⟨b, ⟨b1, b2⟩, rfl⟩, rfl⟩
  go_wp2_with fail
  by_cases hb : 9223372036854775808 ≤ b
  · refine (pack_no _ _ _ (by omega) (by omega) (Or.inl (by omega)) _).mono ?_
    rintro e w1 ⟨rfl, hg⟩
    go_wp2_with fail
    refine (pack_no _ _ _ (by omega) (by omega) (Or.inl (by omega)) _).mono ?_
    rintro e w2 ⟨rfl, hg2⟩
    obtain ⟨hc, hf, hz⟩ := gcell hg2
    have hz1 : w1.heap.size < w2.heap.size := by simp at hz; omega
    clear hz
    by_cases hae : a = 9223372036854775808
    · subst hae
      go_wp2
      go_ret
      exact ⟨rfl, (((hg.alloc _ _).trans hg2).alloc _ _).grown⟩
    · have hae' : (a == 9223372036854775808) = false := by simpa using hae
      go_wp2
      go_ret
      exact ⟨rfl, (((hg.alloc _ _).trans hg2).alloc _ _).grown⟩
  · rcases Int.lt_trichotomy a 9223372036854775808 with ha | ha | ha
    · refine (pack_yes _ _ _ (by omega) (by omega) (by omega) (Or.inl (by omega)) _).mono ?_
      rintro e w1 ⟨rfl, hg⟩
      go_wp2_with fail
      refine (pack_yes _ _ _ (by omega) (by omega) (by omega) (Or.inl (by omega)) _).mono ?_
      rintro e w2 ⟨rfl, hg2⟩
      obtain ⟨hc, hf, hz⟩ := gcell hg2
      have hz1 : w1.heap.size < w2.heap.size := by simp at hz; omega
      clear hz
      go_wp2
      go_ret
      exact ⟨ret_true (by simp), (((hg.alloc _ _).trans hg2).alloc _ _).grown⟩
    · subst ha
      refine (pack_no _ _ _ (by omega) (by omega) (Or.inr ⟨by omega, Or.inl rfl⟩) _).mono ?_
      rintro e w1 ⟨rfl, hg⟩
      go_wp2_with fail
      refine (pack_yes _ _ _ (by omega) (by omega) (by omega) (Or.inr ⟨rfl, rfl⟩) _).mono ?_
      rintro e w2 ⟨rfl, hg2⟩
      obtain ⟨hc, hf, hz⟩ := gcell hg2
      have hz1 : w1.heap.size < w2.heap.size := by simp at hz; omega
      clear hz
      go_wp2
      go_ret
      exact ⟨rfl, (((hg.alloc _ _).trans hg2).alloc _ _).grown⟩
    · refine (pack_no _ _ _ (by omega) (by omega) (Or.inr ⟨by omega, Or.inl rfl⟩) _).mono ?_
      rintro e w1 ⟨rfl, hg⟩
      go_wp2_with fail
      refine (pack_no _ _ _ (by omega) (by omega) (Or.inr ⟨by omega, Or.inr (by omega)⟩) _).mono ?_
      rintro e w2 ⟨rfl, hg2⟩
      obtain ⟨hc, hf, hz⟩ := gcell hg2
      have hz1 : w1.heap.size < w2.heap.size := by simp at hz; omega
      clear hz
      go_wp2
      go_ret
      exact ⟨rfl, (((hg.alloc _ _).trans hg2).alloc _ _).grown⟩

set_option maxHeartbeats 1000000 in
theorem law_JExact (neg : Bool) (s x t y : Int) (hs : 0 ≤ s ∧ s ≤ 255) (hx : 0 ≤ x ∧ x ≤ 18446744073709551615) (ht : 0 ≤ t ∧ t ≤ 255) (hy : 0 ≤ y ∧ y ≤ 18446744073709551615) (w : World) :
    Calls Ydfm.prog 6 #[.bool neg, .int .u8 s, .int .u64 x, .int .u8 t, .int .u64 y] w fun e w' => e = .returned (.bool true) ∧ Grown w w' := by
  go_enter Ydfm.func6, Ydfm.ntmps6
  go_wp2_with fail
  refine (jplace_any _ _ hs hx _).mono ?_
  rintro e w' ⟨⟨a, ⟨a1, a2⟩, rfl⟩, rfl⟩
  go_wp2_with fail
  refine (jplace_any _ _ ht hy _).mono ?_
  rintro e w' ⟨⟨b, ⟨b1, b2⟩, rfl⟩, rfl⟩
  go_wp2_with fail
  by_cases hb : 9223372036854775808 ≤ b
  · refine (pack_no _ _ _ (by omega) (by omega) (Or.inl (by omega)) _).mono ?_
    rintro e w1 ⟨rfl, hg⟩
    cases neg
    · by_cases ha : a ≤ 9223372036854775807
      all_goals
        go_wp2
        go_ret
        exact ⟨rfl, (hg.alloc _ _).grown⟩
    · by_cases ha : a ≤ 9223372036854775808
      all_goals
        go_wp2
        go_ret
        exact ⟨rfl, (hg.alloc _ _).grown⟩
  · cases neg
    · by_cases ha : a ≤ 9223372036854775807
      · refine (pack_yes _ _ _ (by omega) (by omega) (by omega) (Or.inl (by omega)) _).mono ?_
        rintro e w1 ⟨rfl, hg⟩
        go_wp2
        go_ret
        exact ⟨ret_true (by simp), (hg.alloc _ _).grown⟩
      · refine (pack_no _ _ _ (by omega) (by omega) (Or.inr ⟨by omega, Or.inl rfl⟩) _).mono ?_
        rintro e w1 ⟨rfl, hg⟩
        go_wp2
        go_ret
        exact ⟨rfl, (hg.alloc _ _).grown⟩
    · by_cases ha : a ≤ 9223372036854775808
      · refine (pack_yes _ _ _ (by omega) (by omega) (by omega) (by simp; omega) _).mono ?_
        rintro e w1 ⟨rfl, hg⟩
        go_wp2
        go_ret
        exact ⟨ret_true (by simp [IntKind.wrap_u64]; omega), (hg.alloc _ _).grown⟩
      · refine (pack_no _ _ _ (by omega) (by omega) (Or.inr ⟨by omega, Or.inr (by omega)⟩) _).mono ?_
        rintro e w1 ⟨rfl, hg⟩
        go_wp2
        go_ret
        exact ⟨rfl, (hg.alloc _ _).grown⟩
end Go.Proofs.Ymbrdf
