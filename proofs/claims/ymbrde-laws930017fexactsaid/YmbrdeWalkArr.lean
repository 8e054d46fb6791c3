/-
  '==' on [3]uint64.
-/
import Derived.Test.YmbrdeWalkA
import Derived.ChangeKeysEq
namespace Go.Proofs.Ymbrde
open Go.RowKit

theorem arr3_eq (x0 x1 x2 y0 y1 y2 : Int) (w : World) :
    (Op.equalIn 10000 54 (.agg #[.int .u64 x0, .int .u64 x1, .int .u64 x2]) (.agg #[.int .u64 y0, .int .u64 y1, .int .u64 y2])).run Ydem.prog w = .ok (x0 == y0 && (x1 == y1 && x2 == y2)) w := by
  have hu : Ydem.prog.underlying 54 = some (.array 3 33) := by kernel_rfl
  obtain ⟨i, hi⟩ := Option.isSome_iff_exists.mp (show (Ydem.prog.info? 33).isSome = true by kernel_rfl)
  rw [run_equalIn_array w 9999 _ _ hu hi]
  have hc : Ydem.prog.cellsOf 33 = 1 := by kernel_rfl
  rw [hc]
  simp [List.range, List.range.loop, Op.eqItems, go_sem, Ydem.underlying33, part]
  by_cases h0 : x0 = y0 <;> by_cases h1 : x1 = y1 <;> by_cases h2 : x2 = y2 <;> simp [h0, h1, h2]
end Go.Proofs.Ymbrde
