/-
  '==' on [3]uint64.
-/
import Derived.Test.YmbrdfWalkA
import Derived.ChangeKeysEq
namespace Go.Proofs.Ymbrdf
open Go.RowKit

theorem arr3_eq (x0 x1 x2 y0 y1 y2 : Int) (w : World) :
    (Op.equalIn 10000 41 (.agg #[.int .u64 x0, .int .u64 x1, .int .u64 x2]) (.agg #[.int .u64 y0, .int .u64 y1, .int .u64 y2])).run Ydfm.prog w = .ok (x0 == y0 && (x1 == y1 && x2 == y2)) w := by
  have hu : Ydfm.prog.underlying 41 = some (.array 3 26) := by kernel_rfl
  obtain ⟨i, hi⟩ := Option.isSome_iff_exists.mp (show (Ydfm.prog.info? 26).isSome = true by kernel_rfl)
  rw [run_equalIn_array w 9999 _ _ hu hi]
  have hc : Ydfm.prog.cellsOf 26 = 1 := by kernel_rfl
  rw [hc]
  simp [List.range, List.range.loop, Op.eqItems, go_sem, Ydfm.underlying26, part]
  by_cases h0 : x0 = y0 <;> by_cases h1 : x1 = y1 <;> by_cases h2 : x2 = y2 <;> simp [h0, h1, h2]
end Go.Proofs.Ymbrdf
