/- Arrays of six numbers are compared place by place. -/
import Derived.Test.YtdldbdffaffjoaaBoxK
import Derived.ChangeKeysEq
namespace Go.Proofs.Ytdldbdffaffjoaa
open Go.RowKit
set_option maxRecDepth 20000

theorem cells_int6 : Try.prog.cellsOf 3 = 1 := by kernel_rfl
theorem eq_arr6 (a0 a1 a2 a3 a4 a5 b0 b1 b2 b3 b4 b5 : Int) (w : World) :
    (Op.equalIn 10000 39 (.agg #[.int .i64 a0, .int .i64 a1, .int .i64 a2, .int .i64 a3, .int .i64 a4, .int .i64 a5]) (.agg #[.int .i64 b0, .int .i64 b1, .int .i64 b2, .int .i64 b3, .int .i64 b4, .int .i64 b5])).run Try.prog w =
      .ok (a0 == b0 && (a1 == b1 && (a2 == b2 && (a3 == b3 && (a4 == b4 && a5 == b5))))) w := by
  obtain ⟨i, hi⟩ := Option.isSome_iff_exists.1 (show (Try.prog.info? 3).isSome = true by kernel_rfl)
  rw [run_equalIn_array w 9999 _ _ Try.underlying39 hi, cells_int6]
  simp [List.range_succ, Op.eqItems, go_sem]
  by_cases h0 : a0 = b0 <;> by_cases h1 : a1 = b1 <;> by_cases h2 : a2 = b2 <;> by_cases h3 : a3 = b3 <;> by_cases h4 : a4 = b4 <;> by_cases h5 : a5 = b5 <;> simp [h0, h1, h2, h3, h4, h5]
end Go.Proofs.Ytdldbdffaffjoaa
