-- Printed by wip/xprint.py (a program of this repo, round the kit's print.py)
import Derived.ChangeKeysEq
import Derived.Test.YtniobphfbfnccaaPRefx0
namespace Go.Proofs.Ytniobphfbfnccaa.PRef
open Go.RowKit Go.Proofs.YtniobphfbfnccaaW.PrintWords Go.Proofs.YtniobphfbfnccaaW.PrintLast Go.Proofs.YtniobphfbfnccaaW.PrintMore
attribute [local go_sem] max2_int min2_int max_two min_two max_three min_three max_four min_four   -- for this text's walks alone
set_option linter.unusedVariables false
set_option linter.unusedSimpArgs false

theorem eqA50 (d : Nat) (w : World) (x0 y0 : Int) (x1 y1 : Int) :
    (Op.equalIn (d + 2) 50 (.agg #[.int .i64 x0, .int .i64 x1]) (.agg #[.int .i64 y0, .int .i64 y1])).run Try.prog w = .ok (x0 == y0 && (x1 == y1)) w := by
  obtain ⟨i0, hi, _⟩ := Option.map_eq_some_iff.1 info3
  rw [run_equalIn_array w (d + 1) _ _ Try.underlying50 hi]
  simp only [List.range, List.range.loop, Op.eqItems]
  have hs : Try.prog.cellsOf 3 = 1 := by kernel_rfl
  rw [hs]
  go_simp
  by_cases h0 : x0 = y0 <;> by_cases h1 : x1 = y1 <;> simp [h0, h1]
end Go.Proofs.Ytniobphfbfnccaa.PRef
