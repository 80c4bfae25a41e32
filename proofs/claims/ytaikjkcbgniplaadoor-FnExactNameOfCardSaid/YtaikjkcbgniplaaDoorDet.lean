/- The determinant of the reference (l4Det, DeterminantOf). -/
import Derived.Test.YtaikjkcbgniplaaDoorWo
namespace Go.Proofs.YtaikjkcbgniplaaDoor
open Go.RowKit
set_option linter.unusedVariables false

theorem wrapE2 (n : Int) : IntKind.i64.wrap n = wrap64 n := by rw [IntKind.wrap_i64, wrap64]
end Go.Proofs.YtaikjkcbgniplaaDoor
