/- The determinant of the program. -/
import Derived.Test.YtaikjkcbgniplaaDoorDet
namespace Go.Proofs.YtaikjkcbgniplaaDoor
open Go.RowKit
set_option linter.unusedVariables false

def sgn (k : Nat) : Int := if k % 2 = 1 then -1 else 1
theorem sgn_next (k : Nat) : wrap64 (- sgn k) = sgn (k + 1) := by
  unfold sgn wrap64
  by_cases h : k % 2 = 1
  · rw [if_pos h, if_neg (by omega)]; decide
  · rw [if_neg h, if_pos (by omega)]; decide
theorem detM_sgn (x d : Int) (k : Nat) : detM x d k = wrap64 (wrap64 (sgn k * x) * d) := by
  unfold detM sgn
  by_cases h : k % 2 = 1
  · rw [if_pos h, if_pos h, wrap64_neg, wrap64_mull, Int.neg_one_mul, Int.neg_mul]
  · rw [if_neg h, if_neg h, wrap64_mull, Int.one_mul]
theorem detM_zero (d : Int) (k : Nat) : detM 0 d k = 0 := by
  unfold detM
  rw [Int.zero_mul]
  split <;> simp [wrap64]
end Go.Proofs.YtaikjkcbgniplaaDoor
