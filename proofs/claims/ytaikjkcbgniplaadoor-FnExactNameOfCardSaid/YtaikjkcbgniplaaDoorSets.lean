/- The sets of points of a diagram in their order: what l4Sets answers. (Under way.) -/
import Derived.Test.YtaikjkcbgniplaaDoorMask
namespace Go.Proofs.YtaikjkcbgniplaaDoor
open Go.RowKit
set_option linter.unusedVariables false

def setL (n : Nat) : List (List Int) := (List.range (2 ^ n - 1)).map (fun p => setT (p + 1) n)
theorem setL_length (n : Nat) : (setL n).length = 2 ^ n - 1 := by simp [setL]
theorem setL_snoc (n p : Nat) (h : p + 1 < 2 ^ n) : (setL n).take (p + 1) = (setL n).take p ++ [setT (p + 1) n] := by
  rw [List.take_succ_eq_append_getElem (by rw [setL_length]; omega)]
  simp [setL]
theorem setL_end (n p : Nat) (h : p + 1 = 2 ^ n) : (setL n).take p = setL n := List.take_of_length_le (by rw [setL_length]; omega)
end Go.Proofs.YtaikjkcbgniplaaDoor
