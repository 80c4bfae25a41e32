/- Minors: a matrix without its first row and one column, and the determinant that comes of it: what l4Without, l4Det of the reference answer. -/
import Derived.Test.YtaikjkcbgniplaaDoorRw
namespace Go.Proofs.YtaikjkcbgniplaaDoor
open Go.RowKit
set_option linter.unusedVariables false

/-! ### Sums that go round -/
theorem wrap64_off (a q : Int) : wrap64 (a + q * 18446744073709551616) = wrap64 a := by unfold wrap64; omega
theorem wrap64_is (a : Int) : ∃ q : Int, wrap64 a = a + q * 18446744073709551616 := ⟨-((a + 9223372036854775808) / 18446744073709551616), by unfold wrap64; omega⟩
theorem wrap64_idem (a : Int) : wrap64 (wrap64 a) = wrap64 a := by unfold wrap64; omega
theorem wrap64_addr (a b : Int) : wrap64 (a + wrap64 b) = wrap64 (a + b) := by unfold wrap64; omega
theorem wrap64_neg (a : Int) : wrap64 (- wrap64 a) = wrap64 (- a) := by unfold wrap64; omega
theorem wrap64_mull (a b : Int) : wrap64 (wrap64 a * b) = wrap64 (a * b) := by
  obtain ⟨q, hq⟩ := wrap64_is a
  rw [hq, Int.add_mul, Int.mul_assoc, Int.mul_comm 18446744073709551616 b, ← Int.mul_assoc]
  exact wrap64_off _ _

/-! ### Minors -/
def cutT (r : List Int) (k m : Nat) : List Int := (r.take m).eraseIdx k
theorem cutT_same (r : List Int) (k : Nat) (h : k < r.length) : cutT r k (k + 1) = cutT r k k := by
  rw [cutT, cutT, List.take_succ_eq_append_getElem h, List.eraseIdx_append_of_length_le (by simp; omega), List.eraseIdx_of_length_le (l := r.take k) (by simp; omega)]
  simp [show k - min k r.length = 0 by omega]
theorem cutT_next (r : List Int) (k m : Nat) (h : m < r.length) (hk : k ≠ m) : cutT r k (m + 1) = cutT r k m ++ [r[m]] := by
  rw [cutT, cutT, List.take_succ_eq_append_getElem h]
  by_cases c : k < m
  · rw [List.eraseIdx_append_of_lt_length (by simp; omega)]
  · rw [List.eraseIdx_of_length_le (l := r.take m) (by simp; omega), List.eraseIdx_of_length_le (by simp; omega)]
theorem cutT_zero (r : List Int) (k : Nat) : cutT r k 0 = [] := by simp [cutT]
theorem cutT_end (r : List Int) (k : Nat) : cutT r k r.length = r.eraseIdx k := by rw [cutT, List.take_length]
theorem cutT_len (r : List Int) (k m : Nat) : (cutT r k m).length ≤ m := by
  have := List.length_eraseIdx_le (l := r.take m) (i := k)
  unfold cutT
  simp at this ⊢
  omega
def woL (c : List (List Int)) (k : Nat) : List (List Int) := (c.drop 1).map (fun r => r.eraseIdx k)
theorem woL_length (c : List (List Int)) (k : Nat) : (woL c k).length = c.length - 1 := by simp [woL]
theorem woL_snoc (c : List (List Int)) (k p : Nat) (h : p + 1 < c.length) : (woL c k).take (p + 1) = (woL c k).take p ++ [c[p + 1].eraseIdx k] := by
  rw [List.take_succ_eq_append_getElem (by rw [woL_length]; omega)]
  simp [woL]
theorem woL_end (c : List (List Int)) (k p : Nat) (h : p + 1 = c.length) : (woL c k).take p = woL c k := List.take_of_length_le (by rw [woL_length]; omega)
theorem woL_sq (c : List (List Int)) (k : Nat) (h : Sq c) (hk : k < c.length) : Sq (woL c k) := by
  intro i hi
  rw [woL_length] at hi ⊢
  simp only [woL, List.getElem_map, List.getElem_drop]
  rw [List.length_eraseIdx_of_lt (by rw [h _ (by omega)]; exact hk), h _ (by omega)]
/-- One term of the sum, with the minor's determinant d. -/
def detM (x d : Int) (k : Nat) : Int := if k % 2 = 1 then wrap64 (- wrap64 (x * d)) else wrap64 (x * d)
def detT (D : Nat → Int) (X : Nat → Int) : Nat → Int
  | 0 => 0
  | k + 1 => wrap64 (detT D X k + detM (X k) (D k) k)
def det : Nat → List (List Int) → Int
  | 0, _ => 1
  | n + 1, c => detT (fun k => det n (woL c k)) (fun k => ent c 0 k) (n + 1)
theorem detT_wrap (D X : Nat → Int) (k : Nat) : wrap64 (detT D X k) = detT D X k := by
  cases k with
  | zero => simp [detT, wrap64]
  | succ k => exact wrap64_idem _
end Go.Proofs.YtaikjkcbgniplaaDoor
