/- CompareWords of the reference, slices.Equal, EqualWords of both: what they answer, for words of at most 2^40 letters. -/
import Derived.Test.YtaikjkcbgniplaaDoorInts
namespace Go.Proofs.YtaikjkcbgniplaaDoor
open Go.RowKit
set_option linter.unusedVariables false


/-- The order of words of one length. -/
def lexL : List Int → List Int → Int
  | x :: a, y :: b => if x < y then -1 else if y < x then 1 else lexL a b
  | _, _ => 0
def cmpL (a b : List Int) : Int := if a.length < b.length then -1 else if b.length < a.length then 1 else lexL a b
theorem lexL_self : ∀ a : List Int, lexL a a = 0
  | [] => rfl
  | x :: a => by rw [lexL, if_neg (by omega), if_neg (by omega), lexL_self a]
theorem lexL_zero : ∀ a b : List Int, a.length = b.length → lexL a b = 0 → a = b
  | [], [], _, _ => rfl
  | x :: a, y :: b, hl, h => by
    rw [lexL] at h
    by_cases c1 : x < y
    · rw [if_pos c1] at h; omega
    · rw [if_neg c1] at h
      by_cases c2 : y < x
      · rw [if_pos c2] at h; omega
      · rw [if_neg c2] at h
        rw [show x = y by omega, lexL_zero a b (by simpa using hl) h]
theorem cmpL_eq (a b : List Int) : (cmpL a b == 0) = eqI a b := by
  rw [eqI, Bool.eq_iff_iff, beq_iff_eq, beq_iff_eq]
  constructor
  · intro h
    rw [cmpL] at h
    by_cases c1 : a.length < b.length
    · rw [if_pos c1] at h; omega
    · rw [if_neg c1] at h
      by_cases c2 : b.length < a.length
      · rw [if_pos c2] at h; omega
      · rw [if_neg c2] at h
        exact lexL_zero a b (by omega) h
  · rintro rfl
    rw [cmpL, if_neg (by omega), if_neg (by omega), lexL_self]
theorem lexL_drop (a b : List Int) (k : Nat) (h1 : k < a.length) (h2 : k < b.length) : lexL (a.drop k) (b.drop k) = if a[k] < b[k] then -1 else if b[k] < a[k] then 1 else lexL (a.drop (k + 1)) (b.drop (k + 1)) := by
  rw [List.drop_eq_getElem_cons h1, List.drop_eq_getElem_cons h2, lexL]
theorem lexL_end (a b : List Int) (k : Nat) (h : a.length ≤ k ∨ b.length ≤ k) : lexL (a.drop k) (b.drop k) = 0 := by
  rcases h with h | h
  · rw [List.drop_of_length_le h]; cases b.drop k <;> rfl
  · rw [List.drop_of_length_le h]; cases a.drop k <;> rfl


end Go.Proofs.YtaikjkcbgniplaaDoor
