/- PrincipalMinors of the program and of the reference: the determinants of all principal parts, for at most 2^38 numbers. -/
import Derived.Test.YtaikjkcbgniplaaDoorSets
import Derived.Test.YtaikjkcbgniplaaDoorDetI
import Derived.Test.YtaikjkcbgniplaaDoorPush
namespace Go.Proofs.YtaikjkcbgniplaaDoor
open Go.RowKit
set_option linter.unusedVariables false

def okB (n u : Nat) : Bool := setU n (setT u n) && decide ((setT u n).length ≠ 0) && (setT u 4 == setT u n)
theorem okB_all : ∀ n : Nat, n < 5 → ∀ q : Nat, q < 16 → 1 ≤ q → q < 2 ^ n → okB n q = true := by decide
theorem set_good (n q : Nat) (hn : n ≤ 4) (h1 : 1 ≤ q) (h2 : q < 2 ^ n) : setU n (setT q n) = true ∧ (setT q n).length ≠ 0 ∧ setT q 4 = setT q n := by
  have h16 : 2 ^ n ≤ 16 := Nat.le_trans (Nat.pow_le_pow_right (by omega) hn) (by decide)
  have := okB_all n (by omega) q (by omega) h1 h2
  rw [okB, Bool.and_eq_true, Bool.and_eq_true, decide_eq_true_iff, beq_iff_eq] at this
  exact ⟨this.1.1, this.1.2, this.2⟩
theorem subS_sq (c : List (List Int)) (u : List Int) : Sq (subS c u) := by
  intro k hk
  rw [subS_length] at hk ⊢
  simp [subS, subR]
def pmX (c : List (List Int)) (u : List Int) : Int := det u.length (subS c u)
def pmS (c : List (List Int)) : List Int := (setL c.length).map (pmX c)
def pmL (c : List (List Int)) : List Int := if isC c then pmS c else []
theorem pmS_length (c : List (List Int)) : (pmS c).length = 2 ^ c.length - 1 := by rw [pmS, List.length_map, setL_length]
theorem pmS_snoc (c : List (List Int)) (p : Nat) (x : Int) (h : p + 1 < 2 ^ c.length) (hx : pmX c (setT (p + 1) c.length) = x) : ivs ((pmS c).take (p + 1)) = ivs ((pmS c).take p) ++ [.int .i64 x] := by
  subst hx
  rw [List.take_succ_eq_append_getElem (by rw [pmS_length]; omega)]
  simp [ivs, pmS, setL]
theorem pmS_end (c : List (List Int)) (p : Nat) (h : p + 1 = 2 ^ c.length) : (pmS c).take p = pmS c := List.take_of_length_le (by rw [pmS_length]; omega)
theorem setL_get (n p : Nat) (h : p < (setL n).length) : (setL n)[p] = setT (p + 1) n := by simp [setL]
theorem pmL_len (c : List (List Int)) : (pmL c).length ≤ 16 := by
  unfold pmL
  split
  · next h =>
    have h4 := ((isC_iff c).1 h).2.1
    have h16 : 2 ^ c.length ≤ 16 := Nat.le_trans (Nat.pow_le_pow_right (by omega) h4) (by decide)
    rw [pmS_length]; omega
  · simp
end Go.Proofs.YtaikjkcbgniplaaDoor
