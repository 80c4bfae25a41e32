/- IsWeight, IsWord, RhoOf, SimpleRootWeight, BondOf of the program and of the reference: what they answer, for rows of at most 2^40 numbers. -/
import Derived.Test.YtaikjkcbgniplaaGreatDoorCartan
namespace Go.Proofs.YtaikjkcbgniplaaGreatDoor
open Go.RowKit
set_option linter.unusedVariables false

def isPt (n : Nat) (x : Int) : Bool := decide (0 ≤ x) && decide (x < (n : Int))
theorem isPt_iff (n : Nat) (x : Int) : isPt n x = true ↔ 0 ≤ x ∧ x < (n : Int) := by simp [isPt]
theorem isPt_no (n : Nat) (x : Int) (h : ¬ (0 ≤ x ∧ x < (n : Int))) : isPt n x = false := by
  cases hp : isPt n x with
  | false => rfl
  | true => exact absurd ((isPt_iff n x).1 hp) h
theorem isPt_le (n : Nat) (x : Int) : (decide (0 ≤ x) && decide (x ≤ (n : Int) - 1)) = isPt n x := by
  rw [isPt, show decide (x ≤ (n : Int) - 1) = decide (x < (n : Int)) from by rw [decide_eq_decide]; omega]
set_option maxHeartbeats 400000 in
theorem isPoint (v : Value) (c : List (List Int)) (x : Int) (w : World) (h : II w v c) : Calls Tryz.prog 87 #[v, .int .i64 x] w fun e w' => e = .returned (.bool (isPt c.length x)) ∧ w = w' := by
  obtain ⟨g, o, cap, rfl, _, _, _⟩ := h.form
  clear h
  by_cases h0 : 0 ≤ x
  · by_cases h1 : x < (c.length : Int)
    · have hp := (isPt_iff c.length x).2 ⟨h0, h1⟩
      have HP := Lib.hid hp
      clear hp
      go_enter Tryz.func87, Tryz.ntmps87
      go_wp2_with fail
      go_ret
      exact ⟨ret_bool HP.out.symm, rfl⟩
    · have HP := Lib.hid (isPt_no c.length x (by omega))
      have d0 : decide (0 ≤ x) = true := by simpa using h0
      have d1 : decide (x < (c.length : Int)) = false := by simpa using h1
      clear h0 h1
      go_enter Tryz.func87, Tryz.ntmps87
      go_wp2_with fail
      go_ret
      exact ⟨ret_bool HP.out.symm, rfl⟩
  · have HP := Lib.hid (isPt_no c.length x (by omega))
    have d0 : decide (0 ≤ x) = false := by simpa using h0
    clear h0
    go_enter Tryz.func87, Tryz.ntmps87
    go_wp2_with fail
    go_ret
    exact ⟨ret_bool HP.out.symm, rfl⟩

def inR (x : Int) : Bool := decide (-1000 ≤ x) && decide (x ≤ 1000)
theorem inR_iff (x : Int) : inR x = true ↔ -1000 ≤ x ∧ x ≤ 1000 := by simp [inR]
def isWt (c : List (List Int)) (v : List Int) : Bool := isC c && decide (v.length = c.length) && v.all inR
theorem isWt_iff (c : List (List Int)) (v : List Int) : isWt c v = true ↔ isC c = true ∧ v.length = c.length ∧ ∀ x ∈ v, -1000 ≤ x ∧ x ≤ 1000 := by
  simp only [isWt, Bool.and_eq_true, decide_eq_true_iff, List.all_eq_true, inR_iff, and_assoc]
theorem isWt_no (c : List (List Int)) (v : List Int) (h : ¬ (isC c = true ∧ v.length = c.length ∧ ∀ x ∈ v, -1000 ≤ x ∧ x ≤ 1000)) : isWt c v = false := by
  cases hp : isWt c v with
  | false => rfl
  | true => exact absurd ((isWt_iff c v).1 hp) h
theorem all_of (v : List Int) (p : Int → Prop) (h : ∀ j (hj : j < v.length), p v[j]) : ∀ x ∈ v, p x := fun x hx => by
  obtain ⟨j, hj, rfl⟩ := List.mem_iff_getElem.1 hx
  exact h j hj

def isWd (c : List (List Int)) (v : List Int) : Bool := isC c && decide (v.length ≤ 15) && v.all (isPt c.length)
theorem isWd_iff (c : List (List Int)) (v : List Int) : isWd c v = true ↔ isC c = true ∧ v.length ≤ 15 ∧ ∀ x ∈ v, 0 ≤ x ∧ x < (c.length : Int) := by
  simp only [isWd, Bool.and_eq_true, decide_eq_true_iff, List.all_eq_true, isPt_iff, and_assoc]
theorem isWd_no (c : List (List Int)) (v : List Int) (h : ¬ (isC c = true ∧ v.length ≤ 15 ∧ ∀ x ∈ v, 0 ≤ x ∧ x < (c.length : Int))) : isWd c v = false := by
  cases hp : isWd c v with
  | false => rfl
  | true => exact absurd ((isWd_iff c v).1 hp) h
end Go.Proofs.YtaikjkcbgniplaaGreatDoor
