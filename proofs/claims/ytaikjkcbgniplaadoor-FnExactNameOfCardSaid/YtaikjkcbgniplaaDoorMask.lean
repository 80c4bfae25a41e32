/- Sets by number: what setOf answers. -/
import Derived.Test.YtaikjkcbgniplaaDoorSub
namespace Go.Proofs.YtaikjkcbgniplaaDoor
open Go.RowKit
set_option linter.unusedVariables false

def bitOn (q b : Nat) : Bool := (q / 2 ^ b) % 2 == 1
def setT (q b : Nat) : List Int := ((List.range b).filter (bitOn q)).map (fun i : Nat => (i : Int))
theorem bit_and : ∀ q : Nat, q < 16 → ∀ b : Nat, b < 5 → (bits .and .i64 ((q : Int) / 2 ^ b) 1 == 1) = bitOn q b := by decide
theorem bit_none : ∀ q : Nat, q < 16 → ∀ b : Nat, b < 5 → decide ((0 : Int) < (q : Int) / 2 ^ b) = false → setT q b = setT q 4 := by decide
theorem bit_some : ∀ q : Nat, q < 16 → ∀ b : Nat, b < 5 → decide ((0 : Int) < (q : Int) / 2 ^ b) = true → b < 4 := by decide
theorem setT_len (q b : Nat) : (setT q b).length ≤ b := by
  have := List.length_filter_le (bitOn q) (List.range b)
  simpa [setT] using this
theorem setT_on (q b : Nat) (h : bitOn q b = true) : setT q (b + 1) = setT q b ++ [(b : Int)] := by simp [setT, List.range_succ, h]
theorem setT_off (q b : Nat) (h : bitOn q b = false) : setT q (b + 1) = setT q b := by simp [setT, List.range_succ, h]
end Go.Proofs.YtaikjkcbgniplaaDoor
