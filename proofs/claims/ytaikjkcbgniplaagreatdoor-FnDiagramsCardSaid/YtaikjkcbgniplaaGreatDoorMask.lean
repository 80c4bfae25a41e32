/- Sets by number: what setOf answers. -/
import Derived.Test.YtaikjkcbgniplaaGreatDoorSub
namespace Go.Proofs.YtaikjkcbgniplaaGreatDoor
open Go.RowKit
set_option linter.unusedVariables false

def bitOn (q b : Nat) : Bool := (q / 2 ^ b) % 2 == 1
def setT (q b : Nat) : List Int := ((List.range b).filter (bitOn q)).map (fun i : Nat => (i : Int))
theorem bit_and : ∀ q : Nat, q < 16 → ∀ b : Nat, b < 5 → (bits .and .i64 ((q : Int) / 2 ^ b) 1 == 1) = bitOn q b := by decide
theorem bit_none : ∀ q : Nat, q < 16 → ∀ b : Nat, b < 5 → decide ((0 : Int) < (q : Int) / 2 ^ b) = false → setT q b = setT q 4 := by decide
theorem bit_some : ∀ q : Nat, q < 16 → ∀ b : Nat, b < 5 → decide ((0 : Int) < (q : Int) / 2 ^ b) = true → b < 4 := by decide
theorem setT_len (q b : Nat) : (setT q b).length ≤ b := by
  have := List.length_filter_le (bitOn q) (List.range b)
  simpa [setT] using this
theorem setT_on (q b : Nat) (h : bitOn q b = true) : setT q (b + 1) = setT q b ++ [(b : Int)] := by simp [setT, List.range_succ, h]
theorem setT_off (q b : Nat) (h : bitOn q b = false) : setT q (b + 1) = setT q b := by simp [setT, List.range_succ, h]
set_option maxHeartbeats 1000000 in
theorem implSetOf (q : Nat) (hq : q < 16) (w : World) : Calls Tryz.prog 91 #[.int .i64 q] w (RetInts w (setT q 4)) := by
  go_enter Tryz.func91, Tryz.ntmps91
  go_wp2_with fail
  go_loopw [3, 4] (fun v i wr => ∃ b : Nat, b ≤ 4 ∧ i = .int .i64 b ∧ RowV wr w.heap.size 3 v (setT q b).length (ivs (setT q b)) ∧ Below w.heap.size w wr) (fun _ i _ => 4 - (intOf i).toNat)
  case atStart => exact ⟨0, by omega, rfl, rowV_empty w _, (Below.refl _ _).alloc (Nat.le_refl _) _⟩
  case round =>
    obtain ⟨b, hb, rfl, hrow, hbel⟩ := hrel
    have hlen := setT_len q b
    cases d1 : decide ((0 : Int) < (q : Int) / 2 ^ b) with
    | false =>
      have HN := Lib.hid (bit_none q hq b (by omega) d1)
      rw [HN.out] at hrow
      obtain ⟨g, hg, hown⟩ := hrow.own
      go_wp2_with fail
      go_ret
      exact ⟨_, g, rfl, hg, hown, hbel⟩
    | true =>
      have h4 := bit_some q hq b (by omega) d1
      have e1 := bit_and q hq b (by omega)
      cases hB : bitOn q b with
      | false =>
        rw [hB] at e1
        have HT := Lib.hid (setT_off q b hB)
        clear hB
        go_wp2_with fail
        go_roundw
        case rel => exact ⟨b + 1, by omega, by go_num, hrow.cast rfl (by rw [HT.out]) (by rw [HT.out]), hbel⟩
        case measure => simp [intOf]; omega
      | true =>
        rw [hB] at e1
        have HT := Lib.hid (setT_on q b hB)
        clear hB
        go_wp2_with (at_builtin; refine wpList_pushV elemInt _ rfl _ _ rfl w.heap.size u3 (setT q b).length _ rfl (hrow.alloc _) (.int .i64 b) wr.heap.size rfl (cell_new1 _ _ _) rfl (by omega) (by have := hbel.size; simp; omega) ?_; intro gg cap w2 hrow1 hgrow hb2)
        go_roundw
        case rel => exact ⟨b + 1, by omega, by go_num, hrow1.cast rfl (by rw [HT.out, List.length_append]; rfl) (by rw [HT.out, ivs_append]; rfl), (hbel.alloc hbel.size _).trans hb2⟩
        case measure => simp [intOf]; omega
end Go.Proofs.YtaikjkcbgniplaaGreatDoor
