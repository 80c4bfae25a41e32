/- The reference's FormatInt: it answers the decimal numeral, for every int. -/
import Derived.Test.YtaikjkcbgniplaaGreatDoorLib
import Derived.Lib.ItoaNum
import Derived.Lib.ItoaLen
namespace Go.Proofs.YtaikjkcbgniplaaGreatDoor
open Go.RowKit
set_option linter.unusedVariables false

def dgt (d : Nat) : UInt8 := UInt8.ofNat (48 + d)
/-- The digits of u, none for 0. -/
def digs0 (u : Nat) : List UInt8 := if u = 0 then [] else Lib.decDigits u
theorem digs0_step (u : Nat) (h : u ≠ 0) : digs0 u = digs0 (u / 10) ++ [dgt (u % 10)] := by
  unfold dgt
  rw [digs0, if_neg h, Lib.decDigits]
  by_cases c : u < 10
  · rw [dif_pos c, digs0, if_pos (by omega), Nat.mod_eq_of_lt c]; rfl
  · rw [dif_neg c, digs0, if_neg (by omega)]
theorem digs0_le (u : Nat) (l : List UInt8) (r : Nat) (h : digs0 u ++ l = digs0 r) (hr : r ≤ 9223372036854775808) : l.length ≤ 20 := by
  have h1 : (digs0 r).length ≤ 20 := by
    unfold digs0
    split
    · simp
    · rw [Lib.decDigits_length]; exact Lib.nDigits_le20 r (by omega)
  have h2 := congrArg List.length h
  rw [List.length_append] at h2
  omega
theorem tmod_neg (u : Nat) : (-(u : Int)).tmod 10 = -((u % 10 : Nat) : Int) := by rw [Int.neg_tmod]; rfl
theorem tdiv_neg (u : Nat) : (-(u : Int)).tdiv 10 = -((u / 10 : Nat) : Int) := by rw [Int.neg_tdiv]; rfl

theorem conv_digit (w : World) (d : Nat) (h : d < 10) : (convert 22 9 (.slice (some ⟨w.heap.size, 0, none⟩) 1 1)).run Tryz.prog (w.alloc (.cells #[.int .u8 (48 + (d : Int))] 5)) = .ok (.string ⟨#[dgt d]⟩) (w.alloc (.cells #[.int .u8 (48 + (d : Int))] 5)) := by
  have := run_convert_bytes_back (P := Tryz.prog) (w.alloc (.cells #[.int .u8 (48 + (d : Int))] 5)) 22 9 5 ⟨w.heap.size, 0, none⟩ 1 [dgt d] Tryz.underlying22 Tryz.underlying5 Tryz.underlying9 (fun j hj => by
    obtain rfl : j = 0 := by simpa using hj
    have h2 := bv_ofNat (48 + d) (by omega)
    unfold bv at h2
    rw [addr_add, cell_new1, List.getElem_singleton, dgt, ← h2]
    simp)
  simpa using this

theorem conv_digit2 (w : World) (x : Int) (d : Nat) (hx : x = 48 + (d : Int)) (h : d < 10) : (convert 22 9 (.slice (some ⟨w.heap.size, 0, none⟩) 1 1)).run Tryz.prog (w.alloc (.cells #[.int .u8 x] 5)) = .ok (.string ⟨#[dgt d]⟩) (w.alloc (.cells #[.int .u8 x] 5)) := by
  subst hx; exact conv_digit w d h
theorem wrap_div10 (u : Nat) (h : Hid (u ≤ 9223372036854775807)) : RowKit.wrap64 ((u : Int) / 10) = (u : Int) / 10 := by
  have := h.out
  exact IntWalk.wrap64_in _ ⟨by omega, by omega⟩
theorem wrap_neg10 (u : Nat) (h : Hid (u ≤ 9223372036854775808)) : RowKit.wrap64 (-((u : Int) / 10)) = -((u : Int) / 10) := by
  have := h.out
  exact IntWalk.wrap64_in _ ⟨by omega, by omega⟩
theorem meas_div10 (u : Nat) (h : 1 ≤ u) : (intOf (.int .i64 ((u : Int) / 10))).toNat < (intOf (.int .i64 (u : Int))).toNat := by simp [intOf]; omega
theorem hid_div10 (u b : Nat) (h : Hid (u ≤ b)) : Hid (u / 10 ≤ b) := Nat.le_trans (Nat.div_le_self _ _) h
theorem hid_len (u : Nat) (l : List UInt8) (n : Nat) (h : Hid (digs0 u ++ l = digs0 n)) (hn : Hid (n ≤ 9223372036854775808)) : l.length ≤ 20 := digs0_le u l n h hn
theorem hid_wk (n : Nat) (h : Hid (n ≤ 9223372036854775807)) : Hid (n ≤ 9223372036854775808) := Nat.le_trans h.out (by omega)
theorem hid_step (u n : Nat) (l : List UInt8) (hz : Hid ¬u = 0) (h : Hid (digs0 u ++ l = digs0 n)) : Hid (digs0 (u / 10) ++ dgt (u % 10) :: l = digs0 n) := by
  have h := h.out
  rw [digs0_step u hz.out, List.append_assoc] at h
  exact h

set_option maxRecDepth 100000 in
set_option maxHeartbeats 1000000 in
theorem specFormatIntPos (n : Nat) (h0 : n ≠ 0) (hn : n ≤ 9223372036854775807) (w : World) :
    Calls Tryz.prog 102 #[.int .i64 n] w fun e w' => e = .returned (.string ⟨(Lib.decDigits n).toArray⟩) ∧ Below w.heap.size w w' := by
  have HN := Lib.hid hn
  have e0 : ((n : Int) == 0) = false := by rw [beq_eq_false_iff_ne]; omega
  have e1 : decide ((n : Int) < 0) = false := by simp
  have H0 := Lib.hid h0
  clear hn h0
  go_enter Tryz.func102, Tryz.ntmps102
  go_wp2_with fail
  go_loopw [0, 3] (fun x v wr => ∃ (u : Nat) (l : List UInt8), x = .int .i64 u ∧ v = .string ⟨l.toArray⟩ ∧ Below w.heap.size w wr ∧ Hid (u ≤ 9223372036854775807) ∧ Hid (digs0 u ++ l = digs0 n)) (fun x _ _ => (intOf x).toNat)
  case atStart => exact ⟨n, [], rfl, rfl, Below.refl _ _, HN.out, by simp [Hid]⟩
  case round =>
    obtain ⟨u, l, rfl, rfl, hbel, HU, HD⟩ := hrel
    have hl : l.length ≤ 20 := hid_len u l n HD (hid_wk n HN)
    by_cases hz : u = 0
    · subst hz
      have hd : l = Lib.decDigits n := by have h := HD.out; rw [digs0, if_pos rfl, digs0, if_neg H0.out] at h; exact h
      have HL := Lib.hid hd
      clear hd
      go_wp2_with fail
      go_ret
      exact ⟨ret_str HL.out, hbel⟩
    · have t1 : ((u : Int) != 0) = true := by rw [bne_iff_ne]; omega
      have hu1 : 1 ≤ u := by omega
      have hcv := conv_digit wr (u % 10) (Nat.mod_lt _ (by omega))
      rw [show (((u % 10 : Nat) : Int)) = (u : Int) % 10 from rfl] at hcv
      have HZ := Lib.hid hz
      clear hz
      have hw := wrap_div10 u HU
      go_wp2_with fail
      go_roundw
      case rel =>
        exact ⟨u / 10, dgt (u % 10) :: l, by go_num, rfl, hbel.alloc hbel.size _, hid_div10 u _ HU, hid_step u n l HZ HD⟩
      case measure => rw [hw]; exact meas_div10 u hu1
set_option maxRecDepth 100000 in
set_option maxHeartbeats 1000000 in
theorem specFormatIntNeg (n : Nat) (h0 : n ≠ 0) (hn : n ≤ 9223372036854775808) (w : World) :
    Calls Tryz.prog 102 #[.int .i64 (-(n : Int))] w fun e w' => e = .returned (.string ⟨(45 :: Lib.decDigits n).toArray⟩) ∧ Below w.heap.size w w' := by
  have HN := Lib.hid hn
  have e0 : ((-(n : Int)) == 0) = false := by rw [beq_eq_false_iff_ne]; omega
  have e1 : decide (0 < n) = true := by simp; omega
  have H0 := Lib.hid h0
  clear hn h0
  go_enter Tryz.func102, Tryz.ntmps102
  go_wp2_with fail
  go_loopw [0, 3, 5] (fun x v _ wr => ∃ (u : Nat) (l : List UInt8), x = .int .i64 (-(u : Int)) ∧ v = .string ⟨l.toArray⟩ ∧ Below w.heap.size w wr ∧ Hid (u ≤ 9223372036854775808) ∧ Hid (digs0 u ++ l = digs0 n)) (fun x _ _ _ => (-(intOf x)).toNat)
  case atStart => exact ⟨n, [], rfl, rfl, Below.refl _ _, HN.out, by simp [Hid]⟩
  case round =>
    obtain ⟨u, l, rfl, rfl, hbel, HU, HD⟩ := hrel
    have hl : l.length ≤ 20 := hid_len u l n HD HN
    by_cases hz : u = 0
    · subst hz
      have hd : l = Lib.decDigits n := by have h := HD.out; rw [digs0, if_pos rfl, digs0, if_neg H0.out] at h; exact h
      have HL := Lib.hid hd
      clear hd
      go_wp2_with fail
      go_ret
      exact ⟨by rw [← HL.out]; rfl, hbel⟩
    · have t1 : ((-(u : Int)) != 0) = true := by rw [bne_iff_ne]; omega
      have hu1 : 1 ≤ u := by omega
      have HZ := Lib.hid hz
      clear hz
      have hw := wrap_neg10 u HU
      by_cases hd0 : u % 10 = 0
      · have hcv := conv_digit2 wr (48 + -((u : Int) % 10)) 0 (by omega) (by omega)
        have hd1 : (u : Int) % 10 ≤ 0 := by omega
        have HD0 := Lib.hid hd0
        clear hd0
        go_wp2_with fail
        go_roundw
        case rel => exact ⟨u / 10, dgt (u % 10) :: l, by go_num, by rw [HD0.out]; rfl, hbel.alloc hbel.size _, hid_div10 u _ HU, hid_step u n l HZ HD⟩
        case measure => simp [intOf]; omega
      · have hcv := conv_digit2 wr (48 + (u : Int) % 10) (u % 10) (by omega) (by omega)
        have hd1 : 0 < (u : Int) % 10 := by omega
        clear hd0
        go_wp2_with fail
        go_roundw
        case rel => exact ⟨u / 10, dgt (u % 10) :: l, by go_num, rfl, hbel.alloc hbel.size _, hid_div10 u _ HU, hid_step u n l HZ HD⟩
        case measure => simp [intOf]; omega
end Go.Proofs.YtaikjkcbgniplaaGreatDoor
