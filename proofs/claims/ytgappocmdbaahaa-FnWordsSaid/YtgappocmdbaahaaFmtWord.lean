/- FormatWord of the program and of the reference: a digit for each letter, 'e' for no letter, nothing where a letter is none of four. -/
import Derived.Test.YtgappocmdbaahaaInts
import Derived.Test.YtgappocmdbaahaaFmtInt
namespace Go.Proofs.Ytgappocmdbaahaa
open Go.RowKit
set_option linter.unusedVariables false

def ltr (x : Int) : UInt8 := UInt8.ofNat (49 + x.toNat)
def okW (a : List Int) : Bool := a.all fun x => decide (0 ≤ x) && decide (x ≤ 3)
def wordS (a : List Int) : List UInt8 := a.map ltr
def fmtW (a : List Int) : List UInt8 := if okW a then (if a = [] then [101] else wordS a) else []
theorem wordS_snoc (a : List Int) (k : Nat) (h : k < a.length) : wordS (a.take (k + 1)) = wordS (a.take k) ++ [ltr a[k]] := by
  rw [List.take_succ_eq_append_getElem h, wordS, List.map_append]; rfl
theorem okW_bad (a : List Int) (k : Nat) (h : k < a.length) (hx : ¬ (0 ≤ a[k] ∧ a[k] ≤ 3)) : fmtW a = [] := by
  rw [fmtW, if_neg]
  intro ho
  have := List.all_eq_true.1 ho a[k] (List.getElem_mem h)
  simp at this
  exact hx this
theorem okW_good (a : List Int) (h : ∀ j (hj : j < a.length), 0 ≤ a[j] ∧ a[j] ≤ 3) : okW a = true := by
  refine List.all_eq_true.2 (fun x hx => ?_)
  obtain ⟨j, hj, rfl⟩ := List.mem_iff_getElem.1 hx
  have := h j hj
  simp; exact this

theorem dec_one (x : Int) (h0 : 0 ≤ x) (h3 : x ≤ 3) : Lib.decDigits (x + 1).toNat = [ltr x] := by
  unfold ltr
  rw [Lib.decDigits, dif_pos (by omega), show 48 + (x + 1).toNat = 49 + x.toNat by omega]
theorem specFormatIntOne (x : Int) (h0 : 0 ≤ x) (h3 : x ≤ 3) (w : World) : Calls Try.prog 66 #[.int .i64 (x + 1)] w fun e w' => e = .returned (.string ⟨#[ltr x]⟩) ∧ Below w.heap.size w w' := by
  have h := specFormatIntPos (x + 1).toNat (by omega) (by omega) w
  rw [Int.toNat_of_nonneg (by omega), dec_one x h0 h3] at h
  exact h
set_option maxHeartbeats 1000000 in
theorem specFormatWord (v : Value) (a : List Int) (ha : a.length ≤ 1099511627776) (w : World) (h : I w v a) :
    Calls Try.prog 35 #[v] w fun e w' => e = .returned (.string ⟨(fmtW a).toArray⟩) ∧ Below w.heap.size w w' := by
  obtain ⟨g1, o1, c1, rfl, _, _, hc1⟩ := h.form
  have H1 := Lib.hid hc1
  clear hc1 h
  go_enter Try.func35, Try.ntmps35
  go_wp2_with fail
  go_loopw [3, 4] (fun s i wr => ∃ k : Nat, k ≤ a.length ∧ i = .int .i64 k ∧ s = .string ⟨(wordS (a.take k)).toArray⟩ ∧ Below w.heap.size w wr ∧ Hid (∀ j (hj : j < a.length), j < k → 0 ≤ a[j] ∧ a[j] ≤ 3)) (fun _ i _ => a.length - (intOf i).toNat)
  case atStart => exact ⟨0, by omega, rfl, rfl, Below.refl _ _, fun j _ hj => absurd hj (Nat.not_lt_zero j)⟩
  case round =>
    obtain ⟨k, hk, rfl, rfl, hbel, HG⟩ := hrel
    by_cases hlt' : k < a.length
    · have x1 := (hbel.cell (World.block_lt_of_cell? w _ (H1.out k hlt'))).trans (H1.out k hlt')
      have HS := Lib.hid (wordS_snoc a k hlt')
      have hsz : (wordS (a.take k)).length ≤ 1099511627776 := by simp [wordS]; omega
      by_cases hx : 0 ≤ a[k] ∧ a[k] ≤ 3
      · have d1 : decide (0 ≤ a[k]) = true := by simpa using hx.1
        have d2 : decide (a[k] ≤ 3) = true := by simpa using hx.2
        obtain ⟨hx1, hx2⟩ := hx
        go_wp2_with (first | (go_at_call 57; refine (l1In _ _ _ _).mono ?_; rintro e w1 ⟨rfl, rfl⟩) | (go_at_call 66; refine (specFormatIntOne a[k] hx1 hx2 _).mono ?_; rintro e w1 ⟨rfl, hb1⟩))
        go_roundw
        case rel =>
          refine ⟨k + 1, by omega, by go_num, by rw [HS.out, ← bytes_append], below_trans hbel hb1, fun j hj hjk => ?_⟩
          by_cases e : j = k
          · subst e; exact ⟨hx1, hx2⟩
          · exact HG.out j hj (by omega)
        case measure => simp [intOf]; omega
      · have hb : (decide (0 ≤ a[k]) && decide (a[k] ≤ 3)) = false := by rw [Bool.and_eq_false_iff, decide_eq_false_iff_not, decide_eq_false_iff_not]; omega
        have HB := Lib.hid (okW_bad a k hlt' hx)
        clear hx
        go_wp2_with (first | (go_at_call 57; refine (l1In _ _ _ _).mono ?_; rintro e w1 ⟨rfl, rfl⟩; rw [hb]))
        go_ret
        exact ⟨by rw [HB.out]; rfl, hbel⟩
    · obtain rfl : k = a.length := by omega
      rw [List.take_length] at *
      have hgood := okW_good a (fun j hj => HG.out j hj hj)
      by_cases hnil : a = []
      · subst hnil
        go_wp2_with fail
        go_ret
        exact ⟨rfl, hbel⟩
      · have hne : wordS a ≠ [] := by intro e; apply hnil; simpa [wordS] using e
        have hf : fmtW a = wordS a := by rw [fmtW, if_pos hgood, if_neg hnil]
        have HF := Lib.hid hf
        have ht : (wordS a == []) = false := by rw [beq_eq_false_iff_ne]; exact hne
        have ht2 : (wordS a).isEmpty = false := by cases hw : wordS a with | nil => exact absurd hw hne | cons _ _ => rfl
        clear hf hgood hnil
        go_wp2_with fail
        go_ret
        exact ⟨by rw [HF.out]; rfl, hbel⟩
theorem elemU8 : Elem Try.prog 35 5 1 := elem_of (.int .u8 0) Try.underlying35 (by kernel_rfl) rfl (by omega)
set_option maxHeartbeats 1000000 in
theorem implFormatWord (v : Value) (a : List Int) (ha : a.length ≤ 1099511627776) (w : World) (h : I w v a) :
    Calls Try.prog 33 #[v] w fun e w' => e = .returned (.string ⟨(fmtW a).toArray⟩) ∧ Below w.heap.size w w' := by
  obtain ⟨g1, o1, c1, rfl, _, _, hc1⟩ := h.form
  have H1 := Lib.hid hc1
  clear hc1 h
  by_cases hnil : a = []
  · subst hnil
    go_enter Try.func33, Try.ntmps33
    go_wp2_with fail
    go_ret
    exact ⟨rfl, Below.refl _ _⟩
  · have hl0 : 0 < a.length := List.length_pos_iff.2 hnil
    have e0 : ((a.length : Int) == 0) = false := by rw [beq_eq_false_iff_ne]; omega
    have HNIL := Lib.hid hnil
    clear hnil
    go_enter Try.func33, Try.ntmps33
    go_wp2_with fail
    go_loopw [3, 12] (fun s i wr => ∃ k : Nat, k ≤ a.length ∧ i = .int .i64 k ∧ RowV wr w.heap.size 5 s k ((wordS (a.take k)).map bv) ∧ Below w.heap.size w wr ∧ Hid (∀ j (hj : j < a.length), j < k → 0 ≤ a[j] ∧ a[j] ≤ 3)) (fun _ i _ => a.length - (intOf i).toNat)
    case atStart => exact ⟨0, by omega, rfl, rowV_empty w _, below_new w _, fun j _ hj => absurd hj (Nat.not_lt_zero j)⟩
    case round =>
      obtain ⟨k, hk, rfl, hrow, hbel, HG⟩ := hrel
      by_cases hlt' : k < a.length
      · have x1 := (hbel.cell (World.block_lt_of_cell? w _ (H1.out k hlt'))).trans (H1.out k hlt')
        have HS := Lib.hid (wordS_snoc a k hlt')
        obtain ⟨x, ex⟩ : ∃ x, x = a[k] := ⟨_, rfl⟩
        rw [← ex] at x1
        have EX := Lib.hid ex
        by_cases hx : 0 ≤ x ∧ x ≤ 3
        · have d1 : decide (x < 0) = false := by simp; omega
          have d2 : decide (4 ≤ x) = false := by simp; omega
          obtain ⟨hx1, hx2⟩ := hx
          have hbv : Value.int .u8 (49 + x) = bv (ltr x) := by
            have := bv_ofNat (49 + x.toNat) (by omega)
            rw [show ((49 + x.toNat : Nat) : Int) = 49 + x by omega] at this
            exact this
          have HBV := Lib.hid hbv
          clear hbv ex
          go_wp2_with (at_builtin; refine wpList_pushV elemU8 _ rfl _ _ rfl w.heap.size u3 k _ rfl (hrow.alloc _) (.int .u8 (49 + x)) wr.heap.size rfl (cell_new1 _ _ _) rfl (by omega) (by have := hbel.size; simp; omega) ?_; intro gg cap w1 hrow1 hgrow hb1)
          go_roundw
          case rel =>
            refine ⟨k + 1, by omega, by go_num, hrow1.cast rfl rfl ?_, (hbel.alloc hbel.size _).trans hb1, fun j hj hjk => ?_⟩
            · rw [HS.out, List.map_append, HBV.out, EX.out]; rfl
            · by_cases e : j = k
              · subst e; rw [← EX.out]; exact ⟨hx1, hx2⟩
              · exact HG.out j hj (by omega)
          case measure => simp [intOf]; omega
        · have HB := Lib.hid (okW_bad a k hlt' (by rw [← ex]; exact hx))
          clear ex
          by_cases hneg : x < 0
          · have d1 : decide (x < 0) = true := by simpa using hneg
            clear hx
            go_wp2_with fail
            go_ret
            exact ⟨by rw [HB.out]; rfl, hbel⟩
          · have d1 : decide (x < 0) = false := by simpa using hneg
            have d2 : decide (4 ≤ x) = true := by simp; omega
            clear hx
            go_wp2_with fail
            go_ret
            exact ⟨by rw [HB.out]; rfl, hbel⟩
      · obtain rfl : k = a.length := by omega
        rw [List.take_length] at hrow
        have hgood := okW_good a (fun j hj => HG.out j hj hj)
        have hf : fmtW a = wordS a := by rw [fmtW, if_pos hgood, if_neg HNIL.out]
        have HF := Lib.hid hf
        clear hf hgood
        have hcv := run_string_row (P := Try.prog) (src := 35) (dst := 9) Try.underlying35 Try.underlying5 Try.underlying9 hrow.1
        go_wp2_with fail
        go_ret
        exact ⟨by rw [HF.out]; rfl, hbel⟩
end Go.Proofs.Ytgappocmdbaahaa
