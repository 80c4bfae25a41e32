/- SizeByName of the program (strings.Split) and of the reference: the product of the sizes of the parts, for texts of at most 2^20 bytes. (Printed by gen_size.py.) -/
import Derived.Test.YtaikjkcbgniplaaGreatDoorCut
namespace Go.Proofs.YtaikjkcbgniplaaGreatDoor
open Go.RowKit
set_option linter.unusedVariables false

def szOf (l : List UInt8) : Int := if l = [65, 49] then 2 else if l = [65, 50] then 6 else if l = [65, 51] then 24 else if l = [65, 52] then 120 else if l = [66, 50] then 8 else if l = [66, 51] then 48 else if l = [67, 51] then 48 else if l = [66, 52] then 384 else if l = [67, 52] then 384 else if l = [68, 52] then 192 else if l = [70, 52] then 1152 else if l = [71, 50] then 12 else 0
theorem szCases (x : ByteArray) : ((x.toList == [65, 49]) = true ∧ (x.toList == [65, 50]) = false ∧ (x.toList == [65, 51]) = false ∧ (x.toList == [65, 52]) = false ∧ (x.toList == [66, 50]) = false ∧ (x.toList == [66, 51]) = false ∧ (x.toList == [67, 51]) = false ∧ (x.toList == [66, 52]) = false ∧ (x.toList == [67, 52]) = false ∧ (x.toList == [68, 52]) = false ∧ (x.toList == [70, 52]) = false ∧ (x.toList == [71, 50]) = false ∧ szOf x.data.toList = 2)
  ∨ ((x.toList == [65, 49]) = false ∧ (x.toList == [65, 50]) = true ∧ (x.toList == [65, 51]) = false ∧ (x.toList == [65, 52]) = false ∧ (x.toList == [66, 50]) = false ∧ (x.toList == [66, 51]) = false ∧ (x.toList == [67, 51]) = false ∧ (x.toList == [66, 52]) = false ∧ (x.toList == [67, 52]) = false ∧ (x.toList == [68, 52]) = false ∧ (x.toList == [70, 52]) = false ∧ (x.toList == [71, 50]) = false ∧ szOf x.data.toList = 6)
  ∨ ((x.toList == [65, 49]) = false ∧ (x.toList == [65, 50]) = false ∧ (x.toList == [65, 51]) = true ∧ (x.toList == [65, 52]) = false ∧ (x.toList == [66, 50]) = false ∧ (x.toList == [66, 51]) = false ∧ (x.toList == [67, 51]) = false ∧ (x.toList == [66, 52]) = false ∧ (x.toList == [67, 52]) = false ∧ (x.toList == [68, 52]) = false ∧ (x.toList == [70, 52]) = false ∧ (x.toList == [71, 50]) = false ∧ szOf x.data.toList = 24)
  ∨ ((x.toList == [65, 49]) = false ∧ (x.toList == [65, 50]) = false ∧ (x.toList == [65, 51]) = false ∧ (x.toList == [65, 52]) = true ∧ (x.toList == [66, 50]) = false ∧ (x.toList == [66, 51]) = false ∧ (x.toList == [67, 51]) = false ∧ (x.toList == [66, 52]) = false ∧ (x.toList == [67, 52]) = false ∧ (x.toList == [68, 52]) = false ∧ (x.toList == [70, 52]) = false ∧ (x.toList == [71, 50]) = false ∧ szOf x.data.toList = 120)
  ∨ ((x.toList == [65, 49]) = false ∧ (x.toList == [65, 50]) = false ∧ (x.toList == [65, 51]) = false ∧ (x.toList == [65, 52]) = false ∧ (x.toList == [66, 50]) = true ∧ (x.toList == [66, 51]) = false ∧ (x.toList == [67, 51]) = false ∧ (x.toList == [66, 52]) = false ∧ (x.toList == [67, 52]) = false ∧ (x.toList == [68, 52]) = false ∧ (x.toList == [70, 52]) = false ∧ (x.toList == [71, 50]) = false ∧ szOf x.data.toList = 8)
  ∨ ((x.toList == [65, 49]) = false ∧ (x.toList == [65, 50]) = false ∧ (x.toList == [65, 51]) = false ∧ (x.toList == [65, 52]) = false ∧ (x.toList == [66, 50]) = false ∧ (x.toList == [66, 51]) = true ∧ (x.toList == [67, 51]) = false ∧ (x.toList == [66, 52]) = false ∧ (x.toList == [67, 52]) = false ∧ (x.toList == [68, 52]) = false ∧ (x.toList == [70, 52]) = false ∧ (x.toList == [71, 50]) = false ∧ szOf x.data.toList = 48)
  ∨ ((x.toList == [65, 49]) = false ∧ (x.toList == [65, 50]) = false ∧ (x.toList == [65, 51]) = false ∧ (x.toList == [65, 52]) = false ∧ (x.toList == [66, 50]) = false ∧ (x.toList == [66, 51]) = false ∧ (x.toList == [67, 51]) = true ∧ (x.toList == [66, 52]) = false ∧ (x.toList == [67, 52]) = false ∧ (x.toList == [68, 52]) = false ∧ (x.toList == [70, 52]) = false ∧ (x.toList == [71, 50]) = false ∧ szOf x.data.toList = 48)
  ∨ ((x.toList == [65, 49]) = false ∧ (x.toList == [65, 50]) = false ∧ (x.toList == [65, 51]) = false ∧ (x.toList == [65, 52]) = false ∧ (x.toList == [66, 50]) = false ∧ (x.toList == [66, 51]) = false ∧ (x.toList == [67, 51]) = false ∧ (x.toList == [66, 52]) = true ∧ (x.toList == [67, 52]) = false ∧ (x.toList == [68, 52]) = false ∧ (x.toList == [70, 52]) = false ∧ (x.toList == [71, 50]) = false ∧ szOf x.data.toList = 384)
  ∨ ((x.toList == [65, 49]) = false ∧ (x.toList == [65, 50]) = false ∧ (x.toList == [65, 51]) = false ∧ (x.toList == [65, 52]) = false ∧ (x.toList == [66, 50]) = false ∧ (x.toList == [66, 51]) = false ∧ (x.toList == [67, 51]) = false ∧ (x.toList == [66, 52]) = false ∧ (x.toList == [67, 52]) = true ∧ (x.toList == [68, 52]) = false ∧ (x.toList == [70, 52]) = false ∧ (x.toList == [71, 50]) = false ∧ szOf x.data.toList = 384)
  ∨ ((x.toList == [65, 49]) = false ∧ (x.toList == [65, 50]) = false ∧ (x.toList == [65, 51]) = false ∧ (x.toList == [65, 52]) = false ∧ (x.toList == [66, 50]) = false ∧ (x.toList == [66, 51]) = false ∧ (x.toList == [67, 51]) = false ∧ (x.toList == [66, 52]) = false ∧ (x.toList == [67, 52]) = false ∧ (x.toList == [68, 52]) = true ∧ (x.toList == [70, 52]) = false ∧ (x.toList == [71, 50]) = false ∧ szOf x.data.toList = 192)
  ∨ ((x.toList == [65, 49]) = false ∧ (x.toList == [65, 50]) = false ∧ (x.toList == [65, 51]) = false ∧ (x.toList == [65, 52]) = false ∧ (x.toList == [66, 50]) = false ∧ (x.toList == [66, 51]) = false ∧ (x.toList == [67, 51]) = false ∧ (x.toList == [66, 52]) = false ∧ (x.toList == [67, 52]) = false ∧ (x.toList == [68, 52]) = false ∧ (x.toList == [70, 52]) = true ∧ (x.toList == [71, 50]) = false ∧ szOf x.data.toList = 1152)
  ∨ ((x.toList == [65, 49]) = false ∧ (x.toList == [65, 50]) = false ∧ (x.toList == [65, 51]) = false ∧ (x.toList == [65, 52]) = false ∧ (x.toList == [66, 50]) = false ∧ (x.toList == [66, 51]) = false ∧ (x.toList == [67, 51]) = false ∧ (x.toList == [66, 52]) = false ∧ (x.toList == [67, 52]) = false ∧ (x.toList == [68, 52]) = false ∧ (x.toList == [70, 52]) = false ∧ (x.toList == [71, 50]) = true ∧ szOf x.data.toList = 12)
  ∨ ((x.toList == [65, 49]) = false ∧ (x.toList == [65, 50]) = false ∧ (x.toList == [65, 51]) = false ∧ (x.toList == [65, 52]) = false ∧ (x.toList == [66, 50]) = false ∧ (x.toList == [66, 51]) = false ∧ (x.toList == [67, 51]) = false ∧ (x.toList == [66, 52]) = false ∧ (x.toList == [67, 52]) = false ∧ (x.toList == [68, 52]) = false ∧ (x.toList == [70, 52]) = false ∧ (x.toList == [71, 50]) = false ∧ szOf x.data.toList = 0) := by
  rw [ByteArray.toList_eq]
  obtain ⟨l, hl⟩ : ∃ l, x.data.toList = l := ⟨_, rfl⟩
  rw [hl]
  by_cases h0 : l = [65, 49]
  · subst h0; exact .inl (by decide)
  by_cases h1 : l = [65, 50]
  · subst h1; exact .inr <| .inl (by decide)
  by_cases h2 : l = [65, 51]
  · subst h2; exact .inr <| .inr <| .inl (by decide)
  by_cases h3 : l = [65, 52]
  · subst h3; exact .inr <| .inr <| .inr <| .inl (by decide)
  by_cases h4 : l = [66, 50]
  · subst h4; exact .inr <| .inr <| .inr <| .inr <| .inl (by decide)
  by_cases h5 : l = [66, 51]
  · subst h5; exact .inr <| .inr <| .inr <| .inr <| .inr <| .inl (by decide)
  by_cases h6 : l = [67, 51]
  · subst h6; exact .inr <| .inr <| .inr <| .inr <| .inr <| .inr <| .inl (by decide)
  by_cases h7 : l = [66, 52]
  · subst h7; exact .inr <| .inr <| .inr <| .inr <| .inr <| .inr <| .inr <| .inl (by decide)
  by_cases h8 : l = [67, 52]
  · subst h8; exact .inr <| .inr <| .inr <| .inr <| .inr <| .inr <| .inr <| .inr <| .inl (by decide)
  by_cases h9 : l = [68, 52]
  · subst h9; exact .inr <| .inr <| .inr <| .inr <| .inr <| .inr <| .inr <| .inr <| .inr <| .inl (by decide)
  by_cases h10 : l = [70, 52]
  · subst h10; exact .inr <| .inr <| .inr <| .inr <| .inr <| .inr <| .inr <| .inr <| .inr <| .inr <| .inl (by decide)
  by_cases h11 : l = [71, 50]
  · subst h11; exact .inr <| .inr <| .inr <| .inr <| .inr <| .inr <| .inr <| .inr <| .inr <| .inr <| .inr <| .inl (by decide)
  refine .inr <| .inr <| .inr <| .inr <| .inr <| .inr <| .inr <| .inr <| .inr <| .inr <| .inr <| .inr ?_
  refine ⟨beq_eq_false_iff_ne.2 h0, beq_eq_false_iff_ne.2 h1, beq_eq_false_iff_ne.2 h2, beq_eq_false_iff_ne.2 h3, beq_eq_false_iff_ne.2 h4, beq_eq_false_iff_ne.2 h5, beq_eq_false_iff_ne.2 h6, beq_eq_false_iff_ne.2 h7, beq_eq_false_iff_ne.2 h8, beq_eq_false_iff_ne.2 h9, beq_eq_false_iff_ne.2 h10, beq_eq_false_iff_ne.2 h11, ?_⟩
  unfold szOf
  rw [if_neg h0, if_neg h1, if_neg h2, if_neg h3, if_neg h4, if_neg h5, if_neg h6, if_neg h7, if_neg h8, if_neg h9, if_neg h10, if_neg h11]
theorem szOf_bd (l : List UInt8) : 0 ≤ szOf l ∧ szOf l ≤ 1152 := by
  unfold szOf
  repeat (first | omega | split)
def prodSz (ls : List (List UInt8)) : Int := (ls.map szOf).foldl (· * ·) 1
theorem prodSz_snoc (ls : List (List UInt8)) (k : Nat) (h : k < ls.length) : prodSz (ls.take (k + 1)) = prodSz (ls.take k) * szOf ls[k] := by
  rw [List.take_succ_eq_append_getElem h, prodSz, List.map_append, List.foldl_append]; rfl
theorem prodSz_bd (ls : List (List UInt8)) (k : Nat) (h : k ≤ ls.length) : 0 ≤ prodSz (ls.take k) ∧ prodSz (ls.take k) ≤ ((1152 ^ k : Nat) : Int) := by
  induction k with
  | zero => simp [prodSz]
  | succ k ih =>
    have h2 := ih (by omega)
    have hb := szOf_bd ls[k]
    rw [prodSz_snoc ls k (by omega)]
    refine ⟨Int.mul_nonneg h2.1 hb.1, ?_⟩
    rw [Nat.pow_succ, Int.natCast_mul]
    exact Int.mul_le_mul h2.2 hb.2 hb.1 (by omega)
theorem prodSz_4 (ls : List (List UInt8)) (k : Nat) (h : k ≤ ls.length) (h4 : k ≤ 4) : 0 ≤ prodSz (ls.take k) ∧ prodSz (ls.take k) ≤ 1761205026816 := by
  have h1 := prodSz_bd ls k h
  have h2 : 1152 ^ k ≤ 1152 ^ 4 := Nat.pow_le_pow_right (by decide) h4
  have e : (1152 : Nat) ^ 4 = 1761205026816 := by decide
  omega
theorem prodSz_3 (ls : List (List UInt8)) (k : Nat) (h : k ≤ ls.length) (h4 : k ≤ 3) : 0 ≤ prodSz (ls.take k) ∧ prodSz (ls.take k) ≤ 1528823808 := by
  have h1 := prodSz_bd ls k h
  have h2 : 1152 ^ k ≤ 1152 ^ 3 := Nat.pow_le_pow_right (by decide) h4
  have e : (1152 : Nat) ^ 3 = 1528823808 := by decide
  omega
def sizeN (l : List UInt8) : Int := if 4 < (cutL 120 l).length then 0 else prodSz (cutL 120 l)
set_option maxHeartbeats 2000000 in
theorem implSizeOf (x : ByteArray) (w : World) : Calls Tryz.prog 95 #[.string x] w fun e w' => e = .returned (.int .i64 (szOf x.data.toList)) ∧ w = w' := by
  rcases szCases x with ⟨b0, b1, b2, b3, b4, b5, b6, b7, b8, b9, b10, b11, hz⟩ | ⟨b0, b1, b2, b3, b4, b5, b6, b7, b8, b9, b10, b11, hz⟩ | ⟨b0, b1, b2, b3, b4, b5, b6, b7, b8, b9, b10, b11, hz⟩ | ⟨b0, b1, b2, b3, b4, b5, b6, b7, b8, b9, b10, b11, hz⟩ | ⟨b0, b1, b2, b3, b4, b5, b6, b7, b8, b9, b10, b11, hz⟩ | ⟨b0, b1, b2, b3, b4, b5, b6, b7, b8, b9, b10, b11, hz⟩ | ⟨b0, b1, b2, b3, b4, b5, b6, b7, b8, b9, b10, b11, hz⟩ | ⟨b0, b1, b2, b3, b4, b5, b6, b7, b8, b9, b10, b11, hz⟩ | ⟨b0, b1, b2, b3, b4, b5, b6, b7, b8, b9, b10, b11, hz⟩ | ⟨b0, b1, b2, b3, b4, b5, b6, b7, b8, b9, b10, b11, hz⟩ | ⟨b0, b1, b2, b3, b4, b5, b6, b7, b8, b9, b10, b11, hz⟩ | ⟨b0, b1, b2, b3, b4, b5, b6, b7, b8, b9, b10, b11, hz⟩ | ⟨b0, b1, b2, b3, b4, b5, b6, b7, b8, b9, b10, b11, hz⟩
  all_goals
    have HZ := Lib.hid hz
    clear hz
    go_enter Tryz.func95, Tryz.ntmps95
    go_wp2_with fail
    go_ret
    exact ⟨by rw [HZ.out]; rfl, rfl⟩
set_option maxHeartbeats 1000000 in
theorem implSizeByName (s : ByteArray) (hs : s.size ≤ 1048576) (w : World) (hm : MaxIs w) :
    Calls Tryz.prog 45 #[.string s] w fun e w' => e = .returned (.int .i64 (sizeN s.data.toList)) ∧ Below w.heap.size w w' := by
  have HC := Lib.hid (splitOn s 120 w hm hs)
  obtain ⟨ls, hls⟩ : ∃ ls, cutL 120 s.data.toList = ls := ⟨_, rfl⟩
  have HN := Lib.hid (show sizeN s.data.toList = if 4 < ls.length then 0 else prodSz ls by rw [sizeN, hls])
  have hl : ls.length ≤ 1048577 := by
    have := (cutGo_len 120 s.data.toList []).2
    have e : s.data.toList.length = s.size := by simp
    rw [← hls, cutL]; omega
  rw [hls] at HC
  clear hls
  go_enter Tryz.func45, Tryz.ntmps45
  go_wp2_with fail
  refine HC.out.mono ?_
  rintro e w1 ⟨rfl, hR, hb1⟩
  obtain ⟨g, o, cap, hv, hc1, hc2, hc⟩ := hR
  injection hv with hv1 hv2 hv3
  injection hv1 with hv1
  injection hv1 with hg ho
  subst hg ho
  have HL := Lib.hid (show ∀ i (h : i < ls.length), w1.cell? ⟨w.heap.size, i, none⟩ = some (.string ⟨ls[i].toArray⟩) from fun i h => by
    have := hc i (str ls[i]) (by simp [strs, h])
    rwa [Nat.zero_add] at this)
  clear hc hc1 hc2 hv2 hv3
  by_cases h4 : 4 < ls.length
  · have HO := Lib.hid (show sizeN s.data.toList = 0 by rw [HN.out, if_pos h4])
    go_wp2_with fail
    go_ret
    exact ⟨by rw [HO.out]; rfl, hb1⟩
  · have HO := Lib.hid (show sizeN s.data.toList = prodSz ls by rw [HN.out, if_neg h4])
    clear HN
    go_wp2_with fail
    go_loop [4, 14] (fun p i => ∃ (k : Nat) (z : Int), k ≤ ls.length ∧ i = .int .i64 k ∧ p = .int .i64 z ∧ Hid (z = prodSz (ls.take k))) (fun _ i => ls.length - (intOf i).toNat)
    case atStart => exact ⟨0, 1, by omega, rfl, rfl, by simp [Hid, prodSz]⟩
    case round =>
      obtain ⟨k, z, hk, rfl, rfl, HZ⟩ := hrel
      by_cases hlt' : k < ls.length
      · have x1 := HL.out k hlt'
        have hk0 : (0 : Int) ≤ (k : Int) := by omega
        have hk1 : (k : Int) < (ls.length : Int) := by omega
        have hz4 := prodSz_4 ls (k + 1) (by omega) (by omega)
        rw [prodSz_snoc ls k hlt', ← HZ.out] at hz4
        have HS := Lib.hid (show z * szOf ls[k] = prodSz (ls.take (k + 1)) by rw [prodSz_snoc ls k hlt', ← HZ.out])
        have HC2 := Lib.hid (implSizeOf ⟨ls[k].toArray⟩ w1)
        obtain ⟨y, hy⟩ : ∃ y, szOf ls[k] = y := ⟨_, rfl⟩
        have hy2 : szOf (⟨ls[k].toArray⟩ : ByteArray).data.toList = y := hy
        rw [hy2] at HC2
        rw [hy] at HS hz4
        obtain ⟨x, hx⟩ : ∃ x : ByteArray, (⟨ls[k].toArray⟩ : ByteArray) = x := ⟨_, rfl⟩
        rw [hx] at HC2 x1
        clear HZ hy hy2 hx
        go_wp2_with fail
        refine HC2.out.mono ?_
        rintro e w2 ⟨rfl, rfl⟩
        go_wp2_with fail
        go_round
        case rel => exact ⟨k + 1, z * y, by omega, by go_num, by go_num, HS⟩
        case measure => simp [intOf]; omega
      · obtain rfl : k = ls.length := by omega
        have HE := Lib.hid (show z = prodSz ls by have := HZ.out; rwa [List.take_length] at this)
        clear HZ
        go_wp2_with fail
        go_ret
        exact ⟨by rw [HO.out, ← HE.out]; rfl, hb1⟩
set_option maxHeartbeats 4000000 in
theorem specSizeByName (s : ByteArray) (hs : s.size ≤ 1048576) (w : World) :
    Calls Tryz.prog 51 #[.string s] w fun e w' => e = .returned (.int .i64 (sizeN s.data.toList)) ∧ Below w.heap.size w w' := by
  have HC := Lib.hid (specCut s 120 hs w)
  obtain ⟨ls, hls⟩ : ∃ ls, cutL 120 s.data.toList = ls := ⟨_, rfl⟩
  have HN := Lib.hid (show sizeN s.data.toList = if 4 < ls.length then 0 else prodSz ls by rw [sizeN, hls])
  have hl : ls.length ≤ 1048577 := by
    have := (cutGo_len 120 s.data.toList []).2
    have e : s.data.toList.length = s.size := by simp
    rw [← hls, cutL]; omega
  rw [hls] at HC
  clear hls
  go_enter Tryz.func51, Tryz.ntmps51
  go_wp2_with fail
  refine HC.out.mono ?_
  rintro e w1 ⟨v, rfl, hrow, hb1⟩
  obtain ⟨g, hg, hown⟩ := hrow.own
  obtain ⟨cap, hv, hc1, hc2, hc, _⟩ := hown.form
  have hsl : (strs ls).length = ls.length := by simp [strs]
  rw [hsl] at hv hc1
  subst hv
  have HL := Lib.hid (show ∀ i (h : i < ls.length), w1.cell? ⟨g, i, none⟩ = some (.string ⟨ls[i].toArray⟩) from fun i h => hc i (str ls[i]) (by simp [strs, h]))
  clear hc hown hrow hsl
  go_wp2_with fail
  go_loop [4, 5] (fun p i => ∃ (k : Nat) (z : Int), k ≤ ls.length ∧ k ≤ 4 ∧ i = .int .i64 k ∧ p = .int .i64 z ∧ Hid (z = prodSz (ls.take k))) (fun _ i => 5 - (intOf i).toNat)
  case atStart => exact ⟨0, 1, by omega, by omega, rfl, rfl, by simp [Hid, prodSz]⟩
  case round =>
    obtain ⟨k, z, hk, hk4, rfl, rfl, HZ⟩ := hrel
    by_cases hlt' : k < ls.length
    · by_cases h4 : k < 4
      · have x1 := HL.out k hlt'
        have hk0 : (0 : Int) ≤ (k : Int) := by omega
        have hk1 : (k : Int) < (ls.length : Int) := by omega
        have hz4 := prodSz_3 ls k (by omega) (by omega)
        rw [← HZ.out] at hz4
        have HS := Lib.hid (show z * szOf ls[k] = prodSz (ls.take (k + 1)) by rw [prodSz_snoc ls k hlt', ← HZ.out])
        obtain ⟨x, hx⟩ : ∃ x : ByteArray, (⟨ls[k].toArray⟩ : ByteArray) = x := ⟨_, rfl⟩
        have hx2 : ls[k] = x.data.toList := by rw [← hx]
        rw [hx] at x1
        rw [hx2] at HS
        clear HZ hx hx2
        rcases szCases x with ⟨b0, b1, b2, b3, b4, b5, b6, b7, b8, b9, b10, b11, hz⟩ | ⟨b0, b1, b2, b3, b4, b5, b6, b7, b8, b9, b10, b11, hz⟩ | ⟨b0, b1, b2, b3, b4, b5, b6, b7, b8, b9, b10, b11, hz⟩ | ⟨b0, b1, b2, b3, b4, b5, b6, b7, b8, b9, b10, b11, hz⟩ | ⟨b0, b1, b2, b3, b4, b5, b6, b7, b8, b9, b10, b11, hz⟩ | ⟨b0, b1, b2, b3, b4, b5, b6, b7, b8, b9, b10, b11, hz⟩ | ⟨b0, b1, b2, b3, b4, b5, b6, b7, b8, b9, b10, b11, hz⟩ | ⟨b0, b1, b2, b3, b4, b5, b6, b7, b8, b9, b10, b11, hz⟩ | ⟨b0, b1, b2, b3, b4, b5, b6, b7, b8, b9, b10, b11, hz⟩ | ⟨b0, b1, b2, b3, b4, b5, b6, b7, b8, b9, b10, b11, hz⟩ | ⟨b0, b1, b2, b3, b4, b5, b6, b7, b8, b9, b10, b11, hz⟩ | ⟨b0, b1, b2, b3, b4, b5, b6, b7, b8, b9, b10, b11, hz⟩ | ⟨b0, b1, b2, b3, b4, b5, b6, b7, b8, b9, b10, b11, hz⟩
        all_goals
          rw [hz] at HS
          clear hz
          go_wp2_with fail
          go_round
          case rel => exact ⟨k + 1, _, by omega, by omega, by go_num, by first | rfl | go_num, HS⟩
          case measure => simp [intOf]; omega
      · have h5 : 4 < ls.length ∨ ls.length = 4 := by omega
        have d4 : decide ((k : Int) < 4) = false := by rw [decide_eq_false_iff_not]; omega
        obtain rfl : k = 4 := by omega
        rcases h5 with h5 | h5
        · have HO := Lib.hid (show sizeN s.data.toList = 0 by rw [HN.out, if_pos h5])
          go_wp2_with fail
          go_ret
          exact ⟨by rw [HO.out]; rfl, hb1⟩
        · omega
    · obtain rfl : k = ls.length := by omega
      have HE := Lib.hid (show z = prodSz ls by have := HZ.out; rwa [List.take_length] at this)
      have HO := Lib.hid (show sizeN s.data.toList = z by rw [HN.out, if_neg (by omega), HE.out])
      clear HZ
      go_wp2_with fail
      go_ret
      exact ⟨by rw [HO.out]; rfl, hb1⟩
end Go.Proofs.YtaikjkcbgniplaaGreatDoor
