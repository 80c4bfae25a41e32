/- ReverseWord of the program and of the reference (and slices.Reverse): they answer the word from its end, for words of at most 2^38 letters. -/
import Derived.Test.YtgappocmdbaahaaInts
import Derived.RegionTactic
import Derived.BigRegion
namespace Go.Proofs.Ytgappocmdbaahaa
open Go.RowKit

def revK (xs : List Int) (k : Nat) : List Int := (List.range xs.length).map fun p => xs.getD (if p < k ∨ xs.length - k ≤ p then xs.length - 1 - p else p) 0
theorem revK_length (xs : List Int) (k : Nat) : (revK xs k).length = xs.length := by simp [revK]
theorem revK_get (xs : List Int) (k p : Nat) (h : p < (revK xs k).length) : (revK xs k)[p] = xs.getD (if p < k ∨ xs.length - k ≤ p then xs.length - 1 - p else p) 0 := by simp [revK]
theorem revK_zero (xs : List Int) : revK xs 0 = xs := by
  apply List.ext_getElem (revK_length xs 0)
  intro p h1 h2
  rw [revK_get, if_neg (by omega)]
  simp [h2]
theorem revK_end (xs : List Int) (k : Nat) (h : xs.length ≤ k + k + 1) : revK xs k = xs.reverse := by
  apply List.ext_getElem (by simp [revK_length])
  intro p h1 h2
  rw [revK_length] at h1
  rw [revK_get, List.getElem_reverse]
  by_cases c : p < k ∨ xs.length - k ≤ p
  · rw [if_pos c]
    simp [show xs.length - 1 - p < xs.length by omega]
  · rw [if_neg c]
    have hx : xs[xs.length - 1 - p]'(by omega) = xs[p] := by congr 1; omega
    rw [hx]
    simp [h1]
theorem revK_step (xs : List Int) (k j : Nat) (h : k + j + 1 = xs.length) (hkj : k < j) :
    ((revK xs k).set k (xs.getD j 0)).set j (xs.getD k 0) = revK xs (k + 1) := by
  apply List.ext_getElem (by simp [revK_length])
  intro p h1 h2
  rw [revK_length] at h2
  rw [List.getElem_set, List.getElem_set, revK_get, revK_get]
  by_cases e1 : j = p
  · subst e1
    rw [if_pos rfl, if_pos (by omega), show xs.length - 1 - j = k by omega]
  · rw [if_neg e1]
    by_cases e2 : k = p
    · subst e2
      rw [if_pos rfl, if_pos (by omega), show xs.length - 1 - k = j by omega]
    · rw [if_neg e2]
      by_cases c : p < k ∨ xs.length - k ≤ p
      · rw [if_pos c, if_pos (by omega)]
      · rw [if_neg c, if_neg (by omega)]

set_option maxHeartbeats 1000000 in
theorem slicesReverse (g : Nat) (v : Value) (xs : List Int) (hl : xs.length ≤ 1099511627776) (w : World) (h : Own w g v xs) :
    Calls Try.prog 79 #[v] w fun e w' => e = .returned (.tuple #[]) ∧ Own w' g v xs.reverse ∧ Chg (· = g) w w' := by
  obtain ⟨cap, rfl, _, _⟩ := h.form
  have H0 := Lib.hid h
  clear h
  go_enter Try.func79, Try.ntmps79
  go_wp2_with fail
  go_loopw [2, 3] (fun i j wr => ∃ k : Nat, k ≤ xs.length ∧ i = .int .i64 k ∧ j = .int .i64 ((xs.length : Int) - 1 - k) ∧ Hid (Own wr g (.slice (some ⟨g, 0, none⟩) xs.length cap) (revK xs k)) ∧ Chg (· = g) w wr) (fun i _ _ => xs.length - (intOf i).toNat)
  case atStart => exact ⟨0, by omega, rfl, by simp, by rw [revK_zero]; exact H0.out, Chg.refl _ _⟩
  case round =>
    obtain ⟨k, hk, rfl, rfl, HO, hchg⟩ := hrel
    by_cases hlt' : k + k + 1 < xs.length
    · obtain ⟨j, hj⟩ : ∃ j : Nat, (xs.length : Int) - 1 - k = (j : Int) := ⟨xs.length - 1 - k, by omega⟩
      rw [hj]
      have hkj : k < j := by omega
      have hjl : j < xs.length := by omega
      have HJ := Lib.hid hj
      clear hj
      have hx := HO.out.cell (i := k) (by rw [revK_length]; omega)
      rw [revK_get, if_neg (by have := HJ.out; omega)] at hx
      have hy := HO.out.cell (i := j) (by rw [revK_length]; omega)
      rw [revK_get, if_neg (by have := HJ.out; omega)] at hy
      obtain ⟨x, ex⟩ : ∃ x, x = xs.getD k 0 := ⟨_, rfl⟩
      obtain ⟨y, ey⟩ : ∃ y, y = xs.getD j 0 := ⟨_, rfl⟩
      rw [← ex] at hx
      rw [← ey] at hy
      have EX := Lib.hid ex
      have EY := Lib.hid ey
      clear ex ey
      have f1 := HO.out.frozen k
      have f2 := HO.out.frozen j
      go_wp2_with fail
      go_region
      go_wp2_with fail
      go_roundw
      case rel =>
        refine ⟨k + 1, by omega, by go_num, by have := HJ.out; go_num, ?_, hchg.trans (chg_drew ((chg_set _ _ _ _).trans (chg_set _ _ _ _)))⟩
        have hs := (HO.out.set k y).set j x
        rw [EX.out, EY.out, revK_step xs k j (by have := HJ.out; omega) hkj] at hs
        rw [EX.out, EY.out]
        exact hs.drew
      case measure => simp [intOf]; omega
    · have hend := revK_end xs k (by omega)
      rw [hend] at HO
      clear hend
      go_wp2_with fail
      go_end0
      exact ⟨rfl, HO.out, hchg⟩


set_option maxHeartbeats 1000000 in
theorem implReverseWord (v : Value) (a : List Int) (ha : a.length ≤ 274877906944) (w : World) (h : I w v a) : Calls Try.prog 47 #[v] w (RetInts w a.reverse) := by
  obtain ⟨g1, o1, c1, rfl, _, _, hc1⟩ := h.form
  have H1 := Lib.hid hc1
  clear hc1 h
  go_enter Try.func47, Try.ntmps47
  go_wp2_with (at_builtin; refine wpList_appendV elemInt _ rfl _ _ rfl w.heap.size _ 0 _ rfl (rowV_empty w _) (ivs a) g1 o1 a.length c1 rfl (ivs_length a) (cells_after H1.out (below_new w _)) (ivs_one a) (by omega) (by simp) ?_; intro gg cap w1 hrow1 hgrow hb1)
  obtain ⟨g, hg, hown⟩ := hrow1.own
  simp only [Nat.zero_add, List.nil_append] at hown
  refine (slicesReverse g _ a (by omega) _ hown).mono ?_
  rintro e w2 ⟨rfl, hown2, hchg⟩
  go_wp2_with fail
  go_ret
  exact ⟨_, g, rfl, hg, hown2, (((Below.refl _ _).alloc (Nat.le_refl _) _).trans hb1).trans (hchg.below (by have := hb1.size; simp at this; omega) (fun k hk => by omega))⟩
end Go.Proofs.Ytgappocmdbaahaa
