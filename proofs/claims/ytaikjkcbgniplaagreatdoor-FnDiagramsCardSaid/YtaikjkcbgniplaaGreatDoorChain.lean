/- Chains of points (l2Chain, chain), copies and stores into tables of the call's own (l2Copy, l2Set, with): what they answer. -/
import Derived.Test.YtaikjkcbgniplaaGreatDoorHas
import Derived.RegionTactic
import Derived.BigRegion
namespace Go.Proofs.YtaikjkcbgniplaaGreatDoor
open Go.RowKit
set_option linter.unusedVariables false

def chainR (n k : Nat) : List Int := (List.range n).map (fun j => if j = k then 2 else if j + 1 = k ∨ k + 1 = j then -1 else 0)
def chainL (n : Nat) : List (List Int) := (List.range n).map (chainR n)
theorem chainL_length (n : Nat) : (chainL n).length = n := by simp [chainL]
theorem chainL_snoc (n k : Nat) (h : k < n) : (chainL n).take (k + 1) = (chainL n).take k ++ [chainR n k] := by
  rw [List.take_succ_eq_append_getElem (by rw [chainL_length]; exact h)]; simp [chainL]
theorem chainL_end (n : Nat) : (chainL n).take n = chainL n := List.take_of_length_le (by rw [chainL_length]; exact Nat.le_refl _)
theorem cell_new2 (w : World) (o : Obj) (u : Value) (t : TypeId) : ((w.alloc o).alloc (.cells #[u] t)).cell? ⟨w.heap.size + 1, 0, none⟩ = some u := by
  simp
theorem own_lit (w : World) (arr : Array Value) (zs : List Int) (h : arr.toList = ivs zs) (hm : zs.length ≤ 64) : Own (w.alloc (.cells arr 3)) w.heap.size (.slice (some ⟨w.heap.size, 0, none⟩) zs.length zs.length) zs := by
  have hs : arr.size = zs.length := by rw [← Array.length_toList, h, ivs_length]
  exact ⟨arr.size, arr, by rw [ivs_length, hs], heap_alloc_new w _, by rw [ivs_length]; omega, by unfold maxLen; omega, rfl, by rw [h, List.take_length]⟩

set_option maxHeartbeats 2000000 in
theorem specChain1 (w : World) : Calls Tryz.prog 107 #[.int .i64 1] w (RetRows w (chainL 1)) := by
  have hmk : ∀ w : World, (Instr.makeSlice 27 (.int .i64 1) (.int .i64 1)).run Tryz.prog w = .ok (.slice (some ⟨w.heap.size, 0, none⟩) 1 1) (w.alloc (.cells #[.int .i64 0] 3)) := fun _ => by kernel_rfl
  go_enter Tryz.func107, Tryz.ntmps107
  go_wp2_with fail
  go_loopw [3, 4] (fun x i wr => ∃ k : Nat, k ≤ 1 ∧ i = .int .i64 k ∧ RowsV wr w.heap.size wr.heap.size x ((chainL 1).take k) ∧ Below w.heap.size w wr) (fun _ i _ => 1 - (intOf i).toNat)
  case atStart =>
    obtain ⟨gs, vs, q1, q2, q3, q4⟩ := rowsV_empty w
    exact ⟨0, by omega, rfl, ⟨gs, vs, q1, q2, fun g hg => by have := q3 g hg; omega, q4⟩, (Below.refl _ _).alloc (Nat.le_refl _) _⟩
  case round =>
    obtain ⟨k, hk, rfl, hR, hbel⟩ := hrel
    by_cases hlt' : k < 1
    · have HS := Lib.hid (chainL_snoc 1 k hlt')
      have HK := Lib.hid (show ((chainL 1).take k).length = k by rw [List.length_take, chainL_length]; omega)
      have hs0 := hbel.size
      obtain ⟨gs, vs, q1, q2, q3, q4⟩ := hR
      have q1' : RowV wr w.heap.size 27 u3 k vs := q1.cast rfl HK.out rfl
      obtain rfl : k = 0 := by omega
      have hown := own_lit wr #[.int .i64 2] [2] rfl (by decide)
      have hbn := below_new wr (.cells #[.int .i64 2] 3)
      have HPP := Lib.hid (fun (w2 : World) (x' : Value) hgrow (hrow : RowV w2 w.heap.size 27 x' (0 + 1) (vs ++ [_])) => rowsV_push (w1 := w2) (x' := x') (q1.keep hbn) (q2.keep hbn) q3 q4 hown (Nat.le_refl _) hs0 hgrow (hrow.cast rfl (by rw [HK.out]) rfl))
      have HQ := Lib.hid (q1'.keep hbn)
      have HBN := Lib.hid hbn
      clear hown q1 q1' q2 q3 q4 hbn
      go_wp2_with (at_builtin; refine wpList_pushV elemRow _ rfl _ _ rfl w.heap.size u3 0 _ rfl (HQ.out.alloc _) (.slice (some ⟨wr.heap.size, 0, none⟩) 1 1) (wr.heap.size + 1) rfl (cell_new2 _ _ _ _) rfl (by omega) (by have := hbel.size; simp; omega) ?_; intro gg cap w2 hrow1 hgrow hb2)
      have HF := Lib.hid (HPP.out _ _ hgrow hrow1)
      have hbF := ((hbel.trans (HBN.out.mono hs0)).alloc (hbel.trans (HBN.out.mono hs0)).size _).trans hb2
      clear hrow1 hgrow hb2
      clear hmk
      go_roundw
      case rel => exact ⟨1, by omega, by go_num, by rw [HS.out]; exact HF.out, hbF⟩
      case measure => simp [intOf]
    · obtain rfl : k = 1 := by omega
      rw [chainL_end] at hR
      have hown := hR.own2 (Nat.le_refl _)
      go_wp2_with fail
      go_ret
      exact ⟨_, rfl, hown, hbel⟩
set_option maxHeartbeats 2000000 in
theorem specChain2 (w : World) : Calls Tryz.prog 107 #[.int .i64 2] w (RetRows w (chainL 2)) := by
  have hmk : ∀ w : World, (Instr.makeSlice 27 (.int .i64 2) (.int .i64 2)).run Tryz.prog w = .ok (.slice (some ⟨w.heap.size, 0, none⟩) 2 2) (w.alloc (.cells #[.int .i64 0, .int .i64 0] 3)) := fun _ => by kernel_rfl
  go_enter Tryz.func107, Tryz.ntmps107
  go_wp2_with fail
  go_loopw [3, 4] (fun x i wr => ∃ k : Nat, k ≤ 2 ∧ i = .int .i64 k ∧ RowsV wr w.heap.size wr.heap.size x ((chainL 2).take k) ∧ Below w.heap.size w wr) (fun _ i _ => 2 - (intOf i).toNat)
  case atStart =>
    obtain ⟨gs, vs, q1, q2, q3, q4⟩ := rowsV_empty w
    exact ⟨0, by omega, rfl, ⟨gs, vs, q1, q2, fun g hg => by have := q3 g hg; omega, q4⟩, (Below.refl _ _).alloc (Nat.le_refl _) _⟩
  case round =>
    obtain ⟨k, hk, rfl, hR, hbel⟩ := hrel
    by_cases hlt' : k < 2
    · have HS := Lib.hid (chainL_snoc 2 k hlt')
      have HK := Lib.hid (show ((chainL 2).take k).length = k by rw [List.length_take, chainL_length]; omega)
      have hs0 := hbel.size
      obtain ⟨gs, vs, q1, q2, q3, q4⟩ := hR
      have q1' : RowV wr w.heap.size 27 u3 k vs := q1.cast rfl HK.out rfl
      rcases (show k = 0 ∨ k = 1 by omega) with rfl | rfl
      · have hown := own_lit wr #[.int .i64 2, .int .i64 (-1)] [2, -1] rfl (by decide)
        have hbn := below_new wr (.cells #[.int .i64 2, .int .i64 (-1)] 3)
        have HPP := Lib.hid (fun (w2 : World) (x' : Value) hgrow (hrow : RowV w2 w.heap.size 27 x' (0 + 1) (vs ++ [_])) => rowsV_push (w1 := w2) (x' := x') (q1.keep hbn) (q2.keep hbn) q3 q4 hown (Nat.le_refl _) hs0 hgrow (hrow.cast rfl (by rw [HK.out]) rfl))
        have HQ := Lib.hid (q1'.keep hbn)
        have HBN := Lib.hid hbn
        clear hown q1 q1' q2 q3 q4 hbn
        go_wp2_with (at_builtin; refine wpList_pushV elemRow _ rfl _ _ rfl w.heap.size u3 0 _ rfl (HQ.out.alloc _) (.slice (some ⟨wr.heap.size, 0, none⟩) 2 2) (wr.heap.size + 1) rfl (cell_new2 _ _ _ _) rfl (by omega) (by have := hbel.size; simp; omega) ?_; intro gg cap w2 hrow1 hgrow hb2)
        have HF := Lib.hid (HPP.out _ _ hgrow hrow1)
        have hbF := ((hbel.trans (HBN.out.mono hs0)).alloc (hbel.trans (HBN.out.mono hs0)).size _).trans hb2
        clear hrow1 hgrow hb2
        clear hmk
        go_roundw
        case rel => exact ⟨1, by omega, by go_num, by rw [HS.out]; exact HF.out, hbF⟩
        case measure => simp [intOf]
      · have hown := own_lit wr #[.int .i64 (-1), .int .i64 2] [-1, 2] rfl (by decide)
        have hbn := below_new wr (.cells #[.int .i64 (-1), .int .i64 2] 3)
        have HPP := Lib.hid (fun (w2 : World) (x' : Value) hgrow (hrow : RowV w2 w.heap.size 27 x' (1 + 1) (vs ++ [_])) => rowsV_push (w1 := w2) (x' := x') (q1.keep hbn) (q2.keep hbn) q3 q4 hown (Nat.le_refl _) hs0 hgrow (hrow.cast rfl (by rw [HK.out]) rfl))
        have HQ := Lib.hid (q1'.keep hbn)
        have HBN := Lib.hid hbn
        clear hown q1 q1' q2 q3 q4 hbn
        go_wp2_with (at_builtin; refine wpList_pushV elemRow _ rfl _ _ rfl w.heap.size u3 1 _ rfl (HQ.out.alloc _) (.slice (some ⟨wr.heap.size, 0, none⟩) 2 2) (wr.heap.size + 1) rfl (cell_new2 _ _ _ _) rfl (by omega) (by have := hbel.size; simp; omega) ?_; intro gg cap w2 hrow1 hgrow hb2)
        have HF := Lib.hid (HPP.out _ _ hgrow hrow1)
        have hbF := ((hbel.trans (HBN.out.mono hs0)).alloc (hbel.trans (HBN.out.mono hs0)).size _).trans hb2
        clear hrow1 hgrow hb2
        clear hmk
        go_roundw
        case rel => exact ⟨2, by omega, by go_num, by rw [HS.out]; exact HF.out, hbF⟩
        case measure => simp [intOf]
    · obtain rfl : k = 2 := by omega
      rw [chainL_end] at hR
      have hown := hR.own2 (Nat.le_refl _)
      go_wp2_with fail
      go_ret
      exact ⟨_, rfl, hown, hbel⟩
set_option maxHeartbeats 2000000 in
theorem specChain3 (w : World) : Calls Tryz.prog 107 #[.int .i64 3] w (RetRows w (chainL 3)) := by
  have hmk : ∀ w : World, (Instr.makeSlice 27 (.int .i64 3) (.int .i64 3)).run Tryz.prog w = .ok (.slice (some ⟨w.heap.size, 0, none⟩) 3 3) (w.alloc (.cells #[.int .i64 0, .int .i64 0, .int .i64 0] 3)) := fun _ => by kernel_rfl
  go_enter Tryz.func107, Tryz.ntmps107
  go_wp2_with fail
  go_loopw [3, 4] (fun x i wr => ∃ k : Nat, k ≤ 3 ∧ i = .int .i64 k ∧ RowsV wr w.heap.size wr.heap.size x ((chainL 3).take k) ∧ Below w.heap.size w wr) (fun _ i _ => 3 - (intOf i).toNat)
  case atStart =>
    obtain ⟨gs, vs, q1, q2, q3, q4⟩ := rowsV_empty w
    exact ⟨0, by omega, rfl, ⟨gs, vs, q1, q2, fun g hg => by have := q3 g hg; omega, q4⟩, (Below.refl _ _).alloc (Nat.le_refl _) _⟩
  case round =>
    obtain ⟨k, hk, rfl, hR, hbel⟩ := hrel
    by_cases hlt' : k < 3
    · have HS := Lib.hid (chainL_snoc 3 k hlt')
      have HK := Lib.hid (show ((chainL 3).take k).length = k by rw [List.length_take, chainL_length]; omega)
      have hs0 := hbel.size
      obtain ⟨gs, vs, q1, q2, q3, q4⟩ := hR
      have q1' : RowV wr w.heap.size 27 u3 k vs := q1.cast rfl HK.out rfl
      rcases (show k = 0 ∨ k = 1 ∨ k = 2 by omega) with rfl | rfl | rfl
      · have hown := own_lit wr #[.int .i64 2, .int .i64 (-1), .int .i64 0] [2, -1, 0] rfl (by decide)
        have hbn := below_new wr (.cells #[.int .i64 2, .int .i64 (-1), .int .i64 0] 3)
        have HPP := Lib.hid (fun (w2 : World) (x' : Value) hgrow (hrow : RowV w2 w.heap.size 27 x' (0 + 1) (vs ++ [_])) => rowsV_push (w1 := w2) (x' := x') (q1.keep hbn) (q2.keep hbn) q3 q4 hown (Nat.le_refl _) hs0 hgrow (hrow.cast rfl (by rw [HK.out]) rfl))
        have HQ := Lib.hid (q1'.keep hbn)
        have HBN := Lib.hid hbn
        clear hown q1 q1' q2 q3 q4 hbn
        go_wp2_with (at_builtin; refine wpList_pushV elemRow _ rfl _ _ rfl w.heap.size u3 0 _ rfl (HQ.out.alloc _) (.slice (some ⟨wr.heap.size, 0, none⟩) 3 3) (wr.heap.size + 1) rfl (cell_new2 _ _ _ _) rfl (by omega) (by have := hbel.size; simp; omega) ?_; intro gg cap w2 hrow1 hgrow hb2)
        have HF := Lib.hid (HPP.out _ _ hgrow hrow1)
        have hbF := ((hbel.trans (HBN.out.mono hs0)).alloc (hbel.trans (HBN.out.mono hs0)).size _).trans hb2
        clear hrow1 hgrow hb2
        clear hmk
        go_roundw
        case rel => exact ⟨1, by omega, by go_num, by rw [HS.out]; exact HF.out, hbF⟩
        case measure => simp [intOf]
      · have hown := own_lit wr #[.int .i64 (-1), .int .i64 2, .int .i64 (-1)] [-1, 2, -1] rfl (by decide)
        have hbn := below_new wr (.cells #[.int .i64 (-1), .int .i64 2, .int .i64 (-1)] 3)
        have HPP := Lib.hid (fun (w2 : World) (x' : Value) hgrow (hrow : RowV w2 w.heap.size 27 x' (1 + 1) (vs ++ [_])) => rowsV_push (w1 := w2) (x' := x') (q1.keep hbn) (q2.keep hbn) q3 q4 hown (Nat.le_refl _) hs0 hgrow (hrow.cast rfl (by rw [HK.out]) rfl))
        have HQ := Lib.hid (q1'.keep hbn)
        have HBN := Lib.hid hbn
        clear hown q1 q1' q2 q3 q4 hbn
        go_wp2_with (at_builtin; refine wpList_pushV elemRow _ rfl _ _ rfl w.heap.size u3 1 _ rfl (HQ.out.alloc _) (.slice (some ⟨wr.heap.size, 0, none⟩) 3 3) (wr.heap.size + 1) rfl (cell_new2 _ _ _ _) rfl (by omega) (by have := hbel.size; simp; omega) ?_; intro gg cap w2 hrow1 hgrow hb2)
        have HF := Lib.hid (HPP.out _ _ hgrow hrow1)
        have hbF := ((hbel.trans (HBN.out.mono hs0)).alloc (hbel.trans (HBN.out.mono hs0)).size _).trans hb2
        clear hrow1 hgrow hb2
        clear hmk
        go_roundw
        case rel => exact ⟨2, by omega, by go_num, by rw [HS.out]; exact HF.out, hbF⟩
        case measure => simp [intOf]
      · have hown := own_lit wr #[.int .i64 0, .int .i64 (-1), .int .i64 2] [0, -1, 2] rfl (by decide)
        have hbn := below_new wr (.cells #[.int .i64 0, .int .i64 (-1), .int .i64 2] 3)
        have HPP := Lib.hid (fun (w2 : World) (x' : Value) hgrow (hrow : RowV w2 w.heap.size 27 x' (2 + 1) (vs ++ [_])) => rowsV_push (w1 := w2) (x' := x') (q1.keep hbn) (q2.keep hbn) q3 q4 hown (Nat.le_refl _) hs0 hgrow (hrow.cast rfl (by rw [HK.out]) rfl))
        have HQ := Lib.hid (q1'.keep hbn)
        have HBN := Lib.hid hbn
        clear hown q1 q1' q2 q3 q4 hbn
        go_wp2_with (at_builtin; refine wpList_pushV elemRow _ rfl _ _ rfl w.heap.size u3 2 _ rfl (HQ.out.alloc _) (.slice (some ⟨wr.heap.size, 0, none⟩) 3 3) (wr.heap.size + 1) rfl (cell_new2 _ _ _ _) rfl (by omega) (by have := hbel.size; simp; omega) ?_; intro gg cap w2 hrow1 hgrow hb2)
        have HF := Lib.hid (HPP.out _ _ hgrow hrow1)
        have hbF := ((hbel.trans (HBN.out.mono hs0)).alloc (hbel.trans (HBN.out.mono hs0)).size _).trans hb2
        clear hrow1 hgrow hb2
        clear hmk
        go_roundw
        case rel => exact ⟨3, by omega, by go_num, by rw [HS.out]; exact HF.out, hbF⟩
        case measure => simp [intOf]
    · obtain rfl : k = 3 := by omega
      rw [chainL_end] at hR
      have hown := hR.own2 (Nat.le_refl _)
      go_wp2_with fail
      go_ret
      exact ⟨_, rfl, hown, hbel⟩
set_option maxHeartbeats 2000000 in
theorem specChain4 (w : World) : Calls Tryz.prog 107 #[.int .i64 4] w (RetRows w (chainL 4)) := by
  have hmk : ∀ w : World, (Instr.makeSlice 27 (.int .i64 4) (.int .i64 4)).run Tryz.prog w = .ok (.slice (some ⟨w.heap.size, 0, none⟩) 4 4) (w.alloc (.cells #[.int .i64 0, .int .i64 0, .int .i64 0, .int .i64 0] 3)) := fun _ => by kernel_rfl
  go_enter Tryz.func107, Tryz.ntmps107
  go_wp2_with fail
  go_loopw [3, 4] (fun x i wr => ∃ k : Nat, k ≤ 4 ∧ i = .int .i64 k ∧ RowsV wr w.heap.size wr.heap.size x ((chainL 4).take k) ∧ Below w.heap.size w wr) (fun _ i _ => 4 - (intOf i).toNat)
  case atStart =>
    obtain ⟨gs, vs, q1, q2, q3, q4⟩ := rowsV_empty w
    exact ⟨0, by omega, rfl, ⟨gs, vs, q1, q2, fun g hg => by have := q3 g hg; omega, q4⟩, (Below.refl _ _).alloc (Nat.le_refl _) _⟩
  case round =>
    obtain ⟨k, hk, rfl, hR, hbel⟩ := hrel
    by_cases hlt' : k < 4
    · have HS := Lib.hid (chainL_snoc 4 k hlt')
      have HK := Lib.hid (show ((chainL 4).take k).length = k by rw [List.length_take, chainL_length]; omega)
      have hs0 := hbel.size
      obtain ⟨gs, vs, q1, q2, q3, q4⟩ := hR
      have q1' : RowV wr w.heap.size 27 u3 k vs := q1.cast rfl HK.out rfl
      rcases (show k = 0 ∨ k = 1 ∨ k = 2 ∨ k = 3 by omega) with rfl | rfl | rfl | rfl
      · have hown := own_lit wr #[.int .i64 2, .int .i64 (-1), .int .i64 0, .int .i64 0] [2, -1, 0, 0] rfl (by decide)
        have hbn := below_new wr (.cells #[.int .i64 2, .int .i64 (-1), .int .i64 0, .int .i64 0] 3)
        have HPP := Lib.hid (fun (w2 : World) (x' : Value) hgrow (hrow : RowV w2 w.heap.size 27 x' (0 + 1) (vs ++ [_])) => rowsV_push (w1 := w2) (x' := x') (q1.keep hbn) (q2.keep hbn) q3 q4 hown (Nat.le_refl _) hs0 hgrow (hrow.cast rfl (by rw [HK.out]) rfl))
        have HQ := Lib.hid (q1'.keep hbn)
        have HBN := Lib.hid hbn
        clear hown q1 q1' q2 q3 q4 hbn
        go_wp2_with (at_builtin; refine wpList_pushV elemRow _ rfl _ _ rfl w.heap.size u3 0 _ rfl (HQ.out.alloc _) (.slice (some ⟨wr.heap.size, 0, none⟩) 4 4) (wr.heap.size + 1) rfl (cell_new2 _ _ _ _) rfl (by omega) (by have := hbel.size; simp; omega) ?_; intro gg cap w2 hrow1 hgrow hb2)
        have HF := Lib.hid (HPP.out _ _ hgrow hrow1)
        have hbF := ((hbel.trans (HBN.out.mono hs0)).alloc (hbel.trans (HBN.out.mono hs0)).size _).trans hb2
        clear hrow1 hgrow hb2
        clear hmk
        go_roundw
        case rel => exact ⟨1, by omega, by go_num, by rw [HS.out]; exact HF.out, hbF⟩
        case measure => simp [intOf]
      · have hown := own_lit wr #[.int .i64 (-1), .int .i64 2, .int .i64 (-1), .int .i64 0] [-1, 2, -1, 0] rfl (by decide)
        have hbn := below_new wr (.cells #[.int .i64 (-1), .int .i64 2, .int .i64 (-1), .int .i64 0] 3)
        have HPP := Lib.hid (fun (w2 : World) (x' : Value) hgrow (hrow : RowV w2 w.heap.size 27 x' (1 + 1) (vs ++ [_])) => rowsV_push (w1 := w2) (x' := x') (q1.keep hbn) (q2.keep hbn) q3 q4 hown (Nat.le_refl _) hs0 hgrow (hrow.cast rfl (by rw [HK.out]) rfl))
        have HQ := Lib.hid (q1'.keep hbn)
        have HBN := Lib.hid hbn
        clear hown q1 q1' q2 q3 q4 hbn
        go_wp2_with (at_builtin; refine wpList_pushV elemRow _ rfl _ _ rfl w.heap.size u3 1 _ rfl (HQ.out.alloc _) (.slice (some ⟨wr.heap.size, 0, none⟩) 4 4) (wr.heap.size + 1) rfl (cell_new2 _ _ _ _) rfl (by omega) (by have := hbel.size; simp; omega) ?_; intro gg cap w2 hrow1 hgrow hb2)
        have HF := Lib.hid (HPP.out _ _ hgrow hrow1)
        have hbF := ((hbel.trans (HBN.out.mono hs0)).alloc (hbel.trans (HBN.out.mono hs0)).size _).trans hb2
        clear hrow1 hgrow hb2
        clear hmk
        go_roundw
        case rel => exact ⟨2, by omega, by go_num, by rw [HS.out]; exact HF.out, hbF⟩
        case measure => simp [intOf]
      · have hown := own_lit wr #[.int .i64 0, .int .i64 (-1), .int .i64 2, .int .i64 (-1)] [0, -1, 2, -1] rfl (by decide)
        have hbn := below_new wr (.cells #[.int .i64 0, .int .i64 (-1), .int .i64 2, .int .i64 (-1)] 3)
        have HPP := Lib.hid (fun (w2 : World) (x' : Value) hgrow (hrow : RowV w2 w.heap.size 27 x' (2 + 1) (vs ++ [_])) => rowsV_push (w1 := w2) (x' := x') (q1.keep hbn) (q2.keep hbn) q3 q4 hown (Nat.le_refl _) hs0 hgrow (hrow.cast rfl (by rw [HK.out]) rfl))
        have HQ := Lib.hid (q1'.keep hbn)
        have HBN := Lib.hid hbn
        clear hown q1 q1' q2 q3 q4 hbn
        go_wp2_with (at_builtin; refine wpList_pushV elemRow _ rfl _ _ rfl w.heap.size u3 2 _ rfl (HQ.out.alloc _) (.slice (some ⟨wr.heap.size, 0, none⟩) 4 4) (wr.heap.size + 1) rfl (cell_new2 _ _ _ _) rfl (by omega) (by have := hbel.size; simp; omega) ?_; intro gg cap w2 hrow1 hgrow hb2)
        have HF := Lib.hid (HPP.out _ _ hgrow hrow1)
        have hbF := ((hbel.trans (HBN.out.mono hs0)).alloc (hbel.trans (HBN.out.mono hs0)).size _).trans hb2
        clear hrow1 hgrow hb2
        clear hmk
        go_roundw
        case rel => exact ⟨3, by omega, by go_num, by rw [HS.out]; exact HF.out, hbF⟩
        case measure => simp [intOf]
      · have hown := own_lit wr #[.int .i64 0, .int .i64 0, .int .i64 (-1), .int .i64 2] [0, 0, -1, 2] rfl (by decide)
        have hbn := below_new wr (.cells #[.int .i64 0, .int .i64 0, .int .i64 (-1), .int .i64 2] 3)
        have HPP := Lib.hid (fun (w2 : World) (x' : Value) hgrow (hrow : RowV w2 w.heap.size 27 x' (3 + 1) (vs ++ [_])) => rowsV_push (w1 := w2) (x' := x') (q1.keep hbn) (q2.keep hbn) q3 q4 hown (Nat.le_refl _) hs0 hgrow (hrow.cast rfl (by rw [HK.out]) rfl))
        have HQ := Lib.hid (q1'.keep hbn)
        have HBN := Lib.hid hbn
        clear hown q1 q1' q2 q3 q4 hbn
        go_wp2_with (at_builtin; refine wpList_pushV elemRow _ rfl _ _ rfl w.heap.size u3 3 _ rfl (HQ.out.alloc _) (.slice (some ⟨wr.heap.size, 0, none⟩) 4 4) (wr.heap.size + 1) rfl (cell_new2 _ _ _ _) rfl (by omega) (by have := hbel.size; simp; omega) ?_; intro gg cap w2 hrow1 hgrow hb2)
        have HF := Lib.hid (HPP.out _ _ hgrow hrow1)
        have hbF := ((hbel.trans (HBN.out.mono hs0)).alloc (hbel.trans (HBN.out.mono hs0)).size _).trans hb2
        clear hrow1 hgrow hb2
        clear hmk
        go_roundw
        case rel => exact ⟨4, by omega, by go_num, by rw [HS.out]; exact HF.out, hbF⟩
        case measure => simp [intOf]
    · obtain rfl : k = 4 := by omega
      rw [chainL_end] at hR
      have hown := hR.own2 (Nat.le_refl _)
      go_wp2_with fail
      go_ret
      exact ⟨_, rfl, hown, hbel⟩
set_option maxHeartbeats 2000000 in
theorem implChain1 (w : World) : Calls Tryz.prog 105 #[.int .i64 1] w (RetRows w (chainL 1)) := by
  have hmk : ∀ w : World, (Instr.makeSlice 27 (.int .i64 1) (.int .i64 1)).run Tryz.prog w = .ok (.slice (some ⟨w.heap.size, 0, none⟩) 1 1) (w.alloc (.cells #[.int .i64 0] 3)) := fun _ => by kernel_rfl
  go_enter Tryz.func105, Tryz.ntmps105
  go_wp2_with fail
  go_loopw [3, 8] (fun x i wr => ∃ k : Nat, k ≤ 1 ∧ i = .int .i64 k ∧ RowsV wr w.heap.size wr.heap.size x ((chainL 1).take k) ∧ Below w.heap.size w wr) (fun _ i _ => 1 - (intOf i).toNat)
  case atStart =>
    obtain ⟨gs, vs, q1, q2, q3, q4⟩ := rowsV_empty w
    exact ⟨0, by omega, rfl, ⟨gs, vs, q1, q2, fun g hg => by have := q3 g hg; omega, q4⟩, (Below.refl _ _).alloc (Nat.le_refl _) _⟩
  case round =>
    obtain ⟨k, hk, rfl, hR, hbel⟩ := hrel
    by_cases hlt' : k < 1
    · have HS := Lib.hid (chainL_snoc 1 k hlt')
      have HK := Lib.hid (show ((chainL 1).take k).length = k by rw [List.length_take, chainL_length]; omega)
      have hs0 := hbel.size
      obtain ⟨gs, vs, q1, q2, q3, q4⟩ := hR
      have q1' : RowV wr w.heap.size 27 u3 k vs := q1.cast rfl HK.out rfl
      obtain rfl : k = 0 := by omega
      have hown := own_lit wr #[.int .i64 2] [2] rfl (by decide)
      have hbn := below_new wr (.cells #[.int .i64 2] 3)
      have HPP := Lib.hid (fun (w2 : World) (x' : Value) hgrow (hrow : RowV w2 w.heap.size 27 x' (0 + 1) (vs ++ [_])) => rowsV_push (w1 := w2) (x' := x') (q1.keep hbn) (q2.keep hbn) q3 q4 hown (Nat.le_refl _) hs0 hgrow (hrow.cast rfl (by rw [HK.out]) rfl))
      have HQ := Lib.hid (q1'.keep hbn)
      have HBN := Lib.hid hbn
      clear hown q1 q1' q2 q3 q4 hbn
      go_wp2_with (at_builtin; refine wpList_pushV elemRow _ rfl _ _ rfl w.heap.size u3 0 _ rfl (HQ.out.alloc _) (.slice (some ⟨wr.heap.size, 0, none⟩) 1 1) (wr.heap.size + 1) rfl (cell_new2 _ _ _ _) rfl (by omega) (by have := hbel.size; simp; omega) ?_; intro gg cap w2 hrow1 hgrow hb2)
      have HF := Lib.hid (HPP.out _ _ hgrow hrow1)
      have hbF := ((hbel.trans (HBN.out.mono hs0)).alloc (hbel.trans (HBN.out.mono hs0)).size _).trans hb2
      clear hrow1 hgrow hb2
      clear hmk
      go_roundw
      case rel => exact ⟨1, by omega, by go_num, by rw [HS.out]; exact HF.out, hbF⟩
      case measure => simp [intOf]
    · obtain rfl : k = 1 := by omega
      rw [chainL_end] at hR
      have hown := hR.own2 (Nat.le_refl _)
      go_wp2_with fail
      go_ret
      exact ⟨_, rfl, hown, hbel⟩
set_option maxHeartbeats 2000000 in
theorem implChain2 (w : World) : Calls Tryz.prog 105 #[.int .i64 2] w (RetRows w (chainL 2)) := by
  have hmk : ∀ w : World, (Instr.makeSlice 27 (.int .i64 2) (.int .i64 2)).run Tryz.prog w = .ok (.slice (some ⟨w.heap.size, 0, none⟩) 2 2) (w.alloc (.cells #[.int .i64 0, .int .i64 0] 3)) := fun _ => by kernel_rfl
  go_enter Tryz.func105, Tryz.ntmps105
  go_wp2_with fail
  go_loopw [3, 8] (fun x i wr => ∃ k : Nat, k ≤ 2 ∧ i = .int .i64 k ∧ RowsV wr w.heap.size wr.heap.size x ((chainL 2).take k) ∧ Below w.heap.size w wr) (fun _ i _ => 2 - (intOf i).toNat)
  case atStart =>
    obtain ⟨gs, vs, q1, q2, q3, q4⟩ := rowsV_empty w
    exact ⟨0, by omega, rfl, ⟨gs, vs, q1, q2, fun g hg => by have := q3 g hg; omega, q4⟩, (Below.refl _ _).alloc (Nat.le_refl _) _⟩
  case round =>
    obtain ⟨k, hk, rfl, hR, hbel⟩ := hrel
    by_cases hlt' : k < 2
    · have HS := Lib.hid (chainL_snoc 2 k hlt')
      have HK := Lib.hid (show ((chainL 2).take k).length = k by rw [List.length_take, chainL_length]; omega)
      have hs0 := hbel.size
      obtain ⟨gs, vs, q1, q2, q3, q4⟩ := hR
      have q1' : RowV wr w.heap.size 27 u3 k vs := q1.cast rfl HK.out rfl
      rcases (show k = 0 ∨ k = 1 by omega) with rfl | rfl
      · have hown := own_lit wr #[.int .i64 2, .int .i64 (-1)] [2, -1] rfl (by decide)
        have hbn := below_new wr (.cells #[.int .i64 2, .int .i64 (-1)] 3)
        have HPP := Lib.hid (fun (w2 : World) (x' : Value) hgrow (hrow : RowV w2 w.heap.size 27 x' (0 + 1) (vs ++ [_])) => rowsV_push (w1 := w2) (x' := x') (q1.keep hbn) (q2.keep hbn) q3 q4 hown (Nat.le_refl _) hs0 hgrow (hrow.cast rfl (by rw [HK.out]) rfl))
        have HQ := Lib.hid (q1'.keep hbn)
        have HBN := Lib.hid hbn
        clear hown q1 q1' q2 q3 q4 hbn
        go_wp2_with (at_builtin; refine wpList_pushV elemRow _ rfl _ _ rfl w.heap.size u3 0 _ rfl (HQ.out.alloc _) (.slice (some ⟨wr.heap.size, 0, none⟩) 2 2) (wr.heap.size + 1) rfl (cell_new2 _ _ _ _) rfl (by omega) (by have := hbel.size; simp; omega) ?_; intro gg cap w2 hrow1 hgrow hb2)
        have HF := Lib.hid (HPP.out _ _ hgrow hrow1)
        have hbF := ((hbel.trans (HBN.out.mono hs0)).alloc (hbel.trans (HBN.out.mono hs0)).size _).trans hb2
        clear hrow1 hgrow hb2
        clear hmk
        go_roundw
        case rel => exact ⟨1, by omega, by go_num, by rw [HS.out]; exact HF.out, hbF⟩
        case measure => simp [intOf]
      · have hown := own_lit wr #[.int .i64 (-1), .int .i64 2] [-1, 2] rfl (by decide)
        have hbn := below_new wr (.cells #[.int .i64 (-1), .int .i64 2] 3)
        have HPP := Lib.hid (fun (w2 : World) (x' : Value) hgrow (hrow : RowV w2 w.heap.size 27 x' (1 + 1) (vs ++ [_])) => rowsV_push (w1 := w2) (x' := x') (q1.keep hbn) (q2.keep hbn) q3 q4 hown (Nat.le_refl _) hs0 hgrow (hrow.cast rfl (by rw [HK.out]) rfl))
        have HQ := Lib.hid (q1'.keep hbn)
        have HBN := Lib.hid hbn
        clear hown q1 q1' q2 q3 q4 hbn
        go_wp2_with (at_builtin; refine wpList_pushV elemRow _ rfl _ _ rfl w.heap.size u3 1 _ rfl (HQ.out.alloc _) (.slice (some ⟨wr.heap.size, 0, none⟩) 2 2) (wr.heap.size + 1) rfl (cell_new2 _ _ _ _) rfl (by omega) (by have := hbel.size; simp; omega) ?_; intro gg cap w2 hrow1 hgrow hb2)
        have HF := Lib.hid (HPP.out _ _ hgrow hrow1)
        have hbF := ((hbel.trans (HBN.out.mono hs0)).alloc (hbel.trans (HBN.out.mono hs0)).size _).trans hb2
        clear hrow1 hgrow hb2
        clear hmk
        go_roundw
        case rel => exact ⟨2, by omega, by go_num, by rw [HS.out]; exact HF.out, hbF⟩
        case measure => simp [intOf]
    · obtain rfl : k = 2 := by omega
      rw [chainL_end] at hR
      have hown := hR.own2 (Nat.le_refl _)
      go_wp2_with fail
      go_ret
      exact ⟨_, rfl, hown, hbel⟩
set_option maxHeartbeats 2000000 in
theorem implChain3 (w : World) : Calls Tryz.prog 105 #[.int .i64 3] w (RetRows w (chainL 3)) := by
  have hmk : ∀ w : World, (Instr.makeSlice 27 (.int .i64 3) (.int .i64 3)).run Tryz.prog w = .ok (.slice (some ⟨w.heap.size, 0, none⟩) 3 3) (w.alloc (.cells #[.int .i64 0, .int .i64 0, .int .i64 0] 3)) := fun _ => by kernel_rfl
  go_enter Tryz.func105, Tryz.ntmps105
  go_wp2_with fail
  go_loopw [3, 8] (fun x i wr => ∃ k : Nat, k ≤ 3 ∧ i = .int .i64 k ∧ RowsV wr w.heap.size wr.heap.size x ((chainL 3).take k) ∧ Below w.heap.size w wr) (fun _ i _ => 3 - (intOf i).toNat)
  case atStart =>
    obtain ⟨gs, vs, q1, q2, q3, q4⟩ := rowsV_empty w
    exact ⟨0, by omega, rfl, ⟨gs, vs, q1, q2, fun g hg => by have := q3 g hg; omega, q4⟩, (Below.refl _ _).alloc (Nat.le_refl _) _⟩
  case round =>
    obtain ⟨k, hk, rfl, hR, hbel⟩ := hrel
    by_cases hlt' : k < 3
    · have HS := Lib.hid (chainL_snoc 3 k hlt')
      have HK := Lib.hid (show ((chainL 3).take k).length = k by rw [List.length_take, chainL_length]; omega)
      have hs0 := hbel.size
      obtain ⟨gs, vs, q1, q2, q3, q4⟩ := hR
      have q1' : RowV wr w.heap.size 27 u3 k vs := q1.cast rfl HK.out rfl
      rcases (show k = 0 ∨ k = 1 ∨ k = 2 by omega) with rfl | rfl | rfl
      · have hown := own_lit wr #[.int .i64 2, .int .i64 (-1), .int .i64 0] [2, -1, 0] rfl (by decide)
        have hbn := below_new wr (.cells #[.int .i64 2, .int .i64 (-1), .int .i64 0] 3)
        have HPP := Lib.hid (fun (w2 : World) (x' : Value) hgrow (hrow : RowV w2 w.heap.size 27 x' (0 + 1) (vs ++ [_])) => rowsV_push (w1 := w2) (x' := x') (q1.keep hbn) (q2.keep hbn) q3 q4 hown (Nat.le_refl _) hs0 hgrow (hrow.cast rfl (by rw [HK.out]) rfl))
        have HQ := Lib.hid (q1'.keep hbn)
        have HBN := Lib.hid hbn
        clear hown q1 q1' q2 q3 q4 hbn
        go_wp2_with (at_builtin; refine wpList_pushV elemRow _ rfl _ _ rfl w.heap.size u3 0 _ rfl (HQ.out.alloc _) (.slice (some ⟨wr.heap.size, 0, none⟩) 3 3) (wr.heap.size + 1) rfl (cell_new2 _ _ _ _) rfl (by omega) (by have := hbel.size; simp; omega) ?_; intro gg cap w2 hrow1 hgrow hb2)
        have HF := Lib.hid (HPP.out _ _ hgrow hrow1)
        have hbF := ((hbel.trans (HBN.out.mono hs0)).alloc (hbel.trans (HBN.out.mono hs0)).size _).trans hb2
        clear hrow1 hgrow hb2
        clear hmk
        go_roundw
        case rel => exact ⟨1, by omega, by go_num, by rw [HS.out]; exact HF.out, hbF⟩
        case measure => simp [intOf]
      · have hown := own_lit wr #[.int .i64 (-1), .int .i64 2, .int .i64 (-1)] [-1, 2, -1] rfl (by decide)
        have hbn := below_new wr (.cells #[.int .i64 (-1), .int .i64 2, .int .i64 (-1)] 3)
        have HPP := Lib.hid (fun (w2 : World) (x' : Value) hgrow (hrow : RowV w2 w.heap.size 27 x' (1 + 1) (vs ++ [_])) => rowsV_push (w1 := w2) (x' := x') (q1.keep hbn) (q2.keep hbn) q3 q4 hown (Nat.le_refl _) hs0 hgrow (hrow.cast rfl (by rw [HK.out]) rfl))
        have HQ := Lib.hid (q1'.keep hbn)
        have HBN := Lib.hid hbn
        clear hown q1 q1' q2 q3 q4 hbn
        go_wp2_with (at_builtin; refine wpList_pushV elemRow _ rfl _ _ rfl w.heap.size u3 1 _ rfl (HQ.out.alloc _) (.slice (some ⟨wr.heap.size, 0, none⟩) 3 3) (wr.heap.size + 1) rfl (cell_new2 _ _ _ _) rfl (by omega) (by have := hbel.size; simp; omega) ?_; intro gg cap w2 hrow1 hgrow hb2)
        have HF := Lib.hid (HPP.out _ _ hgrow hrow1)
        have hbF := ((hbel.trans (HBN.out.mono hs0)).alloc (hbel.trans (HBN.out.mono hs0)).size _).trans hb2
        clear hrow1 hgrow hb2
        clear hmk
        go_roundw
        case rel => exact ⟨2, by omega, by go_num, by rw [HS.out]; exact HF.out, hbF⟩
        case measure => simp [intOf]
      · have hown := own_lit wr #[.int .i64 0, .int .i64 (-1), .int .i64 2] [0, -1, 2] rfl (by decide)
        have hbn := below_new wr (.cells #[.int .i64 0, .int .i64 (-1), .int .i64 2] 3)
        have HPP := Lib.hid (fun (w2 : World) (x' : Value) hgrow (hrow : RowV w2 w.heap.size 27 x' (2 + 1) (vs ++ [_])) => rowsV_push (w1 := w2) (x' := x') (q1.keep hbn) (q2.keep hbn) q3 q4 hown (Nat.le_refl _) hs0 hgrow (hrow.cast rfl (by rw [HK.out]) rfl))
        have HQ := Lib.hid (q1'.keep hbn)
        have HBN := Lib.hid hbn
        clear hown q1 q1' q2 q3 q4 hbn
        go_wp2_with (at_builtin; refine wpList_pushV elemRow _ rfl _ _ rfl w.heap.size u3 2 _ rfl (HQ.out.alloc _) (.slice (some ⟨wr.heap.size, 0, none⟩) 3 3) (wr.heap.size + 1) rfl (cell_new2 _ _ _ _) rfl (by omega) (by have := hbel.size; simp; omega) ?_; intro gg cap w2 hrow1 hgrow hb2)
        have HF := Lib.hid (HPP.out _ _ hgrow hrow1)
        have hbF := ((hbel.trans (HBN.out.mono hs0)).alloc (hbel.trans (HBN.out.mono hs0)).size _).trans hb2
        clear hrow1 hgrow hb2
        clear hmk
        go_roundw
        case rel => exact ⟨3, by omega, by go_num, by rw [HS.out]; exact HF.out, hbF⟩
        case measure => simp [intOf]
    · obtain rfl : k = 3 := by omega
      rw [chainL_end] at hR
      have hown := hR.own2 (Nat.le_refl _)
      go_wp2_with fail
      go_ret
      exact ⟨_, rfl, hown, hbel⟩
set_option maxHeartbeats 2000000 in
theorem implChain4 (w : World) : Calls Tryz.prog 105 #[.int .i64 4] w (RetRows w (chainL 4)) := by
  have hmk : ∀ w : World, (Instr.makeSlice 27 (.int .i64 4) (.int .i64 4)).run Tryz.prog w = .ok (.slice (some ⟨w.heap.size, 0, none⟩) 4 4) (w.alloc (.cells #[.int .i64 0, .int .i64 0, .int .i64 0, .int .i64 0] 3)) := fun _ => by kernel_rfl
  go_enter Tryz.func105, Tryz.ntmps105
  go_wp2_with fail
  go_loopw [3, 8] (fun x i wr => ∃ k : Nat, k ≤ 4 ∧ i = .int .i64 k ∧ RowsV wr w.heap.size wr.heap.size x ((chainL 4).take k) ∧ Below w.heap.size w wr) (fun _ i _ => 4 - (intOf i).toNat)
  case atStart =>
    obtain ⟨gs, vs, q1, q2, q3, q4⟩ := rowsV_empty w
    exact ⟨0, by omega, rfl, ⟨gs, vs, q1, q2, fun g hg => by have := q3 g hg; omega, q4⟩, (Below.refl _ _).alloc (Nat.le_refl _) _⟩
  case round =>
    obtain ⟨k, hk, rfl, hR, hbel⟩ := hrel
    by_cases hlt' : k < 4
    · have HS := Lib.hid (chainL_snoc 4 k hlt')
      have HK := Lib.hid (show ((chainL 4).take k).length = k by rw [List.length_take, chainL_length]; omega)
      have hs0 := hbel.size
      obtain ⟨gs, vs, q1, q2, q3, q4⟩ := hR
      have q1' : RowV wr w.heap.size 27 u3 k vs := q1.cast rfl HK.out rfl
      rcases (show k = 0 ∨ k = 1 ∨ k = 2 ∨ k = 3 by omega) with rfl | rfl | rfl | rfl
      · have hown := own_lit wr #[.int .i64 2, .int .i64 (-1), .int .i64 0, .int .i64 0] [2, -1, 0, 0] rfl (by decide)
        have hbn := below_new wr (.cells #[.int .i64 2, .int .i64 (-1), .int .i64 0, .int .i64 0] 3)
        have HPP := Lib.hid (fun (w2 : World) (x' : Value) hgrow (hrow : RowV w2 w.heap.size 27 x' (0 + 1) (vs ++ [_])) => rowsV_push (w1 := w2) (x' := x') (q1.keep hbn) (q2.keep hbn) q3 q4 hown (Nat.le_refl _) hs0 hgrow (hrow.cast rfl (by rw [HK.out]) rfl))
        have HQ := Lib.hid (q1'.keep hbn)
        have HBN := Lib.hid hbn
        clear hown q1 q1' q2 q3 q4 hbn
        go_wp2_with (at_builtin; refine wpList_pushV elemRow _ rfl _ _ rfl w.heap.size u3 0 _ rfl (HQ.out.alloc _) (.slice (some ⟨wr.heap.size, 0, none⟩) 4 4) (wr.heap.size + 1) rfl (cell_new2 _ _ _ _) rfl (by omega) (by have := hbel.size; simp; omega) ?_; intro gg cap w2 hrow1 hgrow hb2)
        have HF := Lib.hid (HPP.out _ _ hgrow hrow1)
        have hbF := ((hbel.trans (HBN.out.mono hs0)).alloc (hbel.trans (HBN.out.mono hs0)).size _).trans hb2
        clear hrow1 hgrow hb2
        clear hmk
        go_roundw
        case rel => exact ⟨1, by omega, by go_num, by rw [HS.out]; exact HF.out, hbF⟩
        case measure => simp [intOf]
      · have hown := own_lit wr #[.int .i64 (-1), .int .i64 2, .int .i64 (-1), .int .i64 0] [-1, 2, -1, 0] rfl (by decide)
        have hbn := below_new wr (.cells #[.int .i64 (-1), .int .i64 2, .int .i64 (-1), .int .i64 0] 3)
        have HPP := Lib.hid (fun (w2 : World) (x' : Value) hgrow (hrow : RowV w2 w.heap.size 27 x' (1 + 1) (vs ++ [_])) => rowsV_push (w1 := w2) (x' := x') (q1.keep hbn) (q2.keep hbn) q3 q4 hown (Nat.le_refl _) hs0 hgrow (hrow.cast rfl (by rw [HK.out]) rfl))
        have HQ := Lib.hid (q1'.keep hbn)
        have HBN := Lib.hid hbn
        clear hown q1 q1' q2 q3 q4 hbn
        go_wp2_with (at_builtin; refine wpList_pushV elemRow _ rfl _ _ rfl w.heap.size u3 1 _ rfl (HQ.out.alloc _) (.slice (some ⟨wr.heap.size, 0, none⟩) 4 4) (wr.heap.size + 1) rfl (cell_new2 _ _ _ _) rfl (by omega) (by have := hbel.size; simp; omega) ?_; intro gg cap w2 hrow1 hgrow hb2)
        have HF := Lib.hid (HPP.out _ _ hgrow hrow1)
        have hbF := ((hbel.trans (HBN.out.mono hs0)).alloc (hbel.trans (HBN.out.mono hs0)).size _).trans hb2
        clear hrow1 hgrow hb2
        clear hmk
        go_roundw
        case rel => exact ⟨2, by omega, by go_num, by rw [HS.out]; exact HF.out, hbF⟩
        case measure => simp [intOf]
      · have hown := own_lit wr #[.int .i64 0, .int .i64 (-1), .int .i64 2, .int .i64 (-1)] [0, -1, 2, -1] rfl (by decide)
        have hbn := below_new wr (.cells #[.int .i64 0, .int .i64 (-1), .int .i64 2, .int .i64 (-1)] 3)
        have HPP := Lib.hid (fun (w2 : World) (x' : Value) hgrow (hrow : RowV w2 w.heap.size 27 x' (2 + 1) (vs ++ [_])) => rowsV_push (w1 := w2) (x' := x') (q1.keep hbn) (q2.keep hbn) q3 q4 hown (Nat.le_refl _) hs0 hgrow (hrow.cast rfl (by rw [HK.out]) rfl))
        have HQ := Lib.hid (q1'.keep hbn)
        have HBN := Lib.hid hbn
        clear hown q1 q1' q2 q3 q4 hbn
        go_wp2_with (at_builtin; refine wpList_pushV elemRow _ rfl _ _ rfl w.heap.size u3 2 _ rfl (HQ.out.alloc _) (.slice (some ⟨wr.heap.size, 0, none⟩) 4 4) (wr.heap.size + 1) rfl (cell_new2 _ _ _ _) rfl (by omega) (by have := hbel.size; simp; omega) ?_; intro gg cap w2 hrow1 hgrow hb2)
        have HF := Lib.hid (HPP.out _ _ hgrow hrow1)
        have hbF := ((hbel.trans (HBN.out.mono hs0)).alloc (hbel.trans (HBN.out.mono hs0)).size _).trans hb2
        clear hrow1 hgrow hb2
        clear hmk
        go_roundw
        case rel => exact ⟨3, by omega, by go_num, by rw [HS.out]; exact HF.out, hbF⟩
        case measure => simp [intOf]
      · have hown := own_lit wr #[.int .i64 0, .int .i64 0, .int .i64 (-1), .int .i64 2] [0, 0, -1, 2] rfl (by decide)
        have hbn := below_new wr (.cells #[.int .i64 0, .int .i64 0, .int .i64 (-1), .int .i64 2] 3)
        have HPP := Lib.hid (fun (w2 : World) (x' : Value) hgrow (hrow : RowV w2 w.heap.size 27 x' (3 + 1) (vs ++ [_])) => rowsV_push (w1 := w2) (x' := x') (q1.keep hbn) (q2.keep hbn) q3 q4 hown (Nat.le_refl _) hs0 hgrow (hrow.cast rfl (by rw [HK.out]) rfl))
        have HQ := Lib.hid (q1'.keep hbn)
        have HBN := Lib.hid hbn
        clear hown q1 q1' q2 q3 q4 hbn
        go_wp2_with (at_builtin; refine wpList_pushV elemRow _ rfl _ _ rfl w.heap.size u3 3 _ rfl (HQ.out.alloc _) (.slice (some ⟨wr.heap.size, 0, none⟩) 4 4) (wr.heap.size + 1) rfl (cell_new2 _ _ _ _) rfl (by omega) (by have := hbel.size; simp; omega) ?_; intro gg cap w2 hrow1 hgrow hb2)
        have HF := Lib.hid (HPP.out _ _ hgrow hrow1)
        have hbF := ((hbel.trans (HBN.out.mono hs0)).alloc (hbel.trans (HBN.out.mono hs0)).size _).trans hb2
        clear hrow1 hgrow hb2
        clear hmk
        go_roundw
        case rel => exact ⟨4, by omega, by go_num, by rw [HS.out]; exact HF.out, hbF⟩
        case measure => simp [intOf]
    · obtain rfl : k = 4 := by omega
      rw [chainL_end] at hR
      have hown := hR.own2 (Nat.le_refl _)
      go_wp2_with fail
      go_ret
      exact ⟨_, rfl, hown, hbel⟩
end Go.Proofs.YtaikjkcbgniplaaGreatDoor
