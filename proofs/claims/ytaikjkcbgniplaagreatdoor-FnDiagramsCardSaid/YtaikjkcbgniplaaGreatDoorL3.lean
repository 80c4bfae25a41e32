/- The reference's orders: l3Orders. -/
import Derived.Test.YtaikjkcbgniplaaGreatDoorHas
namespace Go.Proofs.YtaikjkcbgniplaaGreatDoor
open Go.RowKit
set_option linter.unusedVariables false

def nxtT (n : Nat) (o : List Int) (t : Nat) : List (List Int) := ((ptsI t).filter (fun x => !hasL o x)).map (fun x => o ++ [x])
theorem nxtT_all (n : Nat) (o : List Int) : nxtT n o n = nxt n o := rfl
theorem nxtT_zero (n : Nat) (o : List Int) : nxtT n o 0 = [] := rfl
theorem nxtT_skip (n : Nat) (o : List Int) (t : Nat) (h : hasL o (t : Int) = true) : nxtT n o (t + 1) = nxtT n o t := by
  rw [nxtT, nxtT, ptsI_succ, List.filter_append]; simp [h]
theorem nxtT_add (n : Nat) (o : List Int) (t : Nat) (h : hasL o (t : Int) = false) : nxtT n o (t + 1) = nxtT n o t ++ [o ++ [(t : Int)]] := by
  rw [nxtT, nxtT, ptsI_succ, List.filter_append]; simp [h]
theorem nxtT_len (n : Nat) (o : List Int) (t : Nat) : (nxtT n o t).length ≤ t := by
  rw [nxtT, List.length_map]
  have := List.length_filter_le (fun x => !hasL o x) (ptsI t)
  simpa [ptsI] using this
def flT (n k m : Nat) : List (List Int) := ((lvl n k).take m).flatMap (nxt n)
theorem flT_zero (n k : Nat) : flT n k 0 = [] := by simp [flT]
theorem flT_all (n k : Nat) : flT n k (lvl n k).length = lvl n (k + 1) := by rw [flT, List.take_length]; rfl
theorem flT_succ (n k m : Nat) (h : m < (lvl n k).length) : flT n k (m + 1) = flT n k m ++ nxt n (lvl n k)[m] := by
  rw [flT, List.take_succ_eq_append_getElem h, List.flatMap_append]; simp [flT]
theorem lvl_len : ∀ n : Nat, n < 5 → ∀ k : Nat, k < 5 → (lvl n k).length ≤ 24 := by decide
theorem flT_len (n k m : Nat) (hn : n < 5) : (flT n k m).length ≤ 4 * m := by
  induction m with
  | zero => simp [flT]
  | succ m ih =>
    by_cases h : m < (lvl n k).length
    · rw [flT_succ n k m h, List.length_append]
      have := nxtT_len n (lvl n k)[m] n
      rw [nxtT_all] at this
      omega
    · have : flT n k (m + 1) = flT n k m := by
        rw [flT, flT, List.take_of_length_le (by omega), List.take_of_length_le (by omega)]
      rw [this]; omega
set_option maxHeartbeats 2000000 in
theorem specOrders (n : Nat) (hn : n ≤ 4) (w : World) : Calls Tryz.prog 77 #[.int .i64 n] w (RetRows w (lvl n n)) := by
  go_enter Tryz.func77, Tryz.ntmps77
  go_wp2_with fail
  go_loopw [3, 4] (fun x i wr => ∃ k : Nat, k ≤ n ∧ i = .int .i64 k ∧ RowsV wr w.heap.size wr.heap.size x (lvl n k) ∧ Below w.heap.size w wr) (fun _ i _ => n - (intOf i).toNat)
  case atStart =>
    have hbn := below_new w (.cells #[] 3)
    refine ⟨0, by omega, rfl, ⟨[w.heap.size], [.slice (some ⟨w.heap.size, 0, none⟩) 0 0], ?_, ?_, ?_, ?_⟩, hbn.alloc hbn.size _⟩
    · exact (own_single (w.alloc (.cells #[] 3)) 27 (.slice (some ⟨w.heap.size, 0, none⟩) 0 0)).cast (by simp) rfl rfl |>.mono' (by simp)
    · exact (Inner.nil _).snoc ((show Own (w.alloc (.cells #[] 3)) w.heap.size _ [] from own_empty w 3).keep (below_new _ _))
    · intro g hg; simp at hg; subst hg; simp; omega
    · simp
  case round =>
    obtain ⟨k, hk, rfl, hR, hbel⟩ := hrel
    have hO := hR.own2 (Nat.le_refl _)
    obtain ⟨g1, o1, c1, hv1, _, _, hc1⟩ := hO.read.form
    subst hv1
    by_cases hlt' : k < n
    · obtain ⟨wo, rfl⟩ : ∃ wo : World, wo = wr := ⟨_, rfl⟩
      have H1 := Lib.hid hc1
      have hL := lvl_len n (by omega) k (by omega)
      have HA := Lib.hid (flT_all n k)
      clear hc1 hR hO
      go_wp2_with fail
      go_loopw [5, 6] (fun y i wr => ∃ m : Nat, m ≤ (lvl n k).length ∧ i = .int .i64 m ∧ RowsV wr wo.heap.size wr.heap.size y (flT n k m) ∧ Below wo.heap.size wo wr) (fun _ i _ => (lvl n k).length - (intOf i).toNat)
      case atStart =>
        obtain ⟨gs, vs, q1, q2, q3, q4⟩ := rowsV_empty wo
        exact ⟨0, by omega, rfl, by rw [flT_zero]; exact ⟨gs, vs, q1, q2, fun g hg => by have := q3 g hg; omega, q4⟩, (Below.refl _ _).alloc (Nat.le_refl _) _⟩
      case round =>
        obtain ⟨m, hm, rfl, hR, hbi⟩ := hrel
        by_cases hlm : m < (lvl n k).length
        · obtain ⟨r, x1, j1⟩ := H1.out m hlm
          have HS := Lib.hid (flT_succ n k m hlm)
          have hfl := flT_len n k m (by omega)
          obtain ⟨o, ho⟩ : ∃ o, (lvl n k)[m] = o := ⟨_, rfl⟩
          have hol : o.length ≤ 4 := by subst ho; have := (ordP_lvl (List.getElem_mem hlm)).2; omega
          rw [ho] at j1 HS
          obtain ⟨gr, or, cr, hr, _, _, hcr⟩ := j1.form
          subst hr
          have HC := Lib.hid hcr
          have hk0 : (0 : Int) ≤ (m : Int) := by omega
          have hk1 : (m : Int) < ((lvl n k).length : Int) := by omega
          obtain ⟨base, hbase⟩ : ∃ base, flT n k m = base := ⟨_, rfl⟩
          rw [hbase] at hR HS hfl
          clear ho hcr hbase
          go_wp2_with fail
          go_loopw [5, 7] (fun y i wr => ∃ t : Nat, t ≤ n ∧ i = .int .i64 t ∧ RowsV wr wo.heap.size wr.heap.size y (base ++ nxtT n o t) ∧ Below wo.heap.size wo wr) (fun _ i _ => n - (intOf i).toNat)
          case atStart => exact ⟨0, by omega, rfl, by rw [nxtT_zero, List.append_nil]; exact hR, hbi⟩
          case round =>
            clear hR hbi
            obtain ⟨t, ht, rfl, hR, hbi⟩ := hrel
            by_cases hlt2 : t < n
            · have y1 := cells_keep hbi x1
              have i1 := j1.keep hbi
              have hnl := nxtT_len n o t
              cases hH : hasL o (t : Int) with
              | true =>
                have HT := Lib.hid (nxtT_skip n o t hH)
                have HH := Lib.hid hH
                clear hH
                go_wp2_with fail
                refine (specHas _ o _ (by omega) _ i1).mono ?_
                rw [HH.out]
                rintro e w2 ⟨rfl, rfl⟩
                go_wp2_with fail
                go_roundw
                case rel => exact ⟨t + 1, by omega, by go_num, by rw [HT.out]; exact hR, hbi⟩
                case measure => simp [intOf]; omega
              | false =>
                have HT := Lib.hid (nxtT_add n o t hH)
                have HH := Lib.hid hH
                clear hH
                obtain ⟨gs, vs, q1, q2, q3, q4⟩ := hR
                have hbn := below_new wr (.cells #[] 3)
                have hbin := hbi.trans (hbn.mono hbi.size)
                have hl1 : g1 < wr.heap.size := World.block_lt_of_cell? wr _ y1
                go_wp2_with fail
                refine (specHas _ o _ (by omega) _ i1).mono ?_
                rw [HH.out]
                rintro e w2 ⟨rfl, rfl⟩
                have HSZ := Lib.hid (show wo.heap.size ≤ wr.heap.size from hbi.size)
                have hlen : (base ++ nxtT n o t).length ≤ 4096 := by rw [List.length_append]; omega
                go_wp2_with (first
                  | (at_builtin; refine wpList_appendV elemInt _ rfl _ _ rfl wr.heap.size (.slice (some ⟨wr.heap.size, 0, none⟩) 0 0) 0 [] rfl (rowV_empty wr _) (ivs o) gr or o.length cr rfl (ivs_length o) (cells_after HC.out hbin) (ivs_one o) (by omega) hbn.size ?_; intro gA capA wA hrowA hgrowA hbA)
                  | (at_builtin; refine wpList_pushV elemInt _ rfl _ _ rfl wr.heap.size (.slice (some ⟨gA, 0, none⟩) o.length capA) o.length (ivs o) rfl ((hrowA.cast (by rw [Nat.zero_add]) (Nat.zero_add _) (List.nil_append _)).alloc _) (.int .i64 t) wA.heap.size rfl (cell_new1 _ _ _) rfl (by omega) (Nat.le_trans (Nat.le_trans hbn.size hbA.size) (below_new wA _).size) ?_; intro gB capB wB hrowB hgrowB hbB)
                  | (at_builtin; refine wpList_pushV elemRow _ rfl _ _ rfl wo.heap.size u5 (base ++ nxtT n o t).length vs rfl ((q1.keep (((hbn.trans hbA).alloc (Nat.le_trans hbn.size hbA.size) _).trans hbB)).alloc _) (.slice (some ⟨gB, 0, none⟩) (o.length + 1) capB) wB.heap.size rfl (cell_new1 _ _ _) rfl (by omega) (Nat.le_trans HSZ.out (Nat.le_trans (((hbn.trans hbA).alloc (Nat.le_trans hbn.size hbA.size) _).trans hbB).size (below_new wB _).size)) ?_; intro gC capC wC hrowC hgrowC hbC))
                have hT1 := (hbn.trans hbA).alloc (Nat.le_trans hbn.size hbA.size) (.cells #[.int .i64 (t : Int)] 3)
                have hT := hT1.trans hbB
                have hrB2 : RowV wB wr.heap.size 3 (.slice (some ⟨gB, 0, none⟩) (o.length + 1) capB) (o.length + 1) (ivs (o ++ [(t : Int)])) := hrowB.cast rfl rfl (by rw [ivs_append]; rfl)
                obtain ⟨gx, hgx, hown⟩ := hrB2.own
                have hs0 := hbi.size
                have HPP := Lib.hid (rowsV_push (w := wB) (w1 := wC) (B := wo.heap.size) (hi := wr.heap.size) (q1.keep hT) (q2.keep hT) q3 q4 hown hgx (by omega) hgrowC hrowC)
                have hbF := ((below_trans hbi hT).alloc (below_trans hbi hT).size (.cells #[.slice (some ⟨gB, 0, none⟩) (o.length + 1) capB] 27)).trans hbC
                clear hrowA hrowB hrB2 hown hrowC hgrowA hgrowB hgrowC q1 q2 q3 q4 hbA hbB hbC hT hT1 hbn hbin
                go_roundw
                case rel => exact ⟨t + 1, by omega, by go_num, by have hq := HPP.out; rw [List.length_append] at hq; rw [HT.out, ← List.append_assoc]; exact hq, hbF⟩
                case measure => simp [intOf]; omega
            · obtain rfl : t = n := by omega
              rw [nxtT_all] at hR
              go_wp2_with fail
              go_roundw
              case rel => exact ⟨m + 1, by omega, by go_num, by rw [HS.out]; exact hR, hbi⟩
              case measure => simp [intOf]; omega
        · obtain rfl : m = (lvl n k).length := by omega
          rw [HA.out] at hR
          obtain ⟨gs, vs, q1, q2, q3, q4⟩ := hR
          have hs0 := hbel.size
          go_wp2_with fail
          go_roundw
          case rel => exact ⟨k + 1, by omega, by go_num, ⟨gs, vs, q1.mono' hs0, q2, fun g hg => by have := q3 g hg; omega, q4⟩, below_trans hbel hbi⟩
          case measure => simp [intOf]; omega
    · obtain rfl : k = n := by omega
      clear hR hc1
      go_wp2_with fail
      go_ret
      exact ⟨_, rfl, hO, hbel⟩
end Go.Proofs.YtaikjkcbgniplaaGreatDoor
