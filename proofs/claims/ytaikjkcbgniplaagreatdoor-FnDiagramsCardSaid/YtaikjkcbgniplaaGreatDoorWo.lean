/- Minors: a matrix without its first row and one column, and the determinant that comes of it: what l4Without, l4Det of the reference answer. -/
import Derived.Test.YtaikjkcbgniplaaGreatDoorRw
namespace Go.Proofs.YtaikjkcbgniplaaGreatDoor
open Go.RowKit
set_option linter.unusedVariables false

/-! ### Sums that go round -/
theorem wrap64_off (a q : Int) : wrap64 (a + q * 18446744073709551616) = wrap64 a := by unfold wrap64; omega
theorem wrap64_is (a : Int) : ∃ q : Int, wrap64 a = a + q * 18446744073709551616 := ⟨-((a + 9223372036854775808) / 18446744073709551616), by unfold wrap64; omega⟩
theorem wrap64_idem (a : Int) : wrap64 (wrap64 a) = wrap64 a := by unfold wrap64; omega
theorem wrap64_addr (a b : Int) : wrap64 (a + wrap64 b) = wrap64 (a + b) := by unfold wrap64; omega
theorem wrap64_neg (a : Int) : wrap64 (- wrap64 a) = wrap64 (- a) := by unfold wrap64; omega
theorem wrap64_mull (a b : Int) : wrap64 (wrap64 a * b) = wrap64 (a * b) := by
  obtain ⟨q, hq⟩ := wrap64_is a
  rw [hq, Int.add_mul, Int.mul_assoc, Int.mul_comm 18446744073709551616 b, ← Int.mul_assoc]
  exact wrap64_off _ _

/-! ### Minors -/
def cutT (r : List Int) (k m : Nat) : List Int := (r.take m).eraseIdx k
theorem cutT_same (r : List Int) (k : Nat) (h : k < r.length) : cutT r k (k + 1) = cutT r k k := by
  rw [cutT, cutT, List.take_succ_eq_append_getElem h, List.eraseIdx_append_of_length_le (by simp; omega), List.eraseIdx_of_length_le (l := r.take k) (by simp; omega)]
  simp [show k - min k r.length = 0 by omega]
theorem cutT_next (r : List Int) (k m : Nat) (h : m < r.length) (hk : k ≠ m) : cutT r k (m + 1) = cutT r k m ++ [r[m]] := by
  rw [cutT, cutT, List.take_succ_eq_append_getElem h]
  by_cases c : k < m
  · rw [List.eraseIdx_append_of_lt_length (by simp; omega)]
  · rw [List.eraseIdx_of_length_le (l := r.take m) (by simp; omega), List.eraseIdx_of_length_le (by simp; omega)]
theorem cutT_zero (r : List Int) (k : Nat) : cutT r k 0 = [] := by simp [cutT]
theorem cutT_end (r : List Int) (k : Nat) : cutT r k r.length = r.eraseIdx k := by rw [cutT, List.take_length]
theorem cutT_len (r : List Int) (k m : Nat) : (cutT r k m).length ≤ m := by
  have := List.length_eraseIdx_le (l := r.take m) (i := k)
  unfold cutT
  simp at this ⊢
  omega
def woL (c : List (List Int)) (k : Nat) : List (List Int) := (c.drop 1).map (fun r => r.eraseIdx k)
theorem woL_length (c : List (List Int)) (k : Nat) : (woL c k).length = c.length - 1 := by simp [woL]
theorem woL_snoc (c : List (List Int)) (k p : Nat) (h : p + 1 < c.length) : (woL c k).take (p + 1) = (woL c k).take p ++ [c[p + 1].eraseIdx k] := by
  rw [List.take_succ_eq_append_getElem (by rw [woL_length]; omega)]
  simp [woL]
theorem woL_end (c : List (List Int)) (k p : Nat) (h : p + 1 = c.length) : (woL c k).take p = woL c k := List.take_of_length_le (by rw [woL_length]; omega)
theorem woL_sq (c : List (List Int)) (k : Nat) (h : Sq c) (hk : k < c.length) : Sq (woL c k) := by
  intro i hi
  rw [woL_length] at hi ⊢
  simp only [woL, List.getElem_map, List.getElem_drop]
  rw [List.length_eraseIdx_of_lt (by rw [h _ (by omega)]; exact hk), h _ (by omega)]
/-- One term of the sum, with the minor's determinant d. -/
def detM (x d : Int) (k : Nat) : Int := if k % 2 = 1 then wrap64 (- wrap64 (x * d)) else wrap64 (x * d)
def detT (D : Nat → Int) (X : Nat → Int) : Nat → Int
  | 0 => 0
  | k + 1 => wrap64 (detT D X k + detM (X k) (D k) k)
def det : Nat → List (List Int) → Int
  | 0, _ => 1
  | n + 1, c => detT (fun k => det n (woL c k)) (fun k => ent c 0 k) (n + 1)
theorem detT_wrap (D X : Nat → Int) (k : Nat) : wrap64 (detT D X k) = detT D X k := by
  cases k with
  | zero => simp [detT, wrap64]
  | succ k => exact wrap64_idem _
set_option maxHeartbeats 2000000 in
theorem specWithout (v1 : Value) (c : List (List Int)) (k : Nat) (hq : Sq c) (hn : 1 ≤ c.length) (hk : k < c.length) (hc : c.length ≤ 274877906944) (w : World) (h1 : II w v1 c) :
    Calls Tryz.prog 121 #[v1, .int .i64 k] w (RetRows w (woL c k)) := by
  obtain ⟨g1, o1, c1, hv1, _, _, hc1⟩ := h1.form
  have H1 := Lib.hid hc1
  have HQ := Lib.hid hq
  clear hc1 hq h1
  subst hv1
  go_enter Tryz.func121, Tryz.ntmps121
  go_wp2_with fail
  go_loopw [5, 6] (fun x i wr => ∃ p : Nat, p + 1 ≤ c.length ∧ i = .int .i64 ((p + 1 : Nat) : Int) ∧ RowsV wr w.heap.size wr.heap.size x ((woL c k).take p) ∧ Below w.heap.size w wr) (fun _ i _ => c.length - (intOf i).toNat)
  case atStart =>
    obtain ⟨gs, vs, q1, q2, q3, q4⟩ := rowsV_empty w
    exact ⟨0, by omega, rfl, ⟨gs, vs, q1, q2, fun g hg => by have := q3 g hg; omega, q4⟩, (Below.refl _ _).alloc (Nat.le_refl _) _⟩
  case round =>
    obtain ⟨p, hp, rfl, hR, hbel⟩ := hrel
    obtain ⟨P, hP⟩ : ∃ P : Nat, p + 1 = P := ⟨_, rfl⟩
    rw [hP]
    have HP0 := Lib.hid hP
    have hp1 : P ≤ c.length := by omega
    by_cases hlt' : P < c.length
    · skip
      have hKK : Hid (((woL c k).take p).length = p) := Lib.hid (by rw [List.length_take, woL_length]; omega)
      obtain ⟨r, y1, i1⟩ := H1.out P hlt'
      have hrl : Hid (c[P].length = c.length) := Lib.hid (HQ.out P hlt')
      obtain ⟨rr, hrr⟩ : ∃ rr, c[P] = rr := ⟨_, rfl⟩
      have HSS : Hid ((woL c k).take (p + 1) = (woL c k).take p ++ [rr.eraseIdx k]) := Lib.hid (by subst hP; rw [woL_snoc c k p hlt', hrr])
      rw [hrr] at i1 hrl
      obtain ⟨gi, oi, ci, rfl, _, _, q1⟩ := i1.form
      have Q1 := Lib.hid q1
      clear i1 q1 hrr hP
      obtain ⟨wo, rfl⟩ : ∃ wo : World, wo = wr := ⟨_, rfl⟩
      go_wp2_with fail
      go_loopw [7, 8] (fun y i wr => ∃ m : Nat, m ≤ c.length ∧ i = .int .i64 m ∧ RowV wr wo.heap.size 3 y (cutT rr k m).length (ivs (cutT rr k m)) ∧ Below wo.heap.size wo wr) (fun _ i _ => c.length - (intOf i).toNat)
      case atStart => exact ⟨0, by omega, rfl, by rw [cutT_zero]; exact rowV_empty wo _, (Below.refl _ _).alloc (Nat.le_refl _) _⟩
      case round =>
        obtain ⟨m, hm, rfl, hrow, hbi⟩ := hrel
        by_cases hlm : m < c.length
        · have hlr : m < rr.length := by have := hrl.out; omega
          by_cases hmk : m = k
          · have d1 : ((m : Int) != (k : Int)) = false := by rw [bne_eq_false_iff_eq]; omega
            have HT := Lib.hid (show cutT rr k (m + 1) = cutT rr k m by subst hmk; exact cutT_same rr m hlr)
            clear hmk
            go_wp2_with fail
            go_roundw
            case rel => exact ⟨m + 1, by omega, by go_num, hrow.cast rfl (by rw [HT.out]) (by rw [HT.out]), hbi⟩
            case measure => simp [intOf]; omega
          · have d1 : ((m : Int) != (k : Int)) = true := by rw [bne_iff_ne]; omega
            have y2 := Q1.out m hlr
            obtain ⟨x, hx⟩ : ∃ x, rr[m] = x := ⟨_, rfl⟩
            rw [hx] at y2
            have HT := Lib.hid (show cutT rr k (m + 1) = cutT rr k m ++ [x] by rw [← hx]; exact cutT_next rr k m hlr (fun e => hmk e.symm))
            have hbel2 := below_trans hbel hbi
            have x1 := cells_keep hbel2 y1
            have x2 := cells_keep hbel2 y2
            have hlen := cutT_len rr k m
            clear hmk hx y2 hbel2
            have hk0 : (0 : Int) ≤ (m : Int) := by omega
            have hk1 : (m : Int) < (rr.length : Int) := by omega
            have hk2 : (0 : Int) ≤ (P : Int) := by omega
            have hk3 : (P : Int) < (c.length : Int) := by omega
            go_wp2_with (at_builtin; refine wpList_pushV elemInt _ rfl _ _ rfl wo.heap.size u7 (cutT rr k m).length _ rfl (hrow.alloc _) (.int .i64 x) wr.heap.size rfl (cell_new1 _ _ _) rfl (by omega) (by have := hbi.size; simp; omega) ?_; intro gg cap w2 hrow1 hgrow hb2)
            go_roundw
            case rel => exact ⟨m + 1, by omega, by go_num, hrow1.cast rfl (by rw [HT.out, List.length_append]; rfl) (by rw [HT.out, ivs_append]; rfl), (hbi.alloc hbi.size _).trans hb2⟩
            case measure => simp [intOf]; omega
        · have hme : m = rr.length := by have := hrl.out; omega
          have hend : cutT rr k m = rr.eraseIdx k := by rw [hme]; exact cutT_end rr k
          rw [hend] at hrow
          clear hend hme
          obtain ⟨gx, hgx, hown⟩ := hrow.own
          obtain ⟨cy, hy, _, _, _, _⟩ := hown.form
          rw [ivs_length] at hy
          subst hy
          have hR2 := hR.keep hbi
          obtain ⟨gs, vs, q1, q2, q3, q4⟩ := hR2
          have hbel2 := below_trans hbel hbi
          have hs0 := hbel.size
          have hs1 := hbi.size
          have q1' : RowV wr w.heap.size 27 u5 p vs := q1.cast rfl hKK.out rfl
          have HPP := Lib.hid (fun (w2 : World) (x' : Value) hgrow (hrow : RowV w2 w.heap.size 27 x' (p + 1) (vs ++ [_])) => rowsV_push (w1 := w2) (x' := x') q1 q2 q3 q4 hown (by omega) (by omega) hgrow (hrow.cast rfl (by rw [hKK.out]) rfl))
          clear q1 q2 q3 q4 hrow
          go_wp2_with (at_builtin; refine wpList_pushV elemRow _ rfl _ _ rfl w.heap.size u5 p _ rfl (q1'.alloc _) (.slice (some ⟨gx, 0, none⟩) (rr.eraseIdx k).length cy) wr.heap.size rfl (cell_new1 _ _ _) rfl (by omega) (by have := hbel2.size; simp; omega) ?_; intro gg cap w2 hrow1 hgrow hb2)
          go_roundw
          case rel => exact ⟨p + 1, by have := HP0.out; omega, by have := HP0.out; go_num, by rw [HSS.out]; exact HPP.out _ _ hgrow hrow1, (hbel2.alloc hbel2.size _).trans hb2⟩
          case measure => simp [intOf]; omega
    · have HF := Lib.hid (woL_end c k p (by omega))
      clear hP
      rw [HF.out] at hR
      have hown := hR.own2 (Nat.le_refl _)
      go_wp2_with fail
      go_ret
      exact ⟨_, rfl, hown, hbel⟩
end Go.Proofs.YtaikjkcbgniplaaGreatDoor
