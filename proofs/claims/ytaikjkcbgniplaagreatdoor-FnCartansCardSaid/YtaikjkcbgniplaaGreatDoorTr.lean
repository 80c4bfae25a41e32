/- TransposeCartan of the program and of the reference: what they answer, for at most 2^40 numbers. -/
import Derived.Test.YtaikjkcbgniplaaGreatDoorRw
namespace Go.Proofs.YtaikjkcbgniplaaGreatDoor
open Go.RowKit
set_option linter.unusedVariables false

def trL (c : List (List Int)) : List (List Int) := (List.range (rhoN c)).map (fun k : Nat => colL c (k : Int))
theorem trL_length (c : List (List Int)) : (trL c).length = rhoN c := by simp [trL]
theorem trL_snoc (c : List (List Int)) (k : Nat) (h : k < rhoN c) : (trL c).take (k + 1) = (trL c).take k ++ [colL c (k : Int)] := by
  rw [List.take_succ_eq_append_getElem (by rw [trL_length]; exact h)]
  simp [trL]
theorem trL_end (c : List (List Int)) (k : Nat) (h : k = rhoN c) : (trL c).take k = trL c := List.take_of_length_le (by rw [trL_length, h]; exact Nat.le_refl _)
theorem trL_ints (c : List (List Int)) : total (trL c) ≤ 32 := by
  have h4 : ∀ n, n ≤ 4 → ∀ f : Nat → List Int, (∀ k, (f k).length ≤ 4) → ints ((List.range n).map f) ≤ n * 4 := by
    intro n _ f hf
    induction n with
    | zero => simp [ints]
    | succ n ih =>
      rw [List.range_succ, List.map_append, ints_append, List.map_cons, List.map_nil, ints_cons]
      have := hf n
      have := ih (by omega)
      simp only [ints, List.map_nil, List.sum_nil]
      unfold ints at this
      omega
  have hr : rhoN c ≤ 4 := by
    unfold rhoN
    split
    · next h => exact ((isC_iff c).1 h).2.1
    · omega
  have hc : ∀ k : Nat, (colL c (k : Int)).length ≤ 4 := by
    intro k
    rw [colL_length]
    unfold colN
    split
    · next h => rw [Bool.and_eq_true] at h; exact ((isC_iff c).1 h.1).2.1
    · omega
  have := h4 (rhoN c) hr (fun k => colL c (k : Int)) hc
  have hl := trL_length c
  unfold total
  have e : ints (trL c) = ints ((List.range (rhoN c)).map (fun k : Nat => colL c (k : Int))) := rfl
  rw [e]
  omega
set_option maxHeartbeats 2000000 in
theorem specTransposeCartan (v1 : Value) (c : List (List Int)) (hc : c.length ≤ 1099511627776) (w : World) (h1 : II w v1 c) :
    Calls Tryz.prog 46 #[v1] w (RetRows w (trL c)) := by
  obtain ⟨g1, o1, c1, hv1, _, _, hc1⟩ := h1.form
  have H1 := Lib.hid hc1
  clear hc1
  subst hv1
  go_enter Tryz.func46, Tryz.ntmps46
  go_wp2_with fail
  go_loopw [3, 4] (fun x i wr => ∃ k : Nat, k ≤ rhoN c ∧ i = .int .i64 k ∧ RowsV wr w.heap.size wr.heap.size x ((trL c).take k) ∧ Below w.heap.size w wr) (fun _ i _ => c.length - (intOf i).toNat)
  case atStart =>
    obtain ⟨gs, vs, q1, q2, q3, q4⟩ := rowsV_empty w
    exact ⟨0, by omega, rfl, ⟨gs, vs, q1, q2, fun g hg => by have := q3 g hg; omega, q4⟩, (Below.refl _ _).alloc (Nat.le_refl _) _⟩
  case round =>
    obtain ⟨k, hk, rfl, hR, hbel⟩ := hrel
    have hle := rhoN_le c
    have k1 := h1.keep hbel
    by_cases hlt' : k < c.length
    · cases hC : isC c with
      | true =>
        have hN := rhoN_t hC
        have HC := Lib.hid hC
        have hkr : k < rhoN c := by omega
        have HN := Lib.hid hN
        clear hC hN
        go_wp2_with fail
        refine (specIsCartan _ c hc _ k1).mono ?_
        rw [HC.out]
        rintro e w1 ⟨rfl, hb1⟩
        replace hR := hR.keep hb1
        replace hbel := below_trans hbel hb1
        have hs1 := hb1.size
        have hp : isPt c.length (k : Int) = true := (isPt_iff _ _).2 ⟨by omega, by omega⟩
        have HNc := Lib.hid (colN_t HC.out hp)
        clear hp
        go_wp2_with fail
        go_loopw [5, 6] (fun y i wr => ∃ m : Nat, m ≤ c.length ∧ i = .int .i64 m ∧ RowV wr w1.heap.size 3 y m (ivs ((colL c k).take m)) ∧ Below w1.heap.size w1 wr) (fun _ i _ => c.length - (intOf i).toNat)
        case atStart => exact ⟨0, by omega, rfl, rowV_empty w1 _, (Below.refl _ _).alloc (Nat.le_refl _) _⟩
        case round =>
          obtain ⟨m, hm, rfl, hrow, hbi⟩ := hrel
          by_cases hlm : m < c.length
          · have hsq := Lib.hid (isC_sq HC.out m hlm)
            obtain ⟨gi, oi, ci, x, y1, y2, hx⟩ := II.at H1.out hlm (show k < c[m].length by rw [hsq.out]; exact hlt')
            have HX := Lib.hid (col_snoc c (k : Int) m x hx (by have := HNc.out; omega))
            have hbel2 := below_trans hbel hbi
            have x1 := cells_keep hbel2 y1
            have x2 := cells_keep hbel2 y2
            clear hx y1 y2 hbel2
            have hk0 : (0 : Int) ≤ (m : Int) := by omega
            have hk1 : (m : Int) < (c.length : Int) := by omega
            have hk2 : (0 : Int) ≤ (k : Int) := by omega
            have hk3 : (k : Int) < (c[m].length : Int) := by rw [hsq.out]; omega
            go_wp2_with (at_builtin; refine wpList_pushV elemInt _ rfl _ _ rfl w1.heap.size u5 m _ rfl (hrow.alloc _) (.int .i64 x) wr.heap.size rfl (cell_new1 _ _ _) rfl (by omega) (by have := hbi.size; simp; omega) ?_; intro gg cap w2 hrow1 hgrow hb2)
            go_roundw
            case rel => exact ⟨m + 1, by omega, by go_num, hrow1.cast rfl rfl HX.out.symm, (hbi.alloc hbi.size _).trans hb2⟩
            case measure => simp [intOf]; omega
          · obtain rfl : m = c.length := by omega
            have hend : (colL c k).take c.length = colL c k := by have := HNc.out; rw [← this]; exact col_end c k
            rw [hend] at hrow
            clear hend
            obtain ⟨g1, hg1, hown⟩ := hrow.own
            obtain ⟨cy, hy, _, _, _, _⟩ := hown.form
            rw [ivs_length] at hy
            subst hy
            have hR2 := hR.keep hbi
            obtain ⟨gs, vs, q1, q2, q3, q4⟩ := hR2
            have hbel2 := below_trans hbel hbi
            have hs0 := hbel.size
            have hs1 := hbi.size
            have HK := Lib.hid (show ((trL c).take k).length = k by rw [List.length_take, trL_length]; omega)
            have HS := Lib.hid (trL_snoc c k hkr)
            have q1' : RowV wr w.heap.size 27 u3 k vs := q1.cast rfl HK.out rfl
            have HP := Lib.hid (fun (w2 : World) (x' : Value) hgrow (hrow : RowV w2 w.heap.size 27 x' (k + 1) (vs ++ [_])) => rowsV_push (w1 := w2) (x' := x') q1 q2 q3 q4 hown (by omega) (by omega) hgrow (hrow.cast rfl (by rw [HK.out]) rfl))
            clear q1 q2 q3 q4 hrow
            go_wp2_with (at_builtin; refine wpList_pushV elemRow _ rfl _ _ rfl w.heap.size u3 k _ rfl (q1'.alloc _) (.slice (some ⟨g1, 0, none⟩) (colL c k).length cy) wr.heap.size rfl (cell_new1 _ _ _) rfl (by omega) (by have := hbel2.size; simp; omega) ?_; intro gg cap w2 hrow1 hgrow hb2)
            go_roundw
            case rel => exact ⟨k + 1, by omega, by go_num, by rw [HS.out]; exact HP.out _ _ hgrow hrow1, (hbel2.alloc hbel2.size _).trans hb2⟩
            case measure => simp [intOf]; omega
      | false =>
        have hN := rhoN_f hC
        have hke : k = rhoN c := by omega
        have HC := Lib.hid hC
        clear hC hN
        go_wp2_with fail
        refine (specIsCartan _ c hc _ k1).mono ?_
        rw [HC.out]
        rintro e w1 ⟨rfl, hb1⟩
        replace hR := hR.keep hb1
        replace hbel := below_trans hbel hb1
        have hs1 := hb1.size
        have HF := Lib.hid (trL_end c k hke)
        rw [HF.out] at hR
        have hown := hR.own2 hs1
        clear hke
        go_wp2_with fail
        go_ret
        exact ⟨_, rfl, hown, hbel⟩
    · have hke : k = rhoN c := by omega
      have HF := Lib.hid (trL_end c k hke)
      rw [HF.out] at hR
      have hown := hR.own2 (Nat.le_refl _)
      clear hke
      go_wp2_with fail
      go_ret
      exact ⟨_, rfl, hown, hbel⟩
set_option maxHeartbeats 2000000 in
theorem implTransposeCartan (v1 : Value) (c : List (List Int)) (hc : c.length ≤ 1099511627776) (w : World) (h1 : II w v1 c) :
    Calls Tryz.prog 57 #[v1] w (RetRows w (trL c)) := by
  obtain ⟨g1, o1, c1, hv1, _, _, hc1⟩ := h1.form
  have H1 := Lib.hid hc1
  clear hc1
  subst hv1
  cases hC : isC c with
  | false =>
    have HF := Lib.hid (show trL c = [] by rw [trL, rhoN_f hC]; rfl)
    have HC := Lib.hid hC
    clear hC
    go_enter Tryz.func57, Tryz.ntmps57
    go_wp2_with fail
    refine (implIsCartan _ c hc _ h1).mono ?_
    rw [HC.out]
    rintro e w1 ⟨rfl, hb1⟩
    have k1 := h1.keep hb1
    have hs1 := hb1.size
    go_wp2_with fail
    go_ret
    have hO := (rowsV_empty w1).own2 (by simp)
    rw [HF.out]
    obtain ⟨G, gs, vs, p1, p2, p3, p4⟩ := hO
    exact ⟨_, rfl, ⟨G, gs, vs, by omega, p2, fun g hg => by have := p3 g hg; omega, p4⟩, hb1.alloc hs1 _⟩
  | true =>
    have HN := Lib.hid (rhoN_t hC)
    have HC := Lib.hid hC
    clear hC
    go_enter Tryz.func57, Tryz.ntmps57
    go_wp2_with fail
    refine (implIsCartan _ c hc _ h1).mono ?_
    rw [HC.out]
    rintro e w1 ⟨rfl, hb1⟩
    have k1 := h1.keep hb1
    have hs1 := hb1.size
    have hb0 : Below w.heap.size w (w1.alloc (.cells #[] 27)) := hb1.alloc hs1 _
    go_wp2_with fail
    go_loopw [3, 14] (fun x i wr => ∃ k : Nat, k ≤ c.length ∧ i = .int .i64 k ∧ RowsV wr w.heap.size wr.heap.size x ((trL c).take k) ∧ Below w.heap.size w wr) (fun _ i _ => c.length - (intOf i).toNat)
    case atStart =>
      obtain ⟨gs, vs, q1, q2, q3, q4⟩ := rowsV_empty w1
      obtain ⟨G, hG, hO⟩ := q1.own
      exact ⟨0, by omega, rfl, ⟨gs, vs, (hO.rowV (B := w.heap.size) (by omega)).cast rfl (by rw [q2.1]; rfl) rfl, q2, fun g hg => by have := q3 g hg; omega, q4⟩, hb0⟩
    case round =>
      obtain ⟨k, hk, rfl, hR, hbel⟩ := hrel
      by_cases hlt' : k < c.length
      · have hkr : k < rhoN c := by rw [HN.out]; exact hlt'
        obtain ⟨wo, rfl⟩ : ∃ wo : World, wo = wr := ⟨_, rfl⟩
        have hp : isPt c.length (k : Int) = true := (isPt_iff _ _).2 ⟨by omega, by omega⟩
        have HNc := Lib.hid (colN_t HC.out hp)
        clear hp
        go_wp2_with fail
        go_loopw [5, 20] (fun y i wr => ∃ m : Nat, m ≤ c.length ∧ i = .int .i64 m ∧ RowV wr wo.heap.size 3 y m (ivs ((colL c k).take m)) ∧ Below wo.heap.size wo wr) (fun _ i _ => c.length - (intOf i).toNat)
        case atStart => exact ⟨0, by omega, rfl, rowV_empty wo _, (Below.refl _ _).alloc (Nat.le_refl _) _⟩
        case round =>
          obtain ⟨m, hm, rfl, hrow, hbi⟩ := hrel
          by_cases hlm : m < c.length
          · have hsq := Lib.hid (isC_sq HC.out m hlm)
            obtain ⟨gi, oi, ci, x, y1, y2, hx⟩ := II.at H1.out hlm (show k < c[m].length by rw [hsq.out]; exact hlt')
            have HX := Lib.hid (col_snoc c (k : Int) m x hx (by have := HNc.out; omega))
            have hbel2 := below_trans hbel hbi
            have x1 := cells_keep hbel2 y1
            have x2 := cells_keep hbel2 y2
            clear hx y1 y2 hbel2
            have hk0 : (0 : Int) ≤ (m : Int) := by omega
            have hk1 : (m : Int) < (c.length : Int) := by omega
            have hk2 : (0 : Int) ≤ (k : Int) := by omega
            have hk3 : (k : Int) < (c[m].length : Int) := by rw [hsq.out]; omega
            go_wp2_with (at_builtin; refine wpList_pushV elemInt _ rfl _ _ rfl wo.heap.size u5 m _ rfl (hrow.alloc _) (.int .i64 x) wr.heap.size rfl (cell_new1 _ _ _) rfl (by omega) (by have := hbi.size; simp; omega) ?_; intro gg cap w2 hrow1 hgrow hb2)
            go_roundw
            case rel => exact ⟨m + 1, by omega, by go_num, hrow1.cast rfl rfl HX.out.symm, (hbi.alloc hbi.size _).trans hb2⟩
            case measure => simp [intOf]; omega
          · obtain rfl : m = c.length := by omega
            have hend : (colL c k).take c.length = colL c k := by have := HNc.out; rw [← this]; exact col_end c k
            rw [hend] at hrow
            clear hend
            obtain ⟨g1, hg1, hown⟩ := hrow.own
            obtain ⟨cy, hy, _, _, _, _⟩ := hown.form
            rw [ivs_length] at hy
            subst hy
            have hR2 := hR.keep hbi
            obtain ⟨gs, vs, q1, q2, q3, q4⟩ := hR2
            have hbel2 := below_trans hbel hbi
            have hs0 := hbel.size
            have hs1 := hbi.size
            have HK := Lib.hid (show ((trL c).take k).length = k by rw [List.length_take, trL_length]; omega)
            have HS := Lib.hid (trL_snoc c k hkr)
            have q1' : RowV wr w.heap.size 27 u3 k vs := q1.cast rfl HK.out rfl
            have HP := Lib.hid (fun (w2 : World) (x' : Value) hgrow (hrow : RowV w2 w.heap.size 27 x' (k + 1) (vs ++ [_])) => rowsV_push (w1 := w2) (x' := x') q1 q2 q3 q4 hown (by omega) (by omega) hgrow (hrow.cast rfl (by rw [HK.out]) rfl))
            clear q1 q2 q3 q4 hrow
            go_wp2_with (at_builtin; refine wpList_pushV elemRow _ rfl _ _ rfl w.heap.size u3 k _ rfl (q1'.alloc _) (.slice (some ⟨g1, 0, none⟩) (colL c k).length cy) wr.heap.size rfl (cell_new1 _ _ _) rfl (by omega) (by have := hbel2.size; simp; omega) ?_; intro gg cap w2 hrow1 hgrow hb2)
            go_roundw
            case rel => exact ⟨k + 1, by omega, by go_num, by rw [HS.out]; exact HP.out _ _ hgrow hrow1, (hbel2.alloc hbel2.size _).trans hb2⟩
            case measure => simp [intOf]; omega
      · have hke : k = rhoN c := by rw [HN.out]; omega
        have HF := Lib.hid (trL_end c k hke)
        rw [HF.out] at hR
        have hown := hR.own2 (Nat.le_refl _)
        clear hke
        go_wp2_with fail
        go_ret
        exact ⟨_, rfl, hown, hbel⟩
end Go.Proofs.YtaikjkcbgniplaaGreatDoor
