/- RelabelCartan of the reference: what it answers, for at most 2^38 numbers. -/
import Derived.Test.YtaikjkcbgniplaaGreatDoorSub
import Derived.Test.YtaikjkcbgniplaaGreatDoorHas
namespace Go.Proofs.YtaikjkcbgniplaaGreatDoor
open Go.RowKit
set_option linter.unusedVariables false

def okR (n : Nat) (u : List Int) (j : Nat) : Bool := isPt n (u.getD j 0) && !hasL (u.take j) (u.getD j 0)
def ordB (n : Nat) (u : List Int) : Bool := (List.range u.length).all (okR n u)
theorem ordB_iff (n : Nat) (u : List Int) : ordB n u = true ↔ ∀ j, j < u.length → okR n u j = true := by
  rw [ordB, List.all_eq_true]; simp only [List.mem_range]
theorem ordB_no {n : Nat} {u : List Int} (j : Nat) (hj : j < u.length) (h : okR n u j = false) : ordB n u = false := by
  cases hp : ordB n u with
  | false => rfl
  | true => rw [(ordB_iff n u).1 hp j hj] at h; cases h
theorem okR_get {n : Nat} {u : List Int} {k : Nat} {x : Int} (h : k < u.length) (hx : u[k] = x) : okR n u k = (isPt n x && !hasL (u.take k) x) := by
  rw [okR, getD_get u k h, hx]
theorem ordB_pt {n : Nat} {u : List Int} (h : ordB n u = true) (j : Nat) (hj : j < u.length) : ∃ s : Nat, u[j] = (s : Int) ∧ s < n := by
  have h1 := (ordB_iff n u).1 h j hj
  rw [okR, Bool.and_eq_true, getD_get u j hj] at h1
  exact pt_nat h1.1
theorem ordB_ordP (n : Nat) (u : List Int) : ordB n u = true ↔ OrdP n u := by
  rw [ordB_iff]
  constructor
  · intro h
    refine ⟨fun x hx => ?_, ?_⟩
    · obtain ⟨j, hj, rfl⟩ := List.mem_iff_getElem.1 hx
      exact ordB_pt ((ordB_iff n u).2 h) j hj
    · rw [List.nodup_iff_pairwise_ne, List.pairwise_iff_getElem]
      intro i j hi hj hij e
      have h1 := h j hj
      rw [okR_get hj rfl, Bool.and_eq_true] at h1
      have h2 : hasL (u.take j) u[j] = true := has_at i (by rw [List.length_take]; omega) (by rw [List.getElem_take]; exact e)
      rw [h2] at h1
      simp at h1
  · intro h j hj
    rw [okR_get hj rfl, Bool.and_eq_true]
    refine ⟨?_, ?_⟩
    · obtain ⟨s, hs, hn⟩ := h.1 u[j] (List.getElem_mem hj)
      rw [hs, isPt_iff]; omega
    · have h2 : hasL (u.take j) u[j] = false := has_not (fun i hi e => by
        rw [List.length_take] at hi
        rw [List.getElem_take] at e
        have h3 := h.2
        rw [List.nodup_iff_pairwise_ne, List.pairwise_iff_getElem] at h3
        exact h3 i j (by omega) hj (by omega) e)
      rw [h2]; rfl
def relOk (c : List (List Int)) (u : List Int) : Bool := isC c && decide (u.length = c.length) && ordB c.length u
def relL (c : List (List Int)) (u : List Int) : List (List Int) := if relOk c u then subS c u else []
theorem relOk_t {c : List (List Int)} {u : List Int} (h1 : isC c = true) (h2 : u.length = c.length) (h3 : ordB c.length u = true) : relOk c u = true := by simp [relOk, h1, h2, h3]
theorem relOk_f {c : List (List Int)} {u : List Int} (h : isC c = false) : relOk c u = false := by simp [relOk, h]
theorem relOk_g {c : List (List Int)} {u : List Int} (h : u.length ≠ c.length) : relOk c u = false := by simp [relOk, h]
theorem relOk_h {c : List (List Int)} {u : List Int} (h : ordB c.length u = false) : relOk c u = false := by simp [relOk, h]
theorem relL_t {c : List (List Int)} {u : List Int} (h : relOk c u = true) : relL c u = subS c u := by simp [relL, h]
theorem relL_f {c : List (List Int)} {u : List Int} (h : relOk c u = false) : relL c u = [] := by simp [relL, h]
theorem subS_ints (c : List (List Int)) (u : List Int) : total (subS c u) = u.length + u.length * u.length := by
  have hi : ∀ l : List Int, ints (l.map (subR c u)) = l.length * u.length := by
    intro l
    induction l with
    | nil => simp [ints]
    | cons a l ih => rw [List.map_cons, ints_cons, ih, subR_length, List.length_cons, Nat.succ_mul]; omega
  have h5 : ints (subS c u) = u.length * u.length := hi u
  unfold total
  rw [subS_length, h5]
theorem rel_total (c : List (List Int)) (u : List Int) : total (relL c u) ≤ 32 := by
  unfold relL
  split
  · next h =>
    rw [relOk, Bool.and_eq_true, Bool.and_eq_true, decide_eq_true_iff] at h
    have h4 := ((isC_iff c).1 h.1.1).2.1
    rw [subS_ints]
    have : u.length * u.length ≤ 4 * 4 := Nat.mul_le_mul (by omega) (by omega)
    omega
  · simp [total, ints]
theorem own2_none {w wr : World} (h : w.heap.size ≤ wr.heap.size) : Own2 (wr.alloc (.cells #[] 27)) w.heap.size (wr.alloc (.cells #[] 27)).heap.size (.slice (some ⟨wr.heap.size, 0, none⟩) 0 0) [] := by
  obtain ⟨G, gs, vs, q1, q2, q3, q4⟩ := (rowsV_empty wr).own2 (by simp)
  exact ⟨G, gs, vs, by omega, q2, fun g hg => by have := q3 g hg; omega, q4⟩
theorem specHasQ (v : Value) (l : List Int) (x : Int) (b : Bool) (hb : hasL l x = b) (hl : l.length ≤ 1099511627776) (w : World) (h : I w v l) :
    Calls Tryz.prog 86 #[v, .int .i64 x] w fun e w' => e = .returned (.bool b) ∧ w' = w :=
  (specHas v l x hl w h).mono fun _ _ ⟨h1, h2⟩ => ⟨hb ▸ h1, h2.symm⟩
theorem read_take {w : World} {g o cap : Nat} {u : List Int} (hc : ∀ i (hi : i < u.length), w.cell? ⟨g, o + i, none⟩ = some (.int .i64 u[i])) (k : Nat) (hk : k ≤ u.length) (h1 : u.length ≤ cap) (h2 : cap ≤ maxLen) : I w (.slice (some ⟨g, o, none⟩) k cap) (u.take k) := by
  have hl : (ivs (u.take k)).length = k := by rw [ivs_length, List.length_take]; omega
  refine ⟨g, o, cap, by rw [hl], by omega, h2, fun i x hx => ?_⟩
  have hi : i < k := by have := (List.getElem?_eq_some_iff.1 hx).1; omega
  simp only [ivs, List.getElem?_map, List.getElem?_take, if_pos hi, List.getElem?_eq_getElem (show i < u.length by omega), Option.map_some, Option.some.injEq] at hx
  rw [hc i (by omega), hx]
set_option maxHeartbeats 4000000 in
theorem specRelabelCartan (v1 v2 : Value) (c : List (List Int)) (u : List Int) (hc : c.length ≤ 1099511627776) (hu : u.length ≤ 274877906944) (w : World) (h1 : II w v1 c) (h2 : I w v2 u) :
    Calls Tryz.prog 26 #[v1, v2] w (RetRowsB w (relL c u) (relOk c u)) := by
  obtain ⟨g1, o1, c1, hv1, _, _, hc1⟩ := h1.form
  obtain ⟨g2, o2, c2, hv2, hm1, hm2, hc2⟩ := h2.form
  have H1 := Lib.hid hc1
  have H2 := Lib.hid hc2
  clear hc1 hc2
  subst hv1 hv2
  cases hC : isC c with
  | false =>
    have HO := Lib.hid (relOk_f (u := u) hC)
    have HC := Lib.hid hC
    clear hC
    go_enter Tryz.func26, Tryz.ntmps26
    go_wp2_with fail
    refine (specIsCartan _ c hc _ h1).mono ?_
    rw [HC.out]
    rintro e w1 ⟨rfl, hb1⟩
    have hs1 := hb1.size
    go_wp2_with fail
    go_ret2
    obtain ⟨G, gs, vs, p1, p2, p3, p4⟩ := (rowsV_empty w1).own2 (by simp)
    exact ⟨_, by rw [HO.out]; rfl, by rw [relL_f HO.out]; exact ⟨G, gs, vs, by omega, p2, fun g hg => by have := p3 g hg; omega, p4⟩, hb1.alloc hs1 _⟩
  | true =>
    have HC := Lib.hid hC
    clear hC
    by_cases h0 : u.length = c.length
    rotate_left
    · have HO := Lib.hid (relOk_g (c := c) h0)
      have d0 : ((u.length : Int) != (c.length : Int)) = true := by rw [bne_iff_ne]; omega
      clear h0
      go_enter Tryz.func26, Tryz.ntmps26
      go_wp2_with fail
      refine (specIsCartan _ c hc _ h1).mono ?_
      rw [HC.out]
      rintro e w1 ⟨rfl, hb1⟩
      have hs1 := hb1.size
      go_wp2_with fail
      go_ret2
      obtain ⟨G, gs, vs, p1, p2, p3, p4⟩ := (rowsV_empty w1).own2 (by simp)
      exact ⟨_, by rw [HO.out]; rfl, by rw [relL_f HO.out]; exact ⟨G, gs, vs, by omega, p2, fun g hg => by have := p3 g hg; omega, p4⟩, hb1.alloc hs1 _⟩
    have d0 : ((u.length : Int) != (c.length : Int)) = false := by rw [bne_eq_false_iff_eq]; omega
    have H0 := Lib.hid h0
    clear h0
    go_enter Tryz.func26, Tryz.ntmps26
    go_wp2_with fail
    refine (specIsCartan _ c hc _ h1).mono ?_
    rw [HC.out]
    rintro e w1 ⟨rfl, hb0⟩
    go_wp2_with fail
    go_loopw [6] (fun i wr => ∃ k : Nat, k ≤ u.length ∧ i = .int .i64 k ∧ Below w.heap.size w wr ∧ Hid (∀ j, j < u.length → j < k → okR c.length u j = true)) (fun i _ => u.length - (intOf i).toNat)
    case atStart => exact ⟨0, by omega, rfl, hb0, fun j _ hj => absurd hj (Nat.not_lt_zero j)⟩
    case round =>
      clear hb0
      obtain ⟨k, hk, rfl, hbel, HG⟩ := hrel
      have hsz := hbel.size
      by_cases hlt' : k < u.length
      · have y1 := H2.out k hlt'
        obtain ⟨x, hx⟩ : ∃ x, u[k] = x := ⟨_, rfl⟩
        rw [hx] at y1
        have x1 := cells_keep hbel y1
        have hT := read_take (w := wr) (fun i hi => cells_keep hbel (H2.out i hi)) k hk hm1 hm2
        have hk0 : (0 : Int) ≤ (k : Int) := by omega
        have hk1 : (k : Int) < (u.length : Int) := by omega
        have hk2 : (k : Int) ≤ (c2 : Int) := by omega
        have hk3 : k ≤ c2 := by omega
        have hR := okR_get (n := c.length) hlt' hx
        have htl : (u.take k).length ≤ 1099511627776 := by rw [List.length_take]; omega
        clear y1
        by_cases p1 : 0 ≤ x
        rotate_left
        · have d1 : decide (0 ≤ x) = false := by rw [decide_eq_false_iff_not]; exact p1
          have HF := Lib.hid (relOk_h (ordB_no k hlt' (by rw [hR, isPt_no _ _ (by omega)]; rfl)))
          clear p1 hx hR
          go_wp2_with fail
          go_quiet ((go_at_call 85; exact Calls.quiet_of_same (l1InQ _ _ _ _)))
          go_wp2_with fail
          go_ret2
          exact ⟨_, by rw [HF.out]; rfl, by rw [relL_f HF.out]; exact own2_none (w := w) (wr := wr.drewN nq) hsz, (below_drewN hbel nq).alloc hsz _⟩
        have d1 : decide (0 ≤ x) = true := by rw [decide_eq_true_iff]; exact p1
        by_cases p2 : x ≤ (c.length : Int) - 1
        rotate_left
        · have d2 : decide (x ≤ (c.length : Int) - 1) = false := by rw [decide_eq_false_iff_not]; exact p2
          have HF := Lib.hid (relOk_h (ordB_no k hlt' (by rw [hR, isPt_no _ _ (by omega)]; rfl)))
          clear p1 p2 hx hR
          go_wp2_with fail
          go_quiet ((go_at_call 85; exact Calls.quiet_of_same (l1InQ _ _ _ _)))
          go_wp2_with fail
          go_ret2
          exact ⟨_, by rw [HF.out]; rfl, by rw [relL_f HF.out]; exact own2_none (w := w) (wr := wr.drewN nq) hsz, (below_drewN hbel nq).alloc hsz _⟩
        have d2 : decide (x ≤ (c.length : Int) - 1) = true := by rw [decide_eq_true_iff]; exact p2
        have hp : isPt c.length x = true := (isPt_iff _ _).2 ⟨p1, by omega⟩
        cases hH : hasL (u.take k) x with
        | true =>
          have HF := Lib.hid (relOk_h (ordB_no k hlt' (by rw [hR, hH]; simp)))
          have HH := Lib.hid hH
          clear p1 p2 hx hR hp hH
          go_wp2_with fail
          go_quiet ((first | (go_at_call 85; exact Calls.quiet_of_same (l1InQ _ _ _ _)) | (go_at_call 86; exact Calls.quiet_of_same (specHasQ _ (u.take k) _ true HH.out htl _ hT))))
          go_wp2_with fail
          go_ret2
          exact ⟨_, by rw [HF.out]; rfl, by rw [relL_f HF.out]; exact own2_none (w := w) (wr := wr.drewN nq) hsz, (below_drewN hbel nq).alloc hsz _⟩
        | false =>
          have HO := Lib.hid (show okR c.length u k = true by rw [hR, hH, hp]; rfl)
          have HH := Lib.hid hH
          clear p1 p2 hx hR hp hH
          go_wp2_with fail
          go_quiet ((first | (go_at_call 85; exact Calls.quiet_of_same (l1InQ _ _ _ _)) | (go_at_call 86; exact Calls.quiet_of_same (specHasQ _ (u.take k) _ false HH.out htl _ hT))))
          go_wp2_with fail
          go_roundw
          case rel =>
            refine ⟨k + 1, by omega, by go_num, below_drewN hbel nq, fun j q1 q2 => ?_⟩
            by_cases e : j = k
            · subst e; exact HO.out
            · exact HG.out j q1 (by omega)
          case measure => simp [intOf]; omega
      · obtain rfl : k = u.length := by omega
        have HU := Lib.hid ((ordB_iff c.length u).2 (fun j hj => HG.out j hj hj))
        have HO := Lib.hid (relOk_t HC.out H0.out HU.out)
        have hR0 := rowsV_empty wr
        go_wp2_with fail
        go_loopw [7, 8] (fun x i wr => ∃ k : Nat, k ≤ u.length ∧ i = .int .i64 k ∧ RowsV wr w.heap.size wr.heap.size x ((subS c u).take k) ∧ Below w.heap.size w wr) (fun _ i _ => u.length - (intOf i).toNat)
        case atStart =>
          obtain ⟨gs, vs, q1, q2, q3, q4⟩ := hR0
          exact ⟨0, by omega, rfl, ⟨gs, vs, q1.mono' hsz, q2, fun g hg => by have := q3 g hg; omega, q4⟩, hbel.alloc hsz _⟩
        case round =>
          clear hR0 hbel hsz HG
          obtain ⟨k, hk, rfl, hR, hbel⟩ := hrel
          by_cases hlt' : k < u.length
          · obtain ⟨wo, rfl⟩ : ∃ wo : World, wo = wr := ⟨_, rfl⟩
            obtain ⟨s, hs, hsn⟩ := ordB_pt HU.out k hlt'
            have y3 := H2.out k hlt'
            rw [hs] at y3
            have HSS := Lib.hid (subS_snoc c u k s hlt' hs)
            have hsq := Lib.hid (isC_sq HC.out s hsn)
            clear hs
            go_wp2_with fail
            go_loopw [9, 10] (fun y i wr => ∃ m : Nat, m ≤ u.length ∧ i = .int .i64 m ∧ RowV wr wo.heap.size 3 y m (ivs ((subR c u (s : Int)).take m)) ∧ Below wo.heap.size wo wr) (fun _ i _ => u.length - (intOf i).toNat)
            case atStart => exact ⟨0, by omega, rfl, rowV_empty wo _, (Below.refl _ _).alloc (Nat.le_refl _) _⟩
            case round =>
              obtain ⟨m, hm, rfl, hrow, hbi⟩ := hrel
              by_cases hlm : m < u.length
              · obtain ⟨t, ht, htn⟩ := ordB_pt HU.out m hlm
                have y4 := H2.out m hlm
                rw [ht] at y4
                obtain ⟨gi, oi, ci, x, y1, y2, hx⟩ := II.at H1.out hsn (show t < c[s].length by rw [hsq.out]; exact htn)
                have HX := Lib.hid (subR_snoc c u s t m x hlm ht hx)
                have hbel2 := below_trans hbel hbi
                have a1 := cells_keep hbel2 y1
                have a2 := cells_keep hbel2 y2
                have a3 := cells_keep hbel2 y3
                have a4 := cells_keep hbel2 y4
                have hl1 : g1 < wo.heap.size := World.block_lt_of_cell? wo _ (cells_keep hbel y1)
                have hl2 : gi < wo.heap.size := World.block_lt_of_cell? wo _ (cells_keep hbel y2)
                have hl3 : g2 < wo.heap.size := World.block_lt_of_cell? wo _ (cells_keep hbel y3)
                have hl4 : g2 < wo.heap.size := World.block_lt_of_cell? wo _ (cells_keep hbel y4)
                clear hx ht y1 y2 y4 hbel2
                have hk0 : (0 : Int) ≤ (m : Int) := by omega
                have hk1 : (m : Int) < (u.length : Int) := by omega
                have hk2 : (0 : Int) ≤ (s : Int) := by omega
                have hk3 : (t : Int) < (c[s].length : Int) := by rw [hsq.out]; omega
                have hk4 : (0 : Int) ≤ (t : Int) := by omega
                have hk5 : (s : Int) < (c.length : Int) := by omega
                have hk6 : (0 : Int) ≤ (k : Int) := by omega
                have hk7 : (k : Int) < (u.length : Int) := by omega
                go_wp2_with fail
                go_region_held3 (fun w' => w'.cell? ⟨g1, o1 + s, none⟩ = some (.slice (some ⟨gi, oi, none⟩) c[s].length ci) ∧ w'.cell? ⟨gi, oi + t, none⟩ = some (.int .i64 x) ∧ w'.cell? ⟨g2, o2 + k, none⟩ = some (.int .i64 s) ∧ w'.cell? ⟨g2, o2 + m, none⟩ = some (.int .i64 t)) (first | go_keep | (go_split_ands; exact ⟨(hb1.cell hl1).trans ‹_›, (hb1.cell hl2).trans ‹_›, (hb1.cell hl3).trans ‹_›, (hb1.cell hl4).trans ‹_›⟩)) ((refine step_pushV elemInt _ (by rfl) _ _ (by rfl) wo.heap.size u9 m _ (by rfl) ((hrow.alloc _).drew) (.int .i64 x) wr.heap.size (by rfl) (cell_new1d _ _ _) (by rfl) (by omega) (by have := hbi.size; simp; omega) ?_; intro gg cap w1 hrow1 hgrow hb1))
                go_wp2_with fail
                go_roundw
                case rel => exact ⟨m + 1, by omega, by go_num, hrow1.cast rfl rfl HX.out.symm, ((hbi.alloc hbi.size _).drew).trans hb1⟩
                case measure => simp [intOf]; omega
              · obtain rfl : m = u.length := by omega
                have hend := subR_end c u (s : Int)
                rw [hend] at hrow
                clear hend
                obtain ⟨gx, hgx, hown⟩ := hrow.own
                obtain ⟨cy, hy, _, _, _, _⟩ := hown.form
                rw [ivs_length] at hy
                subst hy
                have hR2 := hR.keep hbi
                obtain ⟨gs, vs, q1, q2, q3, q4⟩ := hR2
                have hbel2 := below_trans hbel hbi
                have hs0 := hbel.size
                have hs1 := hbi.size
                have HK := Lib.hid (show ((subS c u).take k).length = k by rw [List.length_take, subS_length]; omega)
                have q1' : RowV wr w.heap.size 27 u7 k vs := q1.cast rfl HK.out rfl
                have HP := Lib.hid (fun (w2 : World) (x' : Value) hgrow (hrow : RowV w2 w.heap.size 27 x' (k + 1) (vs ++ [_])) => rowsV_push (w1 := w2) (x' := x') q1 q2 q3 q4 hown (by omega) (by omega) hgrow (hrow.cast rfl (by rw [HK.out]) rfl))
                clear q1 q2 q3 q4 hrow
                go_wp2_with (at_builtin; refine wpList_pushV elemRow _ rfl _ _ rfl w.heap.size u7 k _ rfl (q1'.alloc _) (.slice (some ⟨gx, 0, none⟩) (subR c u (s : Int)).length cy) wr.heap.size rfl (cell_new1 _ _ _) rfl (by omega) (by have := hbel2.size; simp; omega) ?_; intro gg cap w2 hrow1 hgrow hb2)
                go_roundw
                case rel => exact ⟨k + 1, by omega, by go_num, by rw [HSS.out]; exact HP.out _ _ hgrow hrow1, (hbel2.alloc hbel2.size _).trans hb2⟩
                case measure => simp [intOf]; omega
          · obtain rfl : k = u.length := by omega
            rw [subS_end] at hR
            have hown := hR.own2 (Nat.le_refl _)
            go_wp2_with fail
            go_ret2
            exact ⟨_, by rw [HO.out]; rfl, by rw [relL_t HO.out]; exact hown, hbel⟩
end Go.Proofs.YtaikjkcbgniplaaGreatDoor
