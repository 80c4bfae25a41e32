/- Copies of tables and stores into tables of the call's own (l2Copy, l2Set, with): what they answer. -/
import Derived.Test.YtaikjkcbgniplaaGreatDoorChain
namespace Go.Proofs.YtaikjkcbgniplaaGreatDoor
open Go.RowKit
set_option linter.unusedVariables false

theorem getD_get0 (u : List Int) (j : Nat) (h : j < u.length) : u.getD j 0 = u[j] := by simp [h]
def setAt (c : List (List Int)) (i j : Nat) (x : Int) : List (List Int) := c.set i ((c.getD i []).set j x)
theorem setAt_length (c : List (List Int)) (i j : Nat) (x : Int) : (setAt c i j x).length = c.length := by simp [setAt]
theorem setAt_sq {c : List (List Int)} (h : Sq c) (i j : Nat) (x : Int) : Sq (setAt c i j x) := by
  intro k hk
  rw [setAt_length] at hk ⊢
  simp only [setAt, List.getElem_set]
  split
  · next e => subst e; rw [List.length_set]; simp [hk, h i hk]
  · exact h k hk
theorem row_set {w w' : World} {gs : List Nat} {vs : List Value} {c : List (List Int)} {i j g : Nat} {x : Int} (h : Inner w gs vs c) (hn : gs.Nodup) (hi : i < c.length) (hg : gs[i]? = some g)
    (hw : w' = w.setCell ⟨g, j, none⟩ (.int .i64 x)) : Inner w' gs vs (setAt c i j x) := by
  subst hw
  refine ⟨by rw [setAt_length]; exact h.1, by rw [setAt_length]; exact h.2.1, fun q g' r zs e1 e2 e3 => ?_⟩
  simp only [setAt] at e3
  by_cases e : q = i
  · subst e
    have hgg : g' = g := by rw [hg] at e1; injection e1 with e1; exact e1.symm
    subst hgg
    rw [List.getElem?_set_self (by omega)] at e3
    injection e3 with e3
    subst e3
    have := h.2.2 q g' r _ e1 e2 (List.getElem?_eq_getElem hi)
    simpa [hi] using this.set j x
  · rw [List.getElem?_set_ne (Ne.symm e)] at e3
    have ho := h.2.2 q g' r zs e1 e2 e3
    refine ho.chg (chg_set w g j _) ?_
    intro eg
    subst eg
    have hq : q < gs.length := (List.getElem?_eq_some_iff.1 e1).1
    have hi' : i < gs.length := (List.getElem?_eq_some_iff.1 hg).1
    have e1' := (List.getElem?_eq_some_iff.1 e1).2
    have hg' := (List.getElem?_eq_some_iff.1 hg).2
    rw [List.nodup_iff_pairwise_ne, List.pairwise_iff_getElem] at hn
    rcases Nat.lt_trichotomy q i with hh | hh | hh
    · exact hn q i hq hi' hh (e1'.trans hg'.symm)
    · exact e hh
    · exact hn i q hi' hq hh (hg'.trans e1'.symm)
/-- A store into a table of the call's own: where the row lies, and what the table is behind it. -/
theorem Own2.store {w : World} {lo hi G n cap : Nat} {c : List (List Int)} (h : Own2 w lo hi (.slice (some ⟨G, 0, none⟩) n cap) c) {i j : Nat} (hi' : i < c.length) (hj : j < c[i].length) :
    ∃ g cr, w.cell? ⟨G, i, none⟩ = some (.slice (some ⟨g, 0, none⟩) c[i].length cr) ∧ (∃ u, w.cell? ⟨g, j, none⟩ = some u) ∧ w.frozen? ⟨g, j, none⟩ = false ∧ lo ≤ g ∧ g < hi ∧ c[i].length ≤ cr ∧
      ∀ x : Int, Own2 (w.setCell ⟨g, j, none⟩ (.int .i64 x)) lo hi (.slice (some ⟨G, 0, none⟩) n cap) (setAt c i j x) := by
  obtain ⟨G', gs, vs, h1, h2, h3, h4, h5, h6, h7⟩ := h
  have hg : i < gs.length := by rw [h5.2.1]; exact hi'
  have hv : i < vs.length := by rw [h5.1]; exact hi'
  have ho := h5.2.2 i gs[i] vs[i] c[i] (List.getElem?_eq_getElem hg) (List.getElem?_eq_getElem hv) (List.getElem?_eq_getElem hi')
  obtain ⟨cap', e, _, _, hc, _⟩ := h4.form
  have eG : G' = G := by injection e with e1; injection e1 with e1; injection e1 with e1; exact e1.symm
  subst eG
  obtain ⟨cr, er, hcr, _⟩ := ho.form
  have hm : gs[i] ∈ gs := List.getElem_mem hg
  have hne : gs[i] ≠ G' := fun e => h6 (e ▸ hm)
  refine ⟨gs[i], cr, by rw [← er]; exact hc i vs[i] (List.getElem?_eq_getElem hv), ⟨_, ho.cell hj⟩, ho.frozen j, (h3 _ hm).1, (h3 _ hm).2, hcr, fun x => ?_⟩
  exact ⟨G', gs, vs, h1, h2, h3, h4.chg (chg_set w gs[i] j _) (fun e => hne e.symm), row_set h5 h7 hi' (List.getElem?_eq_getElem hg) rfl, h6, h7⟩
theorem Own2.form0 {w : World} {lo hi : Nat} {v : Value} {c : List (List Int)} (h : Own2 w lo hi v c) : ∃ G cap, v = .slice (some ⟨G, 0, none⟩) c.length cap ∧ c.length ≤ cap ∧ cap ≤ maxLen ∧ lo ≤ G ∧ G < hi := by
  obtain ⟨G, gs, vs, h1, h2, h3, h4, h5, h6⟩ := h
  obtain ⟨cap, e, hc1, hc2, _, _⟩ := h4.form
  rw [h5.1] at e hc1
  exact ⟨G, cap, e, hc1, hc2, h1, h2⟩
theorem Own2.drew {w : World} {lo hi : Nat} {v : Value} {c : List (List Int)} (h : Own2 w lo hi v c) : Own2 w.drew lo hi v c := h
set_option maxHeartbeats 1000000 in
theorem specCopy (v1 : Value) (c : List (List Int)) (hc : c.length ≤ 1099511627776) (hcr : ∀ r ∈ c, r.length ≤ 1099511627776) (w : World) (h1 : II w v1 c) : Calls Tryz.prog 110 #[v1] w (RetRows w c) := by
  obtain ⟨g1, o1, c1, hv1, _, _, hc1⟩ := h1.form
  subst hv1
  have H1 := Lib.hid hc1
  clear hc1 h1
  go_enter Tryz.func110, Tryz.ntmps110
  go_wp2_with fail
  go_loopw [3, 4] (fun x i wr => ∃ k : Nat, k ≤ c.length ∧ i = .int .i64 k ∧ RowsV wr w.heap.size wr.heap.size x (c.take k) ∧ Below w.heap.size w wr) (fun _ i _ => c.length - (intOf i).toNat)
  case atStart =>
    obtain ⟨gs, vs, q1, q2, q3, q4⟩ := rowsV_empty w
    exact ⟨0, by omega, rfl, ⟨gs, vs, q1, q2, fun g hg => by have := q3 g hg; omega, q4⟩, (Below.refl _ _).alloc (Nat.le_refl _) _⟩
  case round =>
    obtain ⟨k, hk, rfl, hR, hbel⟩ := hrel
    by_cases hlt' : k < c.length
    · obtain ⟨r, y1, j1⟩ := H1.out k hlt'
      have HS := Lib.hid (List.take_succ_eq_append_getElem (l := c) hlt')
      have HK := Lib.hid (show (c.take k).length = k by rw [List.length_take]; omega)
      have hol : c[k].length ≤ 1099511627776 := hcr _ (List.getElem_mem hlt')
      obtain ⟨o, ho⟩ : ∃ o, c[k] = o := ⟨_, rfl⟩
      rw [ho] at j1 HS hol
      obtain ⟨gr, or, cr, hr, _, _, hcr'⟩ := j1.form
      subst hr
      have HC := Lib.hid hcr'
      have x1 := cells_keep hbel y1
      have hl1 : g1 < wr.heap.size := World.block_lt_of_cell? wr _ x1
      have hbn := below_new wr (.cells #[] 3)
      have hbin := hbel.trans (hbn.mono hbel.size)
      have hk0 : (0 : Int) ≤ (k : Int) := by omega
      have hk1 : (k : Int) < (c.length : Int) := by omega
      obtain ⟨gs, vs, q1, q2, q3, q4⟩ := hR
      have q1' : RowV wr w.heap.size 27 u3 k vs := q1.cast rfl HK.out rfl
      clear ho hcr' y1 j1
      have HSZ := Lib.hid hbel.size
      go_wp2_with (first
        | (at_builtin; refine wpList_appendV elemInt _ rfl _ _ rfl wr.heap.size (.slice (some ⟨wr.heap.size, 0, none⟩) 0 0) 0 [] rfl (rowV_empty wr _) (ivs o) gr or o.length cr rfl (ivs_length o) (cells_after HC.out hbin) (ivs_one o) (by omega) hbn.size ?_; intro gA capA wA hrowA hgrowA hbA)
        | (at_builtin; refine wpList_pushV elemRow _ rfl _ _ rfl w.heap.size u3 k vs rfl ((q1'.keep (hbn.trans hbA)).alloc _) (.slice (some ⟨gA, 0, none⟩) o.length capA) wA.heap.size rfl (cell_new1 _ _ _) rfl (by omega) (Nat.le_trans HSZ.out (Nat.le_trans (hbn.trans hbA).size (below_new wA _).size)) ?_; intro gB capB wB hrowB hgrowB hbB))
      have hT := hbn.trans hbA
      obtain ⟨gx, hgx, hown⟩ : ∃ gx, wr.heap.size ≤ gx ∧ Own wA gx (.slice (some ⟨gA, 0, none⟩) o.length capA) o := by
        have hr2 : RowV wA wr.heap.size 3 (.slice (some ⟨gA, 0, none⟩) o.length capA) o.length (ivs o) := hrowA.cast (by rw [Nat.zero_add]) (Nat.zero_add _) (List.nil_append _)
        exact hr2.own
      have hs0 := hbel.size
      have HPP := Lib.hid (rowsV_push (w := wA) (w1 := wB) (B := w.heap.size) (hi := wr.heap.size) (q1.keep hT) (q2.keep hT) q3 q4 hown hgx (by omega) hgrowB (hrowB.cast rfl (by rw [HK.out]) rfl))
      have hbF := ((below_trans hbel hT).alloc (below_trans hbel hT).size (.cells #[.slice (some ⟨gA, 0, none⟩) o.length capA] 27)).trans hbB
      clear hrowA hown hrowB hgrowA hgrowB q1 q1' q2 q3 q4 hbA hbB hT hbn hbin
      go_roundw
      case rel => exact ⟨k + 1, by omega, by go_num, by rw [HS.out]; exact HPP.out, hbF⟩
      case measure => simp [intOf]; omega
    · obtain rfl : k = c.length := by omega
      rw [List.take_length] at hR
      have hO2 := hR.own2 (Nat.le_refl _)
      go_wp2_with fail
      go_ret
      exact ⟨_, rfl, hO2, hbel⟩
def setL2 (c : List (List Int)) (i j : Nat) (a b : Int) : List (List Int) := setAt (setAt c i j a) j i b
set_option maxHeartbeats 1000000 in
theorem specSet2 (v1 : Value) (c : List (List Int)) (i j : Nat) (a b : Int) (hq : Sq c) (hc : c.length ≤ 1099511627776) (hi : i < c.length) (hj : j < c.length) (w : World) (h1 : II w v1 c) :
    Calls Tryz.prog 108 #[v1, .int .i64 i, .int .i64 j, .int .i64 a, .int .i64 b] w (RetRows w (setL2 c i j a b)) := by
  have HQ := Lib.hid hq
  go_enter Tryz.func108, Tryz.ntmps108
  go_wp2_with fail
  refine (specCopy _ c hc (fun r hr => by obtain ⟨k, hk, rfl⟩ := List.mem_iff_getElem.1 hr; rw [hq k hk]; exact hc) _ h1).mono ?_
  rintro e w1 ⟨v2, rfl, hO, hb1⟩
  obtain ⟨G, cap, hv2, _, _, hG1, hG2⟩ := hO.form0
  subst hv2
  obtain ⟨g, cr, x1, ⟨u, x2⟩, f2, hg1, hg2, hcr, HO1⟩ := hO.store hi (show j < c[i].length by rw [HQ.out i hi]; exact hj)
  obtain ⟨l1, hl1⟩ : ∃ l1, c[i].length = l1 := ⟨_, rfl⟩
  have b1 : (j : Int) < (l1 : Int) := by rw [← hl1, HQ.out i hi]; omega
  rw [hl1] at x1
  have hO1 := HO1 a
  have hi2 : j < (setAt c i j a).length := by rw [setAt_length]; exact hj
  have hq2 := setAt_sq hq i j a
  obtain ⟨g', cr', y1, ⟨u', y2⟩, f3, hg1', hg2', hcr', HO2⟩ := hO1.store hi2 (show i < (setAt c i j a)[j].length by rw [hq2 j hi2, setAt_length]; exact hi)
  obtain ⟨l2, hl2⟩ : ∃ l2, (setAt c i j a)[j].length = l2 := ⟨_, rfl⟩
  have b2 : (i : Int) < (l2 : Int) := by rw [← hl2, hq2 j hi2, setAt_length]; omega
  rw [hl2] at y1
  have HF := Lib.hid (HO2 b)
  have hk0 : (0 : Int) ≤ (i : Int) := by omega
  have hk1 : (i : Int) < (c.length : Int) := by omega
  have hk2 : (0 : Int) ≤ (j : Int) := by omega
  have hk3 : (j : Int) < (c.length : Int) := by omega
  have HB := Lib.hid (below_chg (below_chg hb1 (chg_set w1 g j (.int .i64 a)) (fun q e => by subst e; exact hg1)) (chg_set (w1.setCell ⟨g, j, none⟩ (.int .i64 a)) g' i (.int .i64 b)) (fun q e => by subst e; exact hg1'))
  have HSZ := Lib.hid (show ((w1.setCell ⟨g, j, none⟩ (.int .i64 a)).setCell ⟨g', i, none⟩ (.int .i64 b)).heap.size = w1.heap.size by simp [World.setCell])
  clear hO hO1 HO1 HO2 hcr hcr' hl1 hl2 hq hq2
  go_wp2_with fail
  go_ret
  exact ⟨_, rfl, by rw [HSZ.out]; exact HF.out, HB.out⟩
def withT (c : List (List Int)) (es : List Int) : Nat → List (List Int)
  | 0 => c
  | t + 1 => setAt (withT c es t) (es.getD (3 * t) 0).toNat (es.getD (3 * t + 1) 0).toNat (es.getD (3 * t + 2) 0)
theorem withT_length (c : List (List Int)) (es : List Int) : ∀ t, (withT c es t).length = c.length
  | 0 => rfl
  | t + 1 => by rw [withT, setAt_length, withT_length c es t]
theorem withT_sq {c : List (List Int)} (h : Sq c) (es : List Int) : ∀ t, Sq (withT c es t)
  | 0 => h
  | t + 1 => setAt_sq (withT_sq h es t) _ _ _
def withOk (n : Nat) (es : List Int) (T : Nat) : Bool := (List.range T).all (fun t => isPt n (es.getD (3 * t) 0) && isPt n (es.getD (3 * t + 1) 0))
set_option maxHeartbeats 2000000 in
theorem implWith (v1 : Value) (g2 c2 : Nat) (c : List (List Int)) (es : List Int) (T lo hi : Nat) (hes : es.length = 3 * T) (hT : T ≤ 8) (hq : Sq c) (hc : c.length ≤ 4) (hok : withOk c.length es T = true) (w : World)
    (h1 : Own2 w lo hi v1 c) (h2 : I w (.slice (some ⟨g2, 0, none⟩) es.length c2) es) (hd : hi ≤ g2) :
    Calls Tryz.prog 106 #[v1, .slice (some ⟨g2, 0, none⟩) es.length c2] w fun e w' => e = .returned v1 ∧ Own2 w' lo hi v1 (withT c es T) ∧ Chg (fun k => lo ≤ k ∧ k < hi) w w' := by
  obtain ⟨G, cap, hv1, _, _, hG1, hG2⟩ := h1.form0
  subst hv1
  obtain ⟨g2', o2', c2', hv2, _, _, hc2⟩ := h2.form
  have e2 : g2' = g2 ∧ o2' = 0 := by injection hv2 with e1; injection e1 with e1; injection e1 with e1 e3; exact ⟨e1.symm, e3.symm⟩
  obtain ⟨rfl, rfl⟩ := e2
  have H2 := Lib.hid hc2
  have HQ := Lib.hid hq
  have HE := Lib.hid hes
  have hel : es.length ≤ 24 := by omega
  have HOK := Lib.hid (show ∀ t, t < T → isPt c.length (es.getD (3 * t) 0) = true ∧ isPt c.length (es.getD (3 * t + 1) 0) = true from by
    intro t ht
    rw [withOk, List.all_eq_true] at hok
    have := hok t (List.mem_range.2 ht)
    rwa [Bool.and_eq_true] at this)
  clear hc2 hq hes hok hv2 h2
  go_enter Tryz.func106, Tryz.ntmps106
  go_wp2_with fail
  go_loopw [5] (fun i wr => ∃ t : Nat, t ≤ T ∧ i = .int .i64 ((3 * t : Nat) : Int) ∧ Own2 wr lo hi (.slice (some ⟨G, 0, none⟩) c.length cap) (withT c es t) ∧ Chg (fun k => lo ≤ k ∧ k < hi) w wr) (fun i _ => es.length - (intOf i).toNat)
  case atStart => exact ⟨0, by omega, rfl, h1, Chg.refl _ _⟩
  case round =>
    clear h1
    obtain ⟨t, ht, rfl, hO, hch⟩ := hrel
    obtain ⟨p, hp⟩ : ∃ p, 3 * t = p := ⟨_, rfl⟩
    rw [hp]
    by_cases hlt' : t < T
    · have hpl : p + 2 < es.length := by have := HE.out; omega
      have hp24 : p ≤ 24 := by omega
      obtain ⟨w1, w2⟩ := HOK.out t hlt'
      rw [hp] at w1 w2
      obtain ⟨i, hi1, hi2⟩ := pt_nat w1
      obtain ⟨j, hj1, hj2⟩ := pt_nat w2
      obtain ⟨x, hx⟩ : ∃ x, es.getD (p + 2) 0 = x := ⟨_, rfl⟩
      have y1 := H2.out p (by omega)
      have y2 := H2.out (p + 1) (by omega)
      have y3 := H2.out (p + 2) (by omega)
      rw [← getD_get0 es p (by omega), hi1] at y1
      rw [← getD_get0 es (p + 1) (by omega), hj1] at y2
      rw [← getD_get0 es (p + 2) (by omega), hx] at y3
      have hkeep := fun (a : Addr) (u : Value) (h : w.cell? a = some u) (hb : hi ≤ a.block) => (World.cell?_of_block (hch.block a.block (World.block_lt_of_cell? w _ h) (by omega))).trans h
      replace y1 := hkeep _ _ y1 hd
      replace y2 := hkeep _ _ y2 hd
      replace y3 := hkeep _ _ y3 hd
      rw [Nat.zero_add] at y1 y2 y3
      have hli : i < (withT c es t).length := by rw [withT_length]; exact hi2
      have hsq := withT_sq HQ.out es t
      obtain ⟨g, cr, x1, ⟨u, x2⟩, f2, hg1, hg2, hcr, HO1⟩ := hO.store hli (show j < (withT c es t)[i].length by rw [hsq i hli, withT_length]; exact hj2)
      obtain ⟨l1, hl1⟩ : ∃ l1, (withT c es t)[i].length = l1 := ⟨_, rfl⟩
      have b1 : (j : Int) < (l1 : Int) := by rw [← hl1, hsq i hli, withT_length]; omega
      rw [hl1] at x1
      have HF := Lib.hid (show Own2 (wr.setCell ⟨g, j, none⟩ (.int .i64 x)) lo hi (.slice (some ⟨G, 0, none⟩) c.length cap) (withT c es (t + 1)) from by
        have := HO1 x
        rw [withT, hp, hi1, hj1, hx]
        simpa using this)
      have HC := Lib.hid (hch.trans ((chg_set wr g j (.int .i64 x)).mono (S' := fun k => lo ≤ k ∧ k < hi) (fun k e => by subst e; exact ⟨hg1, hg2⟩)))
      have HP := Lib.hid hp
      have hk0 : (0 : Int) ≤ (i : Int) := by omega
      have hk1 : (i : Int) < (c.length : Int) := by omega
      have hk2 : (0 : Int) ≤ (j : Int) := by omega
      have hk3 : (0 : Int) ≤ (p : Int) := by omega
      have hk4 : (p : Int) < (es.length : Int) := by omega
      have hk5 : (p : Int) + 1 < (es.length : Int) := by omega
      have hk6 : (p : Int) + 2 < (es.length : Int) := by omega
      have e5 : IntKind.i64.wrap ((p : Int) + 1) = (p : Int) + 1 := by rw [IntKind.wrap_i64]; omega
      have e6 : IntKind.i64.wrap ((p : Int) + 2) = (p : Int) + 2 := by rw [IntKind.wrap_i64]; omega
      have e7 : ((p : Int) + 1).toNat = p + 1 := by omega
      have e8 : ((p : Int) + 2).toNat = p + 2 := by omega
      have e9 : (0 : Int) ≤ (p : Int) + 1 := by omega
      have e10 : (0 : Int) ≤ (p : Int) + 2 := by omega
      clear hp hkeep hi1 hj1 hx HO1 hO hch hl1 hcr w1 w2
      go_wp2_with fail
      go_region
      go_wp2_with fail
      go_roundw
      case rel => exact ⟨t + 1, by omega, by have := HP.out; go_num, HF.out.drew, chg_drew HC.out⟩
      case measure => simp [intOf]; omega
    · obtain rfl : t = T := by omega
      have hpe : es.length ≤ p + 2 := by have := HE.out; omega
      have hp24 : p ≤ 24 := by omega
      clear hp
      go_wp2_with fail
      go_ret
      exact ⟨rfl, hO, hch⟩
end Go.Proofs.YtaikjkcbgniplaaGreatDoor
