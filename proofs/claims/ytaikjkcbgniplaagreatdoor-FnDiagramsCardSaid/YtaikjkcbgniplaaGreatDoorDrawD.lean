/- The reference's drawing functions of diagrams: what they return is read. -/
import Derived.Test.YtaikjkcbgniplaaGreatDoorDrawX
import Derived.OwnWalk
namespace Go.Proofs.YtaikjkcbgniplaaGreatDoor
open Go.RowKit
set_option linter.unusedVariables false

set_option maxHeartbeats 2000000 in
set_option maxRecDepth 100000 in
theorem drawSome (g : Nat) (a : Option Addr) (L c : Nat) (n : Nat) (hn : n ≤ 5) (w : World) (h : Cur w g a L c) : Calls Tryz.prog 82 #[.pointer (some ⟨g, 0, none⟩), .int .i64 n] w fun e w' =>
    ∃ v o lo, e = .returned v ∧ g < lo ∧ IB lo w' v o ∧ o.length ≤ 6 ∧ Cur w' g a L c ∧ Chg (· = g) w w' := by
  have hgB := h.lt
  go_enter Tryz.func82, Tryz.ntmps82
  go_wp2_with fail
  go_loopw [5, 6] (fun v i wr => ∃ (k : Nat) (l : List Int), k ≤ n ∧ l.length ≤ k ∧ i = .int .i64 k ∧ RowV wr w.heap.size 3 v l.length (ivs l) ∧ Cur wr g a L c ∧ Chg (· = g) w wr) (fun _ i _ => n - (intOf i).toNat)
  case atStart => exact ⟨0, [], by omega, by simp, rfl, rowV_empty w _, h.keep (below_new w _) hgB, Chg.of_below (below_new w _)⟩
  case round =>
    obtain ⟨k, l, hk, hl, rfl, hrow, hcur, hcg⟩ := hrel
    by_cases hlt : k < n
    · go_wp2_with fail
      refine (drawOnce g a L c 2 (by omega) (by omega) wr hcur).mono ?_
      rintro e w1 ⟨b, rfl, hc1, hg1⟩
      replace hrow := hrow.chgB hg1 hgB
      have hcg1 := hcg.trans hg1
      cases b with
      | true =>
        go_wp2_with (at_builtin; refine wpList_pushV elemInt _ rfl _ _ rfl w.heap.size u5 l.length _ rfl (hrow.alloc _) (.int .i64 k) w1.heap.size rfl (cell_new1 _ _ _) rfl (by omega) (by have := hcg1.size; simp; omega) ?_; intro gg cap w4 hrow4 hgrow hb4)
        go_roundw
        case rel =>
          have hB := ((Below.refl w.heap.size w1).alloc hcg1.size _).trans hb4
          exact ⟨k + 1, l ++ [(k : Int)], by omega, by simp; omega, by go_num, hrow4.cast rfl (by simp) (by rw [ivs_append]; rfl), hc1.keep hB hgB, chg_below hcg1 hB⟩
        case measure => simp [intOf]; omega
      | false =>
        go_wp2_with fail
        go_roundw
        case rel => exact ⟨k + 1, l, by omega, by omega, by go_num, hrow, hc1, hcg1⟩
        case measure => simp [intOf]; omega
    · obtain rfl : k = n := by omega
      go_wp2_with fail
      refine (drawOnce g a L c 12 (by omega) (by omega) wr hcur).mono ?_
      rintro e w1 ⟨b, rfl, hc1, hg1⟩
      replace hrow := hrow.chgB hg1 hgB
      have hcg1 := hcg.trans hg1
      cases b with
      | true =>
        go_wp2_with fail
        refine (drawBelow g a L c 6 (by omega) (by omega) w1 hc1).mono ?_
        rintro e w2 ⟨x, rfl, hx0, hx1, -, hc2, hg2⟩
        have hx := hx1 (by omega)
        replace hrow := hrow.chgB hg2 hgB
        have hcg2 := hcg1.trans hg2
        clear hx1
        go_wp2_with (at_builtin; refine wpList_pushV elemInt _ rfl _ _ rfl w.heap.size u5 l.length _ rfl (hrow.alloc _) (.int .i64 (x - 1)) w2.heap.size rfl (cell_new1 _ _ _) rfl (by omega) (by have := hcg2.size; simp; omega) ?_; intro gg cap w4 hrow4 hgrow hb4)
        go_ret
        have hB := ((Below.refl w.heap.size w2).alloc hcg2.size _).trans hb4
        have hr : RowV w4 w.heap.size 3 (.slice (some ⟨gg, 0, none⟩) (l.length + 1) cap) (l ++ [x - 1]).length (ivs (l ++ [x - 1])) := hrow4.cast rfl (by simp) (by rw [ivs_append]; rfl)
        obtain ⟨gx, hgx, hown⟩ := hr.own
        exact ⟨_, l ++ [x - 1], w.heap.size, rfl, hgB, OwnV.readB hown hgx, by simp; omega, hc2.keep hB hgB, chg_below hcg2 hB⟩
      | false =>
        obtain ⟨gx, hgx, hown⟩ := hrow.own
        obtain ⟨cx, rfl, _, _, _, _⟩ := hown.form
        go_wp2_with fail
        go_ret
        exact ⟨_, l, w.heap.size, rfl, hgB, OwnV.readB hown hgx, by omega, hc1, hcg1⟩
theorem drawSubCartan (a : Option Addr) (cap : Nat) (zs : List Int) (hz : zs.length ≤ 1048576) (w : World) (h : ArgB w a cap zs) : Calls Tryz.prog 22 #[.slice a zs.length cap] w fun e w' =>
    ∃ v zss u o, e = .returned (.tuple #[v, u]) ∧ II w' v zss ∧ Sh zss ∧ I w' u o ∧ o.length ≤ 6 ∧ Below w.heap.size w w' := by
  go_enter Tryz.func22, Tryz.ntmps22
  go_wp2_with fail
  refine (drawNew a cap zs hz w h).mono ?_
  rintro e w1 ⟨g, rfl, hg, hc1, b1⟩
  go_wp2_with fail
  refine (drawAny g a _ _ w1 hc1).mono ?_
  rintro e w2 ⟨v, zss, lo, rfl, hlo, hI2, hsh, hc2, hg2⟩
  obtain ⟨g2, o2, c2, rfl, _, _, _⟩ := hI2.read.form
  have b2 := chg_base b1 hg hg2
  have hs1 := hsh.2.1
  have HSH := Lib.hid hsh
  clear hsh h
  go_wp2_with fail
  refine (drawSome g a _ _ zss.length (by omega) w2 hc2).mono ?_
  rintro e w3 ⟨v3, o, lo3, rfl, hlo3, hI3, ho4, hc3, hg3⟩
  obtain ⟨g3, o3, c3, rfl, _, _, _⟩ := hI3.read.form
  have hI23 := hI2.cur hg3 hlo
  have b3 := chg_base b2 hg hg3
  go_wp2_with fail
  go_ret2
  exact ⟨_, _, _, _, rfl, hI23.read, HSH.out, hI3.read, ho4, b3⟩
set_option maxHeartbeats 2000000 in
set_option maxRecDepth 100000 in
theorem drawOrderO (g : Nat) (a : Option Addr) (L c : Nat) (n : Nat) (m : Nat) (hm : m = min n 4) (hn : n ≤ 1000) (w : World) (h : Cur w g a L c) : Calls Tryz.prog 75 #[.pointer (some ⟨g, 0, none⟩), .int .i64 n] w fun e w' =>
    ∃ v o lo G, e = .returned v ∧ g < lo ∧ lo ≤ G ∧ w.heap.size ≤ lo ∧ Own w' G v o ∧ o.length ≤ 4 ∧ Cur w' g a L c ∧ Chg (· = g) w w' := by
  have hlt := h.lt
  obtain ⟨l1, l2, l3⟩ := lvl_some' (n := m) (by omega)
  have H3 := Lib.hid l3
  have e1 : min (n : Int) 4 = (m : Int) := by omega
  obtain ⟨T, hT⟩ : ∃ T, lvl m m = T := ⟨_, rfl⟩
  have HO := Lib.hid (specOrders m (by omega))
  rw [hT] at l1 l2 H3 HO
  clear hT l3 hm
  go_enter Tryz.func75, Tryz.ntmps75
  go_wp2_with fail
  refine (HO.out w).mono ?_
  intro e w1 r1
  obtain ⟨v1, rfl, o1, b1⟩ := r1.out
  clear r1
  obtain ⟨G, vs, hG1, hG2, hOv, hvl, HR0, HP0⟩ := own2_parts o1 hlt
  obtain ⟨cv, rfl, hcv1, hcv2, hcells, hfr⟩ := hOv.form
  rw [hvl] at hOv hcv1 o1
  have HP := Lib.hid HP0
  have HC := Lib.hid hcells
  have hc1 := h.keep b1 hlt
  have s1 := b1.size
  clear HR0 HP0 hcells hfr hOv o1 h
  rw [hvl]
  clear hvl
  have hbn := below_new w1 (.cells #[] 3)
  have hlt1 : g < w1.heap.size := by omega
  go_wp2_with fail
  refine (drawBelow g a L c _ (by omega) (by omega) _ (hc1.keep hbn hlt1)).mono ?_
  rintro e w2 ⟨j, rfl, hj0, hj1, -, hc2, hg2⟩
  obtain ⟨q, rfl⟩ := Int.eq_ofNat_of_zero_le hj0
  have hq : q < T.length := by have := hj1 (by omega); omega
  clear hj0 hj1
  obtain ⟨gp, cp, hvp, hne, hlp, hcp1, hcp2, hcl⟩ := HP.out q hq
  have hz4 : T[q].length ≤ 4 := H3.out _ (List.getElem_mem hq)
  obtain ⟨z, hz⟩ : ∃ z, T[q] = z := ⟨_, rfl⟩
  simp only [hz] at hvp hcp1 hcl hz4
  have hcg : Chg (· = g) w1 w2 := (Chg.of_below hbn).trans hg2
  have y1 : w2.cell? ⟨G, q, none⟩ = some (.slice (some ⟨gp, 0, none⟩) z.length cp) := cell_cur hcg (show G ≠ g by omega) (HC.out q _ hvp)
  have yz : ∀ j (hj : j < z.length), w2.cell? ⟨gp, 0 + j, none⟩ = some (.int .i64 z[j]) := by
    intro j hj
    rw [Nat.zero_add]
    exact cell_cur hcg (show gp ≠ g by omega) (hcl j hj)
  have HYZ := Lib.hid yz
  have hrow0 : RowV w2 w1.heap.size 3 (.slice (some ⟨w1.heap.size, 0, none⟩) 0 0) 0 [] := (rowV_empty w1 3).chgB hg2 hlt1
  have hsz2 := hcg.size
  clear hz yz hcl hvp
  go_wp2_with (at_builtin; refine wpList_appendV elemInt _ rfl _ _ rfl w1.heap.size (.slice (some ⟨w1.heap.size, 0, none⟩) 0 0) 0 [] rfl hrow0 (ivs z) gp 0 z.length cp rfl (ivs_length z) (cells_after HYZ.out (Below.refl _ _)) (ivs_one z) (by omega) hsz2 ?_; intro gA capA wA hrowA hgrowA hbA)
  go_ret
  have hrA : RowV wA w1.heap.size 3 (.slice (some ⟨gA, 0, none⟩) z.length capA) z.length (ivs z) := hrowA.cast (by rw [Nat.zero_add]) (Nat.zero_add _) (List.nil_append _)
  obtain ⟨gx, hgx, hownA⟩ := hrA.own
  exact ⟨_, z, w1.heap.size, gx, rfl, hlt1, hgx, s1, hownA, hz4, hc2.keep hbA hlt1, chg_below ((Chg.of_below b1).trans hcg) (hbA.mono (by omega))⟩
set_option maxHeartbeats 1000000 in
theorem drawRelabelCartan (a : Option Addr) (cap : Nat) (zs : List Int) (hz : zs.length ≤ 1048576) (w : World) (h : ArgB w a cap zs) : Calls Tryz.prog 25 #[.slice a zs.length cap] w fun e w' =>
    ∃ v zss u o, e = .returned (.tuple #[v, u]) ∧ II w' v zss ∧ Sh zss ∧ I w' u o ∧ o.length ≤ 6 ∧ Below w.heap.size w w' := by
  go_enter Tryz.func25, Tryz.ntmps25
  go_wp2_with fail
  refine (drawNew a cap zs hz w h).mono ?_
  rintro e w1 ⟨g, rfl, hg, hc1, b1⟩
  go_wp2_with fail
  refine (drawAny g a _ _ w1 hc1).mono ?_
  rintro e w2 ⟨v, zss, lo, rfl, hlo, hI2, hsh, hc2, hg2⟩
  obtain ⟨g2, o2, c2, rfl, _, _, _⟩ := hI2.read.form
  have b2 := chg_base b1 hg hg2
  have hs1 := hsh.2.1
  have HSH := Lib.hid hsh
  clear hsh h
  go_wp2_with fail
  refine (drawOrderO g a _ _ zss.length _ rfl (by omega) w2 hc2).mono ?_
  rintro e w3 ⟨v3, o, lo3, G3, rfl, hlo3, hlG3, hlw3, hO3, ho4, hc3, hg3⟩
  have hI3 := hI2.cur hg3 hlo
  have b3 := chg_base b2 hg hg3
  have s2 := hc2.lt
  obtain ⟨c3, rfl, _, _⟩ := hO3.form
  go_wp2_with fail
  refine (drawOnce g a _ _ 12 (by omega) (by omega) w3 hc3).mono ?_
  rintro e w4 ⟨b, rfl, hc4, hg4⟩
  have hO4 := hO3.chg hg4 (fun e => by omega)
  have hI4 := hI3.cur hg4 hlo
  have b4 := chg_base b3 hg hg4
  cases b with
  | true =>
    have hrow4 : RowV w4 G3 3 (.slice (some ⟨G3, 0, none⟩) o.length c3) o.length (ivs o) := (OwnV.rowV hO4 (Nat.le_refl _)).cast rfl (ivs_length o) rfl
    have hG4 : G3 < w4.heap.size := hO4.lt
    go_wp2_with (at_builtin; refine wpList_pushV elemInt _ rfl _ _ rfl G3 _ o.length _ rfl (hrow4.alloc _) (.int .i64 0) w4.heap.size rfl (cell_new1 _ _ _) rfl (by omega) (by simp; omega) ?_; intro gg cp w5 hrow5 hgrow hb5)
    go_ret2
    have hr : RowV w5 G3 3 (.slice (some ⟨gg, 0, none⟩) (o.length + 1) cp) (o ++ [0]).length (ivs (o ++ [0])) := hrow5.cast rfl (by simp) (by rw [ivs_append]; rfl)
    obtain ⟨gx, hgx, hown⟩ := hr.own
    have hch : Chg (· = G3) _ w5 := chg_grown hgrow
    have hb45 : Below G3 w4 w5 := ((Below.refl G3 w4).alloc (by omega) _).trans hb5
    have hGw : w2.heap.size ≤ G3 := by omega
    have s1 := b2.size
    have hI2' := hI2.cur (chg_below (hg3.trans hg4) (hb45.mono hGw)) hlo
    exact ⟨_, _, _, _, rfl, hI2'.read, HSH.out, OwnV.read hown, by simp; omega, b4.trans (hb45.mono (by omega))⟩
  | false =>
    go_wp2_with fail
    go_ret2
    exact ⟨_, _, _, _, rfl, hI4.read, HSH.out, hO4.read, by omega, b4⟩
theorem drawBondOf (a : Option Addr) (cap : Nat) (zs : List Int) (hz : zs.length ≤ 1048576) (w : World) (h : ArgB w a cap zs) : Calls Tryz.prog 60 #[.slice a zs.length cap] w fun e w' =>
    ∃ v zss i j, e = .returned (.tuple #[v, .int .i64 i, .int .i64 j]) ∧ II w' v zss ∧ Sh zss ∧ Below w.heap.size w w' := by
  go_enter Tryz.func60, Tryz.ntmps60
  go_wp2_with fail
  refine (drawNew a cap zs hz w h).mono ?_
  rintro e w1 ⟨g, rfl, hg, hc1, b1⟩
  go_wp2_with fail
  refine (drawAny g a _ _ w1 hc1).mono ?_
  rintro e w2 ⟨v, zss, lo, rfl, hlo, hI2, hsh, hc2, hg2⟩
  obtain ⟨g2, o2, c2, rfl, _, _, _⟩ := hI2.read.form
  have b2 := chg_base b1 hg hg2
  have HSH := Lib.hid hsh
  clear hsh h
  go_wp2_with fail
  refine (drawBelow g a _ _ 5 (by omega) (by omega) w2 hc2).mono ?_
  rintro e w3 ⟨x, rfl, hx0, hx1, -, hc3, hg3⟩
  have hx := hx1 (by omega)
  have hI3 := hI2.cur hg3 hlo
  have b3 := chg_base b2 hg hg3
  clear hx1
  go_wp2_with fail
  refine (drawBelow g a _ _ 2 (by omega) (by omega) w3 hc3).mono ?_
  rintro e w4 ⟨y, rfl, hy0, hy1, -, hc4, hg4⟩
  have hy := hy1 (by omega)
  have hI4 := hI3.cur hg4 hlo
  have b4 := chg_base b3 hg hg4
  clear hy1
  go_wp2_with fail
  refine (drawBelow g a _ _ 4 (by omega) (by omega) w4 hc4).mono ?_
  rintro e w5 ⟨t, rfl, ht0, ht1, -, hc5, hg5⟩
  have hI5 := hI4.cur hg5 hlo
  have b5 := chg_base b4 hg hg5
  clear ht1
  go_wp2_with fail
  go_ret3
  exact ⟨_, _, _, _, rfl, hI5.read, HSH.out, b5⟩
theorem drawNeighboursOf (a : Option Addr) (cap : Nat) (zs : List Int) (hz : zs.length ≤ 1048576) (w : World) (h : ArgB w a cap zs) : Calls Tryz.prog 21 #[.slice a zs.length cap] w fun e w' =>
    ∃ v zss i, e = .returned (.tuple #[v, .int .i64 i]) ∧ II w' v zss ∧ Sh zss ∧ Below w.heap.size w w' := by
  go_enter Tryz.func21, Tryz.ntmps21
  go_wp2_with fail
  refine (drawBondOf a cap zs hz w h).mono ?_
  rintro e w1 ⟨v, zss, i, j, rfl, hI, hsh, hb⟩
  obtain ⟨g2, o2, c2, rfl, _, _, _⟩ := hI.form
  go_wp2_with fail
  go_ret2
  exact ⟨_, _, _, rfl, hI, hsh, hb⟩
theorem drawSymmetriesOf (a : Option Addr) (cap : Nat) (zs : List Int) (hz : zs.length ≤ 1048576) (w : World) (h : ArgB w a cap zs) : Calls Tryz.prog 17 #[.slice a zs.length cap] w (MatR w) := by
  go_enter Tryz.func17, Tryz.ntmps17
  go_wp2_with fail
  refine (drawNew a cap zs hz w h).mono ?_
  rintro e w1 ⟨g, rfl, hg, hc1, b1⟩
  go_wp2_with fail
  refine (drawAny g a _ _ w1 hc1).mono ?_
  rintro e w2 ⟨v, zss, lo, rfl, hlo, hI2, hsh, hc2, hg2⟩
  obtain ⟨g2, o2, c2, rfl, _, _, _⟩ := hI2.read.form
  go_wp2_with fail
  go_ret
  exact ⟨_, _, rfl, hI2.read, hsh, chg_base b1 hg hg2⟩
def TwoM (w : World) (e : Ending) (w' : World) : Prop := ∃ v zss u yss, e = .returned (.tuple #[v, u]) ∧ II w' v zss ∧ Sh zss ∧ II w' u yss ∧ Sh yss ∧ Below w.heap.size w w'
set_option maxHeartbeats 2000000 in
theorem drawAreIsomorphic (a : Option Addr) (cap : Nat) (zs : List Int) (hz : zs.length ≤ 1048576) (w : World) (h : ArgB w a cap zs) : Calls Tryz.prog 7 #[.slice a zs.length cap] w (TwoM w) := by
  go_enter Tryz.func7, Tryz.ntmps7
  go_wp2_with fail
  refine (drawNew a cap zs hz w h).mono ?_
  rintro e w1 ⟨g, rfl, hg, hc1, b1⟩
  go_wp2_with fail
  refine (drawAny g a _ _ w1 hc1).mono ?_
  rintro e w2 ⟨v, zss, lo, rfl, hlo, hI2, hsh, hc2, hg2⟩
  obtain ⟨g2, o2, c2, rfl, _, _, _⟩ := hI2.read.form
  have b2 := chg_base b1 hg hg2
  have hs1 := hsh.2.1
  have HSH := Lib.hid hsh
  clear hsh h
  go_wp2_with fail
  refine (drawOnce g a _ _ 2 (by omega) (by omega) w2 hc2).mono ?_
  rintro e w3 ⟨b, rfl, hc3, hg3⟩
  have hI3 := hI2.cur hg3 hlo
  have b3 := chg_base b2 hg hg3
  cases b with
  | true =>
    go_wp2_with fail
    refine (drawOrder4 g a _ _ zss.length _ rfl (by omega) w3 hc3).mono ?_
    rintro e w4 ⟨v4, o, lo4, rfl, hlo4, hI4, ho4, hc4, hg4⟩
    obtain ⟨g4, o4, c4, rfl, _, _, _⟩ := hI4.read.form
    have hI24 := hI3.cur hg4 hlo
    have b4 := chg_base b3 hg hg4
    go_wp2_with fail
    refine (specRelabelCartan _ _ zss o (by omega) (by omega) w4 hI24.read hI4.read).mono ?_
    intro e w5 r5
    obtain ⟨v5, rfl, o5, b5⟩ := r5.out
    clear r5
    have hI5 := hI24.keep b5
    have hc5 := hc4.keep b5 hc4.lt
    have b45 := below_trans b4 b5
    cases hk : relOk zss o with
    | true =>
      have HR := Lib.hid (relL_sh hk)
      obtain ⟨G4, cp4, rfl, _, _, _, _⟩ := o5.form0
      clear hk
      go_wp2_with fail
      go_ret2
      exact ⟨_, _, _, _, rfl, hI5.read, HSH.out, o5.read, HR.out, b45⟩
    | false =>
      obtain ⟨G4, cp4, rfl, _, _, _, _⟩ := o5.form0
      clear hk
      go_wp2_with fail
      refine (drawAny g a _ _ w5 hc5).mono ?_
      rintro e w6 ⟨v6, yss, lo6, rfl, hlo6, hI6, hsh6, hc6, hg6⟩
      obtain ⟨g6, o6, c6, rfl, _, _, _⟩ := hI6.read.form
      have hI56 := hI5.cur hg6 hlo
      go_wp2_with fail
      go_ret2
      exact ⟨_, _, _, _, rfl, hI56.read, HSH.out, hI6.read, hsh6, chg_base b45 hg hg6⟩
  | false =>
    go_wp2_with fail
    refine (drawAny g a _ _ w3 hc3).mono ?_
    rintro e w6 ⟨v6, yss, lo6, rfl, hlo6, hI6, hsh6, hc6, hg6⟩
    obtain ⟨g6, o6, c6, rfl, _, _, _⟩ := hI6.read.form
    have hI56 := hI3.cur hg6 hlo
    go_wp2_with fail
    go_ret2
    exact ⟨_, _, _, _, rfl, hI56.read, HSH.out, hI6.read, hsh6, chg_base b3 hg hg6⟩
end Go.Proofs.YtaikjkcbgniplaaGreatDoor
