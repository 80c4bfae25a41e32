/- The reference's drawing functions of diagrams and finite types: what they return is read. -/
import Derived.Test.YtaikjkcbgniplaaGreatDoorDrawM
import Derived.Test.YtaikjkcbgniplaaGreatDoorL3
import Derived.Test.YtaikjkcbgniplaaGreatDoorRel
namespace Go.Proofs.YtaikjkcbgniplaaGreatDoor
open Go.RowKit
set_option linter.unusedVariables false

theorem lvl_some : ((List.range 5).all fun n => decide (0 < (lvl n n).length) && decide ((lvl n n).length ≤ 24) && (lvl n n).all fun o => decide (o.length ≤ 4)) = true := by decide +kernel
theorem lvl_some' {n : Nat} (h : n ≤ 4) : 0 < (lvl n n).length ∧ (lvl n n).length ≤ 24 ∧ ∀ o ∈ lvl n n, o.length ≤ 4 := by
  have := List.all_eq_true.1 lvl_some n (List.mem_range.2 (by omega))
  rw [Bool.and_eq_true, Bool.and_eq_true, decide_eq_true_iff, decide_eq_true_iff, List.all_eq_true] at this
  exact ⟨this.1.1, this.1.2, fun o ho => of_decide_eq_true (this.2 o ho)⟩
set_option maxHeartbeats 2000000 in
set_option maxRecDepth 100000 in
theorem drawOrder4 (g : Nat) (a : Option Addr) (L c : Nat) (n : Nat) (m : Nat) (hm : m = min n 4) (hn : n ≤ 1000) (w : World) (h : Cur w g a L c) : Calls Tryz.prog 75 #[.pointer (some ⟨g, 0, none⟩), .int .i64 n] w fun e w' =>
    ∃ v o lo, e = .returned v ∧ g < lo ∧ IB lo w' v o ∧ o.length ≤ 4 ∧ Cur w' g a L c ∧ Chg (· = g) w w' := by
  have hlt := h.lt
  obtain ⟨l1, l2, l3⟩ := lvl_some' (n := m) (by omega)
  have H3 := Lib.hid l3
  have e1 : min (n : Int) 4 = (m : Int) := by omega
  obtain ⟨T, hT⟩ : ∃ T, lvl m m = T := ⟨_, rfl⟩
  have HO := Lib.hid (specOrders m (by omega))
  rw [hT] at l1 l2 H3 HO
  clear hT l3 hm
  go_enter Tryz.func75, Tryz.ntmps75
  go_wp2_with fail
  refine (HO.out w).mono ?_
  intro e w1 r1
  obtain ⟨v1, rfl, o1, b1⟩ := r1.out
  clear r1
  obtain ⟨G, vs, hG1, hG2, hOv, hvl, HR0, HP0⟩ := own2_parts o1 hlt
  obtain ⟨cv, rfl, hcv1, hcv2, hcells, hfr⟩ := hOv.form
  rw [hvl] at hOv hcv1 o1
  have HP := Lib.hid HP0
  have HC := Lib.hid hcells
  have hc1 := h.keep b1 hlt
  have s1 := b1.size
  clear HR0 HP0 hcells hfr hOv o1 h
  rw [hvl]
  clear hvl
  have hbn := below_new w1 (.cells #[] 3)
  have hlt1 : g < w1.heap.size := by omega
  go_wp2_with fail
  refine (drawBelow g a L c _ (by omega) (by omega) _ (hc1.keep hbn hlt1)).mono ?_
  rintro e w2 ⟨j, rfl, hj0, hj1, -, hc2, hg2⟩
  obtain ⟨q, rfl⟩ := Int.eq_ofNat_of_zero_le hj0
  have hq : q < T.length := by have := hj1 (by omega); omega
  clear hj0 hj1
  obtain ⟨gp, cp, hvp, hne, hlp, hcp1, hcp2, hcl⟩ := HP.out q hq
  have hz4 : T[q].length ≤ 4 := H3.out _ (List.getElem_mem hq)
  obtain ⟨z, hz⟩ : ∃ z, T[q] = z := ⟨_, rfl⟩
  simp only [hz] at hvp hcp1 hcl hz4
  have hcg : Chg (· = g) w1 w2 := (Chg.of_below hbn).trans hg2
  have y1 : w2.cell? ⟨G, q, none⟩ = some (.slice (some ⟨gp, 0, none⟩) z.length cp) := cell_cur hcg (show G ≠ g by omega) (HC.out q _ hvp)
  have yz : ∀ j (hj : j < z.length), w2.cell? ⟨gp, 0 + j, none⟩ = some (.int .i64 z[j]) := by
    intro j hj
    rw [Nat.zero_add]
    exact cell_cur hcg (show gp ≠ g by omega) (hcl j hj)
  have HYZ := Lib.hid yz
  have hrow0 : RowV w2 w1.heap.size 3 (.slice (some ⟨w1.heap.size, 0, none⟩) 0 0) 0 [] := (rowV_empty w1 3).chgB hg2 hlt1
  have hsz2 := hcg.size
  clear hz yz hcl hvp
  go_wp2_with (at_builtin; refine wpList_appendV elemInt _ rfl _ _ rfl w1.heap.size (.slice (some ⟨w1.heap.size, 0, none⟩) 0 0) 0 [] rfl hrow0 (ivs z) gp 0 z.length cp rfl (ivs_length z) (cells_after HYZ.out (Below.refl _ _)) (ivs_one z) (by omega) hsz2 ?_; intro gA capA wA hrowA hgrowA hbA)
  go_ret
  have hrA : RowV wA w1.heap.size 3 (.slice (some ⟨gA, 0, none⟩) z.length capA) z.length (ivs z) := hrowA.cast (by rw [Nat.zero_add]) (Nat.zero_add _) (List.nil_append _)
  obtain ⟨gx, hgx, hownA⟩ := hrA.own
  exact ⟨_, z, w1.heap.size, rfl, hlt1, OwnV.readB hownA hgx, hz4, hc2.keep hbA hlt1, chg_below ((Chg.of_below b1).trans hcg) (hbA.mono (by omega))⟩
/-- A matrix was drawn. -/
def MatR (w : World) (e : Ending) (w' : World) : Prop := ∃ v zss, e = .returned v ∧ II w' v zss ∧ Sh zss ∧ Below w.heap.size w w'
theorem relL_sh {c : List (List Int)} {u : List Int} (h : relOk c u = true) : Sh (relL c u) := by
  have hl : (relL c u).length = u.length := by rw [relL_t h]; simp [subS]
  rw [relOk, Bool.and_eq_true, Bool.and_eq_true, decide_eq_true_iff] at h
  obtain ⟨h1, h2, -, -⟩ := (isC_iff c).1 h.1.1
  refine ⟨by omega, by omega, fun r hr => ?_⟩
  rw [relL, if_pos (by rw [relOk, h.1.1, h.1.2, h.2]; simp), subS, List.mem_map] at hr
  obtain ⟨x, _, rfl⟩ := hr
  simp [subR]; omega
set_option maxHeartbeats 2000000 in
theorem drawRelabelled (a : Option Addr) (cap : Nat) (zs : List Int) (hz : zs.length ≤ 1048576) (w : World) (h : ArgB w a cap zs) : Calls Tryz.prog 90 #[.slice a zs.length cap] w (MatR w) := by
  go_enter Tryz.func90, Tryz.ntmps90
  go_wp2_with fail
  refine (drawNew a cap zs hz w h).mono ?_
  rintro e w1 ⟨g, rfl, hg, hc1, b1⟩
  go_wp2_with fail
  refine (drawAny g a _ _ w1 hc1).mono ?_
  rintro e w2 ⟨v, zss, lo, rfl, hlo, hI2, hsh, hc2, hg2⟩
  obtain ⟨g2, o2, c2, rfl, _, _, _⟩ := hI2.read.form
  have b2 := chg_base b1 hg hg2
  have hs1 := hsh.2.1
  have HSH := Lib.hid hsh
  clear hsh h
  go_wp2_with fail
  refine (drawOrder4 g a _ _ zss.length _ rfl (by omega) w2 hc2).mono ?_
  rintro e w3 ⟨v3, o, lo3, rfl, hlo3, hI3, ho4, hc3, hg3⟩
  obtain ⟨g3, o3, c3, rfl, _, _, _⟩ := hI3.read.form
  have hI23 := hI2.cur hg3 hlo
  have b3 := chg_base b2 hg hg3
  go_wp2_with fail
  refine (specRelabelCartan _ _ zss o (by omega) (by omega) w3 hI23.read hI3.read).mono ?_
  intro e w4 r4
  obtain ⟨v4, rfl, o4, b4⟩ := r4.out
  clear r4
  have hI4 := hI23.keep b4
  cases hk : relOk zss o with
  | true =>
    have HR := Lib.hid (relL_sh hk)
    obtain ⟨G4, cp4, rfl, _, _, _, _⟩ := o4.form0
    clear hk
    go_wp2_with fail
    go_ret
    exact ⟨_, _, rfl, o4.read, HR.out, below_trans b3 b4⟩
  | false =>
    obtain ⟨G4, cp4, rfl, _, _, _, _⟩ := o4.form0
    clear hk
    go_wp2_with fail
    go_ret
    exact ⟨_, _, rfl, hI4.read, HSH.out, below_trans b3 b4⟩
theorem drawWitnessOf (a : Option Addr) (cap : Nat) (zs : List Int) (hz : zs.length ≤ 1048576) (w : World) (h : ArgB w a cap zs) : Calls Tryz.prog 34 #[.slice a zs.length cap] w (MatR w) := by
  go_enter Tryz.func34, Tryz.ntmps34
  go_wp2_with fail
  refine (drawRelabelled a cap zs hz w h).mono ?_
  rintro e w1 ⟨v, zss, rfl, hI, hsh, hb⟩
  obtain ⟨g2, o2, c2, rfl, _, _, _⟩ := hI.form
  go_wp2_with fail
  go_ret
  exact ⟨_, _, rfl, hI, hsh, hb⟩
theorem drawNameOfPart (a : Option Addr) (cap : Nat) (zs : List Int) (hz : zs.length ≤ 1048576) (w : World) (h : ArgB w a cap zs) : Calls Tryz.prog 47 #[.slice a zs.length cap] w (MatR w) := by
  go_enter Tryz.func47, Tryz.ntmps47
  go_wp2_with fail
  refine (drawRelabelled a cap zs hz w h).mono ?_
  rintro e w1 ⟨v, zss, rfl, hI, hsh, hb⟩
  obtain ⟨g2, o2, c2, rfl, _, _, _⟩ := hI.form
  go_wp2_with fail
  go_ret
  exact ⟨_, _, rfl, hI, hsh, hb⟩
def szT1 : List (List UInt8) := [[65, 49], [65, 50], [66, 51], [68, 52], [70, 52], [71, 50], [65, 49, 126], [63], [], [67, 52]]
def szT2 : List (List UInt8) := [[65, 49], [66, 50], [65, 50]]
theorem szT_len : (∀ x ∈ szT1, x.length ≤ 3) ∧ ∀ x ∈ szT2, x.length ≤ 3 := by decide
set_option maxHeartbeats 2000000 in
set_option maxRecDepth 100000 in
theorem drawSizeByName (a : Option Addr) (cap : Nat) (zs : List Int) (hz : zs.length ≤ 1048576) (w : World) (h : ArgB w a cap zs) : Calls Tryz.prog 48 #[.slice a zs.length cap] w fun e w' => ∃ s : ByteArray, e = .returned (.string s) ∧ s.size ≤ 100 ∧ Below w.heap.size w w' := by
  go_enter Tryz.func48, Tryz.ntmps48
  go_wp2_with fail
  refine (drawNew a cap zs hz w h).mono ?_
  rintro e w1 ⟨g, rfl, hg, hc1, b1⟩
  have HT := Lib.hid (own_litS w1 (szT1.map str).toArray szT1 (by simp [strs]) (by decide))
  have l1 := hc1.lt
  clear h
  go_wp2_with fail
  refine (drawPick g a _ _ w1.heap.size _ szT1 (by decide) (by decide) _ (hc1.keep (below_new w1 _) hc1.lt) HT.out (by omega)).mono ?_
  rintro e w2 ⟨x, rfl, hx, hc2, hg2⟩
  have b2 : Below w.heap.size w w2 := chg_base b1 hg ((Chg.of_below (below_new w1 _)).trans hg2)
  have hxl := szT_len.1 x hx
  clear hx hg2 HT
  go_wp2_with fail
  refine (drawBelow g a _ _ 4 (by omega) (by omega) w2 hc2).mono ?_
  rintro e w3 ⟨n, rfl, hn0, hn1, -, hc3, hg3⟩
  obtain ⟨m, rfl⟩ := Int.eq_ofNat_of_zero_le hn0
  have hm : m < 4 := by have := hn1 (by omega); omega
  have b3 := chg_base b2 hg hg3
  clear hn1 hn0 hg3 b2 b1 hc1 hc2
  go_wp2_with fail
  go_loopw [4, 5] (fun v i wr => ∃ (k : Nat) (l : List UInt8), k < 4 ∧ l.length + 4 * k ≤ 15 ∧ i = .int .i64 k ∧ v = .string ⟨l.toArray⟩ ∧ Cur wr g a zs.length cap ∧ Below w.heap.size w wr) (fun _ i _ => (intOf i).toNat)
  case atStart => exact ⟨m, x, hm, by omega, rfl, rfl, hc3, b3⟩
  case round =>
    obtain ⟨k, l, hk, hl, rfl, rfl, hcur, hbel⟩ := hrel
    by_cases hlt : 0 < k
    · have HT := Lib.hid (own_litS wr (szT2.map str).toArray szT2 (by simp [strs]) (by decide))
      have l2 := hcur.lt
      go_wp2_with fail
      refine (drawPick g a _ _ wr.heap.size _ szT2 (by decide) (by decide) _ (hcur.keep (below_new wr _) hcur.lt) HT.out (by omega)).mono ?_
      rintro e w4 ⟨y, rfl, hy, hc4, hg4⟩
      have b4 : Below w.heap.size w w4 := chg_base hbel hg ((Chg.of_below (below_new wr _)).trans hg4)
      have hyl := szT_len.2 y hy
      clear hy hg4 HT
      have HE := Lib.hid (show ((⟨l.toArray⟩ ++ ⟨#[120]⟩ : ByteArray) ++ ⟨y.toArray⟩) = ⟨(l ++ [120] ++ y).toArray⟩ by rw [show (⟨#[120]⟩ : ByteArray) = ⟨[120].toArray⟩ from rfl, bytes_append, bytes_append])
      have hsz : (⟨l.toArray⟩ ++ ⟨#[120]⟩ : ByteArray).size ≤ 100 := by
        rw [show (⟨#[120]⟩ : ByteArray) = ⟨[120].toArray⟩ from rfl, bytes_append]
        show (l ++ [120]).length ≤ 100
        simp; omega
      go_wp2_with fail
      go_roundw
      case rel => exact ⟨k - 1, l ++ [120] ++ y, by omega, by simp; omega, by go_num, by rw [HE.out], hc4, b4⟩
      case measure => simp [intOf]; omega
    · obtain rfl : k = 0 := by omega
      go_wp2_with fail
      go_ret
      exact ⟨_, rfl, (show l.length ≤ 100 by omega), hbel⟩
end Go.Proofs.YtaikjkcbgniplaaGreatDoor
