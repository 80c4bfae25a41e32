/- ParseCartan of the program and of the reference. -/
import Derived.Test.YtaikjkcbgniplaaGreatDoorNum
import Derived.Test.YtaikjkcbgniplaaGreatDoorFmtC
import Derived.Test.YtaikjkcbgniplaaGreatDoorRw
import Derived.Test.YtaikjkcbgniplaaGreatDoorMat
namespace Go.Proofs.YtaikjkcbgniplaaGreatDoor
open Go.RowKit
set_option linter.unusedVariables false

def csOf (d : Int) (l : List UInt8) : List (List Int) := (cutL 59 l).map (numsOf d)
def pcOk (l : List UInt8) : Bool := isC (csOf 9 l) && decide (fmtS (csOf 9 l) = l)
def pcL (l : List UInt8) : List (List Int) := if pcOk l then csOf 9 l else []
theorem csOf_len (d : Int) (l : List UInt8) : (csOf d l).length = (cutL 59 l).length := by simp [csOf]
theorem pc_f {l : List UInt8} (h : pcOk l = false) : pcOk l = false ∧ pcL l = [] := ⟨h, by simp [pcL, h]⟩
theorem pc_f1 {l : List UInt8} (h : isC (csOf 9 l) = false) : pcOk l = false ∧ pcL l = [] := pc_f (by simp [pcOk, h])
theorem pc_f2 {l : List UInt8} (h : fmtC (csOf 9 l) ≠ l) : pcOk l = false ∧ pcL l = [] := by
  refine pc_f ?_
  cases hC : isC (csOf 9 l) with
  | false => simp [pcOk, hC]
  | true =>
    have e : fmtC (csOf 9 l) = fmtS (csOf 9 l) := by simp [fmtC, hC]
    rw [e] at h
    simp [pcOk, h]
theorem pc_t {l : List UInt8} (h0 : l ≠ []) (h : fmtC (csOf 9 l) = l) : pcOk l = true ∧ pcL l = csOf 9 l := by
  have hC : isC (csOf 9 l) = true := by
    cases hC : isC (csOf 9 l) with
    | true => rfl
    | false =>
      have e : fmtC (csOf 9 l) = [] := by simp [fmtC, hC]
      rw [e] at h; exact absurd h.symm h0
  have e : fmtC (csOf 9 l) = fmtS (csOf 9 l) := by simp [fmtC, hC]
  rw [e] at h
  have hk : pcOk l = true := by simp [pcOk, hC, h]
  exact ⟨hk, by simp [pcL, hk]⟩
theorem pc_nil : pcOk [] = false ∧ pcL [] = [] := by
  refine pc_f1 ?_
  have e : csOf 9 [] = [[9]] := by
    have h : piOk [] = false := pi_none rfl
    simp [csOf, cutL, cutGo, numsOf, num_f h]
  rw [e]; decide
theorem isC_small {c : List (List Int)} (h : isC c = true) (k : Nat) (hk : k < c.length) (x : Int) (hx : x ∈ c[k]) : x ≤ 2 := by
  obtain ⟨j, hj, rfl⟩ := List.mem_iff_getElem.1 hx
  have hj' : j < c.length := by rw [isC_sq h k hk] at hj; exact hj
  have h2 := ((isC_iff c).1 h).2.2.2 k hk j hj'
  rw [OkE, ent_get c k j hk hj] at h2
  split at h2 <;> omega
theorem pc_row {l : List UInt8} (k : Nat) (hk : k < (cutL 59 l).length) (h : allOk (cutL 59 l)[k] = false) : pcOk l = false ∧ pcL l = [] := by
  refine pc_f1 ?_
  cases hC : isC (csOf 9 l) with
  | false => rfl
  | true =>
    exfalso
    have : allOk (cutL 59 l)[k] = true := allOk_yes (fun j hj => by
      cases hp : piOk (cutL 44 (cutL 59 l)[k])[j] with
      | true => rfl
      | false =>
        have hk2 : k < (csOf 9 l).length := by rw [csOf_len]; exact hk
        have := isC_small hC k hk2 (num 9 (cutL 44 (cutL 59 l)[k])[j]) (by simp only [csOf, List.getElem_map, numsOf]; exact List.mem_map.2 ⟨_, List.getElem_mem hj, rfl⟩)
        rw [num_f hp] at this
        omega)
    rw [this] at h; cases h
theorem csOf_same {l : List UInt8} (h : ∀ k (hk : k < (cutL 59 l).length), allOk (cutL 59 l)[k] = true) (d e : Int) : csOf d l = csOf e l := by
  apply List.map_congr_left
  intro p hp
  obtain ⟨k, hk, rfl⟩ := List.mem_iff_getElem.1 hp
  exact numsOf_same (h k hk) d e
theorem ints_leP (l : List (List Int)) (k : Nat) (h : ∀ o ∈ l, o.length ≤ k) : ints l ≤ l.length * k := by
  induction l with
  | nil => simp [ints]
  | cons a l ih =>
    have h1 := h a (by simp)
    have h2 := ih (fun o ho => h o (List.mem_cons_of_mem _ ho))
    rw [ints_cons, List.length_cons, Nat.succ_mul]
    omega
theorem pcL_total (l : List UInt8) : total (pcL l) ≤ 1048576 := by
  unfold pcL
  split
  · next h =>
    have hC : isC (csOf 9 l) = true := by
      cases hC : isC (csOf 9 l) with
      | true => rfl
      | false => simp [pcOk, hC] at h
    have h4 := ((isC_iff _).1 hC).2.1
    have h5 := ints_leP (csOf 9 l) 4 (fun o ho => by rw [((isC_iff _).1 hC).2.2.1 o ho]; exact h4)
    unfold total
    omega
  · simp [total, ints]
/-- The facts of the rows that the walks want. -/
theorem rowParts (d : Int) (l : List UInt8) : ∃ (ls : List (List UInt8)) (cs : List (List Int)), cutL 59 l = ls ∧ csOf d l = cs ∧ ls.length ≤ l.length + 1 ∧ Hid (∀ k (hk : k < ls.length), ls[k].length ≤ l.length) ∧
    Hid (∀ k (hk : k < ls.length), cs.take (k + 1) = cs.take k ++ [numsOf d ls[k]]) ∧ Hid (cs.take ls.length = cs) ∧ Hid (cs.length = ls.length) ∧
    Hid (∀ k (hk : k < ls.length), allOk ls[k] = false → pcOk l = false ∧ pcL l = []) ∧ Hid ((∀ k (hk : k < ls.length), allOk ls[k] = true) → csOf 9 l = cs) :=
  ⟨_, _, rfl, rfl, cutL_len 59 l, fun k hk => cutL_piece 59 l k hk, fun k hk => by rw [List.take_succ_eq_append_getElem (by rw [csOf_len]; exact hk)]; simp [csOf], List.take_of_length_le (by rw [csOf_len]; exact Nat.le_refl _), csOf_len d l,
    fun k hk h => pc_row k hk h, fun h => csOf_same h 9 d⟩
/-- A row of another kind of value stays as it is while a row grows. -/
theorem keepS {w w' : World} {B n gp : Nat} {e e' : TypeId} {x vp : Value} {xs ys : List Value} (hrow : RowV w B e x n xs) (hgrow : w.grownBy w' x.ownBlock) (hp : OwnV w e' gp vp ys) (hne : e ≠ e') : OwnV w' e' gp vp ys := by
  obtain ⟨G, _, hO⟩ := hrow.own
  rw [hO.block] at hgrow
  exact hp.chg (chg_grown hgrow) (fun e2 => own_ne hO hp hne e2.symm)
theorem OwnV.at {w : World} {g n c : Nat} {ls : List (List UInt8)} (h : OwnV w 9 g (.slice (some ⟨g, 0, none⟩) n c) (strs ls)) (i : Nat) (hi : i < ls.length) : w.cell? ⟨g, i, none⟩ = some (.string ⟨ls[i].toArray⟩) := by
  obtain ⟨cap, hv, _, _, hc, _⟩ := h.form
  exact hc i (str ls[i]) (by simp [strs, hi])
theorem own2_new (w : World) {B : Nat} (hB : B ≤ w.heap.size) : Own2 (w.alloc (.cells #[] 27)) B (w.alloc (.cells #[] 27)).heap.size (.slice (some ⟨w.heap.size, 0, none⟩) 0 0) [] := by
  obtain ⟨G, gs, vs, h1, h2, h3, h4⟩ := (rowsV_empty w).own2 (by simp)
  exact ⟨G, gs, vs, by omega, h2, fun g hg => by have := h3 g hg; omega, h4⟩
theorem own2_up {w : World} {lo hi hi' : Nat} {v : Value} {zss : List (List Int)} (h : Own2 w lo hi v zss) (hh : hi ≤ hi') : Own2 w lo hi' v zss := by
  obtain ⟨G, gs, vs, h1, h2, h3, h4⟩ := h
  exact ⟨G, gs, vs, h1, by omega, fun g hg => by have := h3 g hg; omega, h4⟩
theorem zz_yes {s : ByteArray} (h : s.size = 0) : (s.toList == []) = true := by
  rw [beq_iff_eq, ByteArray.toList_eq]
  exact List.eq_nil_of_length_eq_zero (by simpa using h)
theorem zz_no {s : ByteArray} (h : s.size ≠ 0) : (s.toList == []) = false := by
  rw [beq_eq_false_iff_ne, ByteArray.toList_eq]
  intro e
  apply h
  have : s.data.toList.length = 0 := by rw [e]; rfl
  simpa using this
set_option maxHeartbeats 2000000 in
theorem specParseCartan (s : ByteArray) (hs : s.size ≤ 1048576) (w : World) :
    Calls Tryz.prog 59 #[.string s] w (RetRowsB w (pcL s.data.toList) (pcOk s.data.toList)) := by
  have hl : s.data.toList.length = s.size := by simp
  have HS := Lib.hid (specCut s 59 hs (w.alloc (.cells #[] 27)))
  obtain ⟨l, hlw⟩ : ∃ l, s.data.toList = l := ⟨_, rfl⟩
  rw [hlw] at HS hl ⊢
  have HPT := Lib.hid (fun h0 h => @pc_t l h0 h)
  have HPG := Lib.hid (fun h => @pc_f2 l h)
  obtain ⟨ls, cs, hc1, hu, hle, HP, HA, HE, HN, _, _⟩ := rowParts 9 l
  rw [hc1] at HS
  rw [hu] at HPT HPG
  rw [hl] at hle HP
  clear hc1 hu
  have HLW := Lib.hid hlw
  clear hlw
  go_enter Tryz.func59, Tryz.ntmps59
  go_wp2_with fail
  refine HS.out.mono ?_
  rintro e w1 ⟨v, rfl, hrw, hb1⟩
  obtain ⟨gp, hgp, hown⟩ := hrw.own
  obtain ⟨cap, hv, hcap1, hcap2, _, _⟩ := hown.form
  have hsl : (strs ls).length = ls.length := by simp [strs]
  rw [hsl] at hv hcap1
  subst hv
  have hrow0 := (rowsV_empty w).keep hb1
  have hb2 := ((Below.refl w.heap.size w).alloc (Nat.le_refl _) (.cells #[] 27)).trans (hb1.mono (by simp))
  have hs1 := hb1.size
  clear hrw hsl hb1
  go_wp2_with fail
  go_loopw [4, 6] (fun v i wr => ∃ k hi : Nat, k ≤ ls.length ∧ i = .int .i64 k ∧ RowsV wr w.heap.size hi v (cs.take k) ∧ hi ≤ wr.heap.size ∧ Below w.heap.size w wr ∧ OwnV wr 9 gp (.slice (some ⟨gp, 0, none⟩) ls.length cap) (strs ls)) (fun _ i _ => ls.length - (intOf i).toNat)
  case atStart => exact ⟨0, w.heap.size, by omega, rfl, hrow0, by simp at hs1; omega, hb2, hown⟩
  case round =>
    clear hrow0 hb2 hown hs1
    obtain ⟨k, hi, hk, rfl, hR, hhi, hbel, hPW⟩ := hrel
    obtain ⟨wo, rfl⟩ : ∃ wo : World, wo = wr := ⟨_, rfl⟩
    by_cases hlt' : k < ls.length
    · have x1 := cells_keep ((Below.refl wo.heap.size wo).alloc (Nat.le_refl _) (.cells #[] 3)) (hPW.at k hlt')
      have hpl := HP.out k hlt'
      have HAk := Lib.hid (HA.out k hlt')
      obtain ⟨p, hp⟩ : ∃ p, ls[k] = p := ⟨_, rfl⟩
      rw [hp] at x1 hpl HAk
      have HQ := Lib.hid (specCut ⟨p.toArray⟩ 44 (by show p.length ≤ 1048576; omega) (wo.alloc (.cells #[] 3)))
      have hpd : (⟨p.toArray⟩ : ByteArray).data.toList = p := rfl
      rw [hpd] at HQ
      have hk0 : (0 : Int) ≤ (k : Int) := by omega
      have hk1 : (k : Int) < (ls.length : Int) := by omega
      have hgl := hPW.lt
      obtain ⟨ls2, us, ok, hc2, hu2, hok, hle2, HP2, HA2, _, _, _, HE2, HN2⟩ := numParts 9 p
      rw [hc2] at HQ
      rw [hu2] at HAk
      clear hc2 hu2 hok hpd hp
      obtain ⟨x, hx⟩ : ∃ x : ByteArray, (⟨p.toArray⟩ : ByteArray) = x := ⟨_, rfl⟩
      rw [hx] at HQ x1
      clear hx
      have hsz := hbel.size
      go_wp2_with fail
      refine HQ.out.mono ?_
      rintro e w2 ⟨v2, rfl, hrw2, hb3⟩
      obtain ⟨g2, hg2, hown2⟩ := hrw2.own
      obtain ⟨cap2, hv2, hcb1, hcb2, _, _⟩ := hown2.form
      have hsl2 : (strs ls2).length = ls2.length := by simp [strs]
      rw [hsl2] at hv2 hcb1
      subst hv2
      have hrow0 := (rowV_empty wo 3).keep hb3
      have hb4 := ((Below.refl wo.heap.size wo).alloc (Nat.le_refl _) (.cells #[] 3)).trans (hb3.mono (by simp))
      clear hrw2 hsl2 hb3
      have HRR := Lib.hid hR
      have HPP := Lib.hid hPW
      clear hR hPW
      go_wp2_with fail
      go_loopw [7, 9] (fun v i wr => ∃ j : Nat, j ≤ ls2.length ∧ i = .int .i64 j ∧ RowV wr wo.heap.size 3 v j (ivs (us.take j)) ∧ Below wo.heap.size wo wr ∧ OwnV wr 9 g2 (.slice (some ⟨g2, 0, none⟩) ls2.length cap2) (strs ls2)) (fun _ i _ => ls2.length - (intOf i).toNat)
      case atStart => exact ⟨0, by omega, rfl, hrow0, hb4, hown2⟩
      case round =>
        clear hrow0 hb4 hown2 x1
        obtain ⟨j, hj, rfl, hrow, hbq, hown2⟩ := hrel
        by_cases hlj : j < ls2.length
        · have x2 := hown2.at j hlj
          have hpl2 := HP2.out j hlj
          have HAj := Lib.hid (HA2.out j hlj)
          obtain ⟨q, hq⟩ : ∃ q, ls2[j] = q := ⟨_, rfl⟩
          rw [hq] at x2 hpl2 HAj
          have HR := Lib.hid (specNum ⟨q.toArray⟩ 9 (by show q.length ≤ 1048576; omega) wr)
          have hqd : (⟨q.toArray⟩ : ByteArray).data.toList = q := rfl
          rw [hqd] at HR
          have hj0 : (0 : Int) ≤ (j : Int) := by omega
          have hj1 : (j : Int) < (ls2.length : Int) := by omega
          obtain ⟨x, hx⟩ : ∃ x : ByteArray, (⟨q.toArray⟩ : ByteArray) = x := ⟨_, rfl⟩
          rw [hx] at HR x2
          obtain ⟨y, hy⟩ : ∃ y, num 9 q = y := ⟨_, rfl⟩
          rw [hy] at HR HAj
          clear hx hqd hq hy
          go_wp2_with fail
          refine HR.out.mono ?_
          rintro e w3 ⟨rfl, hb5⟩
          have hrow2 := hrow.keep hb5
          have hown3 := hown2.keep hb5
          have hbel2 := below_trans hbq hb5
          have hs := hbel2.size
          clear hrow hown2 hb5
          go_wp2_with (at_builtin; refine wpList_pushV elemInt _ rfl _ _ rfl wo.heap.size u7 j _ rfl (hrow2.alloc _) (.int .i64 y) w3.heap.size rfl (cell_new1 _ _ _) rfl (by omega) (by simp; omega) ?_; intro gA capA wA hrowA hgrowA hbA)
          have hownA := keepS (hrow2.alloc _) hgrowA (hown3.keep (below_new _ _)) (by decide)
          go_roundw
          case rel => exact ⟨j + 1, by omega, by go_num, by rw [HAj.out]; exact hrowA, (hbel2.alloc hs _).trans hbA, hownA⟩
          case measure => simp [intOf]; omega
        · obtain rfl : j = ls2.length := by omega
          rw [HE2.out] at hrow
          obtain ⟨g1, hg1, hown⟩ := hrow.own
          obtain ⟨cy, hy, _, _, _, _⟩ := hown.form
          rw [ivs_length] at hy
          subst hy
          have hR2 := HRR.out.keep hbq
          obtain ⟨gs, vs, q1, q2, q3, q4⟩ := hR2
          have hbel2 := below_trans hbel hbq
          have hs1 := hbq.size
          have hs2 := hbel2.size
          have HK := Lib.hid (show (cs.take k).length = k by rw [List.length_take, HN.out]; omega)
          have q1' : RowV wr w.heap.size 27 u4 k vs := q1.cast rfl HK.out rfl
          have HPS := Lib.hid (fun (w2 : World) (x' : Value) hgrow (hrow : RowV w2 w.heap.size 27 x' (k + 1) (vs ++ [_])) => rowsV_push (w1 := w2) (x' := x') q1 q2 q3 q4 hown (by omega) (by omega) hgrow (hrow.cast rfl (by rw [HK.out]) rfl))
          have hPW2 := HPP.out.keep hbq
          clear q1 q2 q3 q4 hrow hown2
          go_wp2_with (at_builtin; refine wpList_pushV elemRow _ rfl _ _ rfl w.heap.size u4 k _ rfl (q1'.alloc _) (.slice (some ⟨g1, 0, none⟩) us.length cy) wr.heap.size rfl (cell_new1 _ _ _) rfl (by omega) (by simp; omega) ?_; intro gA capA wA hrowA hgrowA hbA)
          have hPA := keepS (q1'.alloc _) hgrowA (hPW2.keep (below_new _ _)) (by decide)
          go_roundw
          case rel => exact ⟨k + 1, wA.heap.size, by omega, by go_num, by rw [HAk.out]; exact HPS.out _ _ hgrowA hrowA, Nat.le_refl _, (hbel2.alloc hs2 _).trans hbA, hPA⟩
          case measure => simp [intOf]; omega
    · obtain rfl : k = ls.length := by omega
      rw [HE.out] at hR
      have hO := hR.own2 hhi
      have hsz := hbel.size
      by_cases h0 : s.size = 0
      · have HO := Lib.hid (show pcOk l = false ∧ pcL l = [] by
          have : l = [] := List.eq_nil_of_length_eq_zero (by rw [hl]; exact h0)
          subst this; exact pc_nil)
        have dz := zz_yes h0
        have dz2 : s.toList.isEmpty = true := by simpa using dz
        clear hR hPW HPT HPG
        go_wp2_with fail
        go_ret2
        exact ⟨_, by rw [HO.out.1]; rfl, by rw [HO.out.2]; exact own2_new wo hsz, hbel.alloc hsz _⟩
      · have dz := zz_no h0
        have dz2 : s.toList.isEmpty = false := by simpa using dz
        have HQ := Lib.hid (specFormatCartan _ cs (by rw [HN.out]; omega) _ hO.read)
        by_cases hJ : fmtC cs = l
        · have HO := Lib.hid (HPT.out (by intro e; rw [e] at hl; simp at hl; omega) hJ)
          have HJ : (⟨(fmtC cs).toArray⟩ : ByteArray) = s := bytes_ne.2 (hJ.trans HLW.out.symm)
          rw [HJ] at HQ
          have HOO := Lib.hid hO
          clear hR hPW HPT HPG hJ HJ hO
          go_wp2_with fail
          refine HQ.out.mono ?_
          rintro e w2 ⟨rfl, hb2⟩
          have hO2 := HOO.out.keep hb2
          have hz2 := hb2.size
          go_wp2_with fail
          go_ret2
          exact ⟨u4, by rw [HO.out.1]; rfl, by rw [HO.out.2]; exact own2_up hO2 hz2, below_trans hbel hb2⟩
        · have HO := Lib.hid (HPG.out hJ)
          obtain ⟨X, hX⟩ : ∃ X, (⟨(fmtC cs).toArray⟩ : ByteArray) = X := ⟨_, rfl⟩
          have hne : (X.toList == s.toList) = false := ne_toList (fun e => hJ ((bytes_ne.1 (hX.trans e)).trans HLW.out))
          rw [hX] at HQ
          clear hR hPW HPT HPG hJ hX hO
          go_wp2_with fail
          refine HQ.out.mono ?_
          rintro e w2 ⟨rfl, hb2⟩
          have hb := below_trans hbel hb2
          have hz2 := hb.size
          go_wp2_with fail
          go_ret2
          exact ⟨_, by rw [HO.out.1]; rfl, by rw [HO.out.2]; exact own2_new w2 hz2, hb.alloc hz2 _⟩
theorem splitOwn (s : ByteArray) (c : UInt8) (w : World) (h : MaxIs w) (hs : s.size ≤ 1048576) :
    Calls Tryz.prog 94 #[.string s, .string ⟨#[c]⟩] w fun e w' => e = .returned (.slice (some ⟨w.heap.size, 0, none⟩) (cutL c s.data.toList).length (cutL c s.data.toList).length) ∧
      OwnV w' 9 w.heap.size (.slice (some ⟨w.heap.size, 0, none⟩) (cutL c s.data.toList).length (cutL c s.data.toList).length) (strs (cutL c s.data.toList)) ∧ Below w.heap.size w w' := by
  obtain ⟨m, hm⟩ := h
  refine (Any.strings_Split { Tryz.laysM146 with } Tryz.laysM146.i9 s ⟨#[c]⟩ m w (by omega) hm (Nat.le_refl _)).mono ?_
  rintro e w' ⟨rfl, rfl⟩
  rw [cut_count, cut_split]
  have hl : (cutL c s.data.toList).length ≤ maxLen := by
    have := cutL_len c s.data.toList
    have e : s.data.toList.length = s.size := by simp
    unfold maxLen
    omega
  exact ⟨rfl, ⟨_, _, by simp [strs], heap_alloc_new w _, by simp [strs], hl, by simp [strs], List.take_of_length_le (Nat.le_refl _)⟩, (Below.refl _ _).alloc (Nat.le_refl _) _⟩
set_option maxHeartbeats 2000000 in
theorem implParseCartan (s : ByteArray) (hs : s.size ≤ 1048576) (w : World) (h : LaidAll w) :
    Calls Tryz.prog 54 #[.string s] w (RetRowsB w (pcL s.data.toList) (pcOk s.data.toList)) := by
  have hl : s.data.toList.length = s.size := by simp
  have HLD := Lib.hid h
  have HS := Lib.hid (splitOwn s 59 (w.alloc (.cells #[] 27)) (h.2.2.keep ((Below.refl _ _).alloc (Nat.le_refl _) _)) hs)
  obtain ⟨l, hlw⟩ : ∃ l, s.data.toList = l := ⟨_, rfl⟩
  rw [hlw] at HS hl ⊢
  have HPT := Lib.hid (fun h0 h => @pc_t l h0 h)
  have HPF := Lib.hid (fun h => @pc_f1 l h)
  have HPG := Lib.hid (fun h => @pc_f2 l h)
  have HPN := Lib.hid pc_nil
  obtain ⟨ls, cs, hc1, _, hle, HP, HA, HE, HN, HBad, HSame⟩ := rowParts 0 l
  rw [hc1] at HS
  rw [hl] at hle HP
  clear hc1 h
  have HLW := Lib.hid hlw
  clear hlw
  go_enter Tryz.func54, Tryz.ntmps54
  go_wp2_with fail
  refine HS.out.mono ?_
  rintro e w1 ⟨rfl, hown, hb1⟩
  have hgs : (w.alloc (.cells #[] 27)).heap.size = w.heap.size + 1 := by simp
  have hrow0 := (rowsV_empty w).keep hb1
  have hb2 := ((Below.refl w.heap.size w).alloc (Nat.le_refl _) (.cells #[] 27)).trans (hb1.mono (by simp))
  have hs1 := hb1.size
  rw [hgs] at hown hs1
  clear hb1 hgs
  go_wp2_with fail
  go_loopw [4, 13] (fun v i wr => ∃ k hi : Nat, k ≤ ls.length ∧ i = .int .i64 k ∧ RowsV wr w.heap.size hi v (cs.take k) ∧ hi ≤ wr.heap.size ∧ Below w.heap.size w wr ∧ OwnV wr 9 (w.heap.size + 1) (.slice (some ⟨w.heap.size + 1, 0, none⟩) ls.length ls.length) (strs ls) ∧ Hid (∀ j (hj : j < ls.length), j < k → allOk ls[j] = true)) (fun _ i _ => ls.length - (intOf i).toNat)
  case atStart => exact ⟨0, w.heap.size, by omega, rfl, hrow0, by omega, hb2, hown, fun j _ hj => absurd hj (Nat.not_lt_zero _)⟩
  case round =>
    clear hrow0 hb2 hown hs1
    obtain ⟨k, hi, hk, rfl, hR, hhi, hbel, hPW, HI⟩ := hrel
    by_cases hlt' : k < ls.length
    · have x1 := hPW.at k hlt'
      have hpl := HP.out k hlt'
      have HAk := Lib.hid (HA.out k hlt')
      have HFk := Lib.hid (HBad.out k hlt')
      obtain ⟨p, hp⟩ : ∃ p, ls[k] = p := ⟨_, rfl⟩
      rw [hp] at x1 hpl HAk HFk
      have HQ := Lib.hid (implParseInts ⟨p.toArray⟩ (by show p.length ≤ 1048576; omega) wr (HLD.out.keep hbel))
      have hpd : (⟨p.toArray⟩ : ByteArray).data.toList = p := rfl
      rw [hpd] at HQ
      have hk0 : (0 : Int) ≤ (k : Int) := by omega
      have hk1 : (k : Int) < (ls.length : Int) := by omega
      obtain ⟨x, hx⟩ : ∃ x : ByteArray, (⟨p.toArray⟩ : ByteArray) = x := ⟨_, rfl⟩
      rw [hx] at HQ x1
      clear hx hpd
      have hsz := hbel.size
      cases hO : allOk p with
      | false =>
        have HO := Lib.hid (HFk.out hO)
        rw [hO] at HQ
        clear hO hp HI HFk
        go_wp2_with fail
        refine HQ.out.mono ?_
        rintro e w2 ⟨v2, rfl, _, hb3⟩
        have hb := below_trans hbel hb3
        have hz2 := hb.size
        go_wp2_with fail
        go_ret2
        exact ⟨_, by rw [HO.out.1]; rfl, by rw [HO.out.2]; exact own2_new w2 hz2, hb.alloc hz2 _⟩
      | true =>
        have HJ := Lib.hid (show ∀ j (hj : j < ls.length), j < k + 1 → allOk ls[j] = true from fun j hj h => by
          by_cases e : j = k
          · subst e; rw [hp]; exact hO
          · exact HI.out j hj (by omega))
        rw [hO] at HQ
        clear hO hp HI HFk
        obtain ⟨us, hus⟩ : ∃ us, numsOf 0 p = us := ⟨_, rfl⟩
        have hul : us.length ≤ 1048577 := by
          rw [← hus, numsOf_len]
          have := cutL_len 44 p
          omega
        rw [hus] at HQ HAk
        clear hus
        go_wp2_with fail
        refine HQ.out.mono ?_
        rintro e w2 ⟨v2, rfl, hr, hb3⟩
        obtain ⟨g1, hg1, hown⟩ := (hr trivial).own
        obtain ⟨cy, hy, _, _, _, _⟩ := hown.form
        rw [ivs_length] at hy
        subst hy
        have hR2 := hR.keep hb3
        obtain ⟨gs, vs, q1, q2, q3, q4⟩ := hR2
        have hbel2 := below_trans hbel hb3
        have hs1 := hb3.size
        have hs2 := hbel2.size
        have HK := Lib.hid (show (cs.take k).length = k by rw [List.length_take, HN.out]; omega)
        have q1' : RowV w2 w.heap.size 27 u4 k vs := q1.cast rfl HK.out rfl
        have HPS := Lib.hid (fun (w3 : World) (x' : Value) hgrow (hrow : RowV w3 w.heap.size 27 x' (k + 1) (vs ++ [_])) => rowsV_push (w1 := w3) (x' := x') q1 q2 q3 q4 hown (by omega) (by omega) hgrow (hrow.cast rfl (by rw [HK.out]) rfl))
        have hPW2 := hPW.keep hb3
        clear q1 q2 q3 q4 hr hR hPW hb3 x1
        go_wp2_with (at_builtin; refine wpList_pushV elemRow _ rfl _ _ rfl w.heap.size u4 k _ rfl (q1'.alloc _) (.slice (some ⟨g1, 0, none⟩) us.length cy) w2.heap.size rfl (cell_new1 _ _ _) rfl (by omega) (by simp; omega) ?_; intro gA capA wA hrowA hgrowA hbA)
        have hPA := keepS (q1'.alloc _) hgrowA (hPW2.keep (below_new _ _)) (by decide)
        go_roundw
        case rel => exact ⟨k + 1, wA.heap.size, by omega, by go_num, by rw [HAk.out]; exact HPS.out _ _ hgrowA hrowA, Nat.le_refl _, (hbel2.alloc hs2 _).trans hbA, hPA, HJ⟩
        case measure => simp [intOf]; omega
    · obtain rfl : k = ls.length := by omega
      rw [HE.out] at hR
      have hO := hR.own2 hhi
      have hsz := hbel.size
      have hcs : csOf 9 l = cs := HSame.out (fun j hj => HI.out j hj hj)
      have HLD2 := Lib.hid (HLD.out.keep hbel)
      have HPT := Lib.hid (HPT.out)
      rw [hcs] at HPT HPF HPG
      have hcl : cs.length ≤ 274877906944 := by rw [HN.out]; omega
      cases hC : isC cs with
      | false =>
        have HO := Lib.hid (HPF.out hC)
        have HI2 := Lib.hid hC
        have hrd := hO.read
        clear hR hPW HPT HPF HPG hC hO hcs
        go_wp2_with fail
        refine (implIsCartan _ cs (by omega) _ hrd).mono ?_
        rw [HI2.out]
        rintro e w2 ⟨rfl, hb2⟩
        have hb := below_trans hbel hb2
        have hz2 := hb.size
        go_wp2_with fail
        go_ret2
        exact ⟨_, by rw [HO.out.1]; rfl, by rw [HO.out.2]; exact own2_new w2 hz2, hb.alloc hz2 _⟩
      | true =>
        have HI2 := Lib.hid hC
        have HOO := Lib.hid hO
        have hrd := hO.read
        by_cases hJ : fmtC cs = l
        · have hne : l ≠ [] := by
            rintro rfl
            have h1 := HPN.out
            rw [pcOk, hcs, hC] at h1
            have e : fmtC cs = fmtS cs := by simp [fmtC, hC]
            rw [e] at hJ
            simp [hJ] at h1
          have HO := Lib.hid (HPT.out hne hJ)
          have HJ : (⟨(fmtC cs).toArray⟩ : ByteArray) = s := bytes_ne.2 (hJ.trans HLW.out.symm)
          have HX := Lib.hid HJ
          clear hR hPW HPT HPF HPG hC hO hcs hne hJ HJ
          go_wp2_with fail
          refine (implIsCartan _ cs (by omega) _ hrd).mono ?_
          rw [HI2.out]
          rintro e w2 ⟨rfl, hb2⟩
          have hO2 := HOO.out.keep hb2
          have hrd2 := hO2.read
          have HL2 := Lib.hid (HLD2.out.keep hb2)
          clear hrd
          go_wp2_with fail
          refine (implFormatCartan _ cs hcl _ hrd2 HL2.out.1).mono ?_
          rw [HX.out]
          rintro e w3 ⟨rfl, hb3⟩
          have hO3 := hO2.keep hb3
          have hz2 := hb2.size
          have hz3 := hb3.size
          go_wp2_with fail
          go_ret2
          exact ⟨u4, by rw [HO.out.1]; rfl, by rw [HO.out.2]; exact own2_up hO3 (by omega), below_trans (below_trans hbel hb2) hb3⟩
        · have HO := Lib.hid (HPG.out hJ)
          obtain ⟨X, hX⟩ : ∃ X, (⟨(fmtC cs).toArray⟩ : ByteArray) = X := ⟨_, rfl⟩
          have hne : (X.toList == s.toList) = false := ne_toList (fun e => hJ ((bytes_ne.1 (hX.trans e)).trans HLW.out))
          have HX := Lib.hid hX
          clear hR hPW HPT HPF HPG hC hO hcs hJ hX
          go_wp2_with fail
          refine (implIsCartan _ cs (by omega) _ hrd).mono ?_
          rw [HI2.out]
          rintro e w2 ⟨rfl, hb2⟩
          have hO2 := HOO.out.keep hb2
          have hrd2 := hO2.read
          have HL2 := Lib.hid (HLD2.out.keep hb2)
          clear hrd
          go_wp2_with fail
          refine (implFormatCartan _ cs hcl _ hrd2 HL2.out.1).mono ?_
          rw [HX.out]
          rintro e w3 ⟨rfl, hb3⟩
          have hb := below_trans (below_trans hbel hb2) hb3
          have hz2 := hb.size
          go_wp2_with fail
          go_ret2
          exact ⟨_, by rw [HO.out.1]; rfl, by rw [HO.out.2]; exact own2_new w3 hz2, hb.alloc hz2 _⟩
end Go.Proofs.YtaikjkcbgniplaaGreatDoor
