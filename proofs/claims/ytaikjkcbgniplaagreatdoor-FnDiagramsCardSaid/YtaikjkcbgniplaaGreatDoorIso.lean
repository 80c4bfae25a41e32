/- AreIsomorphic and SymmetriesOf of the reference: what they answer, for at most 2^38 numbers. -/
import Derived.Test.YtaikjkcbgniplaaGreatDoorRel
import Derived.Test.YtaikjkcbgniplaaGreatDoorL3
import Derived.Test.YtaikjkcbgniplaaGreatDoorEqC
import Derived.Test.YtaikjkcbgniplaaGreatDoorPush
import Derived.Test.YtaikjkcbgniplaaGreatDoorWit
namespace Go.Proofs.YtaikjkcbgniplaaGreatDoor
open Go.RowKit
set_option linter.unusedVariables false

theorem sub_eq {a b : List (List Int)} {o : List Int} (hl : o.length = b.length) (hq : Sq b) : eqII (subS a o) b = ordOk a b o := by
  cases h : ordOk a b o with
  | true =>
    rw [ordOk_iff] at h
    apply eqII_yes
    apply List.ext_getElem (by rw [subS_length, hl])
    intro i hi hb
    apply List.ext_getElem (by simp only [subS, List.getElem_map, subR_length]; rw [hq i hb, hl])
    intro j hj hb2
    rw [hq i hb] at hb2
    have h1 := h i (by omega) j (by omega)
    rw [fitAt, beq_iff_eq, getD_get o i (by omega), getD_get o j (by omega), ent_get b i j hb (by rw [hq i hb]; exact hb2)] at h1
    rw [← h1]
    simp [subS, subR]
  | false =>
    apply eqII_no
    intro e
    have h1 : ordOk a b o = true := by
      rw [ordOk_iff]
      intro i hi j hj
      rw [fitAt, beq_iff_eq, getD_get o i hi, getD_get o j hj]
      have hb : i < b.length := by omega
      rw [ent_get b i j hb (by rw [hq i hb]; omega)]
      subst e
      simp [subS, subR]
    rw [h1] at h; cases h
theorem isC_Sq {c : List (List Int)} (h : isC c = true) : Sq c := fun k hk => isC_sq h k hk
theorem lvl_rel {c : List (List Int)} {o : List Int} (h : isC c = true) (hm : o ∈ lvl c.length c.length) : relOk c o = true :=
  relOk_t h (ordP_lvl hm).2 ((ordB_ordP _ _).2 (ordP_lvl hm).1)
def isoIn (a b : List (List Int)) : Bool := isC a && isC b && decide (a.length = b.length)
def isoF (a b : List (List Int)) : Option (List Int) := if isoIn a b then (lvl a.length a.length).find? (ordOk a b) else none
def isoR (a b : List (List Int)) : List Int := (isoF a b).getD []
def isoOk (a b : List (List Int)) : Bool := (isoF a b).isSome
theorem isoIn_f1 {a b : List (List Int)} (h : isC a = false) : isoIn a b = false := by simp [isoIn, h]
theorem isoIn_f2 {a b : List (List Int)} (h : isC b = false) : isoIn a b = false := by simp [isoIn, h]
theorem isoIn_f3 {a b : List (List Int)} (h : a.length ≠ b.length) : isoIn a b = false := by simp [isoIn, h]
theorem isoIn_t {a b : List (List Int)} (h1 : isC a = true) (h2 : isC b = true) (h3 : a.length = b.length) : isoIn a b = true := by simp [isoIn, h1, h2, h3]
theorem iso_out {a b : List (List Int)} (h : isoIn a b = false) : isoR a b = [] ∧ isoOk a b = false := by simp [isoR, isoOk, isoF, h]
theorem iso_none {a b : List (List Int)} (h : isoIn a b = true) (hn : ∀ j (hj : j < (lvl a.length a.length).length), ordOk a b (lvl a.length a.length)[j] = false) : isoR a b = [] ∧ isoOk a b = false := by
  simp [isoR, isoOk, isoF, h, find_no _ _ hn]
theorem iso_some {a b : List (List Int)} (h : isoIn a b = true) (p : Nat) (hp : p < (lvl a.length a.length).length) (hy : ordOk a b (lvl a.length a.length)[p] = true) (hn : ∀ j (hj : j < (lvl a.length a.length).length), j < p → ordOk a b (lvl a.length a.length)[j] = false) :
    isoR a b = (lvl a.length a.length)[p] ∧ isoOk a b = true := by
  simp [isoR, isoOk, isoF, h, find_at _ _ p hp hy hn]
theorem isoR_len (a b : List (List Int)) : (isoR a b).length ≤ 4 := by
  unfold isoR isoF
  split
  · next h =>
    rw [isoIn, Bool.and_eq_true, Bool.and_eq_true] at h
    have h4 := ((isC_iff a).1 h.1.1).2.1
    cases e : (lvl a.length a.length).find? (ordOk a b) with
    | none => simp
    | some o =>
      have := (ordP_lvl (List.mem_of_find?_eq_some e)).2
      simpa using (by omega)
  · simp
def symS (a b : List (List Int)) (n : Nat) : List (List Int) := (lvl n n).filter (ordOk a b)
def symL (c : List (List Int)) : List (List Int) := if isC c then symS c c c.length else []
def symIdx (a b : List (List Int)) (n p : Nat) : List Nat := (List.range p).filter (fun j => ordOk a b ((lvl n n).getD j []))
theorem lvl_getD {n p : Nat} (h : p < (lvl n n).length) : (lvl n n).getD p [] = (lvl n n)[p] := by simp [h]
theorem symIdx_add {a b : List (List Int)} {n p : Nat} (hp : p < (lvl n n).length) (h : ordOk a b (lvl n n)[p] = true) : symIdx a b n (p + 1) = symIdx a b n p ++ [p] := by
  have h' := (congrArg (ordOk a b) (lvl_getD hp)).trans h; rw [symIdx, symIdx, List.range_succ, List.filter_append, List.filter_cons, h']; simp
theorem symIdx_skip {a b : List (List Int)} {n p : Nat} (hp : p < (lvl n n).length) (h : ordOk a b (lvl n n)[p] = false) : symIdx a b n (p + 1) = symIdx a b n p := by
  have h' := (congrArg (ordOk a b) (lvl_getD hp)).trans h; rw [symIdx, symIdx, List.range_succ, List.filter_append, List.filter_cons, h']; simp
theorem map_getD {α : Type} (l : List α) (d : α) : (List.range l.length).map (fun j => l.getD j d) = l := by
  apply List.ext_getElem (by simp)
  intro i h1 h2
  simp [h2]
theorem symIdx_all (a b : List (List Int)) (n : Nat) : (symIdx a b n (lvl n n).length).map (fun j => (lvl n n).getD j []) = symS a b n := by
  rw [symS]
  conv => rhs; rw [← map_getD (lvl n n) []]
  rw [List.filter_map]; rfl
theorem symIdx_lt {a b : List (List Int)} {n p j : Nat} (h : j ∈ symIdx a b n p) : j < p := by
  rw [symIdx, List.mem_filter, List.mem_range] at h; exact h.1
theorem symIdx_nodup (a b : List (List Int)) (n p : Nat) : (symIdx a b n p).Nodup := List.nodup_range.filter _
theorem symIdx_len (a b : List (List Int)) (n p : Nat) : (symIdx a b n p).length ≤ p := by
  have := List.length_filter_le (fun j => ordOk a b ((lvl n n).getD j [])) (List.range p)
  simpa [symIdx] using this
def selG (gs : List Nat) (I : List Nat) : List Nat := I.map (fun j => gs.getD j 0)
def selV (vs : List Value) (I : List Nat) : List Value := I.map (fun j => vs.getD j (.slice none 0 0))
def selZ (zss : List (List Int)) (I : List Nat) : List (List Int) := I.map (fun j => zss.getD j [])
theorem inner_sel {w : World} {gs : List Nat} {vs : List Value} {zss : List (List Int)} (h : Inner w gs vs zss) (I : List Nat) (hI : ∀ j ∈ I, j < zss.length) : Inner w (selG gs I) (selV vs I) (selZ zss I) := by
  obtain ⟨h1, h2, h3⟩ := h
  refine ⟨by simp [selV, selZ], by simp [selG, selZ], fun i g r zs e1 e2 e3 => ?_⟩
  simp only [selG, selV, selZ, List.getElem?_map] at e1 e2 e3
  cases e : I[i]? with
  | none => rw [e] at e1; cases e1
  | some j =>
    have hj := hI j (List.mem_of_getElem? e)
    rw [e] at e1 e2 e3
    simp only [Option.map_some, Option.some.injEq] at e1 e2 e3
    subst e1 e2 e3
    have a1 : j < gs.length := by omega
    have a2 : j < vs.length := by omega
    exact h3 j _ _ _ (by simp [a1]) (by simp [a2]) (by simp [hj])
theorem selG_nodup {gs : List Nat} (h : gs.Nodup) (I : List Nat) (hI : ∀ j ∈ I, j < gs.length) (hn : I.Nodup) : (selG gs I).Nodup := by
  rw [selG, List.nodup_iff_pairwise_ne, List.pairwise_map]
  rw [List.nodup_iff_pairwise_ne] at hn
  refine List.Pairwise.imp_of_mem (fun {i j} hi hj hne e => ?_) hn
  have a1 := hI i hi
  have a2 := hI j hj
  simp only [List.getD, List.getElem?_eq_getElem a1, List.getElem?_eq_getElem a2, Option.getD_some] at e
  rw [List.nodup_iff_pairwise_ne, List.pairwise_iff_getElem] at h
  rcases Nat.lt_trichotomy i j with hij | hij | hij
  · exact h i j a1 a2 hij e
  · exact hne hij
  · exact h j i a2 a1 hij e.symm
theorem selG_mem {gs : List Nat} {I : List Nat} (hI : ∀ j ∈ I, j < gs.length) {g : Nat} (h : g ∈ selG gs I) : g ∈ gs := by
  rw [selG, List.mem_map] at h
  obtain ⟨j, hj, rfl⟩ := h
  have a1 := hI j hj
  simp only [List.getD, List.getElem?_eq_getElem a1, Option.getD_some]
  exact List.getElem_mem a1
/-- What is picked out of a table, in a table of its own. -/
theorem own2_sel {w : World} {B G : Nat} {v : Value} {gs : List Nat} {vs : List Value} {zss : List (List Int)} (h : Inner w gs vs zss) (hn : gs.Nodup) (hg : ∀ g ∈ gs, B ≤ g ∧ g < w.heap.size) (I : List Nat) (hI : ∀ j ∈ I, j < zss.length) (hIn : I.Nodup)
    (hG : B ≤ G) (ho : OwnV w 27 G v (selV vs I)) : Own2 w B w.heap.size v (selZ zss I) := by
  have hgl : ∀ j ∈ I, j < gs.length := fun j hj => by rw [h.2.1]; exact hI j hj
  have hS := inner_sel h I hI
  refine ⟨G, selG gs I, selV vs I, hG, ho.lt, fun g hm => hg g (selG_mem hgl hm), ho, hS, ?_, selG_nodup hn I hgl hIn⟩
  intro hmem
  obtain ⟨i, hi, rfl⟩ := List.mem_iff_getElem.1 hmem
  have hv : i < (selV vs I).length := by rw [hS.1, ← hS.2.1]; exact hi
  have hz : i < (selZ zss I).length := by rw [← hS.2.1]; exact hi
  exact own_ne ho (hS.2.2 i _ _ _ (List.getElem?_eq_getElem hi) (List.getElem?_eq_getElem hv) (List.getElem?_eq_getElem hz)) (by decide) rfl
theorem ints_le (l : List (List Int)) (k : Nat) (h : ∀ o ∈ l, o.length ≤ k) : ints l ≤ l.length * k := by
  induction l with
  | nil => simp [ints]
  | cons a l ih =>
    rw [ints_cons, List.length_cons, Nat.succ_mul]
    have := ih (fun o ho => h o (List.mem_cons_of_mem _ ho))
    have := h a List.mem_cons_self
    omega
theorem sym_total (c : List (List Int)) : total (symL c) ≤ 120 := by
  unfold symL
  split
  · next h =>
    have h4 := ((isC_iff c).1 h).2.1
    have hl : (symS c c c.length).length ≤ 24 := by
      have h1 := lvl_len c.length (by omega) c.length (by omega)
      have h2 := List.length_filter_le (ordOk c c) (lvl c.length c.length)
      exact Nat.le_trans h2 h1
    have hi := ints_le (symS c c c.length) 4 (fun o ho => by
      rw [symS, List.mem_filter] at ho
      have := (ordP_lvl ho.1).2
      omega)
    unfold total; omega
  · simp [total, ints]
theorem sub_total' (c : List (List Int)) (o : List Int) (h : o.length ≤ 4) : total (subS c o) ≤ 1099511627776 := by
  rw [subS_ints]
  have : o.length * o.length ≤ 4 * 4 := Nat.mul_le_mul h h
  omega
set_option maxHeartbeats 2000000 in
theorem specAreIsomorphic (v1 v2 : Value) (a b : List (List Int)) (ha : a.length ≤ 274877906944) (hb : b.length ≤ 274877906944) (w : World) (h1 : II w v1 a) (h2 : II w v2 b) :
    Calls Tryz.prog 9 #[v1, v2] w (RetIntsB w (isoR a b) (isoOk a b)) := by
  obtain ⟨g1, o1, c1, hv1, _, _, _⟩ := h1.form
  obtain ⟨g2, o2, c2, hv2, _, _, _⟩ := h2.form
  subst hv1 hv2
  cases hA : isC a with
  | false =>
    have HI := Lib.hid (iso_out (isoIn_f1 (b := b) hA))
    have HA := Lib.hid hA
    clear hA
    go_enter Tryz.func9, Tryz.ntmps9
    go_wp2_with fail
    refine (specIsCartan _ a (by omega) _ h1).mono ?_
    rw [HA.out]
    rintro e w1 ⟨rfl, hb1⟩
    go_wp2_with fail
    go_ret2
    exact ⟨_, w1.heap.size, by rw [HI.out.2]; rfl, hb1.size, by rw [HI.out.1]; exact own_empty w1 _, below_trans hb1 (below_new w1 _)⟩
  | true =>
    cases hB : isC b with
    | false =>
      have HI := Lib.hid (iso_out (isoIn_f2 (a := a) hB))
      have HA := Lib.hid hA
      have HB := Lib.hid hB
      clear hA hB
      go_enter Tryz.func9, Tryz.ntmps9
      go_wp2_with fail
      refine (specIsCartan _ a (by omega) _ h1).mono ?_
      rw [HA.out]
      rintro e w1 ⟨rfl, hb1⟩
      go_wp2_with fail
      refine (specIsCartan _ b (by omega) _ (h2.keep hb1)).mono ?_
      rw [HB.out]
      rintro e w2 ⟨rfl, hb2⟩
      replace hb1 := below_trans hb1 hb2
      go_wp2_with fail
      go_ret2
      exact ⟨_, w2.heap.size, by rw [HI.out.2]; rfl, hb1.size, by rw [HI.out.1]; exact own_empty w2 _, below_trans hb1 (below_new w2 _)⟩
    | true =>
      by_cases hL : a.length = b.length
      rotate_left
      · have HI := Lib.hid (iso_out (isoIn_f3 hL))
        have d0 : ((a.length : Int) != (b.length : Int)) = true := by rw [bne_iff_ne]; omega
        have HA := Lib.hid hA
        have HB := Lib.hid hB
        clear hA hB hL
        go_enter Tryz.func9, Tryz.ntmps9
        go_wp2_with fail
        refine (specIsCartan _ a (by omega) _ h1).mono ?_
        rw [HA.out]
        rintro e w1 ⟨rfl, hb1⟩
        go_wp2_with fail
        refine (specIsCartan _ b (by omega) _ (h2.keep hb1)).mono ?_
        rw [HB.out]
        rintro e w2 ⟨rfl, hb2⟩
        replace hb1 := below_trans hb1 hb2
        go_wp2_with fail
        go_ret2
        exact ⟨_, w2.heap.size, by rw [HI.out.2]; rfl, hb1.size, by rw [HI.out.1]; exact own_empty w2 _, below_trans hb1 (below_new w2 _)⟩
      have hn4 : a.length ≤ 4 := ((isC_iff a).1 hA).2.1
      have HIN := Lib.hid (isoIn_t hA hB hL)
      have d0 : ((a.length : Int) != (b.length : Int)) = false := by rw [bne_eq_false_iff_eq]; omega
      have HL := Lib.hid hL
      have HA := Lib.hid hA
      have HB := Lib.hid hB
      clear hA hB hL
      have hL24 := lvl_len a.length (by omega) a.length (by omega)
      go_enter Tryz.func9, Tryz.ntmps9
      go_wp2_with fail
      refine (specIsCartan _ a (by omega) _ h1).mono ?_
      rw [HA.out]
      rintro e w1 ⟨rfl, hb1⟩
      go_wp2_with fail
      refine (specIsCartan _ b (by omega) _ (h2.keep hb1)).mono ?_
      rw [HB.out]
      rintro e w2 ⟨rfl, hb2⟩
      replace hb1 := below_trans hb1 hb2
      clear hb2
      go_wp2_with fail
      refine (specOrders a.length hn4 _).mono ?_
      rintro e w3 ⟨vS, rfl, hownS, hb3⟩
      obtain ⟨gS, oS, cS, hvS, _, _, _⟩ := hownS.read.form
      subst hvS
      obtain ⟨lo, hlo'⟩ : ∃ lo, w2.heap.size = lo := ⟨_, rfl⟩
      obtain ⟨hi, hhi'⟩ : ∃ hi, w3.heap.size = hi := ⟨_, rfl⟩
      have hlo2 : w.heap.size ≤ lo := by have := hb1.size; omega
      rw [hlo', hhi'] at hownS
      replace hb1 := below_trans hb1 hb3
      clear hb3 hlo' hhi'
      go_wp2_with fail
      go_loopw [7] (fun i wr => ∃ p : Nat, p ≤ (lvl a.length a.length).length ∧ i = .int .i64 p ∧ Hid (∀ j (hj : j < (lvl a.length a.length).length), j < p → ordOk a b (lvl a.length a.length)[j] = false) ∧ Own2 wr lo hi (.slice (some ⟨gS, oS, none⟩) (lvl a.length a.length).length cS) (lvl a.length a.length) ∧ Below w.heap.size w wr) (fun i _ => (lvl a.length a.length).length - (intOf i).toNat)
      case atStart => exact ⟨0, by omega, rfl, fun j _ h => absurd h (Nat.not_lt_zero j), hownS, hb1⟩
      case round =>
        clear hownS hb1
        obtain ⟨p, hp, rfl, HN, hO2, hbel⟩ := hrel
        by_cases hlt' : p < (lvl a.length a.length).length
        · obtain ⟨gS', oS', cS', eS, _, _, hcS⟩ := hO2.read.form
          have eS2 : gS' = gS ∧ oS' = oS := by injection eS with e1 e2 e3; injection e1 with e1; injection e1 with e1 e2; exact ⟨e1.symm, e2.symm⟩
          obtain ⟨rfl, rfl⟩ := eS2
          obtain ⟨r, x1, j1⟩ := hcS p hlt'
          have HR := Lib.hid (fun (w' : World) (r' : Value) (hh : Own2 w' lo hi (.slice (some ⟨gS', oS', none⟩) (lvl a.length a.length).length cS) (lvl a.length a.length)) (hr : w'.cell? ⟨gS', oS' + p, none⟩ = some r') => hh.row hlt' hr)
          have HY := Lib.hid (fun h => iso_some HIN.out p hlt' h HN.out)
          have HM := Lib.hid (lvl_rel HA.out (List.getElem_mem hlt'))
          have hol : (lvl a.length a.length)[p].length = a.length := (ordP_lvl (List.getElem_mem hlt')).2
          have HE := Lib.hid (sub_eq (a := a) (hol.trans HL.out) (isC_Sq HB.out))
          obtain ⟨o, ho⟩ : ∃ o, (lvl a.length a.length)[p] = o := ⟨_, rfl⟩
          have HNX := Lib.hid (fun (h : ordOk a b o = false) => (fun j (hj : j < (lvl a.length a.length).length) (hjp : j < p + 1) => (show ordOk a b (lvl a.length a.length)[j] = false from by
            by_cases e : j = p
            · subst e; rw [ho]; exact h
            · exact HN.out j hj (by omega))))
          rw [ho] at j1 HR HY HM hol HE
          have hol4 : o.length ≤ 4 := by omega
          clear ho hol
          obtain ⟨gr, or, cr, hr, _, _, _⟩ := j1.form
          subst hr
          have k1 := h1.keep hbel
          have hk0 : (0 : Int) ≤ (p : Int) := by omega
          have hk1 : (p : Int) < ((lvl a.length a.length).length : Int) := by omega
          clear eS hcS
          go_wp2_with fail
          refine (specRelabelCartan _ _ a o (by omega) (by omega) _ k1 j1).mono ?_
          rw [HM.out, relL_t HM.out]
          rintro e w4 ⟨v4, rfl, hown4, hb4⟩
          replace hO2 := hO2.keep hb4
          replace x1 := cells_keep hb4 x1
          have k2 := (h2.keep hbel).keep hb4
          go_wp2_with fail
          refine (specEqualCartans _ _ (subS a o) b (sub_total' a o hol4) _ hown4.read k2).mono ?_
          rw [HE.out]
          rintro e w5 ⟨rfl, hb5⟩
          replace hO2 := hO2.keep hb5
          replace x1 := cells_keep hb5 x1
          replace hbel := below_trans hbel (below_trans hb4 hb5)
          clear hb4 hb5 hown4 j1 k1 k2
          cases hY : ordOk a b o with
          | true =>
            have HW := Lib.hid (HY.out hY)
            have HRR := Lib.hid (HR.out _ _ hO2 x1)
            clear hY
            go_wp2_with fail
            go_ret2
            obtain ⟨g, hg1, hg2, hown⟩ := HRR.out
            exact ⟨_, g, by rw [HW.out.2]; rfl, by omega, by rw [HW.out.1]; exact hown, hbel⟩
          | false =>
            have HNN := Lib.hid (HNX.out hY)
            clear x1 hY
            go_wp2_with fail
            go_roundw
            case rel => exact ⟨p + 1, by omega, by go_num, HNN, hO2, hbel⟩
            case measure => simp [intOf]; omega
        · obtain rfl : p = (lvl a.length a.length).length := by omega
          have HI := Lib.hid (iso_none HIN.out (fun j hj => HN.out j hj hj))
          go_wp2_with fail
          go_ret2
          exact ⟨_, wr.heap.size, by rw [HI.out.2]; rfl, hbel.size, by rw [HI.out.1]; exact own_empty wr _, below_trans hbel (below_new wr _)⟩
set_option maxHeartbeats 2000000 in
theorem specSymmetriesOf (v1 : Value) (c : List (List Int)) (hc : c.length ≤ 274877906944) (w : World) (h1 : II w v1 c) :
    Calls Tryz.prog 19 #[v1] w (RetRows w (symL c)) := by
  obtain ⟨g1, o1, c1, hv1, _, _, _⟩ := h1.form
  subst hv1
  cases hC : isC c with
  | false =>
    have HF := Lib.hid (show symL c = [] by simp [symL, hC])
    have HC := Lib.hid hC
    clear hC
    go_enter Tryz.func19, Tryz.ntmps19
    go_wp2_with fail
    refine (specIsCartan _ c (by omega) _ (h1.keep (below_new w _))).mono ?_
    rw [HC.out]
    rintro e w1 ⟨rfl, hb1⟩
    have hR0 := (rowsV_empty w).keep hb1
    have hb0 := below_trans (below_new w _) hb1
    have hs1 := hb1.size
    have hown := hR0.own2 (by simp at hs1; omega)
    go_wp2_with fail
    go_ret
    exact ⟨_, rfl, by rw [HF.out]; exact hown, hb0⟩
  | true =>
    have HF := Lib.hid (show symL c = symS c c c.length by simp [symL, hC])
    have hn4 : c.length ≤ 4 := ((isC_iff c).1 hC).2.1
    have HC := Lib.hid hC
    clear hC
    obtain ⟨L, hL⟩ : ∃ L, lvl c.length c.length = L := ⟨_, rfl⟩
    have hL24 := lvl_len c.length (by omega) c.length (by omega)
    have HL := Lib.hid hL
    rw [hL] at hL24
    clear hL
    go_enter Tryz.func19, Tryz.ntmps19
    go_wp2_with fail
    refine (specIsCartan _ c (by omega) _ (h1.keep (below_new w _))).mono ?_
    rw [HC.out]
    rintro e w1 ⟨rfl, hb1⟩
    have hown0 : OwnV w1 27 w.heap.size _ [] := (own_empty w 27).keep hb1
    have hb0 := below_trans (below_new w _) hb1
    go_wp2_with fail
    refine (specOrders c.length hn4 _).mono ?_
    rw [HL.out]
    rintro e w2 ⟨vS, rfl, hownS, hb2⟩
    have hlo : w.heap.size < w1.heap.size := hown0.lt
    have hlh := hb2.size
    replace hown0 := hown0.keep hb2
    replace hb0 := below_trans hb0 hb2
    obtain ⟨gS, oS, cS, hvS, _, _, _⟩ := hownS.read.form
    subst hvS
    obtain ⟨GS, lgs, lvs, hGS1, hGS2, hgs, hOS, hIS, _, hnd⟩ := hownS
    obtain ⟨lo, hlo'⟩ : ∃ lo, w1.heap.size = lo := ⟨_, rfl⟩
    obtain ⟨hi, hhi'⟩ : ∃ hi, w2.heap.size = hi := ⟨_, rfl⟩
    have HGS := Lib.hid hgs
    simp only [hlo', hhi'] at HGS hGS1 hGS2 hlh
    have hlo2 : w.heap.size < lo := by omega
    have hhs : hi ≤ w2.heap.size := by omega
    have HND := Lib.hid hnd
    obtain ⟨capS, heS, _, _, _, _⟩ := hOS.form
    have eG : GS = gS ∧ oS = 0 := by injection heS with e1 e2 e3; injection e1 with e1; injection e1 with e1 e2; exact ⟨e1.symm, e2⟩
    obtain ⟨rfl, rfl⟩ := eG
    have HVL := Lib.hid hIS.1
    have HGL := Lib.hid hIS.2.1
    clear hlo hlo' hhi' hgs hnd heS
    go_wp2_with fail
    go_loopw [3, 5] (fun v i wr => ∃ p G : Nat, p ≤ L.length ∧ i = .int .i64 p ∧ OwnV wr 27 G v (selV lvs (symIdx c c c.length p)) ∧ w.heap.size ≤ G ∧ (G < lo ∨ hi ≤ G) ∧ hi ≤ wr.heap.size ∧ OwnV wr 27 GS (.slice (some ⟨GS, 0, none⟩) L.length cS) lvs ∧ Inner wr lgs lvs L ∧ Below w.heap.size w wr) (fun _ i _ => L.length - (intOf i).toNat)
    case atStart => exact ⟨0, w.heap.size, by omega, rfl, hown0, Nat.le_refl _, .inl hlo2, hhs, hOS, hIS, hb0⟩
    case round =>
      clear hown0 hOS hIS hb0 hhs
      obtain ⟨p, G, hp, rfl, hown, hG, hd, hsz, hOS, hIS, hbel⟩ := hrel
      have hil := symIdx_len c c c.length p
      have hsl : Hid ((selV lvs (symIdx c c c.length p)).length = (symIdx c c c.length p).length) := Lib.hid (by simp [selV])
      by_cases hlt' : p < L.length
      · obtain ⟨capS', heq', _, _, hcS, _⟩ := hOS.form
        clear heq'
        have hlv : p < lvs.length := by rw [HVL.out]; exact hlt'
        have hlg : p < lgs.length := by rw [HGL.out]; exact hlt'
        have x1 := hcS p lvs[p] (List.getElem?_eq_getElem hlv)
        have hrow : Own wr lgs[p] lvs[p] L[p] := hIS.2.2 p _ _ _ (List.getElem?_eq_getElem hlg) (List.getElem?_eq_getElem hlv) (List.getElem?_eq_getElem hlt')
        have hlt2 : p < (lvl c.length c.length).length := by rw [HL.out]; exact hlt'
        have HLp := Lib.hid (show (lvl c.length c.length)[p] = L[p] from by simp only [HL.out])
        have hmem : L[p] ∈ lvl c.length c.length := by rw [← HLp.out]; exact List.getElem_mem hlt2
        have HM := Lib.hid (lvl_rel HC.out hmem)
        have hol : L[p].length = c.length := (ordP_lvl hmem).2
        have HE := Lib.hid (sub_eq (a := c) hol (isC_Sq HC.out))
        have HADD := Lib.hid (fun h => symIdx_add (a := c) (b := c) hlt2 (by rw [HLp.out]; exact h))
        have HSKP := Lib.hid (fun h => symIdx_skip (a := c) (b := c) hlt2 (by rw [HLp.out]; exact h))
        have HSV := Lib.hid (show selV lvs (symIdx c c c.length p ++ [p]) = selV lvs (symIdx c c c.length p) ++ [lvs[p]] by simp [selV, hlv])
        obtain ⟨o, ho⟩ : ∃ o, L[p] = o := ⟨_, rfl⟩
        obtain ⟨r, hr⟩ : ∃ r, lvs[p] = r := ⟨_, rfl⟩
        rw [ho, hr] at hrow
        rw [hr] at x1 HSV
        rw [ho] at HM hol HE HADD HSKP
        have hol4 : o.length ≤ 4 := by omega
        have j1 := hrow.read
        clear ho hol hr hmem HLp hlt2 hcS hrow
        obtain ⟨gr, or, cr, hr, _, _, _⟩ := j1.form
        subst hr
        have k1 := h1.keep hbel
        have hk0 : (0 : Int) ≤ (p : Int) := by omega
        have hk1 : (p : Int) < (L.length : Int) := by omega
        go_wp2_with fail
        refine (specRelabelCartan _ _ c o (by omega) (by omega) _ k1 j1).mono ?_
        rw [HM.out, relL_t HM.out]
        rintro e w4 ⟨v4, rfl, hown4, hb4⟩
        replace hown := hown.keep hb4
        replace hOS := hOS.keep hb4
        replace hIS := hIS.keep hb4
        replace x1 := cells_keep hb4 x1
        have k2 := (h1.keep hbel).keep hb4
        go_wp2_with fail
        refine (specEqualCartans _ _ (subS c o) c (sub_total' c o hol4) _ hown4.read k2).mono ?_
        rw [HE.out]
        rintro e w5 ⟨rfl, hb5⟩
        replace hown := hown.keep hb5
        replace hOS := hOS.keep hb5
        replace hIS := hIS.keep hb5
        replace x1 := cells_keep hb5 x1
        have hs4 := hb4.size
        have hs5 := hb5.size
        have hsz5 : hi ≤ w5.heap.size := by omega
        replace hbel := below_trans hbel (below_trans hb4 hb5)
        clear hb4 hb5 hown4 j1 k1 k2 hs4 hs5 hsz
        cases hY : ordOk c c o with
        | true =>
          have HI1 := Lib.hid (HADD.out hY)
          clear hY
          have hbn := below_new w5 (.cells #[.slice (some ⟨gr, or, none⟩) o.length cr] 27)
          go_wp2_with (at_builtin; refine wpList_pushL elemRow _ rfl _ _ rfl G u3 _ rfl (hown.keep hbn) (.slice (some ⟨gr, or, none⟩) o.length cr) w5.heap.size rfl (cell_new1 _ _ _) rfl (by have := hsl.out; omega) ?_; intro gg cap w6 hown1 hch hor)
          have hs6 := hch.size
          have hsn := hbn.size
          have HF6 := Lib.hid (show OwnV w6 27 gg (.slice (some ⟨gg, 0, none⟩) ((selV lvs (symIdx c c c.length p)).length + 1) cap) (selV lvs (symIdx c c c.length (p + 1))) ∧ w.heap.size ≤ gg ∧ (gg < lo ∨ hi ≤ gg) ∧ hi ≤ w6.heap.size ∧ OwnV w6 27 GS (.slice (some ⟨GS, 0, none⟩) L.length cS) lvs ∧ Inner w6 lgs lvs L ∧ Below w.heap.size w w6 from
            ⟨by rw [HI1.out, HSV.out]; exact hown1, by have := hbel.size; omega, by omega, by omega, (hOS.keep hbn).chg hch (by omega), (hIS.keep hbn).chg hch (fun g hg => by have := HGS.out g hg; omega), below_chg (below_trans hbel hbn) hch (fun q hq => by omega)⟩)
          clear hown1 hch hor hown hOS hIS
          go_roundw
          case rel =>
            obtain ⟨f1, f2, f3, f4, f5, f6, f7⟩ := HF6.out
            exact ⟨p + 1, gg, by omega, by go_num, f1, f2, f3, f4, f5, f6, f7⟩
          case measure => simp [intOf]; omega
        | false =>
          have HI1 := Lib.hid (HSKP.out hY)
          clear hY x1
          go_wp2_with fail
          go_roundw
          case rel => exact ⟨p + 1, G, by omega, by go_num, by rw [HI1.out]; exact hown, hG, hd, hsz5, hOS, hIS, hbel⟩
          case measure => simp [intOf]; omega
      · obtain rfl : p = L.length := by omega
        have HZ := Lib.hid (show selZ L (symIdx c c c.length L.length) = symS c c c.length by rw [← symIdx_all, HL.out]; rfl)
        have HO2 := Lib.hid (own2_sel (B := w.heap.size) hIS HND.out (fun g hg => by have := HGS.out g hg; omega) (symIdx c c c.length L.length) (fun j hj => symIdx_lt hj) (symIdx_nodup _ _ _ _) hG hown)
        go_wp2_with fail
        go_ret
        exact ⟨_, rfl, by rw [HF.out, ← HZ.out]; exact HO2.out, hbel⟩
end Go.Proofs.YtaikjkcbgniplaaGreatDoor
