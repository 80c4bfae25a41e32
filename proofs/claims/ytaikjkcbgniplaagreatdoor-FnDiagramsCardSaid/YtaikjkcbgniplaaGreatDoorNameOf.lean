/- NameOf of the program (strings.Join) and of the reference. -/
import Derived.Test.YtaikjkcbgniplaaGreatDoorName
import Derived.Test.YtaikjkcbgniplaaGreatDoorSub
import Derived.Test.YtaikjkcbgniplaaGreatDoorFmtWt
import Derived.Test.YtaikjkcbgniplaaGreatDoorWit
namespace Go.Proofs.YtaikjkcbgniplaaGreatDoor
open Go.RowKit
set_option linter.unusedVariables false

theorem parts_good : ((List.range 5).all fun n => (List.range 64).all fun q => decide ((partsI n (nbQ n q) n).2.length ≤ 4) && ((partsI n (nbQ n q) n).2).all fun p => setU n p && decide (p.length ≠ 0) && decide (p.length ≤ 4)) = true := by decide +kernel
theorem partsL_good {c : List (List Int)} (hC : isC c = true) : (partsL c).length ≤ 4 ∧ ∀ k (hk : k < (partsL c).length), setU c.length (partsL c)[k] = true ∧ (partsL c)[k].length ≠ 0 ∧ (partsL c)[k].length ≤ 4 := by
  have h4 := ((isC_iff c).1 hC).2.1
  have e : partsL c = (partsI c.length (nbQ c.length (codeC c)) c.length).2 := by rw [partsL, if_pos hC, nb_code hC]
  have h := List.all_eq_true.1 (List.all_eq_true.1 parts_good c.length (List.mem_range.2 (by omega))) (codeC c) (List.mem_range.2 (code_lt c))
  rw [← e, Bool.and_eq_true, decide_eq_true_iff, List.all_eq_true] at h
  refine ⟨h.1, fun k hk => ?_⟩
  have h2 := h.2 _ (List.getElem_mem hk)
  rw [Bool.and_eq_true, Bool.and_eq_true, decide_eq_true_iff, decide_eq_true_iff] at h2
  exact ⟨h2.1.1, h2.1.2, h2.2⟩
theorem nm_short : (nmL.all fun p => decide (p.length ≤ 3)) = true := by decide
theorem nopL_len (c : List (List Int)) : (nopL c).length ≤ 3 := by
  unfold nopL
  cases h : nameK c with
  | some p =>
    have hm := List.mem_of_find?_eq_some h
    exact of_decide_eq_true (List.all_eq_true.1 nm_short p hm)
  | none => dsimp only; split <;> simp
def nlOf (c : List (List Int)) : List (List UInt8) := (partsL c).map (fun p => nopL (subS c p))
def nameL (c : List (List Int)) : List UInt8 := Lib.join (nlOf c) [120]
theorem nlOf_len (c : List (List Int)) : (nlOf c).length = (partsL c).length := by simp [nlOf]
theorem nlOf_short (c : List (List Int)) : ∀ x ∈ nlOf c, x.length ≤ 3 := by
  intro x hx
  rw [nlOf, List.mem_map] at hx
  obtain ⟨p, _, rfl⟩ := hx
  exact nopL_len _
theorem nlOf_take (c : List (List Int)) (k : Nat) (h : k < (partsL c).length) : (nlOf c).take (k + 1) = (nlOf c).take k ++ [nopL (subS c (partsL c)[k])] := by
  rw [List.take_succ_eq_append_getElem (by rw [nlOf_len]; exact h)]
  simp [nlOf]
theorem parts_nil {c : List (List Int)} (h : isC c = false) : partsL c = [] := by simp [partsL, h]
theorem name_nil {c : List (List Int)} (h : isC c = false) : nameL c = [] := by rw [nameL, nlOf, parts_nil h]; rfl
theorem own2_keepS {w w' : World} {B n lo hi : Nat} {x v : Value} {xs : List Value} {zss : List (List Int)} (hrow : RowV w B 9 x n xs) (hgrow : w.grownBy w' x.ownBlock) (h : Own2 w lo hi v zss) : Own2 w' lo hi v zss := by
  obtain ⟨Gr, _, hO⟩ := hrow.own
  rw [hO.block] at hgrow
  have hch := chg_grown hgrow
  obtain ⟨G, gs, vs, h1, h2, h3, h4, h5, h6, h7⟩ := h
  refine ⟨G, gs, vs, h1, h2, h3, h4.chg hch (fun e => own_ne h4 hO (by decide) e), h5.chg hch ?_, h6, h7⟩
  rintro g hmem rfl
  obtain ⟨i, hi, rfl⟩ := List.mem_iff_getElem.1 hmem
  have hv : i < vs.length := by rw [h5.1, ← h5.2.1]; exact hi
  have hz : i < zss.length := by rw [← h5.2.1]; exact hi
  exact own_ne (h5.2.2 i _ _ _ (List.getElem?_eq_getElem hi) (List.getElem?_eq_getElem hv) (List.getElem?_eq_getElem hz)) hO (by decide) rfl
set_option maxHeartbeats 1000000 in
theorem implNameOf (v1 : Value) (c : List (List Int)) (hc : c.length ≤ 274877906944) (w : World) (h1 : II w v1 c) (hm : MaxIs w) :
    Calls Tryz.prog 13 #[v1] w fun e w' => e = .returned (.string ⟨(nameL c).toArray⟩) ∧ Below w.heap.size w w' := by
  have H1 := Lib.hid h1
  have HM := Lib.hid hm
  obtain ⟨g1, o1, c1, hv1, _, _, _⟩ := h1.form
  subst hv1
  clear h1 hm
  obtain ⟨ps, hps⟩ : ∃ ps, partsL c = ps := ⟨_, rfl⟩
  have HC := Lib.hid (fun k (hk : k < ps.length) => show isC c = true ∧ setU c.length ps[k] = true ∧ ps[k].length ≠ 0 ∧ ps[k].length ≤ 4 from by
    subst hps
    have hC : isC c = true := by
      cases hC : isC c with
      | true => rfl
      | false => rw [parts_nil hC] at hk; simp at hk
    exact ⟨hC, (partsL_good hC).2 k hk⟩)
  have hp4 : ps.length ≤ 4 := by
    subst hps
    cases hC : isC c with
    | true => exact (partsL_good hC).1
    | false => rw [parts_nil hC]; simp
  have HT := Lib.hid (fun k (hk : k < ps.length) => show (nlOf c).take (k + 1) = (nlOf c).take k ++ [nopL (subS c ps[k])] from by subst hps; exact nlOf_take c k hk)
  have HE := Lib.hid (show (nlOf c).take ps.length = nlOf c from List.take_of_length_le (by rw [nlOf_len, hps]; exact Nat.le_refl _))
  have HL := Lib.hid (show (nlOf c).length = ps.length by rw [nlOf_len, hps])
  have HQ := Lib.hid (implPartsOf _ c hc (w.alloc (.cells #[] 9)) (H1.out.keep (below_new w _)))
  rw [hps] at HQ
  clear hps
  go_enter Tryz.func13, Tryz.ntmps13
  go_wp2_with fail
  refine HQ.out.mono ?_
  intro e w1 r1
  obtain ⟨vp, rfl, o1p, hb1⟩ := r1.out
  clear r1
  obtain ⟨gP, oP, cP, hvP, _, _, _⟩ := o1p.read.form
  subst hvP
  have hrow0 := (rowV_empty w 9).keep hb1
  have hb2 := ((Below.refl w.heap.size w).alloc (Nat.le_refl _) (.cells #[] 9)).trans (hb1.mono (by simp))
  clear hb1
  go_wp2_with fail
  go_loopw [3, 10] (fun v i wr => ∃ k lo hi : Nat, k ≤ ps.length ∧ i = .int .i64 k ∧ RowV wr w.heap.size 9 v k (strs ((nlOf c).take k)) ∧ Own2 wr lo hi (.slice (some ⟨gP, oP, none⟩) ps.length cP) ps ∧ Below w.heap.size w wr) (fun _ i _ => ps.length - (intOf i).toNat)
  case atStart => exact ⟨0, _, _, by omega, rfl, hrow0, o1p, hb2⟩
  case round =>
    clear hrow0 hb2 o1p
    obtain ⟨k, lo, hi, hk, rfl, hrow, hO, hbel⟩ := hrel
    by_cases hlt' : k < ps.length
    · obtain ⟨g2, o2, c2, x1, i1⟩ : ∃ g2 o2 c2, wr.cell? ⟨gP, oP + k, none⟩ = some (.slice (some ⟨g2, o2, none⟩) ps[k].length c2) ∧ I wr (.slice (some ⟨g2, o2, none⟩) ps[k].length c2) ps[k] := by
        obtain ⟨g', o', c', hv', _, _, hcell⟩ := hO.read.form
        injection hv' with e1 e2 e3
        injection e1 with e1
        injection e1 with e1 e2
        subst e1 e2 e3
        obtain ⟨r, y1, j1⟩ := hcell k hlt'
        obtain ⟨gr, or, cr, hr, _, _, _⟩ := j1.form
        subst hr
        exact ⟨gr, or, cr, y1, j1⟩
      have hCk := HC.out k hlt'
      have HTk := HT.out k hlt'
      obtain ⟨p, hp⟩ : ∃ p, ps[k] = p := ⟨_, rfl⟩
      rw [hp] at x1 i1 hCk HTk
      obtain ⟨hC, hU, hne, hl4⟩ := hCk
      have k1 := H1.out.keep hbel
      have HP := Lib.hid (implPicked _ _ c p hC hU (by omega) (by omega) wr k1 i1)
      have hsl : (subS c p).length ≤ 274877906944 := by simp only [subS, List.length_map]; omega
      obtain ⟨d, hd⟩ : ∃ d, subS c p = d := ⟨_, rfl⟩
      rw [hd] at HP hsl HTk
      obtain ⟨q, hq⟩ : ∃ q, nopL d = q := ⟨_, rfl⟩
      have HQ2 := Lib.hid (fun v w h hm => implNameOfPart v d hsl w h hm)
      rw [hq] at HQ2 HTk
      have HS := Lib.hid (show strs ((nlOf c).take (k + 1)) = strs ((nlOf c).take k) ++ [.string ⟨q.toArray⟩] by rw [HTk]; simp [strs, str])
      have hk0 : (0 : Int) ≤ (k : Int) := by omega
      have hk1 : (k : Int) < (ps.length : Int) := by omega
      clear hp hC hU hne hl4 HTk hd hq hsl k1 i1
      go_wp2_with fail
      refine HP.out.mono ?_
      intro e w2 r2
      obtain ⟨v2, rfl, o2r, hb3⟩ := r2.out
      clear r2
      have hbel2 := below_trans hbel hb3
      have hm2 := HM.out.keep hbel2
      have rd := o2r.read
      have hrow2 := hrow.keep hb3
      have hO2 := hO.keep hb3
      clear o2r hrow hO x1 hb3
      go_wp2_with fail
      refine (HQ2.out _ _ rd hm2).mono ?_
      rintro e w3 ⟨rfl, hb4⟩
      have hbel3 := below_trans hbel2 hb4
      have hrow3 := hrow2.keep hb4
      have hO3 := hO2.keep hb4
      have hs := hbel3.size
      clear hrow2 hO2 rd hb4 hm2
      go_wp2_with (at_builtin; refine wpList_pushV elemStr _ rfl _ _ rfl w.heap.size u3 k _ rfl (hrow3.alloc _) (.string ⟨q.toArray⟩) w3.heap.size rfl (cell_new1 _ _ _) rfl (by omega) (by simp; omega) ?_; intro gA capA wA hrowA hgrowA hbA)
      have hOA := own2_keepS (hrow3.alloc _) hgrowA (hO3.keep (below_new _ _))
      go_roundw
      case rel => exact ⟨k + 1, lo, hi, by omega, by go_num, by rw [HS.out]; exact hrowA, hOA, (hbel3.alloc hs _).trans hbA⟩
      case measure => simp [intOf]; omega
    · obtain rfl : k = ps.length := by omega
      rw [HE.out] at hrow
      obtain ⟨g, hg, hown⟩ := hrow.own
      have hjl := join_len (nlOf c) 120 3 (nlOf_short c)
      rw [HL.out] at hjl
      have HJ := Lib.hid (joinOwn (nlOf c) ⟨#[120]⟩ hown (by rw [HL.out]; omega) (show (Lib.join (nlOf c) [120]).length ≤ _ by omega))
      clear hown hrow hO hjl
      go_wp2_with fail
      refine HJ.out.mono ?_
      rintro e w2 ⟨rfl, hb3⟩
      go_wp2_with fail
      go_ret
      exact ⟨rfl, below_trans hbel hb3⟩
set_option maxHeartbeats 1000000 in
theorem specNameOf (v1 : Value) (c : List (List Int)) (hc : c.length ≤ 274877906944) (w : World) (h1 : II w v1 c) :
    Calls Tryz.prog 43 #[v1] w fun e w' => e = .returned (.string ⟨(nameL c).toArray⟩) ∧ Below w.heap.size w w' := by
  have H1 := Lib.hid h1
  obtain ⟨g1, o1, c1, hv1, _, _, _⟩ := h1.form
  subst hv1
  clear h1
  obtain ⟨ps, hps⟩ : ∃ ps, partsL c = ps := ⟨_, rfl⟩
  have HC := Lib.hid (fun k (hk : k < ps.length) => show isC c = true ∧ setU c.length ps[k] = true ∧ ps[k].length ≠ 0 ∧ ps[k].length ≤ 4 from by
    subst hps
    have hC : isC c = true := by
      cases hC : isC c with
      | true => rfl
      | false => rw [parts_nil hC] at hk; simp at hk
    exact ⟨hC, (partsL_good hC).2 k hk⟩)
  have hp4 : ps.length ≤ 4 := by
    subst hps
    cases hC : isC c with
    | true => exact (partsL_good hC).1
    | false => rw [parts_nil hC]; simp
  have HT := Lib.hid (fun k (hk : k < ps.length) => show (nlOf c).take (k + 1) = (nlOf c).take k ++ [nopL (subS c ps[k])] from by subst hps; exact nlOf_take c k hk)
  have HE := Lib.hid (show (nlOf c).take ps.length = nlOf c from List.take_of_length_le (by rw [nlOf_len, hps]; exact Nat.le_refl _))
  have HL := Lib.hid (show (nlOf c).length = ps.length by rw [nlOf_len, hps])
  have HQ := Lib.hid (specPartsOf _ c hc w H1.out)
  rw [hps] at HQ
  clear hps
  go_enter Tryz.func43, Tryz.ntmps43
  go_wp2_with fail
  refine HQ.out.mono ?_
  intro e w1 r1
  obtain ⟨vp, rfl, o1p, hb1⟩ := r1.out
  clear r1
  obtain ⟨gP, oP, cP, hvP, _, _, hcell⟩ := o1p.read.form
  subst hvP
  have HCL := Lib.hid hcell
  clear hcell o1p
  go_wp2_with fail
  go_loopw [4, 5] (fun s i wr => ∃ (k : Nat) (l : List UInt8), k ≤ ps.length ∧ i = .int .i64 k ∧ s = .string ⟨l.toArray⟩ ∧ l.length ≤ 4 * k ∧ Hid (l = Lib.join ((nlOf c).take k) [120]) ∧ Below w.heap.size w wr ∧ Below w1.heap.size w1 wr) (fun _ i _ => ps.length - (intOf i).toNat)
  case atStart => exact ⟨0, [], by omega, rfl, rfl, by simp, by simp [Hid, Lib.join_nil], hb1, Below.refl _ _⟩
  case round =>
    clear hb1
    obtain ⟨k, l, hk, rfl, rfl, hll, HI, hbel, hbel1⟩ := hrel
    by_cases hlt' : k < ps.length
    · obtain ⟨r, y1, j1⟩ := HCL.out k hlt'
      have x1 := cells_keep hbel1 y1
      have i1 := j1.keep hbel1
      have hCk := HC.out k hlt'
      have HTk := HT.out k hlt'
      have hnl := HL.out
      obtain ⟨p, hp⟩ : ∃ p, ps[k] = p := ⟨_, rfl⟩
      rw [hp] at i1 hCk HTk
      obtain ⟨hC, hU, hne, hl4⟩ := hCk
      have k1 := H1.out.keep hbel
      have HP := Lib.hid (specSubCartan _ _ c p (by omega) (by omega) wr k1 i1)
      rw [subL_t (subOk_t hC hU hne)] at HP
      obtain ⟨okv, hokv⟩ : ∃ okv, subOk c p = okv := ⟨_, rfl⟩
      rw [hokv] at HP
      have hsl : (subS c p).length ≤ 274877906944 := by simp only [subS, List.length_map]; omega
      obtain ⟨d, hd⟩ : ∃ d, subS c p = d := ⟨_, rfl⟩
      rw [hd] at HP hsl HTk
      have hql := nopL_len d
      obtain ⟨q, hq⟩ : ∃ q, nopL d = q := ⟨_, rfl⟩
      have HQ2 := Lib.hid (fun v w h => specNameOfPart v d hsl w h)
      rw [hq] at HQ2 HTk hql
      have HS0 := Lib.hid (show k = 0 → l ++ q = Lib.join ((nlOf c).take 1) [120] from fun h => by
        subst h
        have e : l = [] := HI.out
        rw [show (1 : Nat) = 0 + 1 from rfl, HTk, e]; simp [Lib.join_one])
      have HS1 := Lib.hid (show ¬ k = 0 → l ++ [120] ++ q = Lib.join ((nlOf c).take (k + 1)) [120] from fun h => by
        have e : l = _ := HI.out
        rw [HTk, join_snoc _ _ _ (by intro e2; have h2 : ((nlOf c).take k).length = k := by { rw [List.length_take, hnl]; omega }; rw [e2] at h2; simp at h2; omega), e]; simp)
      have hk0 : (0 : Int) ≤ (k : Int) := by omega
      have hk1 : (k : Int) < (ps.length : Int) := by omega
      obtain ⟨g2, o2, c2, hr, _, _, _⟩ := i1.form
      subst hr
      clear hp hC hU hne hl4 HTk hd hq hsl k1 i1 j1 y1 HI hokv hnl
      by_cases h0 : k = 0
      · have HS := Lib.hid (HS0.out h0)
        subst h0
        have d0 : decide ((0 : Int) < ((0 : Nat) : Int)) = false := by decide
        rw [Nat.add_zero] at x1
        clear HS0 HS1
        go_wp2_with fail
        refine HP.out.mono ?_
        intro e w2 r2
        obtain ⟨v2, rfl, o2r, hb3⟩ := r2.out
        clear r2
        have rd := o2r.read
        clear o2r
        go_wp2_with fail
        refine (HQ2.out _ _ rd).mono ?_
        rintro e w3 ⟨rfl, hb4⟩
        have f1 := below_trans (below_trans hbel hb3) hb4
        have f2 := below_trans (below_trans hbel1 hb3) hb4
        clear hb3 hb4 rd x1
        go_wp2_with fail
        go_roundw
        case rel => exact ⟨1, l ++ q, by omega, by go_num, by rw [bytes_append], by rw [List.length_append]; omega, HS, f1, f2⟩
        case measure => simp [intOf]; omega
      · have HS := Lib.hid (HS1.out h0)
        have d0 : 0 < k := by omega
        clear HS0 HS1 h0
        go_wp2_with fail
        refine HP.out.mono ?_
        intro e w2 r2
        obtain ⟨v2, rfl, o2r, hb3⟩ := r2.out
        clear r2
        have rd := o2r.read
        clear o2r
        go_wp2_with fail
        refine (HQ2.out _ _ rd).mono ?_
        rintro e w3 ⟨rfl, hb4⟩
        have f1 := below_trans (below_trans hbel hb3) hb4
        have f2 := below_trans (below_trans hbel1 hb3) hb4
        clear hb3 hb4 rd x1
        go_wp2_with fail
        go_roundw
        case rel => exact ⟨k + 1, l ++ [120] ++ q, by omega, by go_num, by rw [← bytes_append, ← bytes_append], by simp only [List.length_append, List.length_cons, List.length_nil]; omega, HS, f1, f2⟩
        case measure => simp [intOf]; omega
    · obtain rfl : k = ps.length := by omega
      have e : l = nameL c := by have := HI.out; rwa [HE.out] at this
      have HEE := Lib.hid e
      clear e HI
      go_wp2_with fail
      go_ret
      exact ⟨by rw [← HEE.out]; rfl, hbel⟩
end Go.Proofs.YtaikjkcbgniplaaGreatDoor
