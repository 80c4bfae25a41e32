/- ParseWeight of the program and of the reference. -/
import Derived.Test.YtaikjkcbgniplaaDoorNum
import Derived.Test.YtaikjkcbgniplaaDoorWgt
namespace Go.Proofs.YtaikjkcbgniplaaDoor
open Go.RowKit
set_option linter.unusedVariables false

def pwOk (c : List (List Int)) (s : ByteArray) : Bool := isWt c (numsOf 1001 s.data.toList) && decide (joinN 44 (numsOf 1001 s.data.toList) = s.data.toList)
def pwL (c : List (List Int)) (s : ByteArray) : List Int := if pwOk c s then numsOf 1001 s.data.toList else []
theorem pw_t {c : List (List Int)} {s : ByteArray} (h1 : isWt c (numsOf 1001 s.data.toList) = true) (h2 : joinN 44 (numsOf 1001 s.data.toList) = s.data.toList) : pwOk c s = true ∧ pwL c s = numsOf 1001 s.data.toList := by
  have e : pwOk c s = true := by simp [pwOk, h1, h2]
  exact ⟨e, by simp [pwL, e]⟩
theorem pw_f1 {c : List (List Int)} {s : ByteArray} (h1 : isWt c (numsOf 1001 s.data.toList) = false) : pwOk c s = false ∧ pwL c s = [] := by
  have e : pwOk c s = false := by simp [pwOk, h1]
  exact ⟨e, by simp [pwL, e]⟩
theorem pw_f2 {c : List (List Int)} {s : ByteArray} (h1 : joinN 44 (numsOf 1001 s.data.toList) ≠ s.data.toList) : pwOk c s = false ∧ pwL c s = [] := by
  have e : pwOk c s = false := by simp [pwOk, h1]
  exact ⟨e, by simp [pwL, e]⟩
theorem pw_len (c : List (List Int)) (s : ByteArray) : (pwL c s).length ≤ s.size + 1 := by
  have := cutL_len 44 s.data.toList
  have e : s.data.toList.length = s.size := by simp
  unfold pwL
  split
  · rw [numsOf_len]; omega
  · simp
theorem allOk_wt {c : List (List Int)} {l : List UInt8} (h : allOk l = false) : isWt c (numsOf 1001 l) = false := by
  refine isWt_no _ _ (fun h2 => ?_)
  cases hA : allOk l with
  | true => rw [hA] at h; cases h
  | false =>
    have : allOk l = true := allOk_yes (fun k hk => by
      cases hp : piOk (cutL 44 l)[k] with
      | true => rfl
      | false =>
        have h3 := h2.2.2 (num 1001 (cutL 44 l)[k]) (List.mem_map.2 ⟨_, List.getElem_mem hk, rfl⟩)
        rw [num_f hp] at h3
        omega)
    rw [this] at hA; cases hA
theorem numsOf_wf (d : Int) (l : List UInt8) (hd : -100000000000 < d ∧ d < 100000000000) : Wf (numsOf d l) := by
  intro n hn
  rw [numsOf, List.mem_map] at hn
  obtain ⟨p, _, rfl⟩ := hn
  exact num_wf d p hd
set_option maxHeartbeats 1000000 in
theorem implParseWeight (v1 : Value) (c : List (List Int)) (s : ByteArray) (hc : c.length ≤ 274877906944) (hs : s.size ≤ 1048576) (w : World) (h1 : II w v1 c) (h : LaidAll w) :
    Calls Tryd.prog 17 #[v1, .string s] w (RetIntsB w (pwL c s) (pwOk c s)) := by
  have HC := Lib.hid (implParseInts s hs w h)
  have HLD := Lib.hid h
  have hln : (numsOf 1001 s.data.toList).length ≤ 1048577 := by
    rw [numsOf_len]
    have := cutL_len 44 s.data.toList
    have e : s.data.toList.length = s.size := by simp
    omega
  cases hA : allOk s.data.toList with
  | false =>
    have HO := Lib.hid (@pw_f1 c s (allOk_wt hA))
    rw [hA] at HC
    clear hA h hln
    go_enter Tryd.func17, Tryd.ntmps17
    go_wp2_with fail
    refine HC.out.mono ?_
    rintro e w1 ⟨v, rfl, _, hb1⟩
    have hs1 := hb1.size
    go_wp2_with fail
    go_ret2
    exact ⟨_, _, by rw [HO.out.1]; rfl, hs1, by rw [HO.out.2]; exact own_empty w1 _, hb1.alloc hs1 _⟩
  | true =>
    have hWf := numsOf_wf 1001 s.data.toList (by omega)
    rw [numsOf_same hA 0 1001, hA] at HC
    cases hW : isWt c (numsOf 1001 s.data.toList) with
    | false =>
      have HO := Lib.hid (@pw_f1 c s hW)
      have HI := Lib.hid hW
      clear hW hA h hWf
      obtain ⟨us, hus⟩ : ∃ us, numsOf 1001 s.data.toList = us := ⟨_, rfl⟩
      rw [hus] at HC HI hln
      clear hus
      go_enter Tryd.func17, Tryd.ntmps17
      go_wp2_with fail
      refine HC.out.mono ?_
      rintro e w1 ⟨v, rfl, hr, hb1⟩
      obtain ⟨g, hg, hown⟩ := (hr trivial).own
      have hown : Own w1 g v us := hown
      have k1 := h1.keep hb1
      clear hr
      go_wp2_with fail
      refine (implIsWeight _ _ c us (by omega) (by omega) _ k1 hown.read).mono ?_
      rw [HI.out]
      rintro e w2 ⟨rfl, hb2⟩
      have hs2 := (below_trans hb1 hb2).size
      go_wp2_with fail
      go_ret2
      exact ⟨_, _, by rw [HO.out.1]; rfl, hs2, by rw [HO.out.2]; exact own_empty w2 _, (below_trans hb1 hb2).alloc hs2 _⟩
    | true =>
      have HI := Lib.hid hW
      by_cases hJ : joinN 44 (numsOf 1001 s.data.toList) = s.data.toList
      · have HO := Lib.hid (@pw_t c s hW hJ)
        obtain ⟨us, hus⟩ : ∃ us, numsOf 1001 s.data.toList = us := ⟨_, rfl⟩
        have HJ : (⟨(joinN 44 us).toArray⟩ : ByteArray) = s := bytes_ne.2 (by rw [← hus]; exact hJ)
        have HX := Lib.hid HJ
        have HWf := Lib.hid hWf
        rw [hus] at HC HI hln HO HWf
        clear hW hA h hWf hus hJ HJ
        go_enter Tryd.func17, Tryd.ntmps17
        go_wp2_with fail
        refine HC.out.mono ?_
        rintro e w1 ⟨v, rfl, hr, hb1⟩
        obtain ⟨g, hg, hown⟩ := (hr trivial).own
        have hown : Own w1 g v us := hown
        have k1 := h1.keep hb1
        clear hr
        go_wp2_with fail
        refine (implIsWeight _ _ c us (by omega) (by omega) _ k1 hown.read).mono ?_
        rw [HI.out]
        rintro e w2 ⟨rfl, hb2⟩
        have hown2 := hown.keep hb2
        go_wp2_with fail
        refine (implFormatWeight _ us (by omega) HWf.out _ hown2.read (HLD.out.keep (below_trans hb1 hb2)).1).mono ?_
        rw [HX.out]
        rintro e w3 ⟨rfl, hb3⟩
        have hown3 := hown2.keep hb3
        go_wp2_with fail
        go_ret2
        exact ⟨v, g, by rw [HO.out.1]; rfl, hg, by rw [HO.out.2]; exact hown3, below_trans (below_trans hb1 hb2) hb3⟩
      · have HO := Lib.hid (@pw_f2 c s hJ)
        obtain ⟨us, hus⟩ : ∃ us, numsOf 1001 s.data.toList = us := ⟨_, rfl⟩
        obtain ⟨X, hX⟩ : ∃ X, (⟨(joinN 44 us).toArray⟩ : ByteArray) = X := ⟨_, rfl⟩
        have hne : (X.toList == s.toList) = false := ne_toList (fun e => hJ (by rw [hus]; exact bytes_ne.1 (hX.trans e)))
        have HX := Lib.hid hX
        have HWf := Lib.hid hWf
        rw [hus] at HC HI hln HWf
        clear hW hA h hWf hus hJ hX
        go_enter Tryd.func17, Tryd.ntmps17
        go_wp2_with fail
        refine HC.out.mono ?_
        rintro e w1 ⟨v, rfl, hr, hb1⟩
        obtain ⟨g, hg, hown⟩ := (hr trivial).own
        have hown : Own w1 g v us := hown
        have k1 := h1.keep hb1
        clear hr
        go_wp2_with fail
        refine (implIsWeight _ _ c us (by omega) (by omega) _ k1 hown.read).mono ?_
        rw [HI.out]
        rintro e w2 ⟨rfl, hb2⟩
        have hown2 := hown.keep hb2
        go_wp2_with fail
        refine (implFormatWeight _ us (by omega) HWf.out _ hown2.read (HLD.out.keep (below_trans hb1 hb2)).1).mono ?_
        rw [HX.out]
        rintro e w3 ⟨rfl, hb3⟩
        have hb := below_trans (below_trans hb1 hb2) hb3
        have hs3 := hb.size
        go_wp2_with fail
        go_ret2
        exact ⟨_, _, by rw [HO.out.1]; rfl, hs3, by rw [HO.out.2]; exact own_empty w3 _, hb.alloc hs3 _⟩
set_option maxHeartbeats 1000000 in
theorem specParseWeight (v1 : Value) (c : List (List Int)) (s : ByteArray) (hc : c.length ≤ 274877906944) (hs : s.size ≤ 1048576) (w : World) (h1 : II w v1 c) :
    Calls Tryd.prog 16 #[v1, .string s] w (RetIntsB w (pwL c s) (pwOk c s)) := by
  have hl : s.data.toList.length = s.size := by simp
  have HS := Lib.hid (specCut s 44 hs (w.alloc (.cells #[] 3)))
  have HPT := Lib.hid (fun h1 h2 => @pw_t c s h1 h2)
  have HPF := Lib.hid (fun h1 => @pw_f1 c s h1)
  have HPG := Lib.hid (fun h1 => @pw_f2 c s h1)
  have HWf := Lib.hid (numsOf_wf 1001 s.data.toList (by omega))
  have H1 := Lib.hid h1
  obtain ⟨ls, us, ok, hc1, hu, hok, hle, HP, HA, HT, HF, HY, HE, HN⟩ := numParts 1001 s.data.toList
  rw [hc1] at HS
  rw [hu] at HWf HPT HPF HPG
  rw [hl] at hle HP
  clear hc1 hu hok HT HF HY hl
  obtain ⟨g1, o1, c1, hv1, _, _, _⟩ := h1.form
  subst hv1
  clear h1
  go_enter Tryd.func16, Tryd.ntmps16
  go_wp2_with fail
  refine HS.out.mono ?_
  rintro e w1 ⟨v, rfl, hrw, hb1⟩
  obtain ⟨gp, hgp, hown⟩ := hrw.own
  obtain ⟨cap, hv, hcap1, hcap2, hcc, _⟩ := hown.form
  have hsl : (strs ls).length = ls.length := by simp [strs]
  rw [hsl] at hv hcap1
  subst hv
  have hgpl := hown.lt
  have HC := Lib.hid (show ∀ i (h : i < ls.length), w1.cell? ⟨gp, i, none⟩ = some (.string ⟨ls[i].toArray⟩) from fun i h => hcc i (str ls[i]) (by simp [strs, h]))
  have hrow0 : Own w1 w.heap.size _ [] := (own_empty w 3).keep hb1
  have hb2 := ((Below.refl w.heap.size w).alloc (Nat.le_refl _) (.cells #[] 3)).trans (hb1.mono (by simp))
  have hgs : (w.alloc (.cells #[] 3)).heap.size = w.heap.size + 1 := by simp
  rw [hgs] at hgp
  clear hcc hown hrw hsl hb1 hgs
  go_wp2_with fail
  go_loopw [6, 8] (fun v i wr => ∃ k : Nat, k ≤ ls.length ∧ i = .int .i64 k ∧ (∃ G, Own wr G v (us.take k) ∧ w.heap.size ≤ G ∧ G ≠ gp) ∧ Below w.heap.size w wr ∧ gp < wr.heap.size ∧ Hid (∀ i (h : i < ls.length), wr.cell? ⟨gp, i, none⟩ = some (.string ⟨ls[i].toArray⟩))) (fun _ i _ => ls.length - (intOf i).toNat)
  case atStart => exact ⟨0, by omega, rfl, ⟨_, hrow0, Nat.le_refl _, by omega⟩, hb2, hgpl, HC.out⟩
  case round =>
    clear hrow0 hb2 HC hgpl
    obtain ⟨k, hk, rfl, ⟨G, hrow, hG1, hG2⟩, hbel, hgpl, HC⟩ := hrel
    by_cases hlt' : k < ls.length
    · have x1 := HC.out k hlt'
      have hpl := HP.out k hlt'
      have HAk := Lib.hid (HA.out k hlt')
      obtain ⟨p, hp⟩ : ∃ p, ls[k] = p := ⟨_, rfl⟩
      rw [hp] at x1 hpl HAk
      have HQ := Lib.hid (specNum ⟨p.toArray⟩ 1001 (by show p.length ≤ 1048576; omega) wr)
      have hpd : (⟨p.toArray⟩ : ByteArray).data.toList = p := rfl
      rw [hpd] at HQ
      have hk0 : (0 : Int) ≤ (k : Int) := by omega
      have hk1 : (k : Int) < (ls.length : Int) := by omega
      obtain ⟨x, hx⟩ : ∃ x : ByteArray, (⟨p.toArray⟩ : ByteArray) = x := ⟨_, rfl⟩
      rw [hx] at HQ x1
      obtain ⟨y, hy⟩ : ∃ y, num 1001 p = y := ⟨_, rfl⟩
      rw [hy] at HQ HAk
      clear hx hpd hp hy
      go_wp2_with fail
      refine HQ.out.mono ?_
      rintro e w2 ⟨rfl, hb3⟩
      have hbel2 := below_trans hbel hb3
      have hrow2 : OwnV (w2.alloc (.cells #[.int .i64 y] 3)) 3 G u6 (ivs (us.take k)) := OwnV.keep (OwnV.keep hrow hb3) ((Below.refl _ _).alloc (Nat.le_refl _) _)
      have hs := hbel2.size
      have hs3 := hb3.size
      have hlk : (us.take k).length ≤ k := by rw [List.length_take]; omega
      have hch0 : Chg (· = G) wr (w2.alloc (.cells #[.int .i64 y] 3)) := (Chg.of_below hb3).trans (Chg.of_below ((Below.refl _ _).alloc (Nat.le_refl _) _))
      clear hrow hb3
      go_wp2_with (at_builtin; refine wpList_pushL elemInt _ rfl _ _ rfl G u6 _ rfl hrow2 (.int .i64 y) w2.heap.size rfl (cell_new1 _ _ _) rfl (by rw [ivs_length]; omega) ?_; intro gA capA wA hownA hchA horA)
      have hchT := hch0.trans hchA
      have hszA := hchA.size
      have HF := Lib.hid (show (∃ g, Own wA g (.slice (some ⟨gA, 0, none⟩) ((ivs (us.take k)).length + 1) capA) (us.take (k + 1)) ∧ w.heap.size ≤ g ∧ g ≠ gp) ∧ Below w.heap.size w wA ∧ gp < wA.heap.size ∧ Hid (∀ i (h : i < ls.length), wA.cell? ⟨gp, i, none⟩ = some (.string ⟨ls[i].toArray⟩)) by
        refine ⟨⟨gA, by rw [Own, HAk.out]; exact hownA, ?_, ?_⟩, below_chg hbel hchT (fun q hq => by subst hq; exact hG1), by simp at hszA; omega, fun i h => cell_chg hchT (fun e => hG2 e.symm) (HC.out i h)⟩
        · rcases horA with e | e
          · omega
          · rw [e]; simp; omega
        · rcases horA with e | e
          · omega
          · rw [e]; simp; omega)
      clear hownA horA hchA hch0 hrow2 hszA
      go_roundw
      case rel =>
        obtain ⟨f1, f2, f3, f4⟩ := HF.out
        exact ⟨k + 1, by omega, by go_num, f1, f2, f3, f4⟩
      case measure => simp [intOf]; omega
    · obtain rfl : k = ls.length := by omega
      rw [HE.out] at hrow
      have hln : us.length ≤ 1048577 := by rw [HN.out]; omega
      have k1 := H1.out.keep hbel
      have HQ := Lib.hid (specFormatWeight _ us (by omega) HWf.out _ hrow.read)
      have hsz := hbel.size
      by_cases hJ : joinN 44 us = s.data.toList
      · have HJ : (⟨(joinN 44 us).toArray⟩ : ByteArray) = s := bytes_ne.2 hJ
        rw [HJ] at HQ
        cases hW : isWt c us with
        | false =>
          have HO := Lib.hid (HPF.out hW)
          have HI := Lib.hid hW
          clear hW hJ HJ HPT HPF HPG HC HE HN HP HA
          go_wp2_with fail
          refine HQ.out.mono ?_
          rintro e w2 ⟨rfl, hb2⟩
          have hown2 := hrow.keep hb2
          have k2 := k1.keep hb2
          go_wp2_with fail
          refine (specIsWeight _ _ c us (by omega) (by omega) _ k2 hown2.read).mono ?_
          rw [HI.out]
          rintro e w3 ⟨rfl, hb3⟩
          have hb := below_trans (below_trans hbel hb2) hb3
          have hs3 := hb.size
          go_wp2_with fail
          go_ret2
          exact ⟨_, _, by rw [HO.out.1]; rfl, hs3, by rw [HO.out.2]; exact own_empty w3 _, hb.alloc hs3 _⟩
        | true =>
          have HO := Lib.hid (HPT.out hW hJ)
          have HI := Lib.hid hW
          clear hW hJ HJ HPT HPF HPG HC HE HN HP HA
          go_wp2_with fail
          refine HQ.out.mono ?_
          rintro e w2 ⟨rfl, hb2⟩
          have hown2 := hrow.keep hb2
          have k2 := k1.keep hb2
          go_wp2_with fail
          refine (specIsWeight _ _ c us (by omega) (by omega) _ k2 hown2.read).mono ?_
          rw [HI.out]
          rintro e w3 ⟨rfl, hb3⟩
          have hown3 := hown2.keep hb3
          have hb := below_trans (below_trans hbel hb2) hb3
          go_wp2_with fail
          go_ret2
          exact ⟨u6, G, by rw [HO.out.1]; rfl, hG1, by rw [HO.out.2]; exact hown3, hb⟩
      · have HO := Lib.hid (HPG.out hJ)
        obtain ⟨X, hX⟩ : ∃ X, (⟨(joinN 44 us).toArray⟩ : ByteArray) = X := ⟨_, rfl⟩
        have hne : (X.toList == s.toList) = false := ne_toList (fun e => hJ (bytes_ne.1 (hX.trans e)))
        rw [hX] at HQ
        clear hJ hX HPT HPF HPG HC HE HN HP HA
        go_wp2_with fail
        refine HQ.out.mono ?_
        rintro e w2 ⟨rfl, hb2⟩
        have hb := below_trans hbel hb2
        have hs3 := hb.size
        go_wp2_with fail
        go_ret2
        exact ⟨_, _, by rw [HO.out.1]; rfl, hs3, by rw [HO.out.2]; exact own_empty w2 _, hb.alloc hs3 _⟩
end Go.Proofs.YtaikjkcbgniplaaDoor
