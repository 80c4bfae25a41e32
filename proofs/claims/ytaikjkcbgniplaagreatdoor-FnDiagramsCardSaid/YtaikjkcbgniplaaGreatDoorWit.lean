/- WitnessOf and IsFinite of the program and of the reference: the first set whose determinant is not positive, for at most 2^38 rows. -/
import Derived.Test.YtaikjkcbgniplaaGreatDoorPm
namespace Go.Proofs.YtaikjkcbgniplaaGreatDoor
open Go.RowKit
set_option linter.unusedVariables false

theorem find_at {α : Type} (l : List α) (p : α → Bool) (i : Nat) (h : i < l.length) (hp : p l[i] = true) (hb : ∀ j (hj : j < l.length), j < i → p l[j] = false) : l.find? p = some l[i] := by
  rw [List.find?_eq_some_iff_getElem]
  refine ⟨hp, i, h, rfl, fun j hj => ?_⟩
  rw [hb j (by omega) hj]; rfl
theorem find_no {α : Type} (l : List α) (p : α → Bool) (hb : ∀ j (hj : j < l.length), p l[j] = false) : l.find? p = none := by
  rw [List.find?_eq_none]
  intro x hx
  obtain ⟨j, hj, rfl⟩ := List.mem_iff_getElem.1 hx
  rw [hb j hj]; simp
def badU (c : List (List Int)) (u : List Int) : Bool := decide (pmX c u ≤ 0)
def witS (c : List (List Int)) : List Int := ((setL c.length).find? (badU c)).getD []
def witL (c : List (List Int)) : List Int := if isC c then witS c else []
/-- All sets ahead of p are good. -/
def Pos (c : List (List Int)) (p : Nat) : Prop := ∀ j (hj : j < (setL c.length).length), j < p → badU c (setL c.length)[j] = false
theorem pos_zero (c : List (List Int)) : Pos c 0 := fun j _ h => absurd h (Nat.not_lt_zero j)
theorem pos_next {c : List (List Int)} {p : Nat} {u : List Int} {x : Int} (h : Pos c p) (hp : p < (setL c.length).length) (hu : setT (p + 1) c.length = u) (hx : pmX c u = x) (hb : decide (x ≤ 0) = false) : Pos c (p + 1) := by
  intro j hj hjp
  by_cases e : j = p
  · subst e hu hx
    rw [setL_get, badU]; exact hb
  · exact h j hj (by omega)
theorem wit_at {c : List (List Int)} {p : Nat} {u : List Int} {x : Int} (h : Pos c p) (hp : p < (setL c.length).length) (hu : setT (p + 1) c.length = u) (hx : pmX c u = x) (hb : decide (x ≤ 0) = true) : witS c = u := by
  subst hu hx
  rw [witS, find_at _ _ p hp (by rw [setL_get, badU]; exact hb) h]
  simp [setL_get]
theorem wit_none {c : List (List Int)} (h : Pos c (setL c.length).length) : witS c = [] := by
  rw [witS, find_no _ _ (fun j hj => h j hj hj)]; rfl
theorem witL_t {c : List (List Int)} (h : isC c = true) : witL c = witS c := by simp [witL, h]
theorem witL_f {c : List (List Int)} (h : isC c = false) : witL c = [] := by simp [witL, h]
theorem witL_len (c : List (List Int)) : (witL c).length ≤ 4 := by
  unfold witL
  split
  · next h =>
    have h4 := ((isC_iff c).1 h).2.1
    unfold witS
    cases e : (setL c.length).find? (badU c) with
    | none => simp
    | some u =>
      have hm := List.mem_of_find?_eq_some e
      rw [setL, List.mem_map] at hm
      obtain ⟨q, _, rfl⟩ := hm
      have := setT_len (q + 1) c.length
      simpa using (by omega)
  · simp
theorem pmS_get (c : List (List Int)) (p : Nat) (hp : p < (setL c.length).length) (hq : p < (pmS c).length) : (pmS c)[p] = pmX c (setT (p + 1) c.length) := by
  simp [pmS, setL_get]
def finB (c : List (List Int)) : Bool := isC c && decide ((witL c).length = 0)
theorem fin_len (n : Nat) : ((n : Int) == 0) = decide (n = 0) := by
  cases h : decide (n = 0) with
  | true => rw [decide_eq_true_iff] at h; rw [beq_iff_eq]; omega
  | false => rw [decide_eq_false_iff_not] at h; rw [beq_eq_false_iff_ne]; omega
/-- A row of a table of the call's own. -/
theorem Own2.row {w : World} {lo hi g o cap : Nat} {n : Nat} {zss : List (List Int)} (h : Own2 w lo hi (.slice (some ⟨g, o, none⟩) n cap) zss) {p : Nat} (hp : p < zss.length) {r : Value} (hr : w.cell? ⟨g, o + p, none⟩ = some r) : Own1 w lo hi r zss[p] := by
  obtain ⟨G, gs, vs, h1, h2, h3, h4, h5, h6⟩ := h
  have hv : p < vs.length := by rw [h5.1]; exact hp
  have hg : p < gs.length := by rw [h5.2.1]; exact hp
  obtain ⟨cap', e, _, _, hc, _⟩ := h4.form
  injection e with e1 e2 e3
  injection e1 with e1
  injection e1 with e1 e2
  subst e1 e2
  rw [Nat.zero_add, hc p vs[p] (List.getElem?_eq_getElem hv)] at hr
  injection hr with hr
  subst hr
  have hm : gs[p] ∈ gs := List.getElem_mem hg
  exact ⟨gs[p], (h3 _ hm).1, (h3 _ hm).2, h5.2.2 p _ _ _ (List.getElem?_eq_getElem hg) (List.getElem?_eq_getElem hv) (List.getElem?_eq_getElem hp)⟩
set_option maxHeartbeats 2000000 in
theorem specWitnessOf (v1 : Value) (c : List (List Int)) (hc : c.length ≤ 274877906944) (w : World) (h1 : II w v1 c) :
    Calls Tryz.prog 37 #[v1] w (RetInts w (witL c)) := by
  obtain ⟨g1, o1, c1, hv1, _, _, _⟩ := h1.form
  subst hv1
  cases hC : isC c with
  | false =>
    have HF := Lib.hid (witL_f hC)
    have HC := Lib.hid hC
    clear hC
    go_enter Tryz.func37, Tryz.ntmps37
    go_wp2_with fail
    refine (specIsCartan _ c (by omega) _ h1).mono ?_
    rw [HC.out]
    rintro e w1 ⟨rfl, hb1⟩
    go_wp2_with fail
    go_ret
    exact ⟨_, w1.heap.size, rfl, hb1.size, by rw [HF.out]; exact own_empty w1 _, below_trans hb1 (below_new w1 _)⟩
  | true =>
    have HF := Lib.hid (witL_t hC)
    have hn4 : c.length ≤ 4 := ((isC_iff c).1 hC).2.1
    have HC := Lib.hid hC
    clear hC
    go_enter Tryz.func37, Tryz.ntmps37
    go_wp2_with fail
    refine (specIsCartan _ c (by omega) _ h1).mono ?_
    rw [HC.out]
    rintro e w1 ⟨rfl, hb0⟩
    go_wp2_with fail
    refine (specSets c.length hn4 _).mono ?_
    rintro e w2 ⟨vS, rfl, hownS, hb2⟩
    have hlh := hb2.size
    have hl1 := hb0.size
    replace hb0 := below_trans hb0 hb2
    obtain ⟨gS, oS, cS, hvS, _, _, _⟩ := hownS.read.form
    subst hvS
    obtain ⟨lo, hlo'⟩ : ∃ lo, w1.heap.size = lo := ⟨_, rfl⟩
    obtain ⟨hi, hhi'⟩ : ∃ hi, w2.heap.size = hi := ⟨_, rfl⟩
    rw [hlo', hhi'] at hownS
    have hlo2 : w.heap.size ≤ lo := by omega
    have HML := Lib.hid (show (setL c.length).length + 1 = 2 ^ c.length by rw [setL_length]; have := Nat.one_le_two_pow (n := c.length); omega)
    have hM16 : (setL c.length).length ≤ 16 := by have := Nat.le_trans (Nat.pow_le_pow_right (n := 2) (by omega) hn4) (show 2 ^ 4 ≤ 16 by decide); have := HML.out; omega
    clear hlo' hhi' hlh hl1
    go_wp2_with fail
    go_loopw [4] (fun i wr => ∃ p : Nat, p ≤ (setL c.length).length ∧ i = .int .i64 p ∧ Hid (Pos c p) ∧ Own2 wr lo hi (.slice (some ⟨gS, oS, none⟩) (setL c.length).length cS) (setL c.length) ∧ Below w.heap.size w wr) (fun i _ => (setL c.length).length - (intOf i).toNat)
    case atStart => exact ⟨0, by omega, rfl, Lib.hid (pos_zero c), hownS, hb0⟩
    case round =>
      clear hownS hb0
      obtain ⟨p, hp, rfl, HP, hO2, hbel⟩ := hrel
      by_cases hlt' : p < (setL c.length).length
      · obtain ⟨gS', oS', cS', eS, _, _, hcS⟩ := hO2.read.form
        have eS2 : gS' = gS ∧ oS' = oS := by injection eS with e1 e2 e3; injection e1 with e1; injection e1 with e1 e2; exact ⟨e1.symm, e2.symm⟩
        obtain ⟨rfl, rfl⟩ := eS2
        obtain ⟨r, x1, j1⟩ := hcS p hlt'
        rw [setL_get] at j1
        have hq2 : p + 1 < 2 ^ c.length := by have := HML.out; omega
        obtain ⟨hu1, hu2, _⟩ := set_good c.length (p + 1) hn4 (by omega) hq2
        obtain ⟨u, hu⟩ : ∃ u, setT (p + 1) c.length = u := ⟨_, rfl⟩
        rw [hu] at j1 hu1 hu2
        obtain ⟨x, hx⟩ : ∃ x, det u.length (subS c u) = x := ⟨_, rfl⟩
        have HD := Lib.hid hx
        have HU := Lib.hid hu
        have HO := Lib.hid (subOk_t HC.out hu1 hu2)
        have HR := Lib.hid (fun (w' : World) (r' : Value) (hh : Own2 w' lo hi (.slice (some ⟨gS', oS', none⟩) (setL c.length).length cS) (setL c.length)) (hr : w'.cell? ⟨gS', oS' + p, none⟩ = some r') => (show Own1 w' lo hi r' u from by have := hh.row hlt' hr; rw [setL_get, HU.out] at this; exact this))
        have hul : u.length ≤ 4 := Nat.le_trans (set_short _ _ hu1) hn4
        obtain ⟨gr, or, cr, hr, _, _, _⟩ := j1.form
        subst hr
        have k1 := h1.keep hbel
        have hk0 : (0 : Int) ≤ (p : Int) := by omega
        have hk1 : (p : Int) < ((setL c.length).length : Int) := by omega
        clear hu hx hu1 hu2 hq2 eS hcS
        go_wp2_with fail
        refine (specSubCartan _ _ c u (by omega) (by omega) _ k1 j1).mono ?_
        rw [HO.out, subL_t HO.out]
        rintro e w3 ⟨v3, rfl, hown3, hb3⟩
        replace hO2 := hO2.keep hb3
        replace x1 := cells_keep hb3 x1
        go_wp2_with fail
        refine (specDet u.length _ (subS c u) _ (subS_length c u) (subS_sq c u) (by omega) hown3.read).mono ?_
        rw [HD.out]
        rintro e w4 ⟨rfl, hb4⟩
        replace hO2 := hO2.keep hb4
        replace x1 := cells_keep hb4 x1
        replace hbel := below_trans hbel (below_trans hb3 hb4)
        clear hb3 hb4 hown3 j1 k1
        cases d1 : decide (x ≤ 0) with
        | true =>
          have HW := Lib.hid (wit_at HP.out hlt' HU.out HD.out d1)
          have HRR := Lib.hid (HR.out _ _ hO2 x1)
          go_wp2_with fail
          go_ret
          obtain ⟨g, hg1, hg2, hown⟩ := HRR.out
          exact ⟨_, g, rfl, by omega, by rw [HF.out, HW.out]; exact hown, hbel⟩
        | false =>
          have HN := Lib.hid (pos_next HP.out hlt' HU.out HD.out d1)
          clear x1
          go_wp2_with fail
          go_roundw
          case rel => exact ⟨p + 1, by omega, by go_num, HN, hO2, hbel⟩
          case measure => simp [intOf]; omega
      · obtain rfl : p = (setL c.length).length := by omega
        have HE := Lib.hid (wit_none HP.out)
        go_wp2_with fail
        go_ret
        exact ⟨_, wr.heap.size, rfl, hbel.size, by rw [HF.out, HE.out]; exact own_empty wr _, below_trans hbel (below_new wr _)⟩
set_option maxHeartbeats 2000000 in
theorem implWitnessOf (v1 : Value) (c : List (List Int)) (hc : c.length ≤ 274877906944) (w : World) (h1 : II w v1 c) :
    Calls Tryz.prog 35 #[v1] w (RetInts w (witL c)) := by
  obtain ⟨g1, o1, c1, hv1, _, _, _⟩ := h1.form
  subst hv1
  cases hC : isC c with
  | false =>
    have HF := Lib.hid (witL_f hC)
    have HC := Lib.hid (show pmL c = [] by simp [pmL, hC])
    clear hC
    go_enter Tryz.func35, Tryz.ntmps35
    go_wp2_with fail
    refine (implPrincipalMinors _ c hc _ h1).mono ?_
    rw [HC.out]
    rintro e w1 ⟨v2, g2, rfl, hg2, hown2, hb1⟩
    obtain ⟨cy, hy, _, _⟩ := hown2.form
    subst hy
    go_wp2_with fail
    go_loopw [8] (fun i wr => i = .int .i64 0 ∧ Below w.heap.size w wr) (fun i _ => 0)
    case atStart => exact ⟨rfl, hb1⟩
    case round =>
      obtain ⟨rfl, hbel⟩ := hrel
      go_wp2_with fail
      go_ret
      exact ⟨_, wr.heap.size, rfl, hbel.size, by rw [HF.out]; exact own_empty wr _, below_trans hbel (below_new wr _)⟩
  | true =>
    have HF := Lib.hid (witL_t hC)
    have hn4 : c.length ≤ 4 := ((isC_iff c).1 hC).2.1
    have HC := Lib.hid (show pmL c = pmS c by simp [pmL, hC])
    clear hC
    have HL := Lib.hid (show (pmS c).length = (setL c.length).length by rw [pmS_length, setL_length])
    have HML := Lib.hid (show (setL c.length).length + 1 = 2 ^ c.length by rw [setL_length]; have := Nat.one_le_two_pow (n := c.length); omega)
    have hM16 : (pmS c).length ≤ 16 := by have := Nat.le_trans (Nat.pow_le_pow_right (n := 2) (by omega) hn4) (show 2 ^ 4 ≤ 16 by decide); have := HML.out; have := HL.out; omega
    go_enter Tryz.func35, Tryz.ntmps35
    go_wp2_with fail
    refine (implPrincipalMinors _ c hc _ h1).mono ?_
    rw [HC.out]
    rintro e w1 ⟨v2, g2, rfl, hg2, hown2, hb1⟩
    obtain ⟨cy, hy, _, _⟩ := hown2.form
    subst hy
    go_wp2_with fail
    go_loopw [8] (fun i wr => ∃ p : Nat, p ≤ (pmS c).length ∧ i = .int .i64 p ∧ Hid (Pos c p) ∧ Own wr g2 (.slice (some ⟨g2, 0, none⟩) (pmS c).length cy) (pmS c) ∧ Below w.heap.size w wr) (fun i _ => (pmS c).length - (intOf i).toNat)
    case atStart => exact ⟨0, by omega, rfl, Lib.hid (pos_zero c), hown2, hb1⟩
    case round =>
      clear hown2 hb1
      obtain ⟨p, hp, rfl, HP, hown, hbel⟩ := hrel
      by_cases hlt' : p < (pmS c).length
      · have x1 := hown.cell hlt'
        have hlt2 : p < (setL c.length).length := by have := HL.out; omega
        have hq2 : p + 1 < 2 ^ c.length := by have := HML.out; omega
        obtain ⟨_, _, hu4⟩ := set_good c.length (p + 1) hn4 (by omega) hq2
        rw [pmS_get c p hlt2 hlt'] at x1
        obtain ⟨u, hu⟩ : ∃ u, setT (p + 1) c.length = u := ⟨_, rfl⟩
        rw [hu] at x1 hu4
        obtain ⟨x, hx⟩ : ∃ x, pmX c u = x := ⟨_, rfl⟩
        rw [hx] at x1
        have HX := Lib.hid hx
        have HU := Lib.hid hu
        have HU4 := Lib.hid hu4
        have hk0 : (0 : Int) ≤ (p : Int) := by omega
        have hk1 : (p : Int) < ((pmS c).length : Int) := by omega
        have hp16 : p + 1 < 16 := by have := Nat.le_trans (Nat.pow_le_pow_right (n := 2) (by omega) hn4) (show 2 ^ 4 ≤ 16 by decide); omega
        clear hu hx hu4 hq2 hlt2
        cases d1 : decide (x ≤ 0) with
        | true =>
          have HW := Lib.hid (wit_at HP.out (by have := HL.out; omega) HU.out HX.out d1)
          go_wp2_with fail
          refine (implSetOf (p + 1) hp16 _).mono ?_
          rw [HU4.out]
          rintro e w3 ⟨v3, g3, rfl, hg3, hown3, hb3⟩
          have hs := hbel.size
          go_wp2_with fail
          go_ret
          exact ⟨_, g3, rfl, by omega, by rw [HF.out, HW.out]; exact hown3, below_trans hbel hb3⟩
        | false =>
          have HN := Lib.hid (pos_next HP.out (by have := HL.out; omega) HU.out HX.out d1)
          go_wp2_with fail
          go_roundw
          case rel => exact ⟨p + 1, by omega, by go_num, HN, hown, hbel⟩
          case measure => simp [intOf]; omega
      · obtain rfl : p = (pmS c).length := by omega
        have HE := Lib.hid (wit_none (by rw [← HL.out]; exact HP.out))
        go_wp2_with fail
        go_ret
        exact ⟨_, wr.heap.size, rfl, hbel.size, by rw [HF.out, HE.out]; exact own_empty wr _, below_trans hbel (below_new wr _)⟩
set_option maxHeartbeats 1000000 in
theorem specIsFinite (v1 : Value) (c : List (List Int)) (hc : c.length ≤ 274877906944) (w : World) (h1 : II w v1 c) :
    Calls Tryz.prog 41 #[v1] w fun e w' => e = .returned (.bool (finB c)) ∧ Below w.heap.size w w' := by
  cases hC : isC c with
  | false =>
    have HF := Lib.hid (show finB c = false by simp [finB, hC])
    have HC := Lib.hid hC
    clear hC
    go_enter Tryz.func41, Tryz.ntmps41
    go_wp2_with fail
    refine (specIsCartan _ c (by omega) _ h1).mono ?_
    rw [HC.out]
    rintro e w1 ⟨rfl, hb1⟩
    go_wp2_with fail
    go_ret
    exact ⟨ret_bool HF.out.symm, hb1⟩
  | true =>
    have HF := Lib.hid (show (((witL c).length : Int) == 0) = finB c by simp only [finB, hC, Bool.true_and]; exact fin_len _)
    have HC := Lib.hid hC
    clear hC
    go_enter Tryz.func41, Tryz.ntmps41
    go_wp2_with fail
    refine (specIsCartan _ c (by omega) _ h1).mono ?_
    rw [HC.out]
    rintro e w1 ⟨rfl, hb1⟩
    go_wp2_with fail
    refine (specWitnessOf _ c hc _ (h1.keep hb1)).mono ?_
    rintro e w2 ⟨v2, g2, rfl, hg2, hown2, hb2⟩
    obtain ⟨cy, hy, _, _⟩ := hown2.form
    subst hy
    go_wp2_with fail
    go_ret
    exact ⟨ret_bool HF.out, below_trans hb1 hb2⟩
set_option maxHeartbeats 1000000 in
theorem implIsFinite (v1 : Value) (c : List (List Int)) (hc : c.length ≤ 274877906944) (w : World) (h1 : II w v1 c) :
    Calls Tryz.prog 15 #[v1] w fun e w' => e = .returned (.bool (finB c)) ∧ Below w.heap.size w w' := by
  cases hC : isC c with
  | false =>
    have HF := Lib.hid (show finB c = false by simp [finB, hC])
    have HC := Lib.hid hC
    clear hC
    go_enter Tryz.func15, Tryz.ntmps15
    go_wp2_with fail
    refine (implIsCartan _ c (by omega) _ h1).mono ?_
    rw [HC.out]
    rintro e w1 ⟨rfl, hb1⟩
    go_wp2_with fail
    go_ret
    exact ⟨ret_bool HF.out.symm, hb1⟩
  | true =>
    have HF := Lib.hid (show (((witL c).length : Int) == 0) = finB c by simp only [finB, hC, Bool.true_and]; exact fin_len _)
    have HC := Lib.hid hC
    clear hC
    go_enter Tryz.func15, Tryz.ntmps15
    go_wp2_with fail
    refine (implIsCartan _ c (by omega) _ h1).mono ?_
    rw [HC.out]
    rintro e w1 ⟨rfl, hb1⟩
    go_wp2_with fail
    refine (implWitnessOf _ c hc _ (h1.keep hb1)).mono ?_
    rintro e w2 ⟨v2, g2, rfl, hg2, hown2, hb2⟩
    obtain ⟨cy, hy, _, _⟩ := hown2.form
    subst hy
    go_wp2_with fail
    go_ret
    exact ⟨ret_bool HF.out, below_trans hb1 hb2⟩
end Go.Proofs.YtaikjkcbgniplaaGreatDoor
