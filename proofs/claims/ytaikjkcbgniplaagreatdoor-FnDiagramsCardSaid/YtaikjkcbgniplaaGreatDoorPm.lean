/- PrincipalMinors of the program and of the reference: the determinants of all principal parts, for at most 2^38 numbers. -/
import Derived.Test.YtaikjkcbgniplaaGreatDoorSets
import Derived.Test.YtaikjkcbgniplaaGreatDoorDetI
import Derived.Test.YtaikjkcbgniplaaGreatDoorPush
namespace Go.Proofs.YtaikjkcbgniplaaGreatDoor
open Go.RowKit
set_option linter.unusedVariables false

def okB (n u : Nat) : Bool := setU n (setT u n) && decide ((setT u n).length ≠ 0) && (setT u 4 == setT u n)
theorem okB_all : ∀ n : Nat, n < 5 → ∀ q : Nat, q < 16 → 1 ≤ q → q < 2 ^ n → okB n q = true := by decide
theorem set_good (n q : Nat) (hn : n ≤ 4) (h1 : 1 ≤ q) (h2 : q < 2 ^ n) : setU n (setT q n) = true ∧ (setT q n).length ≠ 0 ∧ setT q 4 = setT q n := by
  have h16 : 2 ^ n ≤ 16 := Nat.le_trans (Nat.pow_le_pow_right (by omega) hn) (by decide)
  have := okB_all n (by omega) q (by omega) h1 h2
  rw [okB, Bool.and_eq_true, Bool.and_eq_true, decide_eq_true_iff, beq_iff_eq] at this
  exact ⟨this.1.1, this.1.2, this.2⟩
theorem subS_sq (c : List (List Int)) (u : List Int) : Sq (subS c u) := by
  intro k hk
  rw [subS_length] at hk ⊢
  simp [subS, subR]
def pmX (c : List (List Int)) (u : List Int) : Int := det u.length (subS c u)
def pmS (c : List (List Int)) : List Int := (setL c.length).map (pmX c)
def pmL (c : List (List Int)) : List Int := if isC c then pmS c else []
theorem pmS_length (c : List (List Int)) : (pmS c).length = 2 ^ c.length - 1 := by rw [pmS, List.length_map, setL_length]
theorem pmS_snoc (c : List (List Int)) (p : Nat) (x : Int) (h : p + 1 < 2 ^ c.length) (hx : pmX c (setT (p + 1) c.length) = x) : ivs ((pmS c).take (p + 1)) = ivs ((pmS c).take p) ++ [.int .i64 x] := by
  subst hx
  rw [List.take_succ_eq_append_getElem (by rw [pmS_length]; omega)]
  simp [ivs, pmS, setL]
theorem pmS_end (c : List (List Int)) (p : Nat) (h : p + 1 = 2 ^ c.length) : (pmS c).take p = pmS c := List.take_of_length_le (by rw [pmS_length]; omega)
theorem setL_get (n p : Nat) (h : p < (setL n).length) : (setL n)[p] = setT (p + 1) n := by simp [setL]
theorem pmL_len (c : List (List Int)) : (pmL c).length ≤ 16 := by
  unfold pmL
  split
  · next h =>
    have h4 := ((isC_iff c).1 h).2.1
    have h16 : 2 ^ c.length ≤ 16 := Nat.le_trans (Nat.pow_le_pow_right (by omega) h4) (by decide)
    rw [pmS_length]; omega
  · simp
set_option maxHeartbeats 2000000 in
theorem specPrincipalMinors (v1 : Value) (c : List (List Int)) (hc : c.length ≤ 274877906944) (w : World) (h1 : II w v1 c) :
    Calls Tryz.prog 38 #[v1] w (RetInts w (pmL c)) := by
  obtain ⟨g1, o1, c1, hv1, _, _, _⟩ := h1.form
  subst hv1
  cases hC : isC c with
  | false =>
    have HF := Lib.hid (show pmL c = [] by simp [pmL, hC])
    have HC := Lib.hid hC
    clear hC
    go_enter Tryz.func38, Tryz.ntmps38
    go_wp2_with fail
    refine (specIsCartan _ c (by omega) _ (h1.keep (below_new w _))).mono ?_
    rw [HC.out]
    rintro e w1 ⟨rfl, hb1⟩
    have hrow := (rowV_empty w 3).keep hb1
    obtain ⟨g, hg, hown⟩ := hrow.own
    go_wp2_with fail
    go_ret
    exact ⟨_, g, rfl, hg, by rw [HF.out]; exact hown, below_trans (below_new w _) hb1⟩
  | true =>
    have HF := Lib.hid (show pmL c = pmS c by simp [pmL, hC])
    have hn4 : c.length ≤ 4 := ((isC_iff c).1 hC).2.1
    have HC := Lib.hid hC
    clear hC
    go_enter Tryz.func38, Tryz.ntmps38
    go_wp2_with fail
    refine (specIsCartan _ c (by omega) _ (h1.keep (below_new w _))).mono ?_
    rw [HC.out]
    rintro e w1 ⟨rfl, hb1⟩
    have hown0 : OwnV w1 3 w.heap.size _ [] := (own_empty w 3).keep hb1
    have hb0 := below_trans (below_new w _) hb1
    go_wp2_with fail
    refine (specSets c.length hn4 _).mono ?_
    rintro e w2 ⟨vS, rfl, hownS, hb2⟩
    have hlo : w.heap.size < w1.heap.size := hown0.lt
    have hlh := hb2.size
    replace hown0 := hown0.keep hb2
    replace hb0 := below_trans hb0 hb2
    obtain ⟨gS, oS, cS, hvS, _, _, _⟩ := hownS.read.form
    subst hvS
    obtain ⟨lo, hlo'⟩ : ∃ lo, w1.heap.size = lo := ⟨_, rfl⟩
    obtain ⟨hi, hhi'⟩ : ∃ hi, w2.heap.size = hi := ⟨_, rfl⟩
    rw [hlo', hhi'] at hownS
    have hlo2 : w.heap.size < lo := by omega
    have hlh2 : lo ≤ hi := by omega
    have hhs : hi ≤ w2.heap.size := by omega
    have HML := Lib.hid (show (setL c.length).length + 1 = 2 ^ c.length by rw [setL_length]; have := Nat.one_le_two_pow (n := c.length); omega)
    have hM16 : (setL c.length).length ≤ 16 := by have := Nat.le_trans (Nat.pow_le_pow_right (n := 2) (by omega) hn4) (show 2 ^ 4 ≤ 16 by decide); have := HML.out; omega
    clear hlo hlo' hhi' hlh
    go_wp2_with fail
    go_loopw [3, 5] (fun v i wr => ∃ p G : Nat, p ≤ (setL c.length).length ∧ i = .int .i64 p ∧ OwnV wr 3 G v (ivs ((pmS c).take p)) ∧ w.heap.size ≤ G ∧ (G < lo ∨ hi ≤ G) ∧ hi ≤ wr.heap.size ∧ Own2 wr lo hi (.slice (some ⟨gS, oS, none⟩) (setL c.length).length cS) (setL c.length) ∧ Below w.heap.size w wr) (fun _ i _ => (setL c.length).length - (intOf i).toNat)
    case atStart => exact ⟨0, w.heap.size, by omega, rfl, hown0, Nat.le_refl _, .inl hlo2, hhs, hownS, hb0⟩
    case round =>
      clear hown0 hownS hb0 hhs
      obtain ⟨p, G, hp, rfl, hown, hG, hd, hsz, hO2, hbel⟩ := hrel
      have hPL : Hid ((ivs ((pmS c).take p)).length = p) := Lib.hid (by rw [ivs_length, List.length_take, pmS_length]; have := HML.out; omega)
      by_cases hlt' : p < (setL c.length).length
      · obtain ⟨gS', oS', cS', eS, _, _, hcS⟩ := hO2.read.form
        have eS2 : gS' = gS ∧ oS' = oS := by injection eS with e1 e2 e3; injection e1 with e1; injection e1 with e1 e2; exact ⟨e1.symm, e2.symm⟩
        obtain ⟨rfl, rfl⟩ := eS2
        obtain ⟨r, x1, j1⟩ := hcS p hlt'
        rw [setL_get] at j1
        have hq2 : p + 1 < 2 ^ c.length := by have := HML.out; omega
        obtain ⟨hu1, hu2, _⟩ := set_good c.length (p + 1) hn4 (by omega) hq2
        obtain ⟨u, hu⟩ : ∃ u, setT (p + 1) c.length = u := ⟨_, rfl⟩
        rw [hu] at j1 hu1 hu2
        obtain ⟨x, hx⟩ : ∃ x, det u.length (subS c u) = x := ⟨_, rfl⟩
        have HX := Lib.hid (pmS_snoc c p x hq2 (by rw [hu]; exact hx))
        have HD := Lib.hid hx
        have HO := Lib.hid (subOk_t HC.out hu1 hu2)
        have hul : u.length ≤ 4 := Nat.le_trans (set_short _ _ hu1) hn4
        obtain ⟨gr, or, cr, hr, _, _, _⟩ := j1.form
        subst hr
        have k1 := h1.keep hbel
        have hk0 : (0 : Int) ≤ (p : Int) := by omega
        have hk1 : (p : Int) < ((setL c.length).length : Int) := by omega
        clear hu hx hu1 hu2 hq2 eS hcS
        go_wp2_with fail
        refine (specSubCartan _ _ c u (by omega) (by omega) _ k1 j1).mono ?_
        rw [HO.out, subL_t HO.out]
        rintro e w3 ⟨v3, rfl, hown3, hb3⟩
        replace hown := hown.keep hb3
        replace hO2 := hO2.keep hb3
        go_wp2_with fail
        refine (specDet u.length _ (subS c u) _ (subS_length c u) (subS_sq c u) (by omega) hown3.read).mono ?_
        rw [HD.out]
        rintro e w4 ⟨rfl, hb4⟩
        replace hown := hown.keep hb4
        replace hO2 := hO2.keep hb4
        have hs3 := hb3.size
        have hs4 := hb4.size
        have hsz4 : hi ≤ w4.heap.size := by omega
        replace hbel := below_trans hbel (below_trans hb3 hb4)
        clear hb3 hb4 hown3 j1 k1 x1 hs3 hs4 hsz
        have hbn := below_new w4 (.cells #[.int .i64 x] 3)
        go_wp2_with (at_builtin; refine wpList_pushL elemInt _ rfl _ _ rfl G u3 _ rfl (hown.keep hbn) (.int .i64 x) w4.heap.size rfl (cell_new1 _ _ _) rfl (by have := hPL.out; omega) ?_; intro gg cap w5 hown1 hch hor)
        have hs5 := hch.size
        have hsn := hbn.size
        have HF5 := Lib.hid (show OwnV w5 3 gg (.slice (some ⟨gg, 0, none⟩) ((ivs ((pmS c).take p)).length + 1) cap) (ivs ((pmS c).take (p + 1))) ∧ w.heap.size ≤ gg ∧ (gg < lo ∨ hi ≤ gg) ∧ hi ≤ w5.heap.size ∧ Own2 w5 lo hi (.slice (some ⟨gS', oS', none⟩) (setL c.length).length cS) (setL c.length) ∧ Below w.heap.size w w5 from ⟨by rw [HX.out]; exact hown1, by have := hbel.size; omega, by omega, by omega, (hO2.keep hbn).chg (hch.mono (S' := fun k => G ≤ k ∧ k < G + 1) (fun k hk => by omega)) (by omega), below_chg (below_trans hbel hbn) hch (fun q hq => by omega)⟩)
        clear hown1 hch hor hown hO2
        go_roundw
        case rel =>
          obtain ⟨f1, f2, f3, f4, f5, f6⟩ := HF5.out
          exact ⟨p + 1, gg, by omega, by go_num, f1, f2, f3, f4, f5, f6⟩
        case measure => simp [intOf]; omega
      · have hpe : p = (setL c.length).length := by omega
        have HE := Lib.hid (pmS_end c p (by rw [hpe]; exact HML.out))
        rw [HE.out] at hown
        clear hpe
        go_wp2_with fail
        go_ret
        exact ⟨_, G, rfl, hG, by rw [HF.out]; exact hown, hbel⟩
set_option maxHeartbeats 2000000 in
theorem implPrincipalMinors (v1 : Value) (c : List (List Int)) (hc : c.length ≤ 274877906944) (w : World) (h1 : II w v1 c) :
    Calls Tryz.prog 36 #[v1] w (RetInts w (pmL c)) := by
  obtain ⟨g1, o1, c1, hv1, _, _, _⟩ := h1.form
  subst hv1
  cases hC : isC c with
  | false =>
    have HF := Lib.hid (show pmL c = [] by simp [pmL, hC])
    have HC := Lib.hid hC
    clear hC
    go_enter Tryz.func36, Tryz.ntmps36
    go_wp2_with fail
    refine (implIsCartan _ c (by omega) _ (h1.keep (below_new w _))).mono ?_
    rw [HC.out]
    rintro e w1 ⟨rfl, hb1⟩
    have hrow := (rowV_empty w 3).keep hb1
    obtain ⟨g, hg, hown⟩ := hrow.own
    go_wp2_with fail
    go_ret
    exact ⟨_, g, rfl, hg, by rw [HF.out]; exact hown, below_trans (below_new w _) hb1⟩
  | true =>
    have HF := Lib.hid (show pmL c = pmS c by simp [pmL, hC])
    have hn4 : c.length ≤ 4 := ((isC_iff c).1 hC).2.1
    have HC := Lib.hid hC
    clear hC
    obtain ⟨M, hM⟩ : ∃ M : Nat, M = 2 ^ c.length := ⟨_, rfl⟩
    have hM16 : M ≤ 16 := by subst hM; exact Nat.le_trans (Nat.pow_le_pow_right (by omega) hn4) (by decide)
    have hM1 : 1 ≤ M := by subst hM; exact Nat.one_le_two_pow
    have hw : wrap64 ((2 : Int) ^ c.length) = (M : Int) := by
      have h0 : (2 : Int) ^ c.length = (M : Int) := by rw [hM, Int.natCast_pow]; rfl
      rw [h0]; unfold wrap64; omega
    have HM := Lib.hid hM
    have HW := Lib.hid hw
    clear hM hw
    go_enter Tryz.func36, Tryz.ntmps36
    go_wp2_with fail
    refine (implIsCartan _ c (by omega) _ (h1.keep (below_new w _))).mono ?_
    rw [HC.out]
    rintro e w1 ⟨rfl, hb1⟩
    have hrow0 := (rowV_empty w 3).keep hb1
    have hb0 := below_trans (below_new w _) hb1
    go_wp2_with fail
    go_loopw [3, 4] (fun v i wr => ∃ p : Nat, p + 1 ≤ M ∧ i = .int .i64 ((p + 1 : Nat) : Int) ∧ RowV wr w.heap.size 3 v p (ivs ((pmS c).take p)) ∧ Below w.heap.size w wr) (fun _ i _ => M - (intOf i).toNat)
    case atStart => exact ⟨0, by omega, rfl, hrow0, hb0⟩
    case round =>
      clear hrow0 hb0
      obtain ⟨p, hp, rfl, hrow, hbel⟩ := hrel
      obtain ⟨q, hq⟩ : ∃ q : Nat, p + 1 = q := ⟨_, rfl⟩
      rw [hq]
      have HQ := Lib.hid hq
      clear hq
      by_cases hlt' : q < M
      · have dq : decide ((q : Int) < wrap64 ((2 : Int) ^ c.length)) = true := by rw [HW.out, decide_eq_true_iff]; omega
        have hq2 : q < 2 ^ c.length := by rw [← HM.out]; exact hlt'
        have hq1 : 1 ≤ q := by have := HQ.out; omega
        obtain ⟨hu1, hu2, hu4⟩ := set_good c.length q hn4 hq1 hq2
        have HX := Lib.hid (fun x hx => pmS_snoc c p x (by rw [HQ.out]; exact hq2) (by rw [HQ.out]; exact hx))
        obtain ⟨u, hu⟩ : ∃ u, setT q c.length = u := ⟨_, rfl⟩
        rw [hu] at hu1 hu2 hu4 HX
        obtain ⟨x, hx⟩ : ∃ x, det u.length (subS c u) = x := ⟨_, rfl⟩
        have HXX := Lib.hid (HX.out x hx)
        have HD := Lib.hid hx
        have HU4 := Lib.hid hu4
        have HU1 := Lib.hid hu1
        have hul : u.length ≤ 4 := Nat.le_trans (set_short _ _ hu1) hn4
        have hq16 : q < 16 := by omega
        have k1 := h1.keep hbel
        clear hu hx hu1 hu2 hu4 hq2 HX
        go_wp2_with fail
        refine (implSetOf q hq16 _).mono ?_
        rintro e w3 ⟨v3, g3, rfl, hg3, hown3, hb3⟩
        rw [HU4.out] at hown3
        replace hrow := hrow.keep hb3
        replace k1 := k1.keep hb3
        go_wp2_with fail
        refine (implPicked _ _ c u HC.out HU1.out (by omega) (by omega) _ k1 hown3.read).mono ?_
        rintro e w4 ⟨v4, rfl, hown4, hb4⟩
        replace hrow := hrow.keep hb4
        go_wp2_with fail
        refine (implDet u.length _ (subS c u) _ (subS_length c u) (subS_sq c u) (by omega) hown4.read).mono ?_
        rw [HD.out]
        rintro e w5 ⟨rfl, hb5⟩
        replace hrow := hrow.keep hb5
        replace hbel := below_trans hbel (below_trans hb3 (below_trans hb4 hb5))
        clear hb3 hb4 hb5 hown3 hown4 k1
        go_wp2_with (at_builtin; refine wpList_pushV elemInt _ rfl _ _ rfl w.heap.size u3 p _ rfl (hrow.alloc _) (.int .i64 x) w5.heap.size rfl (cell_new1 _ _ _) rfl (by omega) (by have := hbel.size; simp; omega) ?_; intro gg cap w6 hrow1 hgrow hb6)
        go_roundw
        case rel => exact ⟨p + 1, by have := HQ.out; omega, by have := HQ.out; go_num, hrow1.cast rfl rfl HXX.out.symm, (hbel.alloc hbel.size _).trans hb6⟩
        case measure => simp [intOf]; omega
      · have dq : decide ((q : Int) < wrap64 ((2 : Int) ^ c.length)) = false := by rw [HW.out, decide_eq_false_iff_not]; omega
        have HE := Lib.hid (pmS_end c p (by rw [← HM.out]; have := HQ.out; omega))
        rw [HE.out] at hrow
        obtain ⟨g, hg, hown⟩ := hrow.own
        go_wp2_with fail
        go_ret
        exact ⟨_, g, rfl, hg, by rw [HF.out]; exact hown, hbel⟩
end Go.Proofs.YtaikjkcbgniplaaGreatDoor
