/- IsAffine of the program and of the reference: what they answer, for at most 2^38 rows. -/
import Derived.Test.YtaikjkcbgniplaaGreatDoorParts
import Derived.Test.YtaikjkcbgniplaaGreatDoorWit
namespace Go.Proofs.YtaikjkcbgniplaaGreatDoor
open Go.RowKit
set_option linter.unusedVariables false

theorem con_isC {c : List (List Int)} (h : conB c = true) : isC c = true := by
  cases hC : isC c with
  | true => rfl
  | false => simp [conB, partsL, hC] at h
theorem setT_full : ∀ n : Nat, n < 5 → setT (2 ^ n - 1) n = (List.range n).map (fun i : Nat => (i : Int)) := by decide
theorem setT_part : ∀ n : Nat, n < 5 → ∀ p : Nat, p < 16 → p + 2 < 2 ^ n → (setT (p + 1) n).length ≠ n := by decide
theorem sub_full {c : List (List Int)} (h : Sq c) : subS c ((List.range c.length).map (fun i : Nat => (i : Int))) = c := by
  apply List.ext_getElem (by simp [subS])
  intro i h1 h2
  apply List.ext_getElem (by rw [h i h2]; simp [subS, subR])
  intro j h3 h4
  simp only [subS, subR, List.getElem_map, List.getElem_range, Int.toNat_natCast]
  exact ent_get c i j h2 h4
theorem last_det {c : List (List Int)} (h : isC c = true) : pmX c (setT (2 ^ c.length - 1) c.length) = det c.length c := by
  have h4 := ((isC_iff c).1 h).2.1
  rw [setT_full _ (by omega), pmX, sub_full (fun k hk => isC_sq h k hk)]
  simp
/-- All sets but the last are good. -/
def affT (c : List (List Int)) : Bool := decide (det c.length c = 0) && (List.range (2 ^ c.length - 2)).all (fun j => !badU c (setT (j + 1) c.length))
def affB (c : List (List Int)) : Bool := conB c && affT c
theorem aff_pos {c : List (List Int)} (h : isC c = true) (hp : Pos c (2 ^ c.length - 2)) : affT c = decide (det c.length c = 0) := by
  have : (List.range (2 ^ c.length - 2)).all (fun j => !badU c (setT (j + 1) c.length)) = true := by
    rw [List.all_eq_true]
    intro j hj
    rw [List.mem_range] at hj
    have := hp j (by rw [setL_length]; omega) hj
    rw [setL_get] at this
    rw [this]; rfl
  rw [affT, this, Bool.and_true]
theorem aff_bad {c : List (List Int)} {p : Nat} (hp : p < 2 ^ c.length - 2) (hb : badU c (setT (p + 1) c.length) = true) : affT c = false := by
  have : (List.range (2 ^ c.length - 2)).all (fun j => !badU c (setT (j + 1) c.length)) = false := by
    rw [Bool.eq_false_iff]
    intro h
    rw [List.all_eq_true] at h
    have := h p (List.mem_range.2 hp)
    rw [hb] at this; cases this
  rw [affT, this, Bool.and_false]
theorem first_bad (c : List (List Int)) : (∃ p, p < (setL c.length).length ∧ Pos c p ∧ badU c (setT (p + 1) c.length) = true) ∨ Pos c (setL c.length).length := by
  have : ∀ k, k ≤ (setL c.length).length → (∃ p, p < (setL c.length).length ∧ Pos c p ∧ badU c (setT (p + 1) c.length) = true) ∨ Pos c k := by
    intro k
    induction k with
    | zero => intro _; exact .inr (pos_zero c)
    | succ k ih =>
      intro hk
      rcases ih (by omega) with h | h
      · exact .inl h
      · cases hb : badU c (setT (k + 1) c.length) with
        | true => exact .inl ⟨k, by omega, h, hb⟩
        | false =>
          refine .inr (fun j hj hjk => ?_)
          by_cases e : j = k
          · subst e; rw [setL_get]; exact hb
          · exact h j hj (by omega)
  exact this _ (Nat.le_refl _)
theorem aff_i {c : List (List Int)} (h : isC c = true) (hd : det c.length c = 0) : decide ((witL c).length = c.length) = affT c := by
  have h4 := ((isC_iff c).1 h).2.1
  have h1 := ((isC_iff c).1 h).1
  have hN : (setL c.length).length + 1 = 2 ^ c.length := by rw [setL_length]; have := Nat.one_le_two_pow (n := c.length); omega
  have h2 : 2 ≤ 2 ^ c.length := Nat.le_trans (by decide) (Nat.pow_le_pow_right (n := 2) (by omega) h1)
  have h16 : 2 ^ c.length ≤ 16 := Nat.le_trans (Nat.pow_le_pow_right (n := 2) (by omega) h4) (by decide)
  have hlast : badU c (setT (2 ^ c.length - 1) c.length) = true := by rw [badU, last_det h, hd]; rfl
  rw [witL_t h]
  rcases first_bad c with ⟨p, hp, hpos, hb⟩ | hpos
  · have hw : witS c = setT (p + 1) c.length := wit_at hpos hp rfl rfl (by rw [badU] at hb; exact hb)
    rw [hw]
    by_cases hpl : p = 2 ^ c.length - 2
    · subst hpl
      rw [aff_pos h hpos, hd, show 2 ^ c.length - 2 + 1 = 2 ^ c.length - 1 by omega, setT_full _ (by omega)]
      simp
    · rw [aff_bad (by omega) hb]
      have := setT_part c.length (by omega) p (by omega) (by omega)
      simp [this]
  · have := hpos (2 ^ c.length - 2) (by omega) (by omega)
    rw [setL_get, show 2 ^ c.length - 2 + 1 = 2 ^ c.length - 1 by omega, hlast] at this
    cases this
set_option maxHeartbeats 2000000 in
theorem implIsAffine (v1 : Value) (c : List (List Int)) (hc : c.length ≤ 274877906944) (w : World) (h1 : II w v1 c) :
    Calls Tryz.prog 16 #[v1] w fun e w' => e = .returned (.bool (affB c)) ∧ Below w.heap.size w w' := by
  obtain ⟨g1, o1, c1, hv1, _, _, _⟩ := h1.form
  subst hv1
  cases hB : conB c with
  | false =>
    have HF := Lib.hid (show affB c = false by simp [affB, hB])
    have HB := Lib.hid hB
    clear hB
    go_enter Tryz.func16, Tryz.ntmps16
    go_wp2_with fail
    refine (implIsConnected _ c (by omega) _ h1).mono ?_
    rw [HB.out]
    rintro e w1 ⟨rfl, hb1⟩
    go_wp2_with fail
    go_ret
    exact ⟨ret_bool HF.out.symm, hb1⟩
  | true =>
    have hC := con_isC hB
    have hn4 : c.length ≤ 4 := ((isC_iff c).1 hC).2.1
    have HQ := Lib.hid (show Sq c from fun k hk => isC_sq hC k hk)
    by_cases hd : det c.length c = 0
    · have HF := Lib.hid (show affB c = decide ((witL c).length = c.length) by rw [aff_i hC hd]; simp [affB, hB])
      have HL := Lib.hid (show (((witL c).length : Int) == (c.length : Int)) = decide ((witL c).length = c.length) by
        cases h : decide ((witL c).length = c.length) with
        | true => rw [decide_eq_true_iff] at h; rw [beq_iff_eq]; omega
        | false => rw [decide_eq_false_iff_not] at h; rw [beq_eq_false_iff_ne]; omega)
      have HB := Lib.hid hB
      have HD := Lib.hid hd
      clear hB hC hd
      go_enter Tryz.func16, Tryz.ntmps16
      go_wp2_with fail
      refine (implIsConnected _ c (by omega) _ h1).mono ?_
      rw [HB.out]
      rintro e w1 ⟨rfl, hb1⟩
      go_wp2_with fail
      refine (implDet c.length _ c _ rfl HQ.out hc (h1.keep hb1)).mono ?_
      rw [HD.out]
      rintro e w2 ⟨rfl, hb2⟩
      replace hb1 := below_trans hb1 hb2
      go_wp2_with fail
      refine (implWitnessOf _ c hc _ (h1.keep hb1)).mono ?_
      rintro e w3 ⟨v3, g3, rfl, hg3, hown3, hb3⟩
      obtain ⟨cy, hy, _, _⟩ := hown3.form
      subst hy
      go_wp2_with fail
      go_ret
      exact ⟨ret_bool (by rw [HF.out]; exact HL.out), below_trans hb1 hb3⟩
    · have HF := Lib.hid (show affB c = false by simp [affB, affT, hd])
      have dd : (det c.length c == 0) = false := by rw [beq_eq_false_iff_ne]; exact hd
      have HB := Lib.hid hB
      obtain ⟨x, hx⟩ : ∃ x, det c.length c = x := ⟨_, rfl⟩
      rw [hx] at dd
      have HD := Lib.hid hx
      clear hB hC hd hx
      go_enter Tryz.func16, Tryz.ntmps16
      go_wp2_with fail
      refine (implIsConnected _ c (by omega) _ h1).mono ?_
      rw [HB.out]
      rintro e w1 ⟨rfl, hb1⟩
      go_wp2_with fail
      refine (implDet c.length _ c _ rfl HQ.out hc (h1.keep hb1)).mono ?_
      rw [HD.out]
      rintro e w2 ⟨rfl, hb2⟩
      replace hb1 := below_trans hb1 hb2
      go_wp2_with fail
      go_ret
      exact ⟨ret_bool HF.out.symm, hb1⟩
set_option maxHeartbeats 2000000 in
theorem specIsAffine (v1 : Value) (c : List (List Int)) (hc : c.length ≤ 274877906944) (w : World) (h1 : II w v1 c) :
    Calls Tryz.prog 42 #[v1] w fun e w' => e = .returned (.bool (affB c)) ∧ Below w.heap.size w w' := by
  obtain ⟨g1, o1, c1, hv1, _, _, _⟩ := h1.form
  subst hv1
  cases hB : conB c with
  | false =>
    have HF := Lib.hid (show affB c = false by simp [affB, hB])
    have HB := Lib.hid hB
    clear hB
    go_enter Tryz.func42, Tryz.ntmps42
    go_wp2_with fail
    refine (specPrincipalMinors _ c hc _ h1).mono ?_
    rintro e w0 ⟨v0, g0, rfl, hg0, hown0, hb0⟩
    go_wp2_with fail
    refine (specIsConnected _ c (by omega) _ (h1.keep hb0)).mono ?_
    rw [HB.out]
    rintro e w1 ⟨rfl, hb1⟩
    go_wp2_with fail
    go_ret
    exact ⟨ret_bool HF.out.symm, below_trans hb0 hb1⟩
  | true =>
    have hC := con_isC hB
    have hn4 : c.length ≤ 4 := ((isC_iff c).1 hC).2.1
    have hn1 : 1 ≤ c.length := ((isC_iff c).1 hC).1
    have hN : (pmS c).length + 1 = 2 ^ c.length := by rw [pmS_length]; have := Nat.one_le_two_pow (n := c.length); omega
    have h2 : 2 ≤ 2 ^ c.length := Nat.le_trans (by decide) (Nat.pow_le_pow_right (n := 2) (by omega) hn1)
    have h16 : 2 ^ c.length ≤ 16 := Nat.le_trans (Nat.pow_le_pow_right (n := 2) (by omega) hn4) (by decide)
    have hPL : (pmS c).length = (setL c.length).length := by rw [pmS_length, setL_length]
    have HPM := Lib.hid (show pmL c = pmS c by simp [pmL, hC])
    obtain ⟨l, hl⟩ : ∃ l, (pmS c).length = l + 1 := ⟨(pmS c).length - 1, by omega⟩
    have hll : l + 2 = 2 ^ c.length := by omega
    have hl16 : l ≤ 14 := by omega
    have HGET := Lib.hid (fun p (hp : p < (pmS c).length) => pmS_get c p (by omega) hp)
    have HLAST := Lib.hid (show ∀ hp : l < (pmS c).length, (pmS c)[l] = det c.length c from fun hp => by
      rw [pmS_get c l (by omega) hp, show l + 1 = 2 ^ c.length - 1 by omega, last_det hC])
    have HPOS := Lib.hid (fun (h : Pos c l) => (show affB c = decide (det c.length c = 0) by rw [affB, hB, Bool.true_and]; exact aff_pos hC (by rw [show 2 ^ c.length - 2 = l by omega]; exact h)))
    have HBAD := Lib.hid (fun p (hp : p < l) (h : badU c (setT (p + 1) c.length) = true) => (show affB c = false by rw [affB, aff_bad (by omega) h, Bool.and_false]))
    have HPN := Lib.hid (fun p (hp : p < l) u x (h : Pos c p) (hu : setT (p + 1) c.length = u) (hx : pmX c u = x) (hb : decide (x ≤ 0) = false) => pos_next h (by omega) hu hx hb)
    have HZ := Lib.hid (fun (hd : det c.length c ≠ 0) => (show affB c = false by simp [affB, affT, hd]))
    have HB := Lib.hid hB
    have HLL := Lib.hid hl
    clear hB hC hl hN h2 h16 hPL hll
    go_enter Tryz.func42, Tryz.ntmps42
    go_wp2_with fail
    refine (specPrincipalMinors _ c hc _ h1).mono ?_
    rw [HPM.out]
    rintro e w0 ⟨v0, g0, rfl, hg0, hown0, hb0⟩
    obtain ⟨cy, hy, _, _⟩ := hown0.form
    rw [HLL.out] at hy
    subst hy
    go_wp2_with fail
    refine (specIsConnected _ c (by omega) _ (h1.keep hb0)).mono ?_
    rw [HB.out]
    rintro e w1 ⟨rfl, hb1⟩
    replace hown0 := hown0.keep hb1
    replace hb0 := below_trans hb0 hb1
    have x1 := hown0.cell (i := l) (by rw [HLL.out]; omega)
    rw [HLAST.out] at x1
    obtain ⟨d, hd⟩ : ∃ d, det c.length c = d := ⟨_, rfl⟩
    rw [hd] at x1 HPOS HZ
    have e1 : ((l + 1 : Nat) : Int) - 1 = (l : Int) := by omega
    have hk0 : (0 : Int) ≤ (l : Int) := by omega
    have HOW := Lib.hid hown0
    clear hd hown0 hb1
    cases dd : (d != 0) with
    | true =>
      have HF := Lib.hid (HZ.out (bne_iff_ne.1 dd))
      go_wp2_with fail
      go_ret
      exact ⟨ret_bool HF.out.symm, hb0⟩
    | false =>
      have HD0 := Lib.hid (show d = 0 from by rw [bne_eq_false_iff_eq] at dd; exact dd)
      go_wp2_with fail
      clear e1 x1
      go_loop [4] (fun i => ∃ k : Nat, k ≤ l ∧ i = .int .i64 k ∧ Hid (Pos c k)) (fun i => l - (intOf i).toNat)
      case atStart => exact ⟨0, by omega, rfl, Lib.hid (pos_zero c)⟩
      case round =>
        obtain ⟨k, hk, rfl, HP⟩ := hrel
        by_cases hlt' : k < l
        · have hkl : k < (pmS c).length := by rw [HLL.out]; omega
          have y1 := HOW.out.cell hkl
          rw [HGET.out k hkl] at y1
          obtain ⟨u, hu⟩ : ∃ u, setT (k + 1) c.length = u := ⟨_, rfl⟩
          rw [hu] at y1
          obtain ⟨x, hx⟩ : ∃ x, pmX c u = x := ⟨_, rfl⟩
          rw [hx] at y1
          have hq0 : (0 : Int) ≤ (k : Int) := by omega
          have hq1 : (k : Int) < ((l + 1 : Nat) : Int) := by omega
          cases d1 : decide (x ≤ 0) with
          | true =>
            have HF := Lib.hid (HBAD.out k hlt' (by rw [badU, hu, hx]; exact d1))
            clear hu hx hkl
            go_wp2_with fail
            go_ret
            exact ⟨ret_bool HF.out.symm, hb0⟩
          | false =>
            have HN := Lib.hid (HPN.out k hlt' u x HP.out hu hx d1)
            clear hu hx hkl
            go_wp2_with fail
            go_round
            case rel => exact ⟨k + 1, by omega, by go_num, HN⟩
            case measure => simp [intOf]; omega
        · obtain rfl : k = l := by omega
          have HF := Lib.hid (show affB c = true by rw [HPOS.out HP.out, HD0.out]; rfl)
          go_wp2_with fail
          go_ret
          exact ⟨ret_bool HF.out.symm, hb0⟩
end Go.Proofs.YtaikjkcbgniplaaGreatDoor
