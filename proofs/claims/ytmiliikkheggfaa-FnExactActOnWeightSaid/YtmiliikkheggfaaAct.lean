/- ActOnWeight of the program and of the reference: what they answer, for at most 2^38 numbers. -/
import Derived.Test.YtmiliikkheggfaaRefl
namespace Go.Proofs.Ytmiliikkheggfaa
open Go.RowKit
set_option linter.unusedVariables false

def act (c : List (List Int)) (u v : List Int) : List Int := u.foldr (fun s x => rflR c s.toNat x) v
theorem act_length (c : List (List Int)) (u v : List Int) : (act c u v).length = v.length := by
  induction u with
  | nil => rfl
  | cons a u ih => show (rflR c a.toNat (act c u v)).length = _; rw [rflR_length, ih]
theorem act_step (c : List (List Int)) (u v : List Int) (j : Nat) (h : j < u.length) : act c (u.drop j) v = rflR c u[j].toNat (act c (u.drop (j + 1)) v) := by
  rw [List.drop_eq_getElem_cons h]; rfl
def actN (c : List (List Int)) (u v : List Int) : Nat := if isWd c u && decide (v.length = c.length) then u.length else 0
theorem actN_t {c : List (List Int)} {u v : List Int} (h : isWd c u = true) (hl : v.length = c.length) : actN c u v = u.length := by simp [actN, h, hl]
theorem actN_f {c : List (List Int)} {u v : List Int} (h : isWd c u = false) : actN c u v = 0 := by simp [actN, h]
theorem actN_g {c : List (List Int)} {u v : List Int} (h : v.length ≠ c.length) : actN c u v = 0 := by simp [actN, h]
theorem actN_le (c : List (List Int)) (u v : List Int) : actN c u v ≤ u.length := by unfold actN; split <;> omega
def actK (c : List (List Int)) (u v : List Int) (k : Nat) : List Int := act c (u.drop (u.length - k)) v
def actL (c : List (List Int)) (u v : List Int) : List Int := actK c u v (actN c u v)
theorem actK_zero (c : List (List Int)) (u v : List Int) : actK c u v 0 = v := by rw [actK, Nat.sub_zero, List.drop_length]; rfl
theorem actK_length (c : List (List Int)) (u v : List Int) (k : Nat) : (actK c u v k).length = v.length := act_length c _ v
theorem actK_step (c : List (List Int)) (u v : List Int) (k j s : Nat) (h : j < u.length) (hj : (u.length : Int) - 1 - k = (j : Int)) (hs : u[j] = (s : Int)) : actK c u v (k + 1) = rflR c s (actK c u v k) := by
  rw [actK, actK, show u.length - (k + 1) = j by omega, act_step c u v j h, hs, show u.length - k = j + 1 by omega]; rfl
theorem actL_f {c : List (List Int)} {u v : List Int} (h : isWd c u = false) : actL c u v = v := by rw [actL, actN_f h, actK_zero]
theorem actL_g {c : List (List Int)} {u v : List Int} (h : v.length ≠ c.length) : actL c u v = v := by rw [actL, actN_g h, actK_zero]
theorem isWd_C {c : List (List Int)} {u : List Int} (h : isWd c u = true) : isC c = true := ((isWd_iff c u).1 h).1
theorem isWd_pt {c : List (List Int)} {u : List Int} (h : isWd c u = true) (j : Nat) (hj : j < u.length) : ∃ s : Nat, u[j] = (s : Int) ∧ s < c.length := by
  have := ((isWd_iff c u).1 h).2.2 _ (List.getElem_mem hj)
  exact ⟨u[j].toNat, by omega, by omega⟩
set_option maxHeartbeats 2000000 in
theorem specActOnWeight (v1 v2 v3 : Value) (c : List (List Int)) (u v : List Int) (hc : c.length ≤ 1099511627776) (hu : u.length ≤ 1099511627776) (hv : v.length ≤ 274877906944) (w : World) (h1 : II w v1 c) (h2 : I w v2 u) (h3 : I w v3 v) :
    Calls Try.prog 25 #[v1, v2, v3] w (RetInts w (actL c u v)) := by
  obtain ⟨g1, o1, c1, hv1, _, _, _⟩ := h1.form
  obtain ⟨g2, o2, c2, hv2, _, _, hc2⟩ := h2.form
  obtain ⟨g3, o3, c3, hv3, _, _, hc3⟩ := h3.form
  have H2 := Lib.hid hc2
  have H3 := Lib.hid hc3
  clear hc2 hc3
  subst hv1 hv2 hv3
  go_enter Try.func25, Try.ntmps25
  go_wp2_with (at_builtin; refine wpList_appendV elemInt _ rfl _ _ rfl w.heap.size _ 0 _ rfl (rowV_empty w _) (ivs v) g3 o3 v.length c3 rfl (ivs_length v) (cells_after H3.out (below_new w _)) (ivs_one v) (by omega) (by simp) ?_; intro gg cap w3 hrow1 hgrow hb3)
  obtain ⟨g, hg, hown⟩ := hrow1.own
  simp only [Nat.zero_add, List.nil_append] at hown
  have hbw : Below w.heap.size w w3 := ((Below.refl _ _).alloc (Nat.le_refl _) _).trans hb3
  obtain ⟨cv, ev, _, _, _, _⟩ := hown.form
  rw [ivs_length] at ev
  cases ev
  have hown0 : Own w3 gg _ v := hown
  clear hown hrow1 hb3 hgrow
  go_loopw [7, 8] (fun x i wr => ∃ k g : Nat, k ≤ actN c u v ∧ i = .int .i64 ((u.length : Int) - 1 - k) ∧ w.heap.size ≤ g ∧ Own wr g x (actK c u v k) ∧ Below w.heap.size w wr) (fun _ i _ => (intOf i + 1).toNat)
  case atStart => exact ⟨0, gg, by omega, by simp, hg, by rw [actK_zero]; exact hown0, hbw⟩
  case round =>
    clear hown0 hbw hg
    obtain ⟨k, g, hk, rfl, hg, hown, hbel⟩ := hrel
    have hle := actN_le c u v
    have k1 := h1.keep hbel
    have k2 := h2.keep hbel
    by_cases hlt' : k < u.length
    · obtain ⟨j, hj⟩ : ∃ j : Nat, (u.length : Int) - 1 - k = (j : Int) := ⟨u.length - 1 - k, by omega⟩
      have hjl : j < u.length := by omega
      have HJ := Lib.hid hj
      have hj0 : decide ((0 : Int) ≤ (j : Int)) = true := by rw [decide_eq_true_iff]; omega
      rw [hj]
      clear hj
      cases hW : isWd c u with
      | false =>
        have hN := actN_f (v := v) hW
        have HW := Lib.hid hW
        clear hW
        have HF := Lib.hid (show actK c u v k = actL c u v by rw [actL, hN, show k = 0 by omega])
        clear hN
        go_wp2_with fail
        refine (specIsWord _ _ c u hc hu _ k1 k2).mono ?_
        rw [HW.out]
        rintro e w1 ⟨rfl, hb1⟩
        replace hown := hown.keep hb1
        replace k1 := k1.keep hb1
        replace hbel := below_trans hbel hb1
        rw [HF.out] at hown
        go_wp2_with fail
        go_ret
        exact ⟨_, g, rfl, hg, hown, hbel⟩
      | true =>
        have HW := Lib.hid hW
        by_cases hl : v.length = c.length
        rotate_left
        · have hN := actN_g (u := u) hl
          have HF := Lib.hid (show actK c u v k = actL c u v by rw [actL, hN, show k = 0 by omega])
          have hb : ((v.length : Int) == (c.length : Int)) = false := by rw [beq_eq_false_iff_ne]; omega
          clear hN hl hW
          go_wp2_with fail
          refine (specIsWord _ _ c u hc hu _ k1 k2).mono ?_
          rw [HW.out]
          rintro e w1 ⟨rfl, hb1⟩
          replace hown := hown.keep hb1
          replace k1 := k1.keep hb1
          replace hbel := below_trans hbel hb1
          rw [HF.out] at hown
          go_wp2_with fail
          go_ret
          exact ⟨_, g, rfl, hg, hown, hbel⟩
        have hN := Lib.hid (actN_t hW hl)
        have HL := Lib.hid hl
        have hb : ((v.length : Int) == (c.length : Int)) = true := by rw [beq_iff_eq]; omega
        obtain ⟨s, hs, hsl⟩ := isWd_pt hW j hjl
        have HS := Lib.hid (actK_step c u v k j s hjl HJ.out hs)
        have y1 := H2.out j hjl
        rw [hs] at y1
        clear hl hW hs
        go_wp2_with fail
        refine (specIsWord _ _ c u hc hu _ k1 k2).mono ?_
        rw [HW.out]
        rintro e w1 ⟨rfl, hb1⟩
        replace hown := hown.keep hb1
        replace k1 := k1.keep hb1
        replace hbel := below_trans hbel hb1
        have x1 := cells_keep hbel y1
        go_wp2_with fail
        refine (specReflect _ _ c s (actK c u v k) (isWd_C HW.out) (by rw [actK_length]; exact HL.out) hsl (by rw [actK_length]; exact hv) _ k1 hown.read).mono ?_
        rintro e w4 ⟨v4, g4, rfl, hg4, hown4, hb4⟩
        rw [← HS.out] at hown4
        have hs4 := hbel.size
        go_wp2_with fail
        go_roundw
        case rel => exact ⟨k + 1, g4, by have := hN.out; omega, by have := HJ.out; go_num, by omega, hown4, below_trans hbel hb4⟩
        case measure => simp [intOf]
    · have hk2 : k = u.length := by omega
      have HF := Lib.hid (show actK c u v k = actL c u v by rw [actL, show actN c u v = k by omega])
      have hj0 : decide ((0 : Int) ≤ (u.length : Int) - 1 - (k : Int)) = false := by rw [decide_eq_false_iff_not]; omega
      obtain ⟨z, hz⟩ : ∃ z : Int, (u.length : Int) - 1 - k = z := ⟨_, rfl⟩
      rw [hz] at hj0
      rw [hz]
      clear hz hk2 hk hle
      rw [HF.out] at hown
      go_wp2_with fail
      go_ret
      exact ⟨_, g, rfl, hg, hown, hbel⟩
set_option maxHeartbeats 2000000 in
theorem implActed (v1 v2 v3 : Value) (c : List (List Int)) (u v : List Int) (hW : isWd c u = true) (hl : v.length = c.length) (hc : c.length ≤ 1099511627776) (hu : u.length ≤ 1099511627776) (hv : v.length ≤ 274877906944) (w : World) (h1 : II w v1 c) (h2 : I w v2 u) (h3 : I w v3 v) :
    Calls Try.prog 56 #[v1, v2, v3] w (RetInts w (actL c u v)) := by
  obtain ⟨g1, o1, c1, hv1, _, _, _⟩ := h1.form
  obtain ⟨g2, o2, c2, hv2, _, _, hc2⟩ := h2.form
  obtain ⟨g3, o3, c3, hv3, _, _, hc3⟩ := h3.form
  have H2 := Lib.hid hc2
  have H3 := Lib.hid hc3
  clear hc2 hc3
  subst hv1 hv2 hv3
  have HW := Lib.hid hW
  have HL := Lib.hid hl
  have HN := Lib.hid (actN_t hW hl)
  clear hW hl
  go_enter Try.func56, Try.ntmps56
  go_wp2_with (at_builtin; refine wpList_appendV elemInt _ rfl _ _ rfl w.heap.size _ 0 _ rfl (rowV_empty w _) (ivs v) g3 o3 v.length c3 rfl (ivs_length v) (cells_after H3.out (below_new w _)) (ivs_one v) (by omega) (by simp) ?_; intro gg cap w3 hrow1 hgrow hb3)
  obtain ⟨g, hg, hown⟩ := hrow1.own
  simp only [Nat.zero_add, List.nil_append] at hown
  have hbw : Below w.heap.size w w3 := ((Below.refl _ _).alloc (Nat.le_refl _) _).trans hb3
  obtain ⟨cv, ev, _, _, _, _⟩ := hown.form
  rw [ivs_length] at ev
  cases ev
  have hown0 : Own w3 gg _ v := hown
  clear hown hrow1 hb3 hgrow
  go_loopw [8] (fun i wr => ∃ k : Nat, k ≤ u.length ∧ i = .int .i64 ((u.length : Int) - 1 - k) ∧ Hid (Own wr gg (.slice (some ⟨gg, 0, none⟩) v.length cap) (actK c u v k)) ∧ Below w.heap.size w wr) (fun i _ => (intOf i + 1).toNat)
  case atStart => exact ⟨0, by omega, by simp, by rw [actK_zero]; exact hown0, hbw⟩
  case round =>
    clear hown0 hbw
    obtain ⟨k, hk, rfl, hown, hbel⟩ := hrel
    by_cases hlt' : k < u.length
    · obtain ⟨j, hj⟩ : ∃ j : Nat, (u.length : Int) - 1 - k = (j : Int) := ⟨u.length - 1 - k, by omega⟩
      have hjl : j < u.length := by omega
      have HJ := Lib.hid hj
      have hj0 : decide ((0 : Int) ≤ (j : Int)) = true := by rw [decide_eq_true_iff]; omega
      rw [hj]
      clear hj
      obtain ⟨s, hs, hsl⟩ := isWd_pt HW.out j hjl
      have HS := Lib.hid (actK_step c u v k j s hjl HJ.out hs)
      have y1 := H2.out j hjl
      rw [hs] at y1
      clear hs
      have x1 := cells_keep hbel y1
      go_wp2_with fail
      refine (implReflected _ _ gg c s (actK c u v k) (isWd_C HW.out) (by rw [actK_length]; exact HL.out) hsl (by rw [actK_length]; exact hv) w _ h1 hbel hg hown.out).mono ?_
      rintro e w4 ⟨rfl, hown4, hchg⟩
      rw [← HS.out] at hown4
      have HO4 := Lib.hid hown4
      clear hown4
      go_wp2_with fail
      go_roundw
      case rel => exact ⟨k + 1, by omega, by have := HJ.out; go_num, HO4, below_chg hbel hchg (fun q hq => by omega)⟩
      case measure => simp [intOf]
    · have hk2 : k = u.length := by omega
      have HF := Lib.hid (show actK c u v k = actL c u v by rw [actL, HN.out, hk2])
      have hj0 : decide ((0 : Int) ≤ (u.length : Int) - 1 - (k : Int)) = false := by rw [decide_eq_false_iff_not]; omega
      obtain ⟨z, hz⟩ : ∃ z : Int, (u.length : Int) - 1 - k = z := ⟨_, rfl⟩
      rw [hz] at hj0
      rw [hz]
      clear hz hk2 hk
      rw [HF.out] at hown
      go_wp2_with fail
      go_ret
      exact ⟨_, gg, rfl, hg, hown.out, hbel⟩
set_option maxHeartbeats 2000000 in
theorem implActOnWeight (v1 v2 v3 : Value) (c : List (List Int)) (u v : List Int) (hc : c.length ≤ 1099511627776) (hu : u.length ≤ 1099511627776) (hv : v.length ≤ 274877906944) (w : World) (h1 : II w v1 c) (h2 : I w v2 u) (h3 : I w v3 v) :
    Calls Try.prog 27 #[v1, v2, v3] w (RetInts w (actL c u v)) := by
  obtain ⟨g1, o1, c1, hv1, _, _, _⟩ := h1.form
  obtain ⟨g2, o2, c2, hv2, _, _, hc2⟩ := h2.form
  obtain ⟨g3, o3, c3, hv3, _, _, hc3⟩ := h3.form
  clear hc2 hc3
  subst hv1 hv2 hv3
  cases hW : isWd c u with
  | false =>
    have HF := Lib.hid (actL_f (v := v) hW)
    have HW := Lib.hid hW
    clear hW
    go_enter Try.func27, Try.ntmps27
    go_wp2_with fail
    refine (implIsWord _ _ c u hc hu _ h1 h2).mono ?_
    rw [HW.out]
    rintro e w1 ⟨rfl, hb1⟩
    have k1 := h1.keep hb1
    have k2 := h2.keep hb1
    have k3 := h3.keep hb1
    clear h1 h2 h3
    obtain ⟨_, _, _, e3, _, _, hc3⟩ := k3.form
    cases e3
    have H3 := Lib.hid hc3
    clear hc3
    go_wp2_with (at_builtin; refine wpList_appendV elemInt _ rfl _ _ rfl w1.heap.size _ 0 _ rfl (rowV_empty w1 _) (ivs v) g3 o3 v.length c3 rfl (ivs_length v) (cells_after H3.out (below_new w1 _)) (ivs_one v) (by omega) (by simp) ?_; intro gg cap w3 hrow1 hgrow hb3)
    obtain ⟨g, hg, hown⟩ := hrow1.own
    simp only [Nat.zero_add, List.nil_append] at hown
    have hs := hb1.size
    go_ret
    exact ⟨_, g, rfl, by omega, by rw [HF.out]; exact hown, below_trans hb1 (((Below.refl _ _).alloc (Nat.le_refl _) _).trans hb3)⟩
  | true =>
    have HW := Lib.hid hW
    clear hW
    by_cases hl : v.length = c.length
    rotate_left
    · have HF := Lib.hid (actL_g (u := u) hl)
      have hb : ((v.length : Int) != (c.length : Int)) = true := by rw [bne_iff_ne]; omega
      clear hl
      go_enter Try.func27, Try.ntmps27
      go_wp2_with fail
      refine (implIsWord _ _ c u hc hu _ h1 h2).mono ?_
      rw [HW.out]
      rintro e w1 ⟨rfl, hb1⟩
      have k1 := h1.keep hb1
      have k2 := h2.keep hb1
      have k3 := h3.keep hb1
      clear h1 h2 h3
      obtain ⟨_, _, _, e3, _, _, hc3⟩ := k3.form
      cases e3
      have H3 := Lib.hid hc3
      clear hc3
      go_wp2_with (at_builtin; refine wpList_appendV elemInt _ rfl _ _ rfl w1.heap.size _ 0 _ rfl (rowV_empty w1 _) (ivs v) g3 o3 v.length c3 rfl (ivs_length v) (cells_after H3.out (below_new w1 _)) (ivs_one v) (by omega) (by simp) ?_; intro gg cap w3 hrow1 hgrow hb3)
      obtain ⟨g, hg, hown⟩ := hrow1.own
      simp only [Nat.zero_add, List.nil_append] at hown
      have hs := hb1.size
      go_ret
      exact ⟨_, g, rfl, by omega, by rw [HF.out]; exact hown, below_trans hb1 (((Below.refl _ _).alloc (Nat.le_refl _) _).trans hb3)⟩
    have HL := Lib.hid hl
    have hb : ((v.length : Int) != (c.length : Int)) = false := by rw [bne_eq_false_iff_eq]; omega
    clear hl
    go_enter Try.func27, Try.ntmps27
    go_wp2_with fail
    refine (implIsWord _ _ c u hc hu _ h1 h2).mono ?_
    rw [HW.out]
    rintro e w1 ⟨rfl, hb1⟩
    have k1 := h1.keep hb1
    have k2 := h2.keep hb1
    have k3 := h3.keep hb1
    clear h1 h2 h3
    go_wp2_with fail
    refine (implActed _ _ _ c u v HW.out HL.out hc hu hv _ k1 k2 k3).mono ?_
    rintro e w4 ⟨v4, g4, rfl, hg4, hown4, hb4⟩
    have hs := hb1.size
    go_wp2_with fail
    go_ret
    exact ⟨_, g4, rfl, by omega, hown4, below_trans hb1 hb4⟩
end Go.Proofs.Ytmiliikkheggfaa
