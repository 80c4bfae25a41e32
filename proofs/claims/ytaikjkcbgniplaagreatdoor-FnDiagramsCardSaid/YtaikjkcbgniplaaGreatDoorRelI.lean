/- RelabelCartan of the program (and isOrder): what it answers, for at most 2^38 numbers. -/
import Derived.Test.YtaikjkcbgniplaaGreatDoorRel
import Derived.Test.YtaikjkcbgniplaaGreatDoorSup
namespace Go.Proofs.YtaikjkcbgniplaaGreatDoor
open Go.RowKit
set_option linter.unusedVariables false

theorem setU_sorted (n : Nat) (u : List Int) : setU n (u.mergeSort fun x y => decide (x ≤ y)) = ordB n u := by
  obtain ⟨ss, hss⟩ : ∃ ss, (u.mergeSort fun x y => decide (x ≤ y)) = ss := ⟨_, rfl⟩
  have hsort := sorted_le u
  have hperm : ss.Perm u := by rw [← hss]; exact List.mergeSort_perm _ _
  rw [hss] at hsort ⊢
  rw [Bool.eq_iff_iff, ordB_ordP, setU_iff]
  constructor
  · intro h
    have hst : StrictL ss := by
      have hstep : ∀ j, j + 1 < ss.length → ss.getD j 0 < ss.getD (j + 1) 0 := fun j hj => by
        have := h (j + 1) hj
        rw [okAt, Bool.and_eq_true, Bool.or_eq_true, decide_eq_true_iff, decide_eq_true_iff, Nat.add_sub_cancel] at this
        rcases this.2 with h | h
        · omega
        · exact h
      unfold StrictL
      rw [List.pairwise_iff_getElem]
      intro i j hi hj hij
      have : ∀ d, i + d + 1 < ss.length → ss.getD i 0 < ss.getD (i + d + 1) 0 := by
        intro d
        induction d with
        | zero => intro hd; exact hstep i hd
        | succ d ih => intro hd; exact Int.lt_trans (ih (by omega)) (hstep (i + d + 1) (by omega))
      have h2 := this (j - i - 1) (by omega)
      rw [show i + (j - i - 1) + 1 = j by omega, getD_get ss i hi, getD_get ss j hj] at h2
      exact h2
    refine ⟨fun x hx => ?_, ?_⟩
    · obtain ⟨j, hj, rfl⟩ := List.mem_iff_getElem.1 (hperm.mem_iff.2 hx)
      exact setU_pt ((setU_iff n ss).2 h) j hj
    · rw [← hperm.nodup_iff, List.nodup_iff_pairwise_ne]
      exact hst.imp (fun h => by omega)
  · intro h j hj
    have hnd : ss.Nodup := hperm.nodup_iff.2 h.2
    rw [okAt, Bool.and_eq_true, Bool.or_eq_true, decide_eq_true_iff, decide_eq_true_iff, getD_get ss j hj]
    refine ⟨?_, ?_⟩
    · obtain ⟨s, hs, hn⟩ := h.1 ss[j] (hperm.mem_iff.1 (List.getElem_mem hj))
      rw [hs, isPt_iff]; omega
    · by_cases h0 : j = 0
      · exact .inl h0
      · right
        rw [getD_get ss (j - 1) (by omega)]
        rw [List.pairwise_iff_getElem] at hsort
        have h1 := hsort (j - 1) j (by omega) hj (by omega)
        rw [List.nodup_iff_pairwise_ne, List.pairwise_iff_getElem] at hnd
        have h2 := hnd (j - 1) j (by omega) hj (by omega)
        omega
set_option maxHeartbeats 2000000 in
theorem implIsOrder (v1 v2 : Value) (c : List (List Int)) (u : List Int) (hu : u.length ≤ 274877906944) (w : World) (h1 : II w v1 c) (h2 : I w v2 u) :
    Calls Tryz.prog 78 #[v1, v2] w fun e w' => e = .returned (.bool (decide (u.length = c.length) && ordB c.length u)) ∧ Below w.heap.size w w' := by
  obtain ⟨g1, o1, c1, hv1, _, _, _⟩ := h1.form
  obtain ⟨g2, o2, c2, hv2, _, _, _⟩ := h2.form
  subst hv1 hv2
  by_cases h0 : u.length = c.length
  rotate_left
  · have HF := Lib.hid (show (decide (u.length = c.length) && ordB c.length u) = false by simp [h0])
    have d0 : ((u.length : Int) != (c.length : Int)) = true := by rw [bne_iff_ne]; omega
    clear h0
    go_enter Tryz.func78, Tryz.ntmps78
    go_wp2_with fail
    go_ret
    exact ⟨ret_bool HF.out.symm, Below.refl _ _⟩
  have HF := Lib.hid (show (decide (u.length = c.length) && ordB c.length u) = setU c.length (u.mergeSort fun x y => decide (x ≤ y)) by rw [setU_sorted]; simp [h0])
  have d0 : ((u.length : Int) != (c.length : Int)) = false := by rw [bne_eq_false_iff_eq]; omega
  clear h0
  go_enter Tryz.func78, Tryz.ntmps78
  go_wp2_with fail
  refine (slicesClone _ u hu _ (.inr h2)).mono ?_
  rintro e wA ⟨v, rfl, hv, hbA⟩
  obtain ⟨gA, hgA, hown⟩ : ∃ g, w.heap.size ≤ g ∧ Own wA g v u := by
    rcases hv with ⟨h, _⟩ | h
    · cases h
    · exact h
  clear hv
  obtain ⟨capA, hv, _, _⟩ := hown.form
  subst hv
  go_wp2_with fail
  refine (slicesSort gA capA u (by omega) _ hown).mono ?_
  rintro e wB ⟨rfl, hownB, hchB⟩
  obtain ⟨ss, hss⟩ : ∃ ss, (u.mergeSort fun x y => decide (x ≤ y)) = ss := ⟨_, rfl⟩
  have hsl : u.length = ss.length := by rw [← hss, List.length_mergeSort]
  have HSL := Lib.hid hsl
  rw [hss] at hownB HF
  have hbB := below_chg hbA hchB (fun q e => by subst e; exact hgA)
  have hss4 : ss.length ≤ 1099511627776 := by omega
  have k2 : I wB (.slice (some ⟨gA, 0, none⟩) u.length capA) ss := hownB.read
  have k1 := h1.keep hbB
  clear hss hsl hownB hchB hown
  go_wp2_with fail
  refine (implIsSet _ _ c ss hss4 _ k1 k2).mono ?_
  rintro e wC ⟨rfl, rfl⟩
  go_wp2_with fail
  go_ret
  exact ⟨ret_bool HF.out.symm, hbB⟩
set_option maxHeartbeats 2000000 in
theorem implRelabelCartan (v1 v2 : Value) (c : List (List Int)) (u : List Int) (hc : c.length ≤ 1099511627776) (hu : u.length ≤ 274877906944) (w : World) (h1 : II w v1 c) (h2 : I w v2 u) :
    Calls Tryz.prog 11 #[v1, v2] w (RetRowsB w (relL c u) (relOk c u)) := by
  obtain ⟨g1, o1, c1, hv1, _, _, _⟩ := h1.form
  obtain ⟨g2, o2, c2, hv2, _, _, _⟩ := h2.form
  subst hv1 hv2
  cases hC : isC c with
  | false =>
    have HO := Lib.hid (relOk_f (u := u) hC)
    have HC := Lib.hid hC
    clear hC
    go_enter Tryz.func11, Tryz.ntmps11
    go_wp2_with fail
    refine (implIsCartan _ c hc _ h1).mono ?_
    rw [HC.out]
    rintro e w1 ⟨rfl, hb1⟩
    have hs1 := hb1.size
    go_wp2_with fail
    go_ret2
    exact ⟨_, by rw [HO.out]; rfl, by rw [relL_f HO.out]; exact own2_none hs1, hb1.alloc hs1 _⟩
  | true =>
    cases hB : (decide (u.length = c.length) && ordB c.length u) with
    | false =>
      have HO := Lib.hid (show relOk c u = false by rw [relOk, hC, Bool.true_and]; exact hB)
      have HC := Lib.hid hC
      have HB := Lib.hid hB
      clear hC hB
      go_enter Tryz.func11, Tryz.ntmps11
      go_wp2_with fail
      refine (implIsCartan _ c hc _ h1).mono ?_
      rw [HC.out]
      rintro e w1 ⟨rfl, hb1⟩
      go_wp2_with fail
      refine (implIsOrder _ _ c u hu _ (h1.keep hb1) (h2.keep hb1)).mono ?_
      rw [HB.out]
      rintro e w2 ⟨rfl, hb2⟩
      replace hb1 := below_trans hb1 hb2
      have hs1 := hb1.size
      go_wp2_with fail
      go_ret2
      exact ⟨_, by rw [HO.out]; rfl, by rw [relL_f HO.out]; exact own2_none hs1, hb1.alloc hs1 _⟩
    | true =>
      have HO := Lib.hid (show relOk c u = true by rw [relOk, hC, Bool.true_and]; exact hB)
      have HU := Lib.hid (ordB_pt (Bool.and_eq_true_iff.1 hB).2)
      have HC := Lib.hid hC
      have HB := Lib.hid hB
      clear hC hB
      go_enter Tryz.func11, Tryz.ntmps11
      go_wp2_with fail
      refine (implIsCartan _ c hc _ h1).mono ?_
      rw [HC.out]
      rintro e w1 ⟨rfl, hb1⟩
      go_wp2_with fail
      refine (implIsOrder _ _ c u hu _ (h1.keep hb1) (h2.keep hb1)).mono ?_
      rw [HB.out]
      rintro e w2 ⟨rfl, hb2⟩
      replace hb1 := below_trans hb1 hb2
      go_wp2_with fail
      refine (implPickedP _ _ c u HC.out HU.out hc hu _ (h1.keep hb1) (h2.keep hb1)).mono ?_
      rintro e w3 ⟨v3, rfl, hown, hb3⟩
      obtain ⟨G, gs, vs, p1, p2, p3, p4⟩ := hown
      have hs1 := hb1.size
      go_wp2_with fail
      go_ret2
      exact ⟨_, by rw [HO.out]; rfl, by rw [relL_t HO.out]; exact ⟨G, gs, vs, by omega, p2, fun g hg => by have := p3 g hg; omega, p4⟩, below_trans hb1 hb3⟩
end Go.Proofs.YtaikjkcbgniplaaGreatDoor
