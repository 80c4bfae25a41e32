/- NameOfPart of the program and of the reference. (Printed by gen_name.py.) -/
import Derived.Test.YtaikjkcbgniplaaGreatDoorCut
import Derived.Test.YtaikjkcbgniplaaGreatDoorType
import Derived.Test.YtaikjkcbgniplaaGreatDoorFind
import Derived.Test.YtaikjkcbgniplaaGreatDoorParts
namespace Go.Proofs.YtaikjkcbgniplaaGreatDoor
open Go.RowKit
set_option linter.unusedVariables false

def nmL : List (List UInt8) := typTab.map (·.1)
def nmS : ByteArray := ⟨#[65, 49, 32, 65, 50, 32, 65, 51, 32, 65, 52, 32, 66, 50, 32, 66, 51, 32, 66, 52, 32, 67, 51, 32, 67, 52, 32, 68, 52, 32, 70, 52, 32, 71, 50, 32, 65, 49, 126, 32, 65, 50, 126, 32, 65, 51, 126, 32, 67, 50, 126, 32, 71, 50, 126]⟩
theorem nm_cut : cutL 32 nmS.data.toList = nmL := by decide +kernel
theorem nm_len : nmL.length = 17 := rfl
def fits (b : List (List Int)) (q : Nat) (o : List Int) : Bool := (List.range b.length).all fun i => (List.range b.length).all fun j =>
  ((o.getD i 0).toNat == (o.getD j 0).toNat) || (adjQ q (o.getD i 0).toNat (o.getD j 0).toNat == (ent b i j != 0))
theorem typ_con : (typTab.all fun e => (List.range 64).all fun q => (lvl e.2.length e.2.length).all fun o => !(fits e.2 q o) || decide ((partsI e.2.length (nbQ e.2.length q) e.2.length).2.length = 1)) = true := by decide +kernel
theorem lvl_pts : ((List.range 5).all fun n => (lvl n n).all fun o => decide (o.length = n) && (List.range n).all fun i => decide ((o.getD i 0).toNat < n)) = true := by decide +kernel
theorem typ_tab : (typTab.all fun e => typL ⟨e.1.toArray⟩ == e.2) = true := by decide +kernel
theorem iso_con {a : List (List Int)} {e : List UInt8 × List (List Int)} (he : e ∈ typTab) (h : isoOk a e.2 = true) : conB a = true := by
  unfold isoOk isoF at h
  split at h
  · next hin =>
    rw [isoIn, Bool.and_eq_true, Bool.and_eq_true, decide_eq_true_iff] at hin
    obtain ⟨⟨hA, hB⟩, hlen⟩ := hin
    have h4 := ((isC_iff a).1 hA).2.1
    rw [List.find?_isSome] at h
    obtain ⟨o, ho, hok⟩ := h
    have hp := List.all_eq_true.1 (List.all_eq_true.1 lvl_pts a.length (List.mem_range.2 (by omega))) o ho
    rw [Bool.and_eq_true, decide_eq_true_iff, List.all_eq_true] at hp
    obtain ⟨hol, hpt⟩ := hp
    have hc := List.all_eq_true.1 (List.all_eq_true.1 (List.all_eq_true.1 typ_con e he) (codeC a) (List.mem_range.2 (code_lt a))) o (by rw [← hlen]; exact ho)
    have hf : fits e.2 (codeC a) o = true := by
      rw [fits, List.all_eq_true]
      intro i hi
      rw [List.all_eq_true]
      intro j hj
      rw [List.mem_range, ← hlen] at hi hj
      have hi2 := of_decide_eq_true (hpt i (List.mem_range.2 hi))
      have hj2 := of_decide_eq_true (hpt j (List.mem_range.2 hj))
      have hfit := (ordOk_iff a e.2 o).1 hok i (by omega) j (by omega)
      rw [fitAt, beq_iff_eq] at hfit
      rw [adj_ok hA _ _ hi2 hj2, nbP, ← hfit]
      by_cases hE : (o.getD i 0).toNat = (o.getD j 0).toNat
      · have hb : ((o.getD i 0).toNat == (o.getD j 0).toNat) = true := by rw [beq_iff_eq]; exact hE
        rw [hb, Bool.true_or]
      · have hE2 : (((o.getD j 0).toNat : Int) != ((o.getD i 0).toNat : Int)) = true := by rw [bne_iff_ne]; omega
        simp only [hE2, Bool.true_and, beq_self_eq_true, Bool.or_true]
    rw [hf] at hc
    have hc2 : (partsI e.2.length (nbQ e.2.length (codeC a)) e.2.length).2.length = 1 := by simpa using hc
    rw [conB, partsL, if_pos hA, nb_code hA, hlen]
    exact decide_eq_true hc2
  · simp at h
def nameK (c : List (List Int)) : Option (List UInt8) := nmL.find? (fun p => isoOk c (typL ⟨p.toArray⟩))
def nopL (c : List (List Int)) : List UInt8 := match nameK c with | some p => p | none => if conB c then [63] else []
theorem nm_con {c : List (List Int)} (h : conB c = false) : ∀ k (hk : k < nmL.length), isoOk c (typL ⟨nmL[k].toArray⟩) = false := by
  intro k hk
  cases hi : isoOk c (typL ⟨nmL[k].toArray⟩) with
  | false => rfl
  | true =>
    have hk2 : k < typTab.length := by simpa [nmL] using hk
    have he : typTab[k] ∈ typTab := List.getElem_mem hk2
    have ht := List.all_eq_true.1 typ_tab _ he
    rw [beq_iff_eq] at ht
    have hi2 : isoOk c (typL ⟨(typTab[k]).1.toArray⟩) = true := by simpa only [nmL, List.getElem_map] using hi
    rw [ht] at hi2
    rw [iso_con he hi2] at h; cases h
theorem nop_none {c : List (List Int)} (h : ∀ k (hk : k < nmL.length), isoOk c (typL ⟨nmL[k].toArray⟩) = false) : nopL c = if conB c then [63] else [] := by
  have e : nameK c = none := by
    rw [nameK, List.find?_eq_none]
    intro p hp
    obtain ⟨k, hk, rfl⟩ := List.mem_iff_getElem.1 hp
    rw [h k hk]; simp
  rw [nopL, e]
theorem nop_some {c : List (List Int)} (k : Nat) (hk : k < nmL.length) (hy : isoOk c (typL ⟨nmL[k].toArray⟩) = true) (hn : ∀ j (hj : j < nmL.length), j < k → isoOk c (typL ⟨nmL[j].toArray⟩) = false) : nopL c = nmL[k] := by
  have e : nameK c = some nmL[k] := by
    rw [nameK, List.find?_eq_some_iff_getElem]
    exact ⟨hy, k, hk, rfl, fun j hj => by simp [hn j (by omega) hj]⟩
  rw [nopL, e]
set_option maxHeartbeats 1000000 in
theorem implNameOfPart (v1 : Value) (c : List (List Int)) (hc : c.length ≤ 274877906944) (w : World) (h1 : II w v1 c) (hm : MaxIs w) :
    Calls Tryz.prog 49 #[v1] w fun e w' => e = .returned (.string ⟨(nopL c).toArray⟩) ∧ Below w.heap.size w w' := by
  have H1 := Lib.hid h1
  have HM := Lib.hid hm
  have HN := Lib.hid (@nop_none c)
  have HS := Lib.hid (@nop_some c)
  obtain ⟨g1, o1, c1, hv1, _, _, _⟩ := h1.form
  subst hv1
  clear h1 hm
  cases hC : conB c with
  | false =>
    have HO := Lib.hid (show nopL c = [] by rw [HN.out (nm_con hC), if_neg (by rw [hC]; simp)])
    have HC := Lib.hid hC
    clear hC
    go_enter Tryz.func49, Tryz.ntmps49
    go_wp2_with fail
    refine (implIsConnected _ c hc _ H1.out).mono ?_
    rw [HC.out]
    rintro e w1 ⟨rfl, hb1⟩
    go_wp2_with fail
    go_ret
    exact ⟨by rw [HO.out]; rfl, hb1⟩
  | true =>
    have HO := Lib.hid (show (∀ k (hk : k < nmL.length), isoOk c (typL ⟨nmL[k].toArray⟩) = false) → nopL c = [63] from fun h => by rw [HN.out h, if_pos hC])
    have HC := Lib.hid hC
    clear hC
    go_enter Tryz.func49, Tryz.ntmps49
    go_wp2_with fail
    refine (implIsConnected _ c hc _ H1.out).mono ?_
    rw [HC.out]
    rintro e w0 ⟨rfl, hb0⟩
    have HSP := Lib.hid (splitOn nmS 32 w0 (HM.out.keep hb0) (by decide))
    rw [nm_cut, nm_len, nmS] at HSP
    go_wp2_with fail
    refine HSP.out.mono ?_
    rintro e w1 ⟨rfl, hR, hb1⟩
    obtain ⟨g, o, cap, hv, hc1, hc2, hcc⟩ := hR
    injection hv with hv1 hv2 hv3
    injection hv1 with hv1
    injection hv1 with hg ho
    subst hg ho
    have HL := Lib.hid (show ∀ i (h : i < nmL.length), w1.cell? ⟨w0.heap.size, i, none⟩ = some (.string ⟨nmL[i].toArray⟩) from fun i h => by
      have := hcc i (str nmL[i]) (by simp [strs, h])
      rwa [Nat.zero_add] at this)
    have hbA := below_trans hb0 hb1
    clear hcc hc1 hc2 hv2 hv3 hb1 hb0
    go_wp2_with fail
    go_loopw [14] (fun i wr => ∃ k : Nat, k ≤ 17 ∧ i = .int .i64 k ∧ Below w.heap.size w wr ∧ Below w1.heap.size w1 wr ∧ Hid (∀ j (hj : j < nmL.length), j < k → isoOk c (typL ⟨nmL[j].toArray⟩) = false)) (fun i _ => 17 - (intOf i).toNat)
    case atStart => exact ⟨0, by omega, rfl, hbA, Below.refl _ _, fun j _ hj => absurd hj (Nat.not_lt_zero _)⟩
    case round =>
      clear hbA
      obtain ⟨k, hk, rfl, hbel, hbel1, HI⟩ := hrel
      by_cases hlt' : k < 17
      · have hkn : k < nmL.length := by rw [nm_len]; exact hlt'
        have x1 := cells_keep hbel1 (HL.out k hkn)
        have HSk := Lib.hid (fun hy => HS.out k hkn hy HI.out)
        have HIk := Lib.hid (show isoOk c (typL ⟨nmL[k].toArray⟩) = false → ∀ j (hj : j < nmL.length), j < k + 1 → isoOk c (typL ⟨nmL[j].toArray⟩) = false from fun hf j hj h => by
          by_cases e : j = k
          · subst e; exact hf
          · exact HI.out j hj (by omega))
        obtain ⟨x, hx⟩ : ∃ x : ByteArray, (⟨nmL[k].toArray⟩ : ByteArray) = x := ⟨_, rfl⟩
        have HX := Lib.hid (show (⟨nmL[k].toArray⟩ : ByteArray) = x from hx)
        rw [hx] at x1 HSk HIk
        have hk0 : (0 : Int) ≤ (k : Int) := by omega
        have hk1 : (k : Int) < 17 := by omega
        have hty := typ_total x
        have hty2 : (typL x).length ≤ 274877906944 := by unfold total at hty; omega
        clear hx hty HI
        have k1 := H1.out.keep hbel
        cases hO : isoOk c (typL x) with
        | true =>
          have HA := Lib.hid (HSk.out hO)
          have HB := Lib.hid hO
          clear hO HSk HIk
          go_wp2_with fail
          refine (implTypeCartan x _).mono ?_
          intro e w2 r2
          obtain ⟨v2, rfl, o2, hb2⟩ := r2.out
          clear r2
          have k2 := k1.keep hb2
          have rd2 := o2.read
          clear o2
          go_wp2_with fail
          refine (implAreIsomorphic _ _ c (typL x) hc hty2 _ k2 rd2).mono ?_
          rw [HB.out]
          rintro e w3 ⟨v3, g3, rfl, _, _, hb3⟩
          go_wp2_with fail
          go_ret
          exact ⟨by rw [HA.out, HX.out]; rfl, below_trans (below_trans hbel hb2) hb3⟩
        | false =>
          have HA := Lib.hid (HIk.out hO)
          have HB := Lib.hid hO
          clear hO HSk HIk
          go_wp2_with fail
          refine (implTypeCartan x _).mono ?_
          intro e w2 r2
          obtain ⟨v2, rfl, o2, hb2⟩ := r2.out
          clear r2
          have k2 := k1.keep hb2
          have rd2 := o2.read
          clear o2
          go_wp2_with fail
          refine (implAreIsomorphic _ _ c (typL x) hc hty2 _ k2 rd2).mono ?_
          rw [HB.out]
          rintro e w3 ⟨v3, g3, rfl, _, _, hb3⟩
          have hq := below_trans (below_trans hbel hb2) hb3
          have hq1 := below_trans (below_trans hbel1 hb2) hb3
          clear hb2 hb3 k2 rd2 k1
          go_wp2_with fail
          go_roundw
          case rel => exact ⟨k + 1, by omega, by go_num, hq, hq1, HA⟩
          case measure => simp [intOf]; omega
      · obtain rfl : k = 17 := by omega
        have HA := Lib.hid (HO.out (fun j hj => HI.out j hj (by rw [nm_len] at hj; exact hj)))
        clear HI
        go_wp2_with fail
        go_ret
        exact ⟨by rw [HA.out]; rfl, hbel⟩
theorem specNames (w : World) : Calls Tryz.prog 98 #[] w fun e w' => e = .returned (.slice (some ⟨w.heap.size, 0, none⟩) 17 17) ∧ (∀ i (h : i < nmL.length), w'.cell? ⟨w.heap.size, i, none⟩ = some (.string ⟨nmL[i].toArray⟩)) ∧ Below w.heap.size w w' := by
  go_enter Tryz.func98, Tryz.ntmps98
  go_wp2_with fail
  go_ret
  refine ⟨rfl, fun i h => ?_, (Below.refl _ _).alloc (Nat.le_refl _) _⟩
  rw [World.cell?_alloc_new]
  rw [nm_len] at h
  match i, h with
  | 0, _ => rfl
  | 1, _ => rfl
  | 2, _ => rfl
  | 3, _ => rfl
  | 4, _ => rfl
  | 5, _ => rfl
  | 6, _ => rfl
  | 7, _ => rfl
  | 8, _ => rfl
  | 9, _ => rfl
  | 10, _ => rfl
  | 11, _ => rfl
  | 12, _ => rfl
  | 13, _ => rfl
  | 14, _ => rfl
  | 15, _ => rfl
  | 16, _ => rfl
  | n + 17, h => omega
set_option maxHeartbeats 1000000 in
theorem specNameOfPart (v1 : Value) (c : List (List Int)) (hc : c.length ≤ 274877906944) (w : World) (h1 : II w v1 c) :
    Calls Tryz.prog 50 #[v1] w fun e w' => e = .returned (.string ⟨(nopL c).toArray⟩) ∧ Below w.heap.size w w' := by
  have H1 := Lib.hid h1
  have HN := Lib.hid (@nop_none c)
  have HS := Lib.hid (@nop_some c)
  obtain ⟨g1, o1, c1, hv1, _, _, _⟩ := h1.form
  subst hv1
  clear h1
  go_enter Tryz.func50, Tryz.ntmps50
  go_wp2_with fail
  refine (specNames w).mono ?_
  rintro e w1 ⟨rfl, hcc, hb1⟩
  have HL := Lib.hid hcc
  clear hcc
  go_wp2_with fail
  go_loopw [4] (fun i wr => ∃ k : Nat, k ≤ 17 ∧ i = .int .i64 k ∧ Below w.heap.size w wr ∧ Below w1.heap.size w1 wr ∧ Hid (∀ j (hj : j < nmL.length), j < k → isoOk c (typL ⟨nmL[j].toArray⟩) = false)) (fun i _ => 17 - (intOf i).toNat)
  case atStart => exact ⟨0, by omega, rfl, hb1, Below.refl _ _, fun j _ hj => absurd hj (Nat.not_lt_zero _)⟩
  case round =>
    clear hb1
    obtain ⟨k, hk, rfl, hbel, hbel1, HI⟩ := hrel
    by_cases hlt' : k < 17
    · have hkn : k < nmL.length := by rw [nm_len]; exact hlt'
      have x1 := cells_keep hbel1 (HL.out k hkn)
      have HSk := Lib.hid (fun hy => HS.out k hkn hy HI.out)
      have HIk := Lib.hid (show isoOk c (typL ⟨nmL[k].toArray⟩) = false → ∀ j (hj : j < nmL.length), j < k + 1 → isoOk c (typL ⟨nmL[j].toArray⟩) = false from fun hf j hj h => by
        by_cases e : j = k
        · subst e; exact hf
        · exact HI.out j hj (by omega))
      obtain ⟨x, hx⟩ : ∃ x : ByteArray, (⟨nmL[k].toArray⟩ : ByteArray) = x := ⟨_, rfl⟩
      have HX := Lib.hid (show (⟨nmL[k].toArray⟩ : ByteArray) = x from hx)
      rw [hx] at x1 HSk HIk
      have hk0 : (0 : Int) ≤ (k : Int) := by omega
      have hk1 : (k : Int) < 17 := by omega
      have hty := typ_total x
      have hty2 : (typL x).length ≤ 274877906944 := by unfold total at hty; omega
      clear hx hty HI
      have k1 := H1.out.keep hbel
      cases hO : isoOk c (typL x) with
      | true =>
        have HA := Lib.hid (HSk.out hO)
        have HB := Lib.hid hO
        clear hO HSk HIk
        go_wp2_with fail
        refine (specTypeCartan x _).mono ?_
        intro e w2 r2
        obtain ⟨v2, rfl, o2, hb2⟩ := r2.out
        clear r2
        have k2 := k1.keep hb2
        have rd2 := o2.read
        have x2 := cells_keep hb2 x1
        clear o2 x1
        go_wp2_with fail
        refine (specAreIsomorphic _ _ c (typL x) hc hty2 _ k2 rd2).mono ?_
        rw [HB.out]
        rintro e w3 ⟨v3, g3, rfl, _, _, hb3⟩
        have x3 := cells_keep hb3 x2
        clear x2
        go_wp2_with fail
        go_ret
        exact ⟨by rw [HA.out, HX.out]; rfl, below_trans (below_trans hbel hb2) hb3⟩
      | false =>
        have HA := Lib.hid (HIk.out hO)
        have HB := Lib.hid hO
        clear hO HSk HIk
        go_wp2_with fail
        refine (specTypeCartan x _).mono ?_
        intro e w2 r2
        obtain ⟨v2, rfl, o2, hb2⟩ := r2.out
        clear r2
        have k2 := k1.keep hb2
        have rd2 := o2.read
        clear o2
        go_wp2_with fail
        refine (specAreIsomorphic _ _ c (typL x) hc hty2 _ k2 rd2).mono ?_
        rw [HB.out]
        rintro e w3 ⟨v3, g3, rfl, _, _, hb3⟩
        have hq := below_trans (below_trans hbel hb2) hb3
        have hq1 := below_trans (below_trans hbel1 hb2) hb3
        clear hb2 hb3 k2 rd2 k1
        go_wp2_with fail
        go_roundw
        case rel => exact ⟨k + 1, by omega, by go_num, hq, hq1, HA⟩
        case measure => simp [intOf]; omega
    · obtain rfl : k = 17 := by omega
      have hall : ∀ j (hj : j < nmL.length), isoOk c (typL ⟨nmL[j].toArray⟩) = false := fun j hj => HI.out j hj (by rw [nm_len] at hj; exact hj)
      have HV := Lib.hid (HN.out hall)
      clear HI hall
      have k1 := H1.out.keep hbel
      cases hC : conB c with
      | true =>
        have HA := Lib.hid (show nopL c = [63] by rw [HV.out, if_pos hC])
        have HC := Lib.hid hC
        clear hC
        go_wp2_with fail
        refine (specIsConnected _ c hc _ k1).mono ?_
        rw [HC.out]
        rintro e w2 ⟨rfl, hb2⟩
        go_wp2_with fail
        go_ret
        exact ⟨by rw [HA.out]; rfl, below_trans hbel hb2⟩
      | false =>
        have HA := Lib.hid (show nopL c = [] by rw [HV.out, if_neg (by rw [hC]; simp)])
        have HC := Lib.hid hC
        clear hC
        go_wp2_with fail
        refine (specIsConnected _ c hc _ k1).mono ?_
        rw [HC.out]
        rintro e w2 ⟨rfl, hb2⟩
        go_wp2_with fail
        go_ret
        exact ⟨by rw [HA.out]; rfl, below_trans hbel hb2⟩
end Go.Proofs.YtaikjkcbgniplaaGreatDoor
