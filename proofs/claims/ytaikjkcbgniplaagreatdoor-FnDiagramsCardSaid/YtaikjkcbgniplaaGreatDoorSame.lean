/- The statements' own tests of equality: they answer whether two lists, two matrices, are equal. -/
import Derived.Test.YtaikjkcbgniplaaGreatDoorInts
import Derived.Test.YtaikjkcbgniplaaGreatDoorMat
namespace Go.Proofs.YtaikjkcbgniplaaGreatDoor
open Go.RowKit
set_option linter.unusedVariables false

set_option maxHeartbeats 400000 in
theorem lawSameInts (v1 v2 : Value) (a b : List Int) (ha : a.length ≤ 1099511627776) (w : World) (h1 : I w v1 a) (h2 : I w v2 b) :
    Calls Tryz.prog 10 #[v1, v2] w fun e w' => e = .returned (.bool (eqI a b)) ∧ Below w.heap.size w w' := by
  obtain ⟨g1, o1, c1, rfl, _, _, hc1⟩ := h1.form
  obtain ⟨g2, o2, c2, rfl, _, _, hc2⟩ := h2.form
  have H1 := Lib.hid hc1
  have H2 := Lib.hid hc2
  clear hc1 hc2 h1 h2
  by_cases hl : a.length = b.length
  · have hL := Lib.hid hl
    have dl : ((a.length : Int) != (b.length : Int)) = false := by rw [bne_eq_false_iff_eq]; omega
    clear hl
    go_enter Tryz.func10, Tryz.ntmps10
    go_wp2_with fail
    go_loopw [5] (fun i wr => ∃ k : Nat, k ≤ a.length ∧ i = .int .i64 k ∧ Below w.heap.size w wr ∧ Hid (∀ j (h1 : j < a.length) (h2 : j < b.length), j < k → a[j] = b[j])) (fun i _ => a.length - (intOf i).toNat)
    case atStart => exact ⟨0, by omega, rfl, Below.refl _ _, fun j _ _ h => absurd h (Nat.not_lt_zero j)⟩
    case round =>
      obtain ⟨k, hk, rfl, hbel, HE⟩ := hrel
      by_cases hlt' : k < a.length
      · have hlt2 : k < b.length := by have := hL.out; omega
        have x1 := (hbel.cell (World.block_lt_of_cell? w _ (H1.out k hlt'))).trans (H1.out k hlt')
        have x2 := (hbel.cell (World.block_lt_of_cell? w _ (H2.out k hlt2))).trans (H2.out k hlt2)
        have hk0 : (0 : Int) ≤ (k : Int) := by omega
        have hk1 : (k : Int) < (a.length : Int) := by omega
        have hk2 : (k : Int) < (b.length : Int) := by omega
        by_cases he : a[k] = b[k]
        · have hb : ((a[k] : Int) != (b[k] : Int)) = false := by rw [bne_eq_false_iff_eq]; exact he
          have HK := Lib.hid he
          clear he
          go_wp2_with fail
          go_region_held3 (fun w' => w'.cell? ⟨g1, o1 + k, none⟩ = some (.int .i64 a[k]) ∧ w'.cell? ⟨g2, o2 + k, none⟩ = some (.int .i64 b[k])) (go_keep) (fail)
          go_wp2_with fail
          go_roundw
          case rel =>
            refine ⟨k + 1, by omega, by go_num, hbel.drew, fun j q1 q2 hj => ?_⟩
            by_cases e : j = k
            · subst e; exact HK.out
            · exact HE.out j q1 q2 (by omega)
          case measure => simp [intOf]; omega
        · have hb : ((a[k] : Int) != (b[k] : Int)) = true := by rw [bne_iff_ne]; exact he
          have HK := Lib.hid he
          clear he
          go_wp2_with fail
          go_region_held3 (fun w' => w'.cell? ⟨g1, o1 + k, none⟩ = some (.int .i64 a[k]) ∧ w'.cell? ⟨g2, o2 + k, none⟩ = some (.int .i64 b[k])) (go_keep) (fail)
          go_wp2_with fail
          go_ret
          refine ⟨ret_bool ?_, hbel.drew⟩
          symm
          rw [eqI, beq_eq_false_iff_ne]
          intro e
          subst e
          exact HK.out rfl
      · obtain rfl : k = a.length := by omega
        go_wp2_with fail
        go_ret
        refine ⟨ret_bool ?_, hbel⟩
        symm
        rw [eqI, beq_iff_eq]
        exact List.ext_getElem hL.out (fun j q1 q2 => HE.out j q1 q2 q1)
  · have dl : ((a.length : Int) != (b.length : Int)) = true := by rw [bne_iff_ne]; omega
    have hL := Lib.hid hl
    clear hl
    go_enter Tryz.func10, Tryz.ntmps10
    go_wp2_with fail
    go_ret
    refine ⟨ret_bool ?_, Below.refl _ _⟩
    symm
    rw [eqI, beq_eq_false_iff_ne]
    intro e
    subst e
    exact hL.out rfl
set_option maxHeartbeats 1000000 in
theorem lawSameWords (v1 v2 : Value) (a b : List (List Int)) (ha : total a ≤ 1099511627776) (w : World) (h1 : II w v1 a) (h2 : II w v2 b) :
    Calls Tryz.prog 12 #[v1, v2] w fun e w' => e = .returned (.bool (eqII a b)) ∧ Below w.heap.size w w' := by
  obtain ⟨g1, o1, c1, rfl, _, _, hc1⟩ := h1.form
  obtain ⟨g2, o2, c2, rfl, _, _, hc2⟩ := h2.form
  have H1 := Lib.hid hc1
  have H2 := Lib.hid hc2
  have hT : a.length ≤ 1099511627776 := by unfold total at ha; omega
  have HT : Hid (a.length + ints a ≤ 1099511627776) := ha
  clear hc1 hc2 h1 h2 ha
  by_cases hl : a.length = b.length
  · have hL := Lib.hid hl
    have dl : ((a.length : Int) != (b.length : Int)) = false := by rw [bne_eq_false_iff_eq]; omega
    clear hl
    go_enter Tryz.func12, Tryz.ntmps12
    go_wp2_with fail
    go_loopw [5] (fun i wr => ∃ k : Nat, k ≤ a.length ∧ i = .int .i64 k ∧ Below w.heap.size w wr ∧ Hid (∀ j (h1 : j < a.length) (h2 : j < b.length), j < k → a[j] = b[j])) (fun i _ => a.length - (intOf i).toNat)
    case atStart => exact ⟨0, by omega, rfl, Below.refl _ _, fun j _ _ h => absurd h (Nat.not_lt_zero j)⟩
    case round =>
      obtain ⟨k, hk, rfl, hbel, HE⟩ := hrel
      by_cases hlt' : k < a.length
      · have hlt2 : k < b.length := by have := hL.out; omega
        obtain ⟨r1, y1, i1⟩ := H1.out k hlt'
        obtain ⟨r2, y2, i2⟩ := H2.out k hlt2
        have x1 := (hbel.cell (World.block_lt_of_cell? w _ y1)).trans y1
        have x2 := (hbel.cell (World.block_lt_of_cell? w _ y2)).trans y2
        have hl1 := World.block_lt_of_cell? wr _ x1
        have hl2 := World.block_lt_of_cell? wr _ x2
        have j1 := i1.keep hbel
        have j2 := i2.keep hbel
        have hle : a[k].length ≤ 1099511627776 := by have := ints_row a k hlt'; have := HT.out; omega
        clear y1 y2 i1 i2
        have hk0 : (0 : Int) ≤ (k : Int) := by omega
        have hk1 : (k : Int) < (a.length : Int) := by omega
        have hk2 : (k : Int) < (b.length : Int) := by omega
        cases he : eqI a[k] b[k] with
        | true =>
          have HK := Lib.hid he
          go_wp2_with fail
          go_region_held3 (fun w' => w'.cell? ⟨g1, o1 + k, none⟩ = some r1 ∧ w'.cell? ⟨g2, o2 + k, none⟩ = some r2) (first | go_keep | (go_split_ands; exact ⟨(hb1.cell hl1).trans ‹_›, (hb1.cell hl2).trans ‹_›⟩)) ((go_at_call 10; refine (lawSameInts _ _ a[k] b[k] hle _ (j1.keep (Below.drew (Below.refl _ _))) (j2.keep (Below.drew (Below.refl _ _)))).mono ?_; rw [he]; rintro e w1 ⟨rfl, hb1⟩))
          go_wp2_with fail
          go_roundw
          case rel =>
            refine ⟨k + 1, by omega, by go_num, below_trans hbel.drew hb1, fun j q1 q2 hj => ?_⟩
            by_cases e : j = k
            · subst e; exact eqI_true HK.out
            · exact HE.out j q1 q2 (by omega)
          case measure => simp [intOf]; omega
        | false =>
          have HK := Lib.hid he
          go_wp2_with fail
          go_region_held3 (fun w' => w'.cell? ⟨g1, o1 + k, none⟩ = some r1 ∧ w'.cell? ⟨g2, o2 + k, none⟩ = some r2) (first | go_keep | (go_split_ands; exact ⟨(hb1.cell hl1).trans ‹_›, (hb1.cell hl2).trans ‹_›⟩)) ((go_at_call 10; refine (lawSameInts _ _ a[k] b[k] hle _ (j1.keep (Below.drew (Below.refl _ _))) (j2.keep (Below.drew (Below.refl _ _)))).mono ?_; rw [he]; rintro e w1 ⟨rfl, hb1⟩))
          go_wp2_with fail
          go_ret
          refine ⟨ret_bool ?_, below_trans hbel.drew hb1⟩
          symm
          rw [eqII, beq_eq_false_iff_ne]
          intro e
          subst e
          have := HK.out
          rw [eqI_refl] at this
          cases this
      · obtain rfl : k = a.length := by omega
        go_wp2_with fail
        go_ret
        refine ⟨ret_bool ?_, hbel⟩
        symm
        rw [eqII, beq_iff_eq]
        exact List.ext_getElem hL.out (fun j q1 q2 => HE.out j q1 q2 q1)
  · have dl : ((a.length : Int) != (b.length : Int)) = true := by rw [bne_iff_ne]; omega
    have hL := Lib.hid hl
    clear hl
    go_enter Tryz.func12, Tryz.ntmps12
    go_wp2_with fail
    go_ret
    refine ⟨ret_bool ?_, Below.refl _ _⟩
    symm
    rw [eqII, beq_eq_false_iff_ne]
    intro e
    subst e
    exact hL.out rfl
def inL (l : List (List Int)) (u : List Int) : Bool := l.contains u
theorem inL_at {l : List (List Int)} {u : List Int} (k : Nat) (h : k < l.length) (e : eqI l[k] u = true) : inL l u = true := by
  have := eqI_true e
  rw [inL, List.contains_iff_mem, ← this]
  exact List.getElem_mem h
theorem inL_no {l : List (List Int)} {u : List Int} (h : ∀ j (hj : j < l.length), eqI l[j] u = false) : inL l u = false := by
  cases hc : inL l u with
  | false => rfl
  | true =>
    rw [inL, List.contains_iff_mem] at hc
    obtain ⟨j, hj, rfl⟩ := List.mem_iff_getElem.1 hc
    have := h j hj
    rw [eqI_refl] at this
    exact absurd this (by simp)
set_option maxHeartbeats 1000000 in
theorem lawInList (v1 v2 : Value) (l : List (List Int)) (u : List Int) (hl : l.length ≤ 1099511627776) (hs : ∀ r ∈ l, r.length ≤ 1099511627776) (w : World) (h1 : II w v1 l) (h2 : I w v2 u) :
    Calls Tryz.prog 20 #[v1, v2] w fun e w' => e = .returned (.bool (inL l u)) ∧ Below w.heap.size w w' := by
  obtain ⟨g1, o1, c1, rfl, _, _, hc1⟩ := h1.form
  have H1 := Lib.hid hc1
  have H2 := Lib.hid h2
  have HS := Lib.hid hs
  obtain ⟨g2, o2, c2, rfl, _, _, _⟩ := h2.form
  clear hc1 h1 h2 hs
  go_enter Tryz.func20, Tryz.ntmps20
  go_wp2_with fail
  go_loopw [5] (fun i wr => ∃ k : Nat, k ≤ l.length ∧ i = .int .i64 k ∧ Below w.heap.size w wr ∧ Hid (∀ j (h1 : j < l.length), j < k → eqI l[j] u = false)) (fun i _ => l.length - (intOf i).toNat)
  case atStart => exact ⟨0, by omega, rfl, Below.refl _ _, fun j _ h => absurd h (Nat.not_lt_zero j)⟩
  case round =>
    obtain ⟨k, hk, rfl, hbel, HE⟩ := hrel
    by_cases hlt : k < l.length
    · obtain ⟨r, y1, j1⟩ := H1.out k hlt
      have x1 := (hbel.cell (World.block_lt_of_cell? w _ y1)).trans y1
      have hrl := HS.out _ (List.getElem_mem hlt)
      have HJ := Lib.hid (j1.keep hbel)
      obtain ⟨gr, or, cr, rfl, _, _, _⟩ := j1.form
      have hk0 : (0 : Int) ≤ (k : Int) := by omega
      have hk1 : (k : Int) < (l.length : Int) := by omega
      cases hb : eqI l[k] u with
      | true =>
        have HB := Lib.hid (inL_at k hlt hb)
        have HQ := Lib.hid hb
        clear hb y1 j1
        go_wp2_with fail
        refine (lawSameInts _ _ l[k] u hrl wr HJ.out (H2.out.keep hbel)).mono ?_
        rintro e w1 ⟨rfl, b1⟩
        rw [HQ.out]
        go_wp2_with fail
        go_ret
        exact ⟨by rw [HB.out]; rfl, below_trans hbel b1⟩
      | false =>
        have HQ := Lib.hid hb
        clear hb y1 j1
        go_wp2_with fail
        refine (lawSameInts _ _ l[k] u hrl wr HJ.out (H2.out.keep hbel)).mono ?_
        rintro e w1 ⟨rfl, b1⟩
        rw [HQ.out]
        go_wp2_with fail
        go_roundw
        case rel =>
          refine ⟨k + 1, by omega, by go_num, below_trans hbel b1, fun j hj hjk => ?_⟩
          by_cases e : j = k
          · subst e; exact HQ.out
          · exact HE.out j hj (by omega)
        case measure => simp [intOf]; omega
    · obtain rfl : k = l.length := by omega
      have HB := Lib.hid (inL_no (fun j hj => HE.out j hj hj))
      go_wp2_with fail
      go_ret
      exact ⟨by rw [HB.out]; rfl, hbel⟩
end Go.Proofs.YtaikjkcbgniplaaGreatDoor
