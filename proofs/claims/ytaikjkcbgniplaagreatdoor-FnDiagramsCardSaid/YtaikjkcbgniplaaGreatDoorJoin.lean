/- JoinCartans of the program and of the reference: what they answer, for at most 2^38 rows. -/
import Derived.Test.YtaikjkcbgniplaaGreatDoorRel
import Derived.Test.YtaikjkcbgniplaaGreatDoorZero
namespace Go.Proofs.YtaikjkcbgniplaaGreatDoor
open Go.RowKit
set_option linter.unusedVariables false

def joinR1 (a b : List (List Int)) : List (List Int) := a.map (fun r => r ++ List.replicate b.length 0)
def joinR2 (a b : List (List Int)) : List (List Int) := b.map (fun r => List.replicate a.length 0 ++ r)
def joinS (a b : List (List Int)) : List (List Int) := joinR1 a b ++ joinR2 a b
def joinOk (a b : List (List Int)) : Bool := isC a && isC b && decide (a.length + b.length ≤ 4)
def joinL (a b : List (List Int)) : List (List Int) := if joinOk a b then joinS a b else []
theorem joinOk_f1 {a b : List (List Int)} (h : isC a = false) : joinOk a b = false := by simp [joinOk, h]
theorem joinOk_f2 {a b : List (List Int)} (h : isC b = false) : joinOk a b = false := by simp [joinOk, h]
theorem joinOk_f3 {a b : List (List Int)} (h : ¬ a.length + b.length ≤ 4) : joinOk a b = false := by simp [joinOk, h]
theorem joinOk_t {a b : List (List Int)} (h1 : isC a = true) (h2 : isC b = true) (h3 : a.length + b.length ≤ 4) : joinOk a b = true := by simp [joinOk, h1, h2, h3]
theorem joinL_t {a b : List (List Int)} (h : joinOk a b = true) : joinL a b = joinS a b := by simp [joinL, h]
theorem joinL_f {a b : List (List Int)} (h : joinOk a b = false) : joinL a b = [] := by simp [joinL, h]
theorem joinR1_snoc (a b : List (List Int)) (k : Nat) (r : List Int) (h : k < a.length) (hr : a[k] = r) : (joinR1 a b).take (k + 1) = (joinR1 a b).take k ++ [r ++ List.replicate b.length 0] := by
  subst hr; rw [List.take_succ_eq_append_getElem (by simpa [joinR1] using h)]; simp [joinR1]
theorem joinR1_end (a b : List (List Int)) : (joinR1 a b).take a.length = joinR1 a b := List.take_of_length_le (by simp [joinR1])
theorem joinR2_snoc (a b : List (List Int)) (k : Nat) (r : List Int) (h : k < b.length) (hr : b[k] = r) : (joinR2 a b).take (k + 1) = (joinR2 a b).take k ++ [List.replicate a.length 0 ++ r] := by
  subst hr; rw [List.take_succ_eq_append_getElem (by simpa [joinR2] using h)]; simp [joinR2]
theorem joinR2_end (a b : List (List Int)) : (joinR2 a b).take b.length = joinR2 a b := List.take_of_length_le (by simp [joinR2])
theorem joinR1_len (a b : List (List Int)) (k : Nat) (h : k ≤ a.length) : ((joinR1 a b).take k).length = k := by rw [List.length_take]; simp [joinR1]; omega
theorem joinR2_len (a b : List (List Int)) (k : Nat) (h : k ≤ b.length) : (joinR1 a b ++ (joinR2 a b).take k).length = a.length + k := by rw [List.length_append, List.length_take]; simp [joinR1, joinR2]; omega
theorem ints_le' (l : List (List Int)) (k : Nat) (h : ∀ o ∈ l, o.length ≤ k) : ints l ≤ l.length * k := by
  induction l with
  | nil => simp [ints]
  | cons a l ih =>
    rw [ints_cons, List.length_cons, Nat.succ_mul]
    have := ih (fun o ho => h o (List.mem_cons_of_mem _ ho))
    have := h a List.mem_cons_self
    omega
theorem join_total (a b : List (List Int)) : total (joinL a b) ≤ 32 := by
  unfold joinL
  split
  · next h =>
    rw [joinOk, Bool.and_eq_true, Bool.and_eq_true, decide_eq_true_iff] at h
    have hl : (joinS a b).length = a.length + b.length := by simp [joinS, joinR1, joinR2]
    have hi := ints_le' (joinS a b) 4 (fun o ho => by
      rw [joinS, List.mem_append, joinR1, joinR2, List.mem_map, List.mem_map] at ho
      rcases ho with ⟨r, hr, rfl⟩ | ⟨r, hr, rfl⟩
      · have := ((isC_iff a).1 h.1.1).2.2.1 r hr; simp; omega
      · have := ((isC_iff b).1 h.1.2).2.2.1 r hr; simp; omega)
    unfold total; omega
  · simp [total, ints]
theorem own_made (w : World) (n m : Nat) (hn : n ≤ m) (hm : m ≤ maxLen) : RowV (w.alloc (.cells (madeCells #[.int .i64 0] m) 3)) w.heap.size 3 (.slice (some ⟨w.heap.size, 0, none⟩) n m) n (ivs (List.replicate n 0)) := by
  have hs : (madeCells #[Value.int .i64 0] m).size = m := size_madeCells _ _
  have hl : (ivs (List.replicate n (0 : Int))).length = n := by rw [ivs_length, List.length_replicate]
  have ht : (madeCells #[Value.int .i64 0] m).toList.take n = ivs (List.replicate n 0) := by
    apply List.ext_getElem
    · rw [List.length_take, Array.length_toList, hs, hl]; omega
    · intro i h1 h2
      simp [madeCells, Nat.mod_one, ivs]
  have h : OwnV (w.alloc (.cells (madeCells #[.int .i64 0] m) 3)) 3 w.heap.size (.slice (some ⟨w.heap.size, 0, none⟩) n m) (ivs (List.replicate n 0)) :=
    ⟨m, madeCells #[.int .i64 0] m, by rw [hl], heap_alloc_new w _, by omega, hm, hs, by rw [hl]; exact ht⟩
  exact (h.rowV (Nat.le_refl _)).cast rfl hl rfl
theorem run_make2 (n m : Nat) (C : Int) (hC : C = (m : Int)) (hn : n ≤ m) (hm : m ≤ 1099511627776) (w : World) :
    (Instr.makeSlice 27 (.int .i64 (n : Int)) (.int .i64 C)).run Tryz.prog w = .ok (.slice (some ⟨w.heap.size, 0, none⟩) n m) (w.alloc (.cells (madeCells #[.int .i64 0] m) 3)) := by
  subst hC
  obtain ⟨i, hi, hz, hs, hb⟩ := info_parts Tryz.infoInt
  have hr := run_make (P := Tryz.prog) w 27 3 i (.int .i64 0) Tryz.underlying27 hi hz .i64 .i64 (n : Int) (m : Int) (by omega) (by omega) (by rw [hb]; omega) (by omega)
  simp only [Int.toNat_natCast, hs, Nat.mul_one] at hr
  exact hr
set_option maxHeartbeats 4000000 in
theorem specJoinCartans (v1 v2 : Value) (a b : List (List Int)) (ha : a.length ≤ 274877906944) (hb : b.length ≤ 274877906944) (w : World) (h1 : II w v1 a) (h2 : II w v2 b) :
    Calls Tryz.prog 68 #[v1, v2] w (RetRowsB w (joinL a b) (joinOk a b)) := by
  obtain ⟨g1, o1, c1, hv1, _, _, hc1⟩ := h1.form
  obtain ⟨g2, o2, c2, hv2, _, _, hc2⟩ := h2.form
  subst hv1 hv2
  have H1 := Lib.hid hc1
  have H2 := Lib.hid hc2
  clear hc1 hc2
  cases hA : isC a with
  | false =>
    have HO := Lib.hid (joinOk_f1 (b := b) hA)
    have HA := Lib.hid hA
    clear hA
    go_enter Tryz.func68, Tryz.ntmps68
    go_wp2_with fail
    refine (specIsCartan _ a (by omega) _ h1).mono ?_
    rw [HA.out]
    rintro e w1 ⟨rfl, hb1⟩
    have hsz := hb1.size
    go_wp2_with fail
    go_ret2
    exact ⟨_, by rw [HO.out]; rfl, by rw [joinL_f HO.out]; exact own2_none hsz, hb1.alloc hsz _⟩
  | true =>
    cases hB : isC b with
    | false =>
      have HO := Lib.hid (joinOk_f2 (a := a) hB)
      have HA := Lib.hid hA
      have HB := Lib.hid hB
      clear hA hB
      go_enter Tryz.func68, Tryz.ntmps68
      go_wp2_with fail
      refine (specIsCartan _ a (by omega) _ h1).mono ?_
      rw [HA.out]
      rintro e w1 ⟨rfl, hb1⟩
      go_wp2_with fail
      refine (specIsCartan _ b (by omega) _ (h2.keep hb1)).mono ?_
      rw [HB.out]
      rintro e w2 ⟨rfl, hb2⟩
      replace hb1 := below_trans hb1 hb2
      have hsz := hb1.size
      go_wp2_with fail
      go_ret2
      exact ⟨_, by rw [HO.out]; rfl, by rw [joinL_f HO.out]; exact own2_none hsz, hb1.alloc hsz _⟩
    | true =>
      by_cases hL : a.length + b.length ≤ 4
      rotate_left
      · have HO := Lib.hid (joinOk_f3 hL)
        have d0 : decide ((4 : Int) < (a.length : Int) + (b.length : Int)) = true := by rw [decide_eq_true_iff]; omega
        have HA := Lib.hid hA
        have HB := Lib.hid hB
        clear hA hB
        go_enter Tryz.func68, Tryz.ntmps68
        go_wp2_with fail
        refine (specIsCartan _ a (by omega) _ h1).mono ?_
        rw [HA.out]
        rintro e w1 ⟨rfl, hb1⟩
        go_wp2_with fail
        refine (specIsCartan _ b (by omega) _ (h2.keep hb1)).mono ?_
        rw [HB.out]
        rintro e w2 ⟨rfl, hb2⟩
        replace hb1 := below_trans hb1 hb2
        have hsz := hb1.size
        go_wp2_with fail
        go_ret2
        exact ⟨_, by rw [HO.out]; rfl, by rw [joinL_f HO.out]; exact own2_none hsz, hb1.alloc hsz _⟩
      have HO := Lib.hid (joinOk_t hA hB hL)
      have d0 : decide ((4 : Int) < (a.length : Int) + (b.length : Int)) = false := by rw [decide_eq_false_iff_not]; omega
      have hb0 : 0 < b.length := by have := ((isC_iff b).1 hB).1; omega
      have HA := Lib.hid hA
      have HB := Lib.hid hB
      clear hA hB
      go_enter Tryz.func68, Tryz.ntmps68
      go_wp2_with fail
      refine (specIsCartan _ a (by omega) _ h1).mono ?_
      rw [HA.out]
      rintro e w1 ⟨rfl, hb1⟩
      go_wp2_with fail
      refine (specIsCartan _ b (by omega) _ (h2.keep hb1)).mono ?_
      rw [HB.out]
      rintro e w2 ⟨rfl, hb2⟩
      replace hb1 := below_trans hb1 hb2
      clear hb2
      have hsz := hb1.size
      go_wp2_with fail
      go_loopw [6, 7] (fun x i wr => ∃ k : Nat, k ≤ a.length ∧ i = .int .i64 k ∧ RowsV wr w.heap.size wr.heap.size x ((joinR1 a b).take k) ∧ Below w.heap.size w wr) (fun _ i _ => a.length - (intOf i).toNat)
      case atStart =>
        obtain ⟨gs, vs, q1, q2, q3, q4⟩ := rowsV_empty w2
        exact ⟨0, by omega, rfl, ⟨gs, vs, q1.mono' hsz, q2, fun g hg => by have := q3 g hg; omega, q4⟩, hb1.alloc hsz _⟩
      case round =>
        clear hb1 hsz
        obtain ⟨k, hk, rfl, hR, hbel⟩ := hrel
        by_cases hlt' : k < a.length
        · obtain ⟨r, y1, j1⟩ := H1.out k hlt'
          have hrl : a[k].length = a.length := isC_sq HA.out k hlt'
          obtain ⟨o, ho⟩ : ∃ o, a[k] = o := ⟨_, rfl⟩
          have HS := Lib.hid (joinR1_snoc a b k o hlt' ho)
          have HK := Lib.hid (joinR1_len a b k hk)
          rw [ho] at j1 hrl
          have hol : o.length ≤ 4 := by omega
          obtain ⟨gr, or, cr, hr, _, _, hcr⟩ := j1.form
          subst hr
          have HC := Lib.hid hcr
          have x1 := cells_keep hbel y1
          have hl1 : g1 < wr.heap.size := World.block_lt_of_cell? wr _ x1
          have hbn := below_new wr (.cells #[] 3)
          have hbin := hbel.trans (hbn.mono hbel.size)
          have hk0 : (0 : Int) ≤ (k : Int) := by omega
          have hk1 : (k : Int) < (a.length : Int) := by omega
          obtain ⟨gs, vs, q1, q2, q3, q4⟩ := hR
          have q1' : RowV wr w.heap.size 27 u6 k vs := q1.cast rfl HK.out rfl
          clear ho hrl hcr y1 j1
          have HSZ := Lib.hid hbel.size
          go_wp2_with (first
            | (at_builtin; refine wpList_appendV elemInt _ rfl _ _ rfl wr.heap.size (.slice (some ⟨wr.heap.size, 0, none⟩) 0 0) 0 [] rfl (rowV_empty wr _) (ivs o) gr or o.length cr rfl (ivs_length o) (cells_after HC.out hbin) (ivs_one o) (by omega) hbn.size ?_; intro gA capA wA hrowA hgrowA hbA)
            | (at_builtin; refine wpList_appendZ Tryz.underlying27 Tryz.infoInt Tryz.underlying3 _ rfl _ _ rfl wr.heap.size (.slice (some ⟨gA, 0, none⟩) o.length capA) o.length (ivs o) rfl (hrowA.cast (by rw [Nat.zero_add]) (Nat.zero_add _) (List.nil_append _)) .i64 b.length rfl hb0 (by omega) (by omega) (Nat.le_trans hbn.size hbA.size) ?_; intro gB capB wB hrowB hgrowB hbB)
            | (at_builtin; refine wpList_pushV elemRow _ rfl _ _ rfl w.heap.size u6 k vs rfl ((q1'.keep ((hbn.trans hbA).trans hbB)).alloc _) (.slice (some ⟨gB, 0, none⟩) (o.length + b.length) capB) wB.heap.size rfl (cell_new1 _ _ _) rfl (by omega) (Nat.le_trans HSZ.out (Nat.le_trans ((hbn.trans hbA).trans hbB).size (below_new wB _).size)) ?_; intro gC capC wC hrowC hgrowC hbC))
          have hT := (hbn.trans hbA).trans hbB
          obtain ⟨gx, hgx, hown⟩ : ∃ gx, wr.heap.size ≤ gx ∧ Own wB gx (.slice (some ⟨gB, 0, none⟩) (o.length + b.length) capB) (o ++ List.replicate b.length 0) := by
            obtain ⟨gx, hgx, h⟩ := hrowB.own
            refine ⟨gx, hgx, ?_⟩
            unfold Own
            rw [ivs_append]
            have e : ivs (List.replicate b.length 0) = List.replicate b.length (Value.int .i64 0) := by simp [ivs]
            rw [e]; exact h
          have hs0 := hbel.size
          have HPP := Lib.hid (rowsV_push (w := wB) (w1 := wC) (B := w.heap.size) (hi := wr.heap.size) (q1.keep hT) (q2.keep hT) q3 q4 hown hgx (by omega) hgrowC (hrowC.cast rfl (by rw [HK.out]) rfl))
          have hbF := ((below_trans hbel hT).alloc (below_trans hbel hT).size (.cells #[.slice (some ⟨gB, 0, none⟩) (o.length + b.length) capB] 27)).trans hbC
          clear hrowA hrowB hown hrowC hgrowA hgrowB hgrowC q1 q1' q2 q3 q4 hbA hbB hbC hT hbn hbin
          go_roundw
          case rel => exact ⟨k + 1, by omega, by go_num, by rw [HS.out]; exact HPP.out, hbF⟩
          case measure => simp [intOf]; omega
        · obtain rfl : k = a.length := by omega
          rw [joinR1_end] at hR
          go_wp2_with fail
          go_loopw [6, 8] (fun x i wr => ∃ k : Nat, k ≤ b.length ∧ i = .int .i64 k ∧ RowsV wr w.heap.size wr.heap.size x (joinR1 a b ++ (joinR2 a b).take k) ∧ Below w.heap.size w wr) (fun _ i _ => b.length - (intOf i).toNat)
          case atStart => exact ⟨0, by omega, rfl, by simpa using hR, hbel⟩
          case round =>
            clear hR hbel
            obtain ⟨k, hk, rfl, hR, hbel⟩ := hrel
            by_cases hlt' : k < b.length
            · obtain ⟨r, y1, j1⟩ := H2.out k hlt'
              have hrl : b[k].length = b.length := isC_sq HB.out k hlt'
              obtain ⟨o, ho⟩ : ∃ o, b[k] = o := ⟨_, rfl⟩
              have HS := Lib.hid (joinR2_snoc a b k o hlt' ho)
              have HK := Lib.hid (joinR2_len a b k hk)
              rw [ho] at j1 hrl
              have hol : o.length ≤ 4 := by omega
              obtain ⟨gr, or, cr, hr, _, _, hcr⟩ := j1.form
              subst hr
              have HC := Lib.hid hcr
              have x1 := cells_keep hbel y1
              have hl1 : g2 < wr.heap.size := World.block_lt_of_cell? wr _ x1
              have hlw : g2 < w.heap.size := World.block_lt_of_cell? w _ y1
              have hk0 : (0 : Int) ≤ (k : Int) := by omega
              have hk1 : (k : Int) < (b.length : Int) := by omega
              have hmk := run_make2 a.length a.length a.length rfl (Nat.le_refl _) (by omega)
              obtain ⟨gs, vs, q1, q2, q3, q4⟩ := hR
              have q1' : RowV wr w.heap.size 27 u6 (a.length + k) vs := q1.cast rfl HK.out rfl
              clear ho hrl hcr y1 j1
              have HSZ := Lib.hid hbel.size
              go_wp2_with fail
              go_region_held3 (fun w' => w'.cell? ⟨g2, o2 + k, none⟩ = some (.slice (some ⟨gr, or, none⟩) o.length cr)) (first | go_keep | exact (hbA.cell hl1).trans ‹_› | exact (hbB.cell hlw).trans ‹_›) ((first
                | (refine step_appendV elemInt _ (by rfl) _ _ (by rfl) wr.heap.size (.slice (some ⟨wr.heap.size, 0, none⟩) a.length a.length) a.length (ivs (List.replicate a.length 0)) (by rfl) ((own_made wr a.length a.length (Nat.le_refl _) (by unfold maxLen; omega)).drew) (ivs o) gr or o.length cr (by rfl) (ivs_length o) (cells_after HC.out ((hbel.alloc hbel.size _).drew)) (ivs_one o) (by omega) (by simp) ?_; intro gA capA wA hrowA hgrowA hbA)
                | (refine step_pushV elemRow _ (by rfl) _ _ (by rfl) w.heap.size u6 (a.length + k) vs (by rfl) ((q1'.keep ((((Below.refl wr.heap.size wr).alloc (Nat.le_refl _) _).drew).trans hbA)).alloc _) (.slice (some ⟨gA, 0, none⟩) (a.length + o.length) capA) wA.heap.size (by rfl) (cell_new1 _ _ _) (by rfl) (by omega) (Nat.le_trans HSZ.out (Nat.le_trans ((((Below.refl wr.heap.size wr).alloc (Nat.le_refl _) _).drew).trans hbA).size (below_new wA _).size)) ?_; intro gB capB wB hrowB hgrowB hbB)))
              all_goals (
                have hT := (((Below.refl wr.heap.size wr).alloc (Nat.le_refl _) (.cells (madeCells #[.int .i64 0] a.length) 3)).drew).trans hbA
                obtain ⟨gx, hgx, hown⟩ : ∃ gx, wr.heap.size ≤ gx ∧ Own wA gx (.slice (some ⟨gA, 0, none⟩) (a.length + o.length) capA) (List.replicate a.length 0 ++ o) := by
                  obtain ⟨gx, hgx, h⟩ := hrowA.own
                  refine ⟨gx, hgx, ?_⟩
                  unfold Own
                  rw [ivs_append]
                  exact h
                have hs0 := hbel.size
                have HPP := Lib.hid (rowsV_push (w := wA) (w1 := wB) (B := w.heap.size) (hi := wr.heap.size) (q1.keep hT) (q2.keep hT) q3 q4 hown hgx (by omega) hgrowB (hrowB.cast rfl (by rw [HK.out]) rfl))
                have hbF := ((below_trans hbel hT).alloc (below_trans hbel hT).size (.cells #[.slice (some ⟨gA, 0, none⟩) (a.length + o.length) capA] 27)).trans hbB
                clear hrowA hown hrowB hgrowA hgrowB q1 q1' q2 q3 q4 hbA hbB hT hmk
                go_wp2_with fail
                go_roundw
                case rel => exact ⟨k + 1, by omega, by go_num, by rw [HS.out, ← List.append_assoc]; exact HPP.out, hbF⟩
                case measure => simp [intOf]; omega)
            · obtain rfl : k = b.length := by omega
              rw [joinR2_end] at hR
              have hO2 := hR.own2 (Nat.le_refl _)
              go_wp2_with fail
              go_ret2
              exact ⟨_, by rw [HO.out]; rfl, by rw [joinL_t HO.out]; exact hO2, hbel⟩
set_option maxHeartbeats 4000000 in
theorem implJoinCartans (v1 v2 : Value) (a b : List (List Int)) (ha : a.length ≤ 274877906944) (hb : b.length ≤ 274877906944) (w : World) (h1 : II w v1 a) (h2 : II w v2 b) :
    Calls Tryz.prog 67 #[v1, v2] w (RetRowsB w (joinL a b) (joinOk a b)) := by
  obtain ⟨g1, o1, c1, hv1, _, _, hc1⟩ := h1.form
  obtain ⟨g2, o2, c2, hv2, _, _, hc2⟩ := h2.form
  subst hv1 hv2
  have H1 := Lib.hid hc1
  have H2 := Lib.hid hc2
  clear hc1 hc2
  cases hA : isC a with
  | false =>
    have HO := Lib.hid (joinOk_f1 (b := b) hA)
    have HA := Lib.hid hA
    clear hA
    go_enter Tryz.func67, Tryz.ntmps67
    go_wp2_with fail
    refine (implIsCartan _ a (by omega) _ h1).mono ?_
    rw [HA.out]
    rintro e w1 ⟨rfl, hb1⟩
    have hsz := hb1.size
    go_wp2_with fail
    go_ret2
    exact ⟨_, by rw [HO.out]; rfl, by rw [joinL_f HO.out]; exact own2_none hsz, hb1.alloc hsz _⟩
  | true =>
    cases hB : isC b with
    | false =>
      have HO := Lib.hid (joinOk_f2 (a := a) hB)
      have HA := Lib.hid hA
      have HB := Lib.hid hB
      clear hA hB
      go_enter Tryz.func67, Tryz.ntmps67
      go_wp2_with fail
      refine (implIsCartan _ a (by omega) _ h1).mono ?_
      rw [HA.out]
      rintro e w1 ⟨rfl, hb1⟩
      go_wp2_with fail
      refine (implIsCartan _ b (by omega) _ (h2.keep hb1)).mono ?_
      rw [HB.out]
      rintro e w2 ⟨rfl, hb2⟩
      replace hb1 := below_trans hb1 hb2
      have hsz := hb1.size
      go_wp2_with fail
      go_ret2
      exact ⟨_, by rw [HO.out]; rfl, by rw [joinL_f HO.out]; exact own2_none hsz, hb1.alloc hsz _⟩
    | true =>
      by_cases hL : a.length + b.length ≤ 4
      rotate_left
      · have HO := Lib.hid (joinOk_f3 hL)
        have d0 : decide ((4 : Int) < (a.length : Int) + (b.length : Int)) = true := by rw [decide_eq_true_iff]; omega
        have HA := Lib.hid hA
        have HB := Lib.hid hB
        clear hA hB
        go_enter Tryz.func67, Tryz.ntmps67
        go_wp2_with fail
        refine (implIsCartan _ a (by omega) _ h1).mono ?_
        rw [HA.out]
        rintro e w1 ⟨rfl, hb1⟩
        go_wp2_with fail
        refine (implIsCartan _ b (by omega) _ (h2.keep hb1)).mono ?_
        rw [HB.out]
        rintro e w2 ⟨rfl, hb2⟩
        replace hb1 := below_trans hb1 hb2
        have hsz := hb1.size
        go_wp2_with fail
        go_ret2
        exact ⟨_, by rw [HO.out]; rfl, by rw [joinL_f HO.out]; exact own2_none hsz, hb1.alloc hsz _⟩
      have HO := Lib.hid (joinOk_t hA hB hL)
      have d0 : decide ((4 : Int) < (a.length : Int) + (b.length : Int)) = false := by rw [decide_eq_false_iff_not]; omega
      have hb0 : 0 < b.length := by have := ((isC_iff b).1 hB).1; omega
      have HA := Lib.hid hA
      have HB := Lib.hid hB
      clear hA hB
      go_enter Tryz.func67, Tryz.ntmps67
      go_wp2_with fail
      refine (implIsCartan _ a (by omega) _ h1).mono ?_
      rw [HA.out]
      rintro e w1 ⟨rfl, hb1⟩
      go_wp2_with fail
      refine (implIsCartan _ b (by omega) _ (h2.keep hb1)).mono ?_
      rw [HB.out]
      rintro e w2 ⟨rfl, hb2⟩
      replace hb1 := below_trans hb1 hb2
      clear hb2
      have hsz := hb1.size
      go_wp2_with fail
      go_loopw [7, 37] (fun x i wr => ∃ k : Nat, k ≤ a.length ∧ i = .int .i64 k ∧ RowsV wr w.heap.size wr.heap.size x ((joinR1 a b).take k) ∧ Below w.heap.size w wr) (fun _ i _ => a.length - (intOf i).toNat)
      case atStart =>
        obtain ⟨gs, vs, q1, q2, q3, q4⟩ := rowsV_empty w2
        exact ⟨0, by omega, rfl, ⟨gs, vs, q1.mono' hsz, q2, fun g hg => by have := q3 g hg; omega, q4⟩, hb1.alloc hsz _⟩
      case round =>
        clear hb1 hsz
        obtain ⟨k, hk, rfl, hR, hbel⟩ := hrel
        by_cases hlt' : k < a.length
        · obtain ⟨r, y1, j1⟩ := H1.out k hlt'
          have hrl : a[k].length = a.length := isC_sq HA.out k hlt'
          obtain ⟨o, ho⟩ : ∃ o, a[k] = o := ⟨_, rfl⟩
          have HS := Lib.hid (joinR1_snoc a b k o hlt' ho)
          have HK := Lib.hid (joinR1_len a b k hk)
          rw [ho] at j1 hrl
          have hol : o.length ≤ 4 := by omega
          obtain ⟨gr, or, cr, hr, _, _, hcr⟩ := j1.form
          subst hr
          have HC := Lib.hid hcr
          have x1 := cells_keep hbel y1
          have hl1 : g1 < wr.heap.size := World.block_lt_of_cell? wr _ x1
          have hk0 : (0 : Int) ≤ (k : Int) := by omega
          have hk1 : (k : Int) < (a.length : Int) := by omega
          obtain ⟨gs, vs, q1, q2, q3, q4⟩ := hR
          have q1' : RowV wr w.heap.size 27 u7 k vs := q1.cast rfl HK.out rfl
          have jk := j1.keep hbel
          clear ho hrl hcr y1 j1
          have HSZ := Lib.hid hbel.size
          go_wp2_with fail
          refine (slicesClone _ o (by omega) _ (.inr jk)).mono ?_
          rintro e wA ⟨u, rfl, hu, hbA⟩
          obtain ⟨gA, hgA, hown⟩ : ∃ g, wr.heap.size ≤ g ∧ Own wA g u o := by
            rcases hu with ⟨h, _⟩ | h
            · cases h
            · exact h
          clear hu jk
          obtain ⟨capA, hu, _, _⟩ := hown.form
          subst hu
          have HRA := Lib.hid (show RowV wA wr.heap.size 3 (.slice (some ⟨gA, 0, none⟩) o.length capA) o.length (ivs o) from (OwnV.rowV hown hgA).cast rfl (ivs_length o) rfl)
          clear hown
          go_wp2_with (first
            | (at_builtin; refine wpList_appendZ Tryz.underlying27 Tryz.infoInt Tryz.underlying3 _ rfl _ _ rfl wr.heap.size (.slice (some ⟨gA, 0, none⟩) o.length capA) o.length (ivs o) rfl HRA.out .i64 b.length rfl hb0 (by omega) (by omega) hbA.size ?_; intro gB capB wB hrowB hgrowB hbB)
            | (at_builtin; refine wpList_pushV elemRow _ rfl _ _ rfl w.heap.size u7 k vs rfl ((q1'.keep (hbA.trans hbB)).alloc _) (.slice (some ⟨gB, 0, none⟩) (o.length + b.length) capB) wB.heap.size rfl (cell_new1 _ _ _) rfl (by omega) (Nat.le_trans HSZ.out (Nat.le_trans (hbA.trans hbB).size (below_new wB _).size)) ?_; intro gC capC wC hrowC hgrowC hbC))
          have hT := hbA.trans hbB
          obtain ⟨gx, hgx, hown⟩ : ∃ gx, wr.heap.size ≤ gx ∧ Own wB gx (.slice (some ⟨gB, 0, none⟩) (o.length + b.length) capB) (o ++ List.replicate b.length 0) := by
            obtain ⟨gx, hgx, h⟩ := hrowB.own
            refine ⟨gx, hgx, ?_⟩
            unfold Own
            rw [ivs_append]
            have e : ivs (List.replicate b.length 0) = List.replicate b.length (Value.int .i64 0) := by simp [ivs]
            rw [e]; exact h
          have hs0 := hbel.size
          have HPP := Lib.hid (rowsV_push (w := wB) (w1 := wC) (B := w.heap.size) (hi := wr.heap.size) (q1.keep hT) (q2.keep hT) q3 q4 hown hgx (by omega) hgrowC (hrowC.cast rfl (by rw [HK.out]) rfl))
          have hbF := ((below_trans hbel hT).alloc (below_trans hbel hT).size (.cells #[.slice (some ⟨gB, 0, none⟩) (o.length + b.length) capB] 27)).trans hbC
          clear hrowB hown hrowC hgrowB hgrowC q1 q1' q2 q3 q4 hbA hbB hbC hT
          go_roundw
          case rel => exact ⟨k + 1, by omega, by go_num, by rw [HS.out]; exact HPP.out, hbF⟩
          case measure => simp [intOf]; omega
        · obtain rfl : k = a.length := by omega
          rw [joinR1_end] at hR
          go_wp2_with fail
          go_loopw [7, 52] (fun x i wr => ∃ k : Nat, k ≤ b.length ∧ i = .int .i64 k ∧ RowsV wr w.heap.size wr.heap.size x (joinR1 a b ++ (joinR2 a b).take k) ∧ Below w.heap.size w wr) (fun _ i _ => b.length - (intOf i).toNat)
          case atStart => exact ⟨0, by omega, rfl, by simpa using hR, hbel⟩
          case round =>
            clear hR hbel
            obtain ⟨k, hk, rfl, hR, hbel⟩ := hrel
            by_cases hlt' : k < b.length
            · obtain ⟨r, y1, j1⟩ := H2.out k hlt'
              have hrl : b[k].length = b.length := isC_sq HB.out k hlt'
              obtain ⟨o, ho⟩ : ∃ o, b[k] = o := ⟨_, rfl⟩
              have HS := Lib.hid (joinR2_snoc a b k o hlt' ho)
              have HK := Lib.hid (joinR2_len a b k hk)
              rw [ho] at j1 hrl
              have hol : o.length ≤ 4 := by omega
              obtain ⟨gr, or, cr, hr, _, _, hcr⟩ := j1.form
              subst hr
              have HC := Lib.hid hcr
              have x1 := cells_keep hbel y1
              have hl1 : g2 < wr.heap.size := World.block_lt_of_cell? wr _ x1
              have hlw : g2 < w.heap.size := World.block_lt_of_cell? w _ y1
              have hk0 : (0 : Int) ≤ (k : Int) := by omega
              have hk1 : (k : Int) < (b.length : Int) := by omega
              have hmk := run_make2 a.length (a.length + b.length) ((a.length : Int) + (b.length : Int)) (by omega) (Nat.le_add_right _ _) (by omega)
              obtain ⟨gs, vs, q1, q2, q3, q4⟩ := hR
              have q1' : RowV wr w.heap.size 27 u7 (a.length + k) vs := q1.cast rfl HK.out rfl
              clear ho hrl hcr y1 j1
              have HSZ := Lib.hid hbel.size
              have hbn := below_new wr (.cells (madeCells #[.int .i64 0] (a.length + b.length)) 3)
              have hbin := hbel.trans (hbn.mono hbel.size)
              have hm4 : a.length + b.length ≤ maxLen := by unfold maxLen; omega
              go_wp2_with (first
                | (at_builtin; refine wpList_appendV elemInt _ rfl _ _ rfl wr.heap.size (.slice (some ⟨wr.heap.size, 0, none⟩) a.length (a.length + b.length)) a.length (ivs (List.replicate a.length 0)) rfl (own_made wr a.length (a.length + b.length) (Nat.le_add_right _ _) hm4) (ivs o) gr or o.length cr rfl (ivs_length o) (cells_after HC.out hbin) (ivs_one o) (by omega) hbn.size ?_; intro gA capA wA hrowA hgrowA hbA)
                | (at_builtin; refine wpList_pushV elemRow _ rfl _ _ rfl w.heap.size u7 (a.length + k) vs rfl ((q1'.keep (hbn.trans hbA)).alloc _) (.slice (some ⟨gA, 0, none⟩) (a.length + o.length) capA) wA.heap.size rfl (cell_new1 _ _ _) rfl (by omega) (Nat.le_trans HSZ.out (Nat.le_trans (hbn.trans hbA).size (below_new wA _).size)) ?_; intro gB capB wB hrowB hgrowB hbB))
              have hT := hbn.trans hbA
              obtain ⟨gx, hgx, hown⟩ : ∃ gx, wr.heap.size ≤ gx ∧ Own wA gx (.slice (some ⟨gA, 0, none⟩) (a.length + o.length) capA) (List.replicate a.length 0 ++ o) := by
                obtain ⟨gx, hgx, h⟩ := hrowA.own
                refine ⟨gx, hgx, ?_⟩
                unfold Own
                rw [ivs_append]
                exact h
              have hs0 := hbel.size
              have HPP := Lib.hid (rowsV_push (w := wA) (w1 := wB) (B := w.heap.size) (hi := wr.heap.size) (q1.keep hT) (q2.keep hT) q3 q4 hown hgx (by omega) hgrowB (hrowB.cast rfl (by rw [HK.out]) rfl))
              have hbF := ((below_trans hbel hT).alloc (below_trans hbel hT).size (.cells #[.slice (some ⟨gA, 0, none⟩) (a.length + o.length) capA] 27)).trans hbB
              clear hrowA hown hrowB hgrowA hgrowB q1 q1' q2 q3 q4 hbA hbB hT hmk hbn hbin
              go_roundw
              case rel => exact ⟨k + 1, by omega, by go_num, by rw [HS.out, ← List.append_assoc]; exact HPP.out, hbF⟩
              case measure => simp [intOf]; omega
            · obtain rfl : k = b.length := by omega
              rw [joinR2_end] at hR
              have hO2 := hR.own2 (Nat.le_refl _)
              go_wp2_with fail
              go_ret2
              exact ⟨_, by rw [HO.out]; rfl, by rw [joinL_t HO.out]; exact hO2, hbel⟩
end Go.Proofs.YtaikjkcbgniplaaGreatDoor
