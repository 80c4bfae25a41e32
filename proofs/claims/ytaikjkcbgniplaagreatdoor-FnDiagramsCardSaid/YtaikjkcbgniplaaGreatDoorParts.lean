/- PartsOf of the program and of the reference (and l3Part): what they answer, for at most 2^38 rows. -/
import Derived.Test.YtaikjkcbgniplaaGreatDoorGr
import Derived.Test.YtaikjkcbgniplaaGreatDoorRel
import Derived.Test.YtaikjkcbgniplaaGreatDoorPush
namespace Go.Proofs.YtaikjkcbgniplaaGreatDoor
open Go.RowKit
set_option linter.unusedVariables false

def bvs (l : List Bool) : List Value := l.map Value.bool
theorem bvs_length (l : List Bool) : (bvs l).length = l.length := by simp [bvs]
theorem Tryz.infoBool : (Tryz.prog.info? 4).map (fun i => (i.zero, i.size, i.bytes)) = some (some (.bool false), 1, 1) := by kernel_rfl
theorem seen_cell {w : World} {g : Nat} {v : Value} {l : List Bool} (h : OwnV w 4 g v (bvs l)) (t : Nat) (ht : t < l.length) : w.cell? ⟨g, t, none⟩ = some (.bool (l.getD t false)) := by
  obtain ⟨_, _, _, _, hc, _⟩ := h.form
  exact hc t _ (by simp [bvs, ht])
theorem seen_frozen {w : World} {g : Nat} {v : Value} {l : List Bool} (h : OwnV w 4 g v (bvs l)) (t : Nat) : w.frozen? ⟨g, t, none⟩ = false := by
  obtain ⟨_, _, _, _, _, hf⟩ := h.form
  exact hf t
theorem seen_set {w : World} {g : Nat} {v : Value} {l : List Bool} (h : OwnV w 4 g v (bvs l)) (t : Nat) : OwnV (w.setCell ⟨g, t, none⟩ (.bool true)) 4 g v (bvs (l.set t true)) := by
  have := h.set t (.bool true)
  rwa [bvs, ← List.map_set] at this
theorem seen_made (w : World) (n : Nat) (hm : n ≤ maxLen) : OwnV (w.alloc (.cells (madeCells #[.bool false] n) 4)) 4 w.heap.size (.slice (some ⟨w.heap.size, 0, none⟩) n n) (bvs (List.replicate n false)) :=
  own_of_rowIsV (World.rowIs_made w (.bool false) n 4) (by simp [bvs]) hm (fun i hi => by simp [bvs])
/-- What is done to a block of another kind of cells leaves rows and the table as they are. -/
theorem RowsV.other {w w' : World} {B hi g : Nat} {e : TypeId} {x v : Value} {xs : List Value} {zss : List (List Int)} (h : RowsV w B hi x zss) (ho : OwnV w e g v xs) (h1 : e ≠ 3) (h2 : e ≠ 27) (hb : Chg (· = g) w w') : RowsV w' B hi x zss := by
  obtain ⟨gs, vs, q1, q2, q3, q4⟩ := h
  obtain ⟨G, hG, hO⟩ := q1.own
  have hn : vs.length = zss.length := q2.1
  refine ⟨gs, vs, ?_, q2.chg hb (fun g' hg' e' => ?_), q3, q4⟩
  · have hO2 := hO.chg hb (fun e' => own_ne ho hO h2 e'.symm)
    exact (hO2.rowV hG).cast rfl hn rfl
  · subst e'
    obtain ⟨i, hi, rfl⟩ := List.mem_iff_getElem.1 hg'
    have hv : i < vs.length := by rw [q2.1, ← q2.2.1]; exact hi
    have hz : i < zss.length := by rw [← q2.2.1]; exact hi
    exact own_ne ho (q2.2.2 i _ _ _ (List.getElem?_eq_getElem hi) (List.getElem?_eq_getElem hv) (List.getElem?_eq_getElem hz)) h1 rfl
/-- What is done to a row that is newer leaves the table as it is. -/
theorem RowsV.newer {w w' : World} {B hi g : Nat} {x v : Value} {xs : List Value} {zss : List (List Int)} (h : RowsV w B hi x zss) (ho : OwnV w 3 g v xs) (hg : hi ≤ g) (hb : Chg (· = g) w w') : RowsV w' B hi x zss := by
  obtain ⟨gs, vs, q1, q2, q3, q4⟩ := h
  obtain ⟨G, hG, hO⟩ := q1.own
  have hn : vs.length = zss.length := q2.1
  refine ⟨gs, vs, ?_, q2.chg hb (fun g' hg' e' => by have := q3 g' hg'; omega), q3, q4⟩
  have hO2 := hO.chg hb (fun e' => own_ne ho hO (by decide) e'.symm)
  exact (hO2.rowV hG).cast rfl hn rfl
theorem partsI_len (n : Nat) (nb : Int → List Int) (hnb : ∀ s, ∀ x ∈ nb s, ∃ t : Nat, x = (t : Int) ∧ t < n) : ∀ i, i ≤ n → (partsI n nb i).1.length = n
  | 0, _ => by simp [partsI]
  | i + 1, hi => by
    have ih := partsI_len n nb hnb i (by omega)
    unfold partsI
    simp only
    split
    · exact ih
    · next h =>
      have hc := count_set (partsI n nb i).1 i (by omega) (by simpa using h)
      have hle := List.count_le_length (a := false) (l := (partsI n nb i).1)
      exact (inv_bfs (s := ((partsI n nb i).1.set i true, [(i : Int)])) hnb ⟨by simp [ih], by simp; omega, fun x hx => by simp at hx; exact ⟨i, hx, by omega⟩⟩ 4).len
theorem parts_inv {n : Nat} {l : List Bool} {i : Nat} (hl : l.length = n) (hi : i < n) (h : l.getD i false = false) : Inv n (l.set i true, [(i : Int)]) := by
  have hc := count_set l i (by omega) h
  have hle := List.count_le_length (a := false) (l := l)
  exact ⟨by simp [hl], by simp; omega, fun x hx => by simp at hx; exact ⟨i, hx, hi⟩⟩
theorem partsI_seen {n : Nat} {nb : Int → List Int} {i : Nat} (h : (partsI n nb i).1.getD i false = true) : partsI n nb (i + 1) = partsI n nb i := by
  show (if (partsI n nb i).1.getD i false then _ else _) = _
  rw [if_pos h]
theorem partsI_new {n : Nat} {nb : Int → List Int} {i : Nat} (h : (partsI n nb i).1.getD i false = false) : partsI n nb (i + 1) = ((bfsB nb ((partsI n nb i).1.set i true, [(i : Int)]) 4).1, (partsI n nb i).2 ++ [supF [] (bfsB nb ((partsI n nb i).1.set i true, [(i : Int)]) 4).2]) := by
  show (if (partsI n nb i).1.getD i false then _ else _) = _
  rw [if_neg (by rw [h]; simp)]
theorem partsI_cnt (n : Nat) (nb : Int → List Int) : ∀ i, (partsI n nb i).2.length ≤ i
  | 0 => by simp [partsI]
  | i + 1 => by
    have ih := partsI_cnt n nb i
    unfold partsI
    simp only
    split
    · omega
    · simp; omega
theorem stepB_t {s : St} {t : Nat} (h : s.1.getD t false = true) : stepB s (t : Int) = s := by simp only [stepB, Int.toNat_natCast]; rw [if_pos h]
theorem stepB_f {s : St} {t : Nat} (h : s.1.getD t false = false) : stepB s (t : Int) = (s.1.set t true, s.2 ++ [(t : Int)]) := by simp only [stepB, Int.toNat_natCast]; rw [if_neg (by rw [h]; simp)]
theorem fold_mono : ∀ (l : List Int) (s : St), s.2.length ≤ (l.foldl stepB s).2.length
  | [], s => Nat.le_refl _
  | x :: l, s => by
    have h := fold_mono l (stepB s x)
    have h2 : s.2.length ≤ (stepB s x).2.length := by unfold stepB; split <;> simp
    exact Nat.le_trans h2 h
theorem own_one (w : World) (x : Int) : Own (w.alloc (.cells #[.int .i64 x] 3)) w.heap.size (.slice (some ⟨w.heap.size, 0, none⟩) 1 1) [x] :=
  ⟨1, #[.int .i64 x], rfl, heap_alloc_new w _, by simp [ivs], by unfold maxLen; omega, rfl, rfl⟩
set_option maxRecDepth 100000 in
set_option maxHeartbeats 8000000 in
theorem implPartsOf (v1 : Value) (c : List (List Int)) (hc : c.length ≤ 274877906944) (w : World) (h1 : II w v1 c) :
    Calls Tryz.prog 29 #[v1] w (RetRows w (partsL c)) := by
  obtain ⟨g1, o1, c1, hv1, _, _, _⟩ := h1.form
  subst hv1
  cases hC : isC c with
  | false =>
    have HF := Lib.hid (show partsL c = [] by simp [partsL, hC])
    have HC := Lib.hid hC
    clear hC
    go_enter Tryz.func29, Tryz.ntmps29
    go_wp2_with fail
    refine (implIsCartan _ c (by omega) _ (h1.keep (below_new w _))).mono ?_
    rw [HC.out]
    rintro e w1 ⟨rfl, hb1⟩
    have hR0 := (rowsV_empty w).keep hb1
    have hb0 := below_trans (below_new w _) hb1
    have hs1 := hb1.size
    have hown := hR0.own2 (by simp at hs1; omega)
    go_wp2_with fail
    go_ret
    exact ⟨_, rfl, by rw [HF.out]; exact hown, hb0⟩
  | true =>
    have HF := Lib.hid (show partsL c = (partsI c.length (nbL c) c.length).2 by simp [partsL, hC])
    have hn4 : c.length ≤ 4 := ((isC_iff c).1 hC).2.1
    have HND := Lib.hid (fun i hi => bfs_nodup hC i hi)
    have HC := Lib.hid hC
    clear hC
    obtain ⟨nb, hnb⟩ : ∃ nb, nbL c = nb := ⟨_, rfl⟩
    have HNB := Lib.hid (show ∀ s, nbL c s = nb s by intro s; rw [hnb])
    have HPT := Lib.hid (show ∀ s, ∀ x ∈ nb s, ∃ t : Nat, x = (t : Int) ∧ t < c.length by rw [← hnb]; exact nb_pt c)
    have HNL := Lib.hid (show ∀ s, (nb s).length ≤ 4 by intro s; rw [← hnb]; have := nbT_len c s (colN c s); have := colN_le c s; unfold nbL; omega)
    rw [hnb] at HF HND
    clear hnb
    have hmk := run_make_row' (P := Tryz.prog) 66 4 (.bool false) 1 Tryz.underlying66 Tryz.infoBool rfl .i64 .i64 c.length (by omega) (by omega)
    go_enter Tryz.func29, Tryz.ntmps29
    go_wp2_with fail
    refine (implIsCartan _ c (by omega) _ (h1.keep (below_new w _))).mono ?_
    rw [HC.out]
    rintro e w1 ⟨rfl, hb1⟩
    have hR0 : RowsV w1 w.heap.size w1.heap.size (.slice (some ⟨w.heap.size, 0, none⟩) 0 0) [] := by
      obtain ⟨gs, vs, q1, q2, q3, q4⟩ := (rowsV_empty w).keep hb1
      exact ⟨gs, vs, q1, q2, fun g hg => by have := q3 g hg; have := hb1.size; simp at this; omega, q4⟩
    have hb0 := below_trans (below_new w _) hb1
    have hbn := below_new w1 (.cells (madeCells #[.bool false] c.length) 4)
    have hseen := seen_made w1 c.length (by unfold maxLen; omega)
    obtain ⟨gB, hgB⟩ : ∃ gB, w1.heap.size = gB := ⟨_, rfl⟩
    have hgB2 : w.heap.size ≤ gB := by have := hb0.size; omega
    have hseen' : OwnV (w1.alloc (.cells (madeCells #[.bool false] c.length) 4)) 4 gB (.slice (some ⟨gB, 0, none⟩) c.length c.length) (bvs (List.replicate c.length false)) := by rw [← hgB]; exact hseen
    have HGB := Lib.hid hgB
    go_wp2_with fail
    clear hmk hseen hgB
    go_loopw [3, 20] (fun x i wr => ∃ k : Nat, k ≤ c.length ∧ i = .int .i64 k ∧ RowsV wr w.heap.size wr.heap.size x (partsI c.length nb k).2 ∧ OwnV wr 4 gB (.slice (some ⟨gB, 0, none⟩) c.length c.length) (bvs (partsI c.length nb k).1) ∧ Below w.heap.size w wr) (fun _ i _ => c.length - (intOf i).toNat)
    case atStart =>
      obtain ⟨gs, vs, q1, q2, q3, q4⟩ := hR0.keep hbn
      exact ⟨0, by omega, rfl, ⟨gs, vs, q1, q2, fun g hg => by have := q3 g hg; have := hbn.size; omega, q4⟩, hseen', below_trans hb0 hbn⟩
    case round =>
      clear hR0 hb0 hbn hseen' hb1
      obtain ⟨i, hi, rfl, hR, hS, hbel⟩ := hrel
      by_cases hlt' : i < c.length
      · have hPl := partsI_len c.length nb HPT.out i hi
        have x1 := seen_cell hS i (by omega)
        have f1 := seen_frozen hS i
        have hk0 : (0 : Int) ≤ (i : Int) := by omega
        have hk1 : (i : Int) < (c.length : Int) := by omega
        cases hs : (partsI c.length nb i).1.getD i false with
        | true =>
          have HT := Lib.hid (partsI_seen hs)
          rw [hs] at x1
          clear hs hPl
          go_wp2_with fail
          go_roundw
          case rel => exact ⟨i + 1, by omega, by go_num, by rw [HT.out]; exact hR, by rw [HT.out]; exact hS, hbel⟩
          case measure => simp [intOf]; omega
        | false =>
          have HT := Lib.hid (partsI_new hs)
          have HI0 := Lib.hid (parts_inv hPl hlt' hs)
          have HNDi := Lib.hid (HND.out i hlt')
          rw [hs] at x1
          have hcnt := partsI_cnt c.length nb i
          obtain ⟨s0, hs0⟩ : ∃ s0 : St, ((partsI c.length nb i).1.set i true, [(i : Int)]) = s0 := ⟨_, rfl⟩
          have hS0 := seen_set hS i
          have hch0 := chg_set wr gB i (.bool true)
          have hR0 := hR.other hS (by decide) (by decide) hch0
          have hb0 := below_chg hbel hch0 (fun q e => by subst e; exact hgB2)
          obtain ⟨PI, hPI⟩ : ∃ PI, (partsI c.length nb i).2 = PI := ⟨_, rfl⟩
          have HS1 := Lib.hid (show (partsI c.length nb i).1.set i true = s0.1 ∧ [(i : Int)] = s0.2 from by rw [← hs0]; exact ⟨rfl, rfl⟩)
          rw [hs0] at HT HI0 HNDi
          rw [hPI] at HT hR0 hcnt
          rw [HS1.out.1] at hS0
          clear hs hPl hS hR hs0 hPI hch0
          go_wp2_with fail
          obtain ⟨hi0, hhi0⟩ : ∃ hi0, wr.heap.size = hi0 := ⟨_, rfl⟩
          have hwrs : (wr.setCell ⟨gB, i, none⟩ (.bool true)).heap.size = hi0 := by rw [← hhi0]; simp [World.setCell]
          have hon := own_one (wr.setCell ⟨gB, i, none⟩ (.bool true)) (i : Int)
          have hbn := below_new (wr.setCell ⟨gB, i, none⟩ (.bool true)) (.cells #[.int .i64 (i : Int)] 3)
          rw [hwrs, HS1.out.2] at hon
          have hsz0 : hi0 ≤ ((wr.setCell ⟨gB, i, none⟩ (.bool true)).alloc (.cells #[.int .i64 (i : Int)] 3)).heap.size := by have := hbn.size; omega
          have hS0' := hS0.keep hbn
          have hR0' := hR0.keep hbn
          have hb0' := below_trans hb0 hbn
          have hw0 : w.heap.size ≤ hi0 := by have := hb0.size; omega
          rw [hhi0] at hR0'
          have HON := Lib.hid hon
          clear hS0 hR0 hb0 hbn hwrs hbel hon
          simp only [hhi0]
          have HHI := Lib.hid hhi0
          clear hhi0
          go_loopw [6, 7] (fun v k wr => ∃ k' GP : Nat, k' ≤ 4 ∧ k' ≤ (bfsB nb s0 k').2.length ∧ k = .int .i64 k' ∧ Own wr GP v (bfsB nb s0 k').2 ∧ hi0 ≤ GP ∧ OwnV wr 4 gB (.slice (some ⟨gB, 0, none⟩) c.length c.length) (bvs (bfsB nb s0 k').1) ∧ RowsV wr w.heap.size hi0 u3 PI ∧ hi0 ≤ wr.heap.size ∧ Below w.heap.size w wr) (fun _ k _ => 4 - (intOf k).toNat)
          case atStart => exact ⟨0, hi0, by omega, by omega, rfl, HON.out, Nat.le_refl _, hS0', hR0', hsz0, hb0'⟩
          case round =>
            clear hS0' hR0' hsz0 hb0' HON f1 x1
            obtain ⟨k, GP, hk4, hkl, rfl, hP, hGP, hS, hR, hsz, hbel⟩ := hrel
            have hInv := inv_bfs HPT.out HI0.out k
            have hcn := hInv.cnt
            have HINV := Lib.hid hInv
            have HLEN := Lib.hid hInv.len
            have HPTS := Lib.hid hInv.pts
            have HNX := Lib.hid (fun h => bfs_next (nb := nb) (s := s0) (k := k) h)
            have HEN := Lib.hid (fun h => bfs_end (nb := nb) (s := s0) (k := k) hk4 h)
            obtain ⟨S, hSe⟩ : ∃ S, bfsB nb s0 k = S := ⟨_, rfl⟩
            rw [hSe] at hkl hP hS hcn HLEN HPTS HNX HEN HINV
            clear hSe hInv
            have hp4 : S.2.length ≤ 4 := by omega
            obtain ⟨capP, hvP, hcP, _⟩ := hP.form
            subst hvP
            by_cases hlk : k < S.2.length
            · have y1 := hP.cell hlk
              obtain ⟨t, ht, htn⟩ := HPTS.out S.2[k] (List.getElem_mem hlk)
              have HNX2 := Lib.hid (show bfsB nb s0 (k + 1) = (nb (t : Int)).foldl stepB S by rw [HNX.out hlk, getD_get S.2 k hlk, ht])
              rw [ht] at y1
              have hq0 : (0 : Int) ≤ (k : Int) := by omega
              have hq1 : (k : Int) < (S.2.length : Int) := by omega
              have k1 := h1.keep hbel
              clear ht
              go_wp2_with fail
              refine (implNeighboursOf _ c (t : Int) (by omega) _ k1).mono ?_
              rw [HNB.out (t : Int)]
              rintro e wN ⟨vN, gN, rfl, hgN, hN, hbN⟩
              have HPN := Lib.hid (HPT.out (t : Int))
              have hL4 := HNL.out (t : Int)
              obtain ⟨L, hL⟩ : ∃ L, nb (t : Int) = L := ⟨_, rfl⟩
              rw [hL] at hN HPN HNX2 hL4
              clear hL
              obtain ⟨capN, hvN, _, _⟩ := hN.form
              subst hvN
              have hPlt := hP.lt
              have hP' := hP.keep hbN
              have hS' := hS.keep hbN
              have hR' := hR.keep hbN
              have hbel' := below_trans hbel hbN
              have hsN := hbN.size
              have hsz' : hi0 ≤ wN.heap.size := by omega
              have hGPN : GP < gN := by omega
              clear hP hS hR hbel hbN hsN hsz
              go_wp2_with fail
              go_loopw [6, 45] (fun v j wr => ∃ m GQ : Nat, m ≤ L.length ∧ j = .int .i64 m ∧ Own wr GQ v ((L.take m).foldl stepB S).2 ∧ hi0 ≤ GQ ∧ GQ ≠ gN ∧ OwnV wr 4 gB (.slice (some ⟨gB, 0, none⟩) c.length c.length) (bvs ((L.take m).foldl stepB S).1) ∧ RowsV wr w.heap.size hi0 u3 PI ∧ hi0 ≤ wr.heap.size ∧ Own wr gN (.slice (some ⟨gN, 0, none⟩) L.length capN) L ∧ Below w.heap.size w wr) (fun _ j _ => L.length - (intOf j).toNat)
              case atStart => exact ⟨0, GP, by omega, rfl, hP', hGP, by omega, hS', hR', hsz', hN, hbel'⟩
              case round =>
                clear hP' hS' hR' hsz' hN hbel' hPlt y1 k1
                obtain ⟨m, GQ, hm, rfl, hP, hGQ, hGN, hS, hR, hsz, hN, hbel⟩ := hrel
                by_cases hlm : m < L.length
                · have HFS := Lib.hid (fold_snoc L S m hlm)
                  have y2 := hN.cell hlm
                  obtain ⟨j, hj, hjn⟩ := HPN.out L[m] (List.getElem_mem hlm)
                  have hIn2 := inv_fold (L.take m) S HINV.out (fun x hx => HPN.out x (List.mem_of_mem_take hx))
                  have hc2 := hIn2.cnt
                  have hl2 := hIn2.len
                  rw [hj] at y2 HFS
                  obtain ⟨T, hT⟩ : ∃ T, (L.take m).foldl stepB S = T := ⟨_, rfl⟩
                  rw [hT] at hP hS HFS hc2 hl2
                  have x2 := seen_cell hS j (by omega)
                  have f2 := seen_frozen hS j
                  have hq0 : (0 : Int) ≤ (m : Int) := by omega
                  have hq1 : (m : Int) < (L.length : Int) := by omega
                  have hq2 : (0 : Int) ≤ (j : Int) := by omega
                  have hq3 : (j : Int) < (c.length : Int) := by omega
                  have hT4 : T.2.length ≤ 4 := by omega
                  clear hj hIn2 hT
                  cases hs : T.1.getD j false with
                  | true =>
                    have HST := Lib.hid (stepB_t hs)
                    rw [HST.out] at HFS
                    rw [hs] at x2
                    clear hs hl2 hc2
                    go_wp2_with fail
                    go_roundw
                    case rel => exact ⟨m + 1, GQ, by omega, by go_num, by rw [HFS.out]; exact hP, hGQ, hGN, by rw [HFS.out]; exact hS, hR, hsz, hN, hbel⟩
                    case measure => simp [intOf]; omega
                  | false =>
                    have HST := Lib.hid (stepB_f hs)
                    rw [HST.out] at HFS
                    rw [hs] at x2
                    have hch := chg_set wr gB j (.bool true)
                    have hS2 := seen_set hS j
                    have hP2 : Own (wr.setCell ⟨gB, j, none⟩ (.bool true)) GQ u6 T.2 := hP.chg hch (fun e => own_ne hS hP (by decide) e.symm)
                    have hN2 := hN.chg hch (fun e => own_ne hS hN (by decide) e.symm)
                    have hR2 := hR.other hS (by decide) (by decide) hch
                    have hb2 := below_chg hbel hch (fun q e => by subst e; exact hgB2)
                    have hz2 : (wr.setCell ⟨gB, j, none⟩ (.bool true)).heap.size = wr.heap.size := by simp [World.setCell]
                    have hbn := below_new (wr.setCell ⟨gB, j, none⟩ (.bool true)) (.cells #[.int .i64 (j : Int)] 3)
                    have HP3 := Lib.hid (hP2.keep hbn)
                    have HS3 := Lib.hid (hS2.keep hbn)
                    have HN3 := Lib.hid (hN2.keep hbn)
                    have HR3 := Lib.hid (hR2.keep hbn)
                    have HB3 := Lib.hid (below_trans hb2 hbn)
                    have HZ3 := Lib.hid (show ((wr.setCell ⟨gB, j, none⟩ (.bool true)).alloc (.cells #[.int .i64 (j : Int)] 3)).heap.size = wr.heap.size + 1 by simp [World.setCell])
                    have HC3 := Lib.hid (show ((wr.setCell ⟨gB, j, none⟩ (.bool true)).alloc (.cells #[.int .i64 (j : Int)] 3)).cell? ⟨wr.heap.size, 0, none⟩ = some (.int .i64 (j : Int)) by have := cell_new1 (wr.setCell ⟨gB, j, none⟩ (.bool true)) (.int .i64 (j : Int)) 3; rwa [hz2] at this)
                    have hgNlt := hN.lt
                    clear hs hl2 hc2 hch hS2 hP2 hN2 hR2 hb2 hz2 hbn hP hS hR hN hbel
                    go_wp2_with (at_builtin; refine wpList_pushL elemInt _ rfl _ _ rfl GQ u6 _ rfl HP3.out (.int .i64 (j : Int)) wr.heap.size rfl HC3.out rfl (by rw [ivs_length]; omega) ?_; intro gg cap w5 hown1 hch hor)
                    have HF5 := Lib.hid (show Own w5 gg (.slice (some ⟨gg, 0, none⟩) ((ivs T.2).length + 1) cap) (T.2 ++ [(j : Int)]) ∧ hi0 ≤ gg ∧ gg ≠ gN ∧ OwnV w5 4 gB (.slice (some ⟨gB, 0, none⟩) c.length c.length) (bvs (T.1.set j true)) ∧ RowsV w5 w.heap.size hi0 u3 PI ∧ hi0 ≤ w5.heap.size ∧ Own w5 gN (.slice (some ⟨gN, 0, none⟩) L.length capN) L ∧ Below w.heap.size w w5 from
                      ⟨by unfold Own; rw [ivs_append]; exact hown1, by rcases hor with e | e <;> have := HZ3.out <;> omega, by rcases hor with e | e <;> have := HZ3.out <;> omega,
                        HS3.out.chg hch (fun e => own_ne HS3.out HP3.out (by decide) e), HR3.out.newer HP3.out hGQ hch, by have := hch.size; have := HZ3.out; omega, HN3.out.chg hch (fun e => hGN e.symm), below_chg HB3.out hch (fun q e => by subst e; omega)⟩)
                    clear hown1 hch hor
                    go_wp2_with fail
                    go_roundw
                    case rel =>
                      obtain ⟨f1, f2, f3, f4, f5, f6, f7, f8⟩ := HF5.out
                      exact ⟨m + 1, gg, by omega, by go_num, by rw [HFS.out]; exact f1, f2, f3, by rw [HFS.out]; exact f4, f5, f6, f7, f8⟩
                    case measure => simp [intOf]; omega
                · obtain rfl : m = L.length := by omega
                  have hmono := fold_mono L S
                  rw [List.take_length, ← HNX2.out] at hP hS
                  rw [← HNX2.out] at hmono
                  go_wp2_with fail
                  go_roundw
                  case rel => exact ⟨k + 1, GQ, by omega, by omega, by go_num, hP, hGQ, hS, hR, hsz, hbel⟩
                  case measure => simp [intOf]; omega
            · obtain rfl : k = S.2.length := by omega
              have HE4 := Lib.hid (HEN.out (Nat.le_refl _))
              rw [← HE4.out] at HT HNDi
              have HSO := Lib.hid (sort_nodup S.2 HNDi.out)
              go_wp2_with fail
              refine (slicesSort GP capP S.2 (by omega) _ hP).mono ?_
              rintro e wB ⟨rfl, hPB, hchB⟩
              rw [HSO.out] at hPB
              have hSB := hS.chg hchB (fun e => own_ne hS hP (by decide) e)
              have hRB := hR.newer hP hGP hchB
              have hbB := below_chg hbel hchB (fun q e => by subst e; omega)
              have hszB : hi0 ≤ wB.heap.size := by have := hchB.size; omega
              have hslen := supF_len S.2 []
              rw [List.length_nil] at hslen
              obtain ⟨so, hso⟩ : ∃ so, supF [] S.2 = so := ⟨_, rfl⟩
              have hsol : so.length = S.2.length := by
                obtain ⟨_, e, _, _⟩ := hPB.form
                rw [hso] at e
                injection e with _ e2 _
                exact e2.symm
              rw [hso] at hPB HT
              clear hP hS hR hbel hsz hchB hso hslen
              have HPB := Lib.hid (show Own wB GP (.slice (some ⟨GP, 0, none⟩) S.2.length capP) so from hPB)
              clear hPB
              obtain ⟨gs, vs, q1, q2, q3, q4⟩ := hRB
              have hPl2 := partsI_cnt c.length nb i
              have HSB := Lib.hid hSB
              have HQ1 := Lib.hid q1
              have hB0 := hbB.size
              have HPP := Lib.hid (fun (w2 : World) (x' : Value) hgrow (hrow : RowV w2 w.heap.size 27 x' (PI.length + 1) (vs ++ [_])) => rowsV_push (w1 := w2) (x' := x') q1 q2 q3 q4 HPB.out hGP (by omega) hgrow hrow)
              obtain ⟨GT, hGT, hOT⟩ := q1.own
              have HOT := Lib.hid hOT
              have hbn := below_new wB (.cells #[.slice (some ⟨GP, 0, none⟩) S.2.length capP] 27)
              have HBN := Lib.hid hbn
              clear q1 q2 q3 q4 hOT hbn hSB
              go_wp2_with (at_builtin; refine wpList_pushV elemRow _ rfl _ _ rfl w.heap.size u3 PI.length vs rfl (HQ1.out.alloc _) (.slice (some ⟨GP, 0, none⟩) S.2.length capP) wB.heap.size rfl (cell_new1 _ _ _) rfl (by omega) (by simp; omega) ?_; intro gC capC wC hrowC hgrowC hbC)
              have HF := Lib.hid (HPP.out _ _ hgrowC hrowC)
              have HSC := Lib.hid (show OwnV wC 4 gB (.slice (some ⟨gB, 0, none⟩) c.length c.length) (bvs S.1) from by
                have hg := hgrowC
                rw [HOT.out.block] at hg
                exact (HSB.out.keep HBN.out).chg (chg_grown hg) (fun e => own_ne HSB.out HOT.out (by decide) e))
              have hbF := (hbB.alloc hbB.size (.cells #[.slice (some ⟨GP, 0, none⟩) S.2.length capP] 27)).trans hbC
              clear hrowC hgrowC hbC
              go_wp2_with fail
              go_roundw
              case rel => exact ⟨i + 1, by omega, by go_num, by rw [HT.out]; exact HF.out, by rw [HT.out]; exact HSC.out, hbF⟩
              case measure => simp [intOf]; omega
      · obtain rfl : i = c.length := by omega
        have hO2 := hR.own2 (Nat.le_refl _)
        go_wp2_with fail
        go_ret
        exact ⟨_, rfl, by rw [HF.out]; exact hO2, hbel⟩
def seenL (n : Nat) (l : List Bool) (m : Nat) : List Int := ((List.range m).filter (fun k => l.getD k false)).map (fun k : Nat => (k : Int))
theorem seenL_t {n : Nat} {l : List Bool} {m : Nat} (h : l.getD m false = true) : ivs (seenL n l (m + 1)) = ivs (seenL n l m) ++ [.int .i64 m] ∧ (seenL n l (m + 1)).length = (seenL n l m).length + 1 := by
  have : seenL n l (m + 1) = seenL n l m ++ [(m : Int)] := by
    rw [seenL, seenL, List.range_succ, List.filter_append, List.filter_cons, h]; simp
  rw [this, ivs_append]; exact ⟨rfl, by simp⟩
theorem seenL_f {n : Nat} {l : List Bool} {m : Nat} (h : l.getD m false = false) : seenL n l (m + 1) = seenL n l m := by
  rw [seenL, seenL, List.range_succ, List.filter_append, List.filter_cons, h]; simp
theorem seenL_len (n : Nat) (l : List Bool) (m : Nat) : (seenL n l m).length ≤ m := by
  rw [seenL, List.length_map]
  have := List.length_filter_le (fun k => l.getD k false) (List.range m)
  simpa using this
set_option maxRecDepth 100000 in
set_option maxHeartbeats 8000000 in
theorem specPart (v1 : Value) (c : List (List Int)) (i : Nat) (hC : isC c = true) (hi : i < c.length) (w : World) (h1 : II w v1 c) :
    Calls Tryz.prog 89 #[v1, .int .i64 i] w (RetInts w (partS c.length (nbL c) i)) := by
  obtain ⟨g1, o1, c1, hv1, _, _, _⟩ := h1.form
  subst hv1
  have hn4 : c.length ≤ 4 := ((isC_iff c).1 hC).2.1
  have HC := Lib.hid hC
  clear hC
  obtain ⟨nb, hnb⟩ : ∃ nb, nbL c = nb := ⟨_, rfl⟩
  have HNB := Lib.hid (show ∀ s, nbL c s = nb s by intro s; rw [hnb])
  have HPT := Lib.hid (show ∀ s, ∀ x ∈ nb s, ∃ t : Nat, x = (t : Int) ∧ t < c.length by rw [← hnb]; exact nb_pt c)
  have HNL := Lib.hid (show ∀ s, (nb s).length ≤ 4 by intro s; rw [← hnb]; have := nbT_len c s (colN c s); have := colN_le c s; unfold nbL; omega)
  rw [hnb]
  clear hnb
  have hmk := run_make_row' (P := Tryz.prog) 66 4 (.bool false) 1 Tryz.underlying66 Tryz.infoBool rfl .i64 .i64 c.length (by omega) (by omega)
  have hseen := seen_made w c.length (by unfold maxLen; omega)
  have x1 := seen_cell hseen i (by simpa using hi)
  have f1 := seen_frozen hseen i
  have HI0 := Lib.hid (parts_inv (l := List.replicate c.length false) (by simp) hi (by simp [hi]))
  obtain ⟨s0, hs0⟩ : ∃ s0 : St, ((List.replicate c.length false).set i true, [(i : Int)]) = s0 := ⟨_, rfl⟩
  have HFS := Lib.hid (show partS c.length nb i = seenL c.length (bfsB nb s0 4).1 c.length by rw [← hs0]; rfl)
  have HS1 := Lib.hid (show (List.replicate c.length false).set i true = s0.1 ∧ [(i : Int)] = s0.2 from by rw [← hs0]; exact ⟨rfl, rfl⟩)
  rw [hs0] at HI0
  have hk0 : (0 : Int) ≤ (i : Int) := by omega
  have hk1 : (i : Int) < (c.length : Int) := by omega
  obtain ⟨gB, hgB⟩ : ∃ gB, w.heap.size = gB := ⟨_, rfl⟩
  have hb0 := below_new w (.cells (madeCells #[.bool false] c.length) 4)
  have hS0 := seen_set hseen i
  have hch0 := chg_set (w.alloc (.cells (madeCells #[.bool false] c.length) 4)) w.heap.size i (.bool true)
  have hb1 := below_chg hb0 hch0 (fun q e => by subst e; exact Nat.le_refl _)
  have hon := own_one ((w.alloc (.cells (madeCells #[.bool false] c.length) 4)).setCell ⟨w.heap.size, i, none⟩ (.bool true)) (i : Int)
  have hbn := below_new ((w.alloc (.cells (madeCells #[.bool false] c.length) 4)).setCell ⟨w.heap.size, i, none⟩ (.bool true)) (.cells #[.int .i64 (i : Int)] 3)
  have hsz : ((w.alloc (.cells (madeCells #[.bool false] c.length) 4)).setCell ⟨w.heap.size, i, none⟩ (.bool true)).heap.size = w.heap.size + 1 := by simp [World.setCell]
  rw [hsz, HS1.out.2] at hon
  rw [HS1.out.1] at hS0
  have HSn := Lib.hid (hS0.keep hbn)
  have HBn := Lib.hid (below_trans hb1 hbn)
  have HON := Lib.hid hon
  have hEq : (w.alloc (.cells (madeCells #[.bool false] c.length) 4)).setCell ⟨w.heap.size, i, none⟩ (.bool true) = w.alloc (.cells ((madeCells #[.bool false] c.length).setIfInBounds i (.bool true)) 4) := World.setCell_alloc_at _ _ _ _ _ rfl
  rw [hEq] at HSn HBn HON
  clear hS0 hb0 hb1 hch0 hbn hon hsz hs0 hseen hgB hEq
  go_enter Tryz.func89, Tryz.ntmps89
  go_wp2_with fail
  clear hmk x1 f1
  go_loopw [6, 7] (fun v k wr => ∃ k' GP : Nat, k' ≤ 4 ∧ k' ≤ (bfsB nb s0 k').2.length ∧ k = .int .i64 k' ∧ Own wr GP v (bfsB nb s0 k').2 ∧ w.heap.size ≤ GP ∧ OwnV wr 4 w.heap.size (.slice (some ⟨w.heap.size, 0, none⟩) c.length c.length) (bvs (bfsB nb s0 k').1) ∧ Below w.heap.size w wr) (fun _ k _ => 4 - (intOf k).toNat)
  case atStart => exact ⟨0, w.heap.size + 1, by omega, by omega, rfl, HON.out, by omega, HSn.out, HBn.out⟩
  case round =>
    obtain ⟨k, GP, hk4, hkl, rfl, hP, hGP, hS, hbel⟩ := hrel
    have hInv := inv_bfs HPT.out HI0.out k
    have hcn := hInv.cnt
    have HINV := Lib.hid hInv
    have HPTS := Lib.hid hInv.pts
    have HNX := Lib.hid (fun h => bfs_next (nb := nb) (s := s0) (k := k) h)
    have HEN := Lib.hid (fun h => bfs_end (nb := nb) (s := s0) (k := k) hk4 h)
    obtain ⟨S, hSe⟩ : ∃ S, bfsB nb s0 k = S := ⟨_, rfl⟩
    rw [hSe] at hkl hP hS hcn HPTS HNX HEN HINV
    clear hSe hInv
    have hp4 : S.2.length ≤ 4 := by omega
    obtain ⟨capP, hvP, hcP, _⟩ := hP.form
    subst hvP
    by_cases hlk : k < S.2.length
    · have y1 := hP.cell hlk
      obtain ⟨t, ht, htn⟩ := HPTS.out S.2[k] (List.getElem_mem hlk)
      have HNX2 := Lib.hid (show bfsB nb s0 (k + 1) = (nb (t : Int)).foldl stepB S by rw [HNX.out hlk, getD_get S.2 k hlk, ht])
      rw [ht] at y1
      have hq0 : (0 : Int) ≤ (k : Int) := by omega
      have hq1 : (k : Int) < (S.2.length : Int) := by omega
      have k1 := h1.keep hbel
      clear ht
      go_wp2_with fail
      refine (specNeighboursOf _ c (t : Int) (by omega) _ k1).mono ?_
      rw [HNB.out (t : Int)]
      rintro e wN ⟨vN, gN, rfl, hgN, hN, hbN⟩
      have HPN := Lib.hid (HPT.out (t : Int))
      have hL4 := HNL.out (t : Int)
      obtain ⟨L, hL⟩ : ∃ L, nb (t : Int) = L := ⟨_, rfl⟩
      rw [hL] at hN HPN HNX2 hL4
      clear hL
      obtain ⟨capN, hvN, _, _⟩ := hN.form
      subst hvN
      have hPlt := hP.lt
      have hP' := hP.keep hbN
      have hS' := hS.keep hbN
      have hbel' := below_trans hbel hbN
      have hGPN : GP < gN := by omega
      clear hP hS hbel hbN
      go_wp2_with fail
      go_loopw [6, 9] (fun v j wr => ∃ m GQ : Nat, m ≤ L.length ∧ j = .int .i64 m ∧ Own wr GQ v ((L.take m).foldl stepB S).2 ∧ w.heap.size ≤ GQ ∧ GQ ≠ gN ∧ OwnV wr 4 w.heap.size (.slice (some ⟨w.heap.size, 0, none⟩) c.length c.length) (bvs ((L.take m).foldl stepB S).1) ∧ Own wr gN (.slice (some ⟨gN, 0, none⟩) L.length capN) L ∧ Below w.heap.size w wr) (fun _ j _ => L.length - (intOf j).toNat)
      case atStart => exact ⟨0, GP, by omega, rfl, hP', hGP, by omega, hS', hN, hbel'⟩
      case round =>
        clear hP' hS' hN hbel' hPlt y1 k1
        obtain ⟨m, GQ, hm, rfl, hP, hGQ, hGN, hS, hN, hbel⟩ := hrel
        by_cases hlm : m < L.length
        · have HFS2 := Lib.hid (fold_snoc L S m hlm)
          have y2 := hN.cell hlm
          obtain ⟨j, hj, hjn⟩ := HPN.out L[m] (List.getElem_mem hlm)
          have hIn2 := inv_fold (L.take m) S HINV.out (fun x hx => HPN.out x (List.mem_of_mem_take hx))
          have hc2 := hIn2.cnt
          have hl2 := hIn2.len
          rw [hj] at y2 HFS2
          obtain ⟨T, hT⟩ : ∃ T, (L.take m).foldl stepB S = T := ⟨_, rfl⟩
          rw [hT] at hP hS HFS2 hc2 hl2
          have x2 := seen_cell hS j (by omega)
          have f2 := seen_frozen hS j
          have hq0 : (0 : Int) ≤ (m : Int) := by omega
          have hq1 : (m : Int) < (L.length : Int) := by omega
          have hq2 : (0 : Int) ≤ (j : Int) := by omega
          have hq3 : (j : Int) < (c.length : Int) := by omega
          have hT4 : T.2.length ≤ 4 := by omega
          clear hj hIn2 hT
          cases hs : T.1.getD j false with
          | true =>
            have HST := Lib.hid (stepB_t hs)
            rw [HST.out] at HFS2
            rw [hs] at x2
            clear hs hl2 hc2
            go_wp2_with fail
            go_roundw
            case rel => exact ⟨m + 1, GQ, by omega, by go_num, by rw [HFS2.out]; exact hP, hGQ, hGN, by rw [HFS2.out]; exact hS, hN, hbel⟩
            case measure => simp [intOf]; omega
          | false =>
            have HST := Lib.hid (stepB_f hs)
            rw [HST.out] at HFS2
            rw [hs] at x2
            have hBlt := hS.lt
            have hNlt := hN.lt
            have hch := chg_set wr w.heap.size j (.bool true)
            have hS2 := seen_set hS j
            have hP2 : Own (wr.setCell ⟨w.heap.size, j, none⟩ (.bool true)) GQ u6 T.2 := hP.chg hch (fun e => own_ne hS hP (by decide) e.symm)
            have hN2 := hN.chg hch (fun e => own_ne hS hN (by decide) e.symm)
            have y3 := hN2.cell hlm
            rw [show L[m] = (j : Int) from by have h := hN.cell hlm; rw [y2] at h; injection h with h; injection h with _ h; exact h.symm] at y3
            have hb2 := below_chg hbel hch (fun q e => by subst e; exact Nat.le_refl _)
            have hz2 : (wr.setCell ⟨w.heap.size, j, none⟩ (.bool true)).heap.size = wr.heap.size := by simp [World.setCell]
            have hbn := below_new (wr.setCell ⟨w.heap.size, j, none⟩ (.bool true)) (.cells #[.int .i64 (j : Int)] 3)
            have HP3 := Lib.hid (hP2.keep hbn)
            have HS3 := Lib.hid (hS2.keep hbn)
            have HN3 := Lib.hid (hN2.keep hbn)
            have HB3 := Lib.hid (below_trans hb2 hbn)
            have HZ3 := Lib.hid (show ((wr.setCell ⟨w.heap.size, j, none⟩ (.bool true)).alloc (.cells #[.int .i64 (j : Int)] 3)).heap.size = wr.heap.size + 1 by simp [World.setCell])
            have HC3 := Lib.hid (show ((wr.setCell ⟨w.heap.size, j, none⟩ (.bool true)).alloc (.cells #[.int .i64 (j : Int)] 3)).cell? ⟨wr.heap.size, 0, none⟩ = some (.int .i64 (j : Int)) by have := cell_new1 (wr.setCell ⟨w.heap.size, j, none⟩ (.bool true)) (.int .i64 (j : Int)) 3; rwa [hz2] at this)
            clear hs hl2 hc2 hch hS2 hP2 hN2 hb2 hz2 hbn hP hS hN hbel
            go_wp2_with (at_builtin; refine wpList_pushL elemInt _ rfl _ _ rfl GQ u6 _ rfl HP3.out (.int .i64 (j : Int)) wr.heap.size rfl HC3.out rfl (by rw [ivs_length]; omega) ?_; intro gg cap w5 hown1 hch hor)
            have HF5 := Lib.hid (show Own w5 gg (.slice (some ⟨gg, 0, none⟩) ((ivs T.2).length + 1) cap) (T.2 ++ [(j : Int)]) ∧ w.heap.size ≤ gg ∧ gg ≠ gN ∧ OwnV w5 4 w.heap.size (.slice (some ⟨w.heap.size, 0, none⟩) c.length c.length) (bvs (T.1.set j true)) ∧ Own w5 gN (.slice (some ⟨gN, 0, none⟩) L.length capN) L ∧ Below w.heap.size w w5 from
              ⟨by unfold Own; rw [ivs_append]; exact hown1, by rcases hor with e | e <;> have := HZ3.out <;> omega, by rcases hor with e | e <;> have := HZ3.out <;> omega,
                HS3.out.chg hch (fun e => own_ne HS3.out HP3.out (by decide) e), HN3.out.chg hch (fun e => hGN e.symm), below_chg HB3.out hch (fun q e => by subst e; omega)⟩)
            clear hown1 hch hor
            go_wp2_with fail
            go_roundw
            case rel =>
              obtain ⟨f1, f2, f3, f4, f7, f8⟩ := HF5.out
              exact ⟨m + 1, gg, by omega, by go_num, by rw [HFS2.out]; exact f1, f2, f3, by rw [HFS2.out]; exact f4, f7, f8⟩
            case measure => simp [intOf]; omega
        · obtain rfl : m = L.length := by omega
          have hmono := fold_mono L S
          rw [List.take_length, ← HNX2.out] at hP hS
          rw [← HNX2.out] at hmono
          go_wp2_with fail
          go_roundw
          case rel => exact ⟨k + 1, GQ, by omega, by omega, by go_num, hP, hGQ, hS, hbel⟩
          case measure => simp [intOf]; omega
    · obtain rfl : k = S.2.length := by omega
      have HE4 := Lib.hid (HEN.out (Nat.le_refl _))
      rw [← HE4.out] at HFS
      have hSl := HINV.out.len
      go_wp2_with fail
      go_loopw [10, 11] (fun v k wr => ∃ m : Nat, m ≤ c.length ∧ k = .int .i64 m ∧ RowV wr w.heap.size 3 v (seenL c.length S.1 m).length (ivs (seenL c.length S.1 m)) ∧ Hid (OwnV wr 4 w.heap.size (.slice (some ⟨w.heap.size, 0, none⟩) c.length c.length) (bvs S.1)) ∧ Below w.heap.size w wr) (fun _ k _ => c.length - (intOf k).toNat)
      case atStart =>
        have hbn := below_new wr (.cells #[] 3)
        have hs := hbel.size
        exact ⟨0, by omega, rfl, by
          obtain ⟨g, hg, h⟩ := (rowV_empty wr 3).own
          exact (h.rowV (by omega)).cast rfl rfl rfl, hS.keep hbn, below_trans hbel hbn⟩
      case round =>
        clear hP hS hbel
        obtain ⟨m, hm, rfl, hrow, HS, hbel⟩ := hrel
        have hslen := seenL_len c.length S.1 m
        by_cases hlm : m < c.length
        · have x2 := seen_cell HS.out m (by omega)
          have hq0 : (0 : Int) ≤ (m : Int) := by omega
          have hq1 : (m : Int) < (c.length : Int) := by omega
          have hB := hbel.size
          cases hs : S.1.getD m false with
          | false =>
            have HT := Lib.hid (seenL_f (n := c.length) hs)
            rw [hs] at x2
            clear hs
            go_wp2_with fail
            go_roundw
            case rel => exact ⟨m + 1, by omega, by go_num, by rw [HT.out]; exact hrow, HS, hbel⟩
            case measure => simp [intOf]; omega
          | true =>
            have HT := Lib.hid (seenL_t (n := c.length) hs)
            rw [hs] at x2
            clear hs
            have hbn := below_new wr (.cells #[.int .i64 (m : Int)] 3)
            have HBN := Lib.hid hbn
            obtain ⟨G, hG, hO⟩ := hrow.own
            have HO := Lib.hid hO
            clear hbn hO
            go_wp2_with (at_builtin; refine wpList_pushV elemInt _ rfl _ _ rfl w.heap.size u10 (seenL c.length S.1 m).length _ rfl (hrow.alloc _) (.int .i64 (m : Int)) wr.heap.size rfl (cell_new1 _ _ _) rfl (by omega) (by simp; omega) ?_; intro gC capC wC hrowC hgrowC hbC)
            have HSC := Lib.hid (show Hid (OwnV wC 4 w.heap.size (.slice (some ⟨w.heap.size, 0, none⟩) c.length c.length) (bvs S.1)) from by
              have hg := hgrowC
              rw [HO.out.block] at hg
              exact (HS.out.keep HBN.out).chg (chg_grown hg) (fun e => own_ne HS.out HO.out (by decide) e))
            clear hgrowC
            go_wp2_with fail
            go_roundw
            case rel => exact ⟨m + 1, by omega, by go_num, hrowC.cast rfl HT.out.2.symm HT.out.1.symm, HSC.out, (hbel.alloc hbel.size _).trans hbC⟩
            case measure => simp [intOf]; omega
        · obtain rfl : m = c.length := by omega
          obtain ⟨gx, hgx, hown⟩ := hrow.own
          go_wp2_with fail
          go_ret
          exact ⟨_, gx, rfl, hgx, by rw [HFS.out]; exact hown, hbel⟩
def partNe (n q : Nat) : Bool := (List.range n).all fun i => decide (0 < (partS n (nbQ n q) i).length)
theorem partNe_all : ∀ n : Nat, n < 5 → ∀ q : Nat, q < 64 → partNe n q = true := by decide +kernel
theorem part_ne {c : List (List Int)} (h : isC c = true) (i : Nat) (hi : i < c.length) : 0 < (partS c.length (nbL c) i).length := by
  have h4 := ((isC_iff c).1 h).2.1
  have := partNe_all c.length (by omega) (codeC c) (code_lt c)
  rw [partNe, List.all_eq_true] at this
  have h2 := this i (List.mem_range.2 hi)
  rw [decide_eq_true_iff] at h2
  rw [nb_code h]; exact h2
theorem partsS_in {n : Nat} {nb : Int → List Int} {m : Nat} {P : List Int} (hP : partS n nb m = P) (h0 : 0 < P.length) (h : (P[0] == (m : Int)) = true) : partsS n nb (m + 1) = partsS n nb m ++ [P] := by
  subst hP
  have : ((partS n nb m).getD 0 0 == (m : Int)) = true := by rw [getD_get _ 0 h0]; exact h
  rw [partsS, partsS, List.range_succ, List.filter_append, List.filter_cons, this]; simp
theorem partsS_out {n : Nat} {nb : Int → List Int} {m : Nat} {P : List Int} (hP : partS n nb m = P) (h0 : 0 < P.length) (h : (P[0] == (m : Int)) = false) : partsS n nb (m + 1) = partsS n nb m := by
  subst hP
  have : ((partS n nb m).getD 0 0 == (m : Int)) = false := by rw [getD_get _ 0 h0]; exact h
  rw [partsS, partsS, List.range_succ, List.filter_append, List.filter_cons, this]; simp
theorem partsS_len (n : Nat) (nb : Int → List Int) (m : Nat) : (partsS n nb m).length ≤ m := by
  rw [partsS, List.length_map]
  have := List.length_filter_le (fun i => (partS n nb i).getD 0 0 == (i : Int)) (List.range m)
  simpa using this
theorem partS_len (n : Nat) (nb : Int → List Int) (i : Nat) : (partS n nb i).length ≤ n := seenL_len n _ n
set_option maxHeartbeats 2000000 in
theorem specPartsOf (v1 : Value) (c : List (List Int)) (hc : c.length ≤ 274877906944) (w : World) (h1 : II w v1 c) :
    Calls Tryz.prog 30 #[v1] w (RetRows w (partsL c)) := by
  obtain ⟨g1, o1, c1, hv1, _, _, _⟩ := h1.form
  subst hv1
  cases hC : isC c with
  | false =>
    have HF := Lib.hid (show partsL c = [] by simp [partsL, hC])
    have HC := Lib.hid hC
    clear hC
    go_enter Tryz.func30, Tryz.ntmps30
    go_wp2_with fail
    go_loopw [3, 4] (fun x i wr => i = .int .i64 0 ∧ RowsV wr w.heap.size wr.heap.size x [] ∧ Below w.heap.size w wr) (fun _ _ _ => 0)
    case atStart =>
      obtain ⟨gs, vs, q1, q2, q3, q4⟩ := rowsV_empty w
      exact ⟨rfl, ⟨gs, vs, q1, q2, fun g hg => by have := q3 g hg; omega, q4⟩, (Below.refl _ _).alloc (Nat.le_refl _) _⟩
    case round =>
      obtain ⟨rfl, hR, hbel⟩ := hrel
      have hO2 := hR.own2 (Nat.le_refl _)
      by_cases hlt0 : 0 < c.length
      · have hlt1 : (0 : Int) < (c.length : Int) := by omega
        have hlt2 : decide ((0 : Int) < (c.length : Int)) = true := by rw [decide_eq_true_iff]; exact hlt1
        go_wp2_with fail
        refine (specIsCartan _ c (by omega) _ (h1.keep hbel)).mono ?_
        rw [HC.out]
        rintro e w1 ⟨rfl, hb1⟩
        have hs := hb1.size
        have hs0 := hbel.size
        obtain ⟨G, gs, vs, p1, p2, p3, p4, p5, p6⟩ := hO2.keep hb1
        go_wp2_with fail
        go_ret
        exact ⟨_, rfl, by rw [HF.out]; exact ⟨G, gs, vs, by omega, by omega, fun g hg => by have := p3 g hg; omega, p4, p5, p6⟩, below_trans hbel hb1⟩
      · have hlt1 : decide ((0 : Int) < (c.length : Int)) = false := by rw [decide_eq_false_iff_not]; omega
        have hlt3 : c.length = 0 := by omega
        have H3 := Lib.hid hlt3
        clear hlt3
        go_wp2_with fail
        go_ret
        exact ⟨_, rfl, by rw [HF.out]; exact hO2, hbel⟩
  | true =>
    have HF := Lib.hid (partsL_S hC)
    have hn4 : c.length ≤ 4 := ((isC_iff c).1 hC).2.1
    have HC := Lib.hid hC
    clear hC
    go_enter Tryz.func30, Tryz.ntmps30
    go_wp2_with fail
    go_loopw [3, 4] (fun x i wr => ∃ k : Nat, k ≤ c.length ∧ i = .int .i64 k ∧ RowsV wr w.heap.size wr.heap.size x (partsS c.length (nbL c) k) ∧ Below w.heap.size w wr) (fun _ i _ => c.length - (intOf i).toNat)
    case atStart =>
      obtain ⟨gs, vs, q1, q2, q3, q4⟩ := rowsV_empty w
      exact ⟨0, by omega, rfl, ⟨gs, vs, q1, q2, fun g hg => by have := q3 g hg; omega, q4⟩, (Below.refl _ _).alloc (Nat.le_refl _) _⟩
    case round =>
      obtain ⟨k, hk, rfl, hR, hbel⟩ := hrel
      by_cases hlt' : k < c.length
      · have hPl := partS_len c.length (nbL c) k
        have hPn := part_ne HC.out k hlt'
        have hcnt := partsS_len c.length (nbL c) k
        obtain ⟨P, hP⟩ : ∃ P, partS c.length (nbL c) k = P := ⟨_, rfl⟩
        have HIN := Lib.hid (fun h0 h => partsS_in (m := k) hP h0 h)
        have HOUT := Lib.hid (fun h0 h => partsS_out (m := k) hP h0 h)
        have HP := Lib.hid hP
        rw [hP] at hPl hPn
        obtain ⟨Q, hQ⟩ : ∃ Q, partsS c.length (nbL c) k = Q := ⟨_, rfl⟩
        rw [hQ] at hR hcnt HIN HOUT
        have k1 := h1.keep hbel
        have hq0 : (0 : Int) ≤ (k : Int) := by omega
        clear hP hQ
        go_wp2_with fail
        refine (specIsCartan _ c (by omega) _ k1).mono ?_
        rw [HC.out]
        rintro e w1 ⟨rfl, hb1⟩
        have k2 := k1.keep hb1
        go_wp2_with fail
        refine (specPart _ c k HC.out hlt' _ k2).mono ?_
        rw [HP.out]
        rintro e w2 ⟨v2, g2, rfl, hg2, hown2, hb2⟩
        obtain ⟨cap2, hv2, _, _⟩ := hown2.form
        subst hv2
        have hbT := below_trans hb1 hb2
        have hR2 := hR.keep hbT
        have hbel2 := below_trans hbel hbT
        have hs1 := hb1.size
        have hs2 := hb2.size
        have hs0 := hbel.size
        have y1 := hown2.cell hPn
        obtain ⟨x, hx⟩ : ∃ x, P[0] = x := ⟨_, rfl⟩
        have hq1 : (0 : Int) < (P.length : Int) := by omega
        rw [hx] at y1
        cases e1 : (x == (k : Int)) with
        | false =>
          have HT := Lib.hid (HOUT.out hPn (by rw [hx]; exact e1))
          clear hx hR
          go_wp2_with fail
          go_roundw
          case rel =>
            obtain ⟨gs, vs, q1, q2, q3, q4⟩ := hR2
            exact ⟨k + 1, by omega, by go_num, by rw [HT.out]; exact ⟨gs, vs, q1, q2, fun g hg => by have := q3 g hg; omega, q4⟩, hbel2⟩
          case measure => simp [intOf]; omega
        | true =>
          have HT := Lib.hid (HIN.out hPn (by rw [hx]; exact e1))
          obtain ⟨gs, vs, q1, q2, q3, q4⟩ := hR2
          have HPP := Lib.hid (fun (w3 : World) (x' : Value) hgrow (hrow : RowV w3 w.heap.size 27 x' (Q.length + 1) (vs ++ [_])) => rowsV_push (w1 := w3) (x' := x') q1 q2 q3 q4 hown2 (by omega) (by omega) hgrow hrow)
          have HQ1 := Lib.hid q1
          clear hx hR q1 q2 q3 q4 hown2
          go_wp2_with (at_builtin; refine wpList_pushV elemRow _ rfl _ _ rfl w.heap.size u3 Q.length vs rfl (HQ1.out.alloc _) (.slice (some ⟨g2, 0, none⟩) P.length cap2) w2.heap.size rfl (cell_new1 _ _ _) rfl (by omega) (by simp; omega) ?_; intro gC capC wC hrowC hgrowC hbC)
          have HF3 := Lib.hid (HPP.out _ _ hgrowC hrowC)
          have hbF := (hbel2.alloc hbel2.size (.cells #[.slice (some ⟨g2, 0, none⟩) P.length cap2] 27)).trans hbC
          clear hrowC hgrowC hbC
          go_wp2_with fail
          go_roundw
          case rel => exact ⟨k + 1, by omega, by go_num, by rw [HT.out]; exact HF3.out, hbF⟩
          case measure => simp [intOf]; omega
      · obtain rfl : k = c.length := by omega
        have hO2 := hR.own2 (Nat.le_refl _)
        go_wp2_with fail
        go_ret
        exact ⟨_, rfl, by rw [HF.out]; exact hO2, hbel⟩
theorem parts_total (c : List (List Int)) : total (partsL c) ≤ 32 := by
  cases hC : isC c with
  | false => simp [partsL, hC, total, ints]
  | true =>
    have h4 := ((isC_iff c).1 hC).2.1
    rw [partsL_S hC]
    have h1 := partsS_len c.length (nbL c) c.length
    have h2 : ints (partsS c.length (nbL c) c.length) ≤ (partsS c.length (nbL c) c.length).length * 4 := by
      have : ∀ l : List (List Int), (∀ o ∈ l, o.length ≤ 4) → ints l ≤ l.length * 4 := by
        intro l
        induction l with
        | nil => simp [ints]
        | cons a l ih =>
          intro h
          rw [ints_cons, List.length_cons, Nat.succ_mul]
          have := ih (fun o ho => h o (List.mem_cons_of_mem _ ho))
          have := h a List.mem_cons_self
          omega
      refine this _ (fun o ho => ?_)
      rw [partsS, List.mem_map] at ho
      obtain ⟨i, _, rfl⟩ := ho
      have := partS_len c.length (nbL c) i
      omega
    unfold total; omega
def conB (c : List (List Int)) : Bool := decide ((partsL c).length = 1)
theorem con_len (n : Nat) : ((n : Int) == 1) = decide (n = 1) := by
  cases h : decide (n = 1) with
  | true => rw [decide_eq_true_iff] at h; rw [beq_iff_eq]; omega
  | false => rw [decide_eq_false_iff_not] at h; rw [beq_eq_false_iff_ne]; omega
theorem specIsConnected (v1 : Value) (c : List (List Int)) (hc : c.length ≤ 274877906944) (w : World) (h1 : II w v1 c) :
    Calls Tryz.prog 14 #[v1] w fun e w' => e = .returned (.bool (conB c)) ∧ Below w.heap.size w w' := by
  have HF := Lib.hid (con_len (partsL c).length)
  go_enter Tryz.func14, Tryz.ntmps14
  go_wp2_with fail
  refine (specPartsOf _ c hc _ h1).mono ?_
  rintro e w1 ⟨v, rfl, hO, hb⟩
  obtain ⟨g, o, cap, hv, _, _, _⟩ := hO.read.form
  subst hv
  go_wp2_with fail
  go_ret
  exact ⟨ret_bool HF.out, hb⟩
theorem implIsConnected (v1 : Value) (c : List (List Int)) (hc : c.length ≤ 274877906944) (w : World) (h1 : II w v1 c) :
    Calls Tryz.prog 31 #[v1] w fun e w' => e = .returned (.bool (conB c)) ∧ Below w.heap.size w w' := by
  have HF := Lib.hid (con_len (partsL c).length)
  go_enter Tryz.func31, Tryz.ntmps31
  go_wp2_with fail
  refine (implPartsOf _ c hc _ h1).mono ?_
  rintro e w1 ⟨v, rfl, hO, hb⟩
  obtain ⟨g, o, cap, hv, _, _, _⟩ := hO.read.form
  subst hv
  go_wp2_with fail
  go_ret
  exact ⟨ret_bool HF.out, hb⟩
end Go.Proofs.YtaikjkcbgniplaaGreatDoor
