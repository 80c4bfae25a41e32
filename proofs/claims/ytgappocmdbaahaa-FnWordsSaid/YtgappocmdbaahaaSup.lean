/- Sorting and thinning out a slice of the call's own (slices.Sort, slices.Compact), and SupportOf of the program and of the reference, for at most 2^20 letters. -/
import Derived.Test.YtgappocmdbaahaaHas
import Derived.Test.YtgappocmdbaahaaShelf
import Derived.Lib.SlicesCompact
namespace Go.Proofs.Ytgappocmdbaahaa
open Go.RowKit Go.Sort
set_option linter.unusedVariables false

/-- An ascending list with x put in; p: it is in already. -/
def insP : List Int → Bool → Int → List Int
  | [], p, x => if p then [] else [x]
  | y :: l, p, x => if decide (x < y) && !(p || y == x) then x :: y :: insP l true x else y :: insP l (p || y == x) x
theorem insP_true (x : Int) : ∀ l, insP l true x = l
  | [] => rfl
  | y :: l => by simp [insP, insP_true x l]
def StrictL (l : List Int) : Prop := l.Pairwise (· < ·)
theorem insP_mem (x : Int) : ∀ l z, z ∈ insP l false x ↔ z = x ∨ z ∈ l
  | [], z => by simp [insP]
  | y :: l, z => by
    unfold insP
    by_cases h1 : y = x
    · subst h1
      simp [insP_true]
    · by_cases h2 : x < y
      · simp [h1, h2, insP_true]
      · simp only [h2, decide_false, Bool.false_and, Bool.false_or]
        have h3 : (y == x) = false := by simp [h1]
        rw [h3]
        simp only [Bool.false_eq_true, if_false, List.mem_cons, insP_mem x l z]
        constructor
        · rintro (h | h | h) <;> simp [h]
        · rintro (h | h | h) <;> simp [h]
theorem insP_strict (x : Int) : ∀ l, StrictL l → StrictL (insP l false x)
  | [], _ => by simp [insP, StrictL]
  | y :: l, h => by
    have hy : ∀ z ∈ l, y < z := (List.pairwise_cons.1 h).1
    have hl : StrictL l := (List.pairwise_cons.1 h).2
    unfold insP
    by_cases h1 : y = x
    · subst h1
      simp only [Int.lt_irrefl, decide_false, Bool.false_and, Bool.false_eq_true, if_false, beq_self_eq_true, Bool.or_true, insP_true]
      exact h
    · have h3 : (y == x) = false := by simp [h1]
      by_cases h2 : x < y
      · simp only [h2, h3, decide_true, Bool.or_false, Bool.not_false, Bool.and_true, if_true, insP_true]
        refine List.pairwise_cons.2 ⟨fun z hz => ?_, h⟩
        rcases List.mem_cons.1 hz with rfl | hz
        · exact h2
        · exact Int.lt_trans h2 (hy z hz)
      · simp only [h2, h3, decide_false, Bool.false_and, Bool.false_eq_true, if_false, Bool.or_false]
        refine List.pairwise_cons.2 ⟨fun z hz => ?_, insP_strict x l hl⟩
        rcases (insP_mem x l z).1 hz with rfl | hz
        · omega
        · exact hy z hz
theorem strict_eq : ∀ a b : List Int, StrictL a → StrictL b → (∀ z, z ∈ a ↔ z ∈ b) → a = b
  | [], [], _, _, _ => rfl
  | [], y :: b, _, _, h => by have := (h y).2 (by simp); simp at this
  | x :: a, [], _, _, h => by have := (h x).1 (by simp); simp at this
  | x :: a, y :: b, ha, hb, h => by
    have ha' := List.pairwise_cons.1 ha
    have hb' := List.pairwise_cons.1 hb
    have hxy : x = y := by
      rcases List.mem_cons.1 ((h x).1 (by simp)) with e | e
      · exact e
      · rcases List.mem_cons.1 ((h y).2 (by simp)) with e2 | e2
        · exact e2.symm
        · have h1 := hb'.1 x e
          have h2 := ha'.1 y e2
          omega
    subst hxy
    rw [strict_eq a b ha'.2 hb'.2 (fun z => ?_)]
    constructor
    · intro hz
      rcases List.mem_cons.1 ((h z).1 (List.mem_cons_of_mem _ hz)) with e | e
      · have := ha'.1 z hz; omega
      · exact e
    · intro hz
      rcases List.mem_cons.1 ((h z).2 (List.mem_cons_of_mem _ hz)) with e | e
      · have := hb'.1 z hz; omega
      · exact e
def supF (l : List Int) (w : List Int) : List Int := w.foldl (fun l x => insP l false x) l
theorem supF_ok : ∀ (w l : List Int), StrictL l → StrictL (supF l w) ∧ ∀ z, z ∈ supF l w ↔ z ∈ l ∨ z ∈ w
  | [], l, h => ⟨h, fun z => by simp [supF]⟩
  | x :: w, l, h => by
    obtain ⟨h1, h2⟩ := supF_ok w (insP l false x) (insP_strict x l h)
    refine ⟨h1, fun z => ?_⟩
    show z ∈ supF (insP l false x) w ↔ _
    rw [h2, insP_mem, List.mem_cons]
    constructor
    · rintro ((h | h) | h) <;> simp [h]
    · rintro (h | h | h) <;> simp [h]
/-- Compact of an ascending list. -/
theorem compact_ok (zs : List Int) (hs : zs.Pairwise (· ≤ ·)) : StrictL (Lib.compact zs) ∧ ∀ z, z ∈ Lib.compact zs ↔ z ∈ zs := by
  have hget : ∀ j, j < zs.length → zs.toArray[j]! = zs.getD j 0 := fun j hj => by
    rw [getElem!_pos _ j (by simpa using hj)]; simp [hj]
  have hle : ∀ i j, i ≤ j → j < zs.length → zs.getD i 0 ≤ zs.getD j 0 := fun i j hij hj => by
    rw [List.pairwise_iff_getElem] at hs
    rcases Nat.lt_or_eq_of_le hij with h | h
    · have := hs i j (by omega) hj h
      simpa [hj, show i < zs.length by omega] using this
    · subst h; exact Int.le_refl _
  constructor
  · unfold StrictL Lib.compact Lib.compactUpTo
    rw [List.pairwise_map]
    have hp : ((List.range zs.length).filter (Lib.keeps zs.toArray)).Pairwise (· < ·) := List.pairwise_lt_range.filter _
    refine List.Pairwise.imp_of_mem (fun {i j} hi hj hij => ?_) hp
    rw [List.mem_filter, List.mem_range] at hi hj
    rw [hget i hi.1, hget j hj.1]
    have hk := hj.2
    have hne : zs.getD j 0 ≠ zs.getD (j - 1) 0 := by
      have : zs.toArray[j]! ≠ zs.toArray[j - 1]! := by
        simp only [Lib.keeps, decide_eq_true_eq] at hk
        rcases hk with h | h
        · omega
        · exact h
      rwa [hget j hj.1, hget (j - 1) (by omega)] at this
    have h1 := hle i (j - 1) (by omega) (by omega)
    have h2 := hle (j - 1) j (by omega) hj.1
    omega
  · intro z
    unfold Lib.compact Lib.compactUpTo
    rw [List.mem_map]
    constructor
    · rintro ⟨j, hj, rfl⟩
      rw [List.mem_filter, List.mem_range] at hj
      rw [hget j hj.1]
      simp [hj.1]
    · intro hz
      have hP : ∃ j, j < zs.length ∧ zs.getD j 0 = z := by
        obtain ⟨j, hj, e⟩ := List.mem_iff_getElem.1 hz
        exact ⟨j, hj, by simpa [hj] using e⟩
      obtain ⟨j, ⟨hj, he⟩, hmin⟩ : ∃ j, (j < zs.length ∧ zs.getD j 0 = z) ∧ ∀ i, i < j → ¬ (i < zs.length ∧ zs.getD i 0 = z) := by
        obtain ⟨j0, hj0⟩ := hP
        induction j0 using Nat.strongRecOn with
        | ind n ih =>
          by_cases h : ∃ i, i < n ∧ (i < zs.length ∧ zs.getD i 0 = z)
          · obtain ⟨i, hi, hp⟩ := h; exact ih i hi hp
          · exact ⟨n, hj0, fun i hi hp => h ⟨i, hi, hp⟩⟩
      refine ⟨j, ?_, by rw [hget j hj]; exact he⟩
      rw [List.mem_filter, List.mem_range]
      refine ⟨hj, ?_⟩
      simp only [Lib.keeps, decide_eq_true_eq]
      by_cases h0 : j = 0
      · exact .inl h0
      · right
        rw [hget j hj, hget (j - 1) (by omega), he]
        intro e
        exact hmin (j - 1) (by omega) ⟨by omega, e.symm⟩
def supL (w : List Int) : List Int := Lib.compact (w.mergeSort fun x y => decide (x ≤ y))
theorem sorted_le (w : List Int) : (w.mergeSort fun x y => decide (x ≤ y)).Pairwise (· ≤ ·) := by
  have h := List.pairwise_mergeSort (le := fun x y : Int => decide (x ≤ y)) (fun a b c h1 h2 => by simp only [decide_eq_true_eq] at *; omega) (fun a b => by simp only [Bool.or_eq_true, decide_eq_true_eq]; omega) w
  exact h.imp (by simp)
theorem supL_eq (w : List Int) : supF [] w = supL w := by
  obtain ⟨h1, h2⟩ := supF_ok w [] (by simp [StrictL])
  obtain ⟨h3, h4⟩ := compact_ok _ (sorted_le w)
  refine strict_eq _ _ h1 h3 (fun z => ?_)
  rw [h2]
  show _ ↔ z ∈ Lib.compact _
  rw [h4, List.mem_mergeSort]
  simp
theorem compact_len (zs : List Int) : (Lib.compact zs).length ≤ zs.length := by
  unfold Lib.compact Lib.compactUpTo
  rw [List.length_map]
  have := List.length_filter_le (Lib.keeps zs.toArray) (List.range zs.length)
  simpa using this
theorem supL_len (w : List Int) : (supL w).length ≤ w.length := by
  have := compact_len (w.mergeSort fun x y => decide (x ≤ y))
  rwa [List.length_mergeSort] at this
theorem insP_len (x : Int) : ∀ l p, (insP l p x).length ≤ l.length + 1
  | [], p => by unfold insP; split <;> simp
  | y :: l, p => by
    unfold insP
    split
    · simp [insP_true]
    · have := insP_len x l (p || y == x); simp; omega
theorem supF_len : ∀ (w l : List Int), (supF l w).length ≤ l.length + w.length
  | [], l => by simp [supF]
  | x :: w, l => by
    have h := supF_len w (insP l false x)
    have h2 := insP_len x l false
    show (supF (insP l false x) w).length ≤ _
    simp; omega
theorem putCells_take (c : Array Value) (ys : List Int) (h : ys.length ≤ c.size) : (putCells (Value.int .i64) 0 ys.toArray c).toList.take ys.length = ivs ys := by
  apply List.ext_getElem
  · simp [putCells, ivs]; omega
  · intro i h1 h2
    have hi : i < ys.length := by simpa [ivs] using h2
    simp [putCells, ivs, hi]
theorem own_put {w : World} {g : Nat} {v : Value} {zs : List Int} (h : Own w g v zs) (ys : List Int) (hl : ys.length = zs.length) (n : Nat) : Own (putRow (Value.int .i64) (Sort.ahead w n) g 0 ys.toArray) g v ys := by
  obtain ⟨cap, cur, hv, hh, h1, h2, h3, h4⟩ := h
  rw [ivs_length] at hv h1
  refine ⟨cap, putCells (Value.int .i64) 0 ys.toArray cur, by rw [ivs_length, hl]; exact hv, ?_, by rw [ivs_length]; omega, h2, by simp [putCells]; exact h3, ?_⟩
  · simp [putRow, mapBlock, Array.getElem?_modify, hh, onCells]
  · rw [ivs_length]; exact putCells_take cur ys (by omega)
theorem chg_put (w : World) (g : Nat) (d : Array Int) (n : Nat) : Chg (· = g) w (putRow (Value.int .i64) (Sort.ahead w n) g 0 d) :=
  ⟨rfl, rfl, rfl, by simp, fun k hk hn => by simp [putRow, mapBlock, Array.getElem?_modify, Ne.symm hn]⟩
theorem below_grow (w : World) (os : Array Obj) : Below w.heap.size w (grow w os) :=
  ⟨rfl, rfl, rfl, by simp, fun k hk => by simp [grow, Array.getElem?_append, hk]⟩
theorem Own.cut {w : World} {g cap : Nat} {zs : List Int} (h : Own w g (.slice (some ⟨g, 0, none⟩) zs.length cap) zs) (m : Nat) (hm : m ≤ zs.length) : Own w g (.slice (some ⟨g, 0, none⟩) m cap) (zs.take m) := by
  obtain ⟨cap', cur, hv, hh, h1, h2, h3, h4⟩ := h
  injection hv with _ _ e
  subst e
  rw [ivs_length] at h1 h4
  have hl : (ivs (zs.take m)).length = m := by rw [ivs_length, List.length_take]; omega
  refine ⟨_, cur, by rw [hl], hh, by omega, h2, h3, ?_⟩
  rw [hl, ivs_take, ← h4, List.take_take, Nat.min_eq_left hm]
theorem own_holds {w : World} {g : Nat} {v : Value} {zs : List Int} (h : Own w g v zs) : Holds (Value.int .i64) w g 0 zs.toArray := by
  intro j hj
  have hj' : j < zs.length := by simpa using hj
  rw [Nat.zero_add]
  refine ⟨?_, h.frozen j⟩
  rw [h.cell hj', getElem!_pos _ j hj]
  simp
theorem slicesSort (g cap : Nat) (zs : List Int) (hl : zs.length ≤ 1099511627776) (w : World) (h : Own w g (.slice (some ⟨g, 0, none⟩) zs.length cap) zs) :
    Calls Try.prog 51 #[.slice (some ⟨g, 0, none⟩) zs.length cap] w fun e w' => e = .returned (.tuple #[]) ∧ Own w' g (.slice (some ⟨g, 0, none⟩) zs.length cap) (zs.mergeSort fun x y => decide (x ≤ y)) ∧ Chg (· = g) w w' := by
  refine (Try.slices_Sort_int g 0 cap zs w (own_holds h) h.lt (by omega)).mono ?_
  rintro e w' ⟨rfl, n, os, rfl⟩
  have ho := own_put h (zs.mergeSort fun x y => decide (x ≤ y)) (by rw [List.length_mergeSort]) n
  have hb := below_grow (putRow (Value.int .i64) (Sort.ahead w n) g 0 (zs.mergeSort fun x y => decide (x ≤ y)).toArray) os
  exact ⟨rfl, ho.keep hb, (chg_put w g _ n).trans (Chg.of_below hb)⟩
theorem slicesCompact (g cap : Nat) (zs : List Int) (hl : zs.length ≤ 1099511627776) (w : World) (h : Own w g (.slice (some ⟨g, 0, none⟩) zs.length cap) zs) :
    Calls Try.prog 52 #[.slice (some ⟨g, 0, none⟩) zs.length cap] w fun e w' => e = .returned (.slice (some ⟨g, 0, none⟩) (Lib.compact zs).length cap) ∧ Own w' g (.slice (some ⟨g, 0, none⟩) (Lib.compact zs).length cap) (Lib.compact zs) ∧ Chg (· = g) w w' := by
  have hcap : zs.length ≤ cap := by
    obtain ⟨c, e, h1, _⟩ := h.form
    injection e with _ _ e
    omega
  have hcl := compact_len zs
  refine (Try.slices_Compact_int g 0 cap zs w (own_holds h) (by omega) hcap).mono ?_
  rintro e w' ⟨rfl, q, rfl⟩
  have hyl : (Lib.compact zs ++ List.replicate (zs.length - (Lib.compact zs).length) 0).length = zs.length := by simp; omega
  have ho := own_put h (Lib.compact zs ++ List.replicate (zs.length - (Lib.compact zs).length) 0) hyl q
  obtain ⟨ys, hys⟩ : ∃ ys, Lib.compact zs ++ List.replicate (zs.length - (Lib.compact zs).length) 0 = ys := ⟨_, rfl⟩
  have htk : ys.take (Lib.compact zs).length = Lib.compact zs := by rw [← hys, List.take_left]
  rw [hys] at ho hyl ⊢
  rw [← hyl] at ho
  have hc := ho.cut (Lib.compact zs).length (by omega)
  rw [htk] at hc
  exact ⟨rfl, hc, chg_put w g _ q⟩
set_option maxHeartbeats 1000000 in
theorem implSupportOf (v1 : Value) (u : List Int) (hu : u.length ≤ 1048576) (w : World) (h1 : I w v1 u) : Calls Try.prog 12 #[v1] w (RetInts w (supL u)) := by
  obtain ⟨g, o, cap, hv, _, _, hc⟩ := h1.form
  subst hv
  have HC := Lib.hid hc
  clear hc h1
  have hbn := below_new w (.cells #[] 3)
  go_enter Try.func12, Try.ntmps12
  go_wp2_with (at_builtin; refine wpList_appendV elemInt _ rfl _ _ rfl w.heap.size (.slice (some ⟨w.heap.size, 0, none⟩) 0 0) 0 [] rfl (rowV_empty w _) (ivs u) g o u.length cap rfl (ivs_length u) (cells_after HC.out hbn) (ivs_one u) (by omega) hbn.size ?_; intro gA capA wA hrowA hgrowA hbA)
  have hbA2 := hbn.trans hbA
  obtain ⟨gx, hgx, hown⟩ : ∃ gx, w.heap.size ≤ gx ∧ Own wA gx (.slice (some ⟨gA, 0, none⟩) u.length capA) u := by
    have hr2 : RowV wA w.heap.size 3 (.slice (some ⟨gA, 0, none⟩) u.length capA) u.length (ivs u) := hrowA.cast (by rw [Nat.zero_add]) (Nat.zero_add _) (List.nil_append _)
    exact hr2.own
  obtain ⟨_, e, _, _⟩ := hown.form
  obtain rfl : gx = gA := by injection e with e; injection e with e; injection e with e; exact e.symm
  clear hrowA hgrowA e
  refine (slicesSort gx capA u (by omega) _ hown).mono ?_
  rintro e wB ⟨rfl, hownB, hchB⟩
  obtain ⟨ss, hss⟩ : ∃ ss, (u.mergeSort fun x y => decide (x ≤ y)) = ss := ⟨_, rfl⟩
  have hsl : u.length = ss.length := by rw [← hss, List.length_mergeSort]
  have HF := Lib.hid (show supL u = Lib.compact ss by rw [supL, hss])
  rw [hss] at hownB
  have hown2 : Own wB gx (.slice (some ⟨gx, 0, none⟩) ss.length capA) ss := by rw [← hsl]; exact hownB
  rw [hsl] at hu ⊢
  have hbB := below_chg hbA2 hchB (fun q e => by subst e; exact hgx)
  clear hss hownB hchB hown hsl
  go_wp2_with fail
  refine (slicesCompact gx capA ss (by omega) _ hown2).mono ?_
  rintro e wC ⟨rfl, hownC, hchC⟩
  have hbC := below_chg hbB hchC (fun q e => by subst e; exact hgx)
  go_wp2_with fail
  go_ret
  exact ⟨_, gx, rfl, hgx, by rw [HF.out]; exact hownC, hbC⟩
set_option maxHeartbeats 2000000 in
theorem specPut (v1 : Value) (l : List Int) (x : Int) (hl : l.length ≤ 274877906944) (w : World) (h1 : I w v1 l) : Calls Try.prog 50 #[v1, .int .i64 x] w (RetInts w (insP l false x)) := by
  obtain ⟨g, o, cap, hv, _, _, hc⟩ := h1.form
  subst hv
  have HC := Lib.hid hc
  clear hc h1
  go_enter Try.func50, Try.ntmps50
  go_wp2_with fail
  go_loopw [5, 6, 7] (fun v p i wr => ∃ (k : Nat) (b : Bool) (ys : List Int), k ≤ l.length ∧ i = .int .i64 k ∧ p = .bool b ∧ RowV wr w.heap.size 3 v ys.length (ivs ys) ∧ ys.length ≤ 2 * k ∧ Hid (ys ++ insP (l.drop k) b x = insP l false x) ∧ Below w.heap.size w wr) (fun _ _ i _ => l.length - (intOf i).toNat)
  case atStart => exact ⟨0, false, [], by omega, rfl, rfl, rowV_empty w _, by simp, by simp [Hid], (Below.refl _ _).alloc (Nat.le_refl _) _⟩
  case round =>
    obtain ⟨k, b, ys, hk, rfl, rfl, hrow, hys, HI, hbel⟩ := hrel
    by_cases hlt' : k < l.length
    · have y1 := HC.out k hlt'
      have hd : l.drop k = l[k] :: l.drop (k + 1) := List.drop_eq_getElem_cons hlt'
      obtain ⟨y, hy⟩ : ∃ y, l[k] = y := ⟨_, rfl⟩
      rw [hy] at y1 hd
      rw [hd, insP] at HI
      have x1 := cells_keep hbel y1
      have HY := Lib.hid y1
      have hl1 : g < wr.heap.size := World.block_lt_of_cell? wr _ x1
      have hk0 : (0 : Int) ≤ (k : Int) := by omega
      have hk1 : (k : Int) < (l.length : Int) := by omega
      have hB := hbel.size
      clear hy hd y1
      cases e1 : (y == x) with
      | true =>
        have d2 : decide (x < y) = false := by rw [decide_eq_false_iff_not]; rw [beq_iff_eq] at e1; omega
        have HI2 : Hid ((ys ++ [y]) ++ insP (l.drop (k + 1)) true x = insP l false x) := by
          have := HI.out
          rw [e1, d2] at this
          simpa [Hid] using this
        clear HI
        go_wp2_with (at_builtin; refine wpList_pushV elemInt _ rfl _ _ rfl w.heap.size u5 ys.length _ rfl (hrow.alloc _) (.int .i64 y) wr.heap.size rfl (cell_new1 _ _ _) rfl (by omega) (by simp; omega) ?_; intro gA capA wA hrowA hgrowA hbA)
        go_roundw
        case rel => exact ⟨k + 1, true, ys ++ [y], by omega, by go_num, rfl, hrowA.cast rfl (by simp) (by rw [ivs_append]; rfl), by simp; omega, HI2, (hbel.alloc hbel.size _).trans hbA⟩
        case measure => simp [intOf]; omega
      | false =>
        cases b with
        | true =>
          have HI2 : Hid ((ys ++ [y]) ++ insP (l.drop (k + 1)) true x = insP l false x) := by
            have := HI.out
            simpa [Hid] using this
          clear HI
          cases d2 : decide (x < y) with
          | true =>
            go_wp2_with (at_builtin; refine wpList_pushV elemInt _ rfl _ _ rfl w.heap.size u5 ys.length _ rfl (hrow.alloc _) (.int .i64 y) wr.heap.size rfl (cell_new1 _ _ _) rfl (by omega) (by simp; omega) ?_; intro gA capA wA hrowA hgrowA hbA)
            go_roundw
            case rel => exact ⟨k + 1, true, ys ++ [y], by omega, by go_num, rfl, hrowA.cast rfl (by simp) (by rw [ivs_append]; rfl), by simp; omega, HI2, (hbel.alloc hbel.size _).trans hbA⟩
            case measure => simp [intOf]; omega
          | false =>
            go_wp2_with (at_builtin; refine wpList_pushV elemInt _ rfl _ _ rfl w.heap.size u5 ys.length _ rfl (hrow.alloc _) (.int .i64 y) wr.heap.size rfl (cell_new1 _ _ _) rfl (by omega) (by simp; omega) ?_; intro gA capA wA hrowA hgrowA hbA)
            go_roundw
            case rel => exact ⟨k + 1, true, ys ++ [y], by omega, by go_num, rfl, hrowA.cast rfl (by simp) (by rw [ivs_append]; rfl), by simp; omega, HI2, (hbel.alloc hbel.size _).trans hbA⟩
            case measure => simp [intOf]; omega
        | false =>
          cases d2 : decide (x < y) with
          | true =>
            have HI2 : Hid ((ys ++ [x] ++ [y]) ++ insP (l.drop (k + 1)) true x = insP l false x) := by
              have := HI.out
              rw [e1, d2] at this
              simpa [Hid] using this
            have hbn := below_new wr (.cells #[.int .i64 x] 3)
            clear HI
            go_wp2_with (first
              | (at_builtin; refine wpList_pushV elemInt _ rfl _ _ rfl w.heap.size u5 ys.length _ rfl (hrow.alloc _) (.int .i64 x) wr.heap.size rfl (cell_new1 _ _ _) rfl (by omega) (by simp; omega) ?_; intro gA capA wA hrowA hgrowA hbA; have x2 := cells_keep ((hbel.alloc hbel.size (.cells #[.int .i64 x] 3)).trans hbA) HY.out; have hl2 : g < wA.heap.size := World.block_lt_of_cell? wA _ x2)
              | (at_builtin; refine wpList_pushV elemInt _ rfl _ _ rfl w.heap.size (.slice (some ⟨gA, 0, none⟩) (ys.length + 1) capA) (ys.length + 1) _ rfl (hrowA.alloc _) (.int .i64 y) wA.heap.size rfl (cell_new1 _ _ _) rfl (by omega) (Nat.le_trans ((hbel.alloc hbel.size _).trans hbA).size (below_new wA _).size) ?_; intro gB capB wB hrowB hgrowB hbB))
            have hbF := ((((hbel.alloc hbel.size (.cells #[.int .i64 x] 3)).trans hbA).alloc ((hbel.alloc hbel.size (.cells #[.int .i64 x] 3)).trans hbA).size (.cells #[.int .i64 y] 3))).trans hbB
            go_roundw
            case rel => exact ⟨k + 1, true, ys ++ [x] ++ [y], by omega, by go_num, rfl, hrowB.cast rfl (by simp) (by rw [ivs_append, ivs_append]; rfl), by simp; omega, HI2, hbF⟩
            case measure => simp [intOf]; omega
          | false =>
            have HI2 : Hid ((ys ++ [y]) ++ insP (l.drop (k + 1)) false x = insP l false x) := by
              have := HI.out
              rw [e1, d2] at this
              simpa [Hid] using this
            clear HI
            go_wp2_with (at_builtin; refine wpList_pushV elemInt _ rfl _ _ rfl w.heap.size u5 ys.length _ rfl (hrow.alloc _) (.int .i64 y) wr.heap.size rfl (cell_new1 _ _ _) rfl (by omega) (by simp; omega) ?_; intro gA capA wA hrowA hgrowA hbA)
            go_roundw
            case rel => exact ⟨k + 1, false, ys ++ [y], by omega, by go_num, rfl, hrowA.cast rfl (by simp) (by rw [ivs_append]; rfl), by simp; omega, HI2, (hbel.alloc hbel.size _).trans hbA⟩
            case measure => simp [intOf]; omega
    · obtain rfl : k = l.length := by omega
      have hB := hbel.size
      cases b with
      | true =>
        have HI2 : Hid (ys = insP l false x) := by
          have := HI.out
          simpa [Hid, insP] using this
        obtain ⟨gx, hgx, hown⟩ := hrow.own
        go_wp2_with fail
        go_ret
        exact ⟨_, gx, rfl, hgx, by rw [← HI2.out]; exact hown, hbel⟩
      | false =>
        have HI2 : Hid (ys ++ [x] = insP l false x) := by
          have := HI.out
          simpa [Hid, insP] using this
        go_wp2_with (at_builtin; refine wpList_pushV elemInt _ rfl _ _ rfl w.heap.size u5 ys.length _ rfl (hrow.alloc _) (.int .i64 x) wr.heap.size rfl (cell_new1 _ _ _) rfl (by omega) (by simp; omega) ?_; intro gA capA wA hrowA hgrowA hbA)
        obtain ⟨gx, hgx, hown⟩ := hrowA.own
        have hbF := (hbel.alloc hbel.size (.cells #[.int .i64 x] 3)).trans hbA
        clear hrowA hgrowA
        go_wp2_with fail
        go_ret
        exact ⟨_, gx, rfl, hgx, by rw [← HI2.out]; unfold Own; rw [ivs_append]; exact hown, hbF⟩
set_option maxHeartbeats 1000000 in
theorem specSupportOf (v1 : Value) (u : List Int) (hu : u.length ≤ 1048576) (w : World) (h1 : I w v1 u) : Calls Try.prog 10 #[v1] w (RetInts w (supL u)) := by
  obtain ⟨g, o, cap, hv, _, _, hc⟩ := h1.form
  subst hv
  have HC := Lib.hid hc
  clear hc h1
  have HF := Lib.hid (supL_eq u)
  go_enter Try.func10, Try.ntmps10
  go_wp2_with fail
  go_loopw [3, 4] (fun v i wr => ∃ k : Nat, k ≤ u.length ∧ i = .int .i64 k ∧ Own1 wr w.heap.size wr.heap.size v (supF [] (u.take k)) ∧ Below w.heap.size w wr) (fun _ i _ => u.length - (intOf i).toNat)
  case atStart => exact ⟨0, by omega, rfl, ⟨w.heap.size, Nat.le_refl _, by simp, own_empty w _⟩, (Below.refl _ _).alloc (Nat.le_refl _) _⟩
  case round =>
    obtain ⟨k, hk, rfl, ⟨gx, hgx, _, hown⟩, hbel⟩ := hrel
    by_cases hlt' : k < u.length
    · have y1 := cells_keep hbel (HC.out k hlt')
      obtain ⟨x, hx⟩ : ∃ x, u[k] = x := ⟨_, rfl⟩
      have HS := Lib.hid (show supF [] (u.take (k + 1)) = insP (supF [] (u.take k)) false x by
        rw [List.take_succ_eq_append_getElem hlt', hx, supF, List.foldl_append]; rfl)
      rw [hx] at y1
      have hln := supF_len (u.take k) []
      rw [List.length_take, List.length_nil] at hln
      have hln2 : (supF [] (u.take k)).length ≤ 274877906944 := by omega
      have hk0 : (0 : Int) ≤ (k : Int) := by omega
      have hk1 : (k : Int) < (u.length : Int) := by omega
      clear hx hln
      go_wp2_with fail
      refine (specPut _ _ x hln2 _ hown.read).mono ?_
      rintro e wA ⟨vA, gA, rfl, hgA, hownA, hbA⟩
      rw [← HS.out] at hownA
      have hs := hbel.size
      go_wp2_with fail
      go_roundw
      case rel => exact ⟨k + 1, by omega, by go_num, ⟨gA, by omega, hownA.lt, hownA⟩, below_trans hbel hbA⟩
      case measure => simp [intOf]; omega
    · obtain rfl : k = u.length := by omega
      rw [List.take_length, HF.out] at hown
      go_wp2_with fail
      go_ret
      exact ⟨_, gx, rfl, hgx, hown, hbel⟩
end Go.Proofs.Ytgappocmdbaahaa
