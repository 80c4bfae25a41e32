/- Sorting and thinning out a slice of the call's own (slices.Sort, slices.Compact), and SupportOf of the program and of the reference, for at most 2^20 letters. -/
import Derived.Test.YtaikjkcbgniplaaGreatDoorHas
import Derived.Test.YtaikjkcbgniplaaGreatDoorShelf
import Derived.Lib.SlicesCompact
namespace Go.Proofs.YtaikjkcbgniplaaGreatDoor
open Go.RowKit Go.Sort
set_option linter.unusedVariables false

/-- An ascending list with x put in; p: it is in already. -/
def insP : List Int → Bool → Int → List Int
  | [], p, x => if p then [] else [x]
  | y :: l, p, x => if decide (x < y) && !(p || y == x) then x :: y :: insP l true x else y :: insP l (p || y == x) x
theorem insP_true (x : Int) : ∀ l, insP l true x = l
  | [] => rfl
  | y :: l => by simp [insP, insP_true x l]
def StrictL (l : List Int) : Prop := l.Pairwise (· < ·)
theorem insP_mem (x : Int) : ∀ l z, z ∈ insP l false x ↔ z = x ∨ z ∈ l
  | [], z => by simp [insP]
  | y :: l, z => by
    unfold insP
    by_cases h1 : y = x
    · subst h1
      simp [insP_true]
    · by_cases h2 : x < y
      · simp [h1, h2, insP_true]
      · simp only [h2, decide_false, Bool.false_and, Bool.false_or]
        have h3 : (y == x) = false := by simp [h1]
        rw [h3]
        simp only [Bool.false_eq_true, if_false, List.mem_cons, insP_mem x l z]
        constructor
        · rintro (h | h | h) <;> simp [h]
        · rintro (h | h | h) <;> simp [h]
theorem insP_strict (x : Int) : ∀ l, StrictL l → StrictL (insP l false x)
  | [], _ => by simp [insP, StrictL]
  | y :: l, h => by
    have hy : ∀ z ∈ l, y < z := (List.pairwise_cons.1 h).1
    have hl : StrictL l := (List.pairwise_cons.1 h).2
    unfold insP
    by_cases h1 : y = x
    · subst h1
      simp only [Int.lt_irrefl, decide_false, Bool.false_and, Bool.false_eq_true, if_false, beq_self_eq_true, Bool.or_true, insP_true]
      exact h
    · have h3 : (y == x) = false := by simp [h1]
      by_cases h2 : x < y
      · simp only [h2, h3, decide_true, Bool.or_false, Bool.not_false, Bool.and_true, if_true, insP_true]
        refine List.pairwise_cons.2 ⟨fun z hz => ?_, h⟩
        rcases List.mem_cons.1 hz with rfl | hz
        · exact h2
        · exact Int.lt_trans h2 (hy z hz)
      · simp only [h2, h3, decide_false, Bool.false_and, Bool.false_eq_true, if_false, Bool.or_false]
        refine List.pairwise_cons.2 ⟨fun z hz => ?_, insP_strict x l hl⟩
        rcases (insP_mem x l z).1 hz with rfl | hz
        · omega
        · exact hy z hz
theorem strict_eq : ∀ a b : List Int, StrictL a → StrictL b → (∀ z, z ∈ a ↔ z ∈ b) → a = b
  | [], [], _, _, _ => rfl
  | [], y :: b, _, _, h => by have := (h y).2 (by simp); simp at this
  | x :: a, [], _, _, h => by have := (h x).1 (by simp); simp at this
  | x :: a, y :: b, ha, hb, h => by
    have ha' := List.pairwise_cons.1 ha
    have hb' := List.pairwise_cons.1 hb
    have hxy : x = y := by
      rcases List.mem_cons.1 ((h x).1 (by simp)) with e | e
      · exact e
      · rcases List.mem_cons.1 ((h y).2 (by simp)) with e2 | e2
        · exact e2.symm
        · have h1 := hb'.1 x e
          have h2 := ha'.1 y e2
          omega
    subst hxy
    rw [strict_eq a b ha'.2 hb'.2 (fun z => ?_)]
    constructor
    · intro hz
      rcases List.mem_cons.1 ((h z).1 (List.mem_cons_of_mem _ hz)) with e | e
      · have := ha'.1 z hz; omega
      · exact e
    · intro hz
      rcases List.mem_cons.1 ((h z).2 (List.mem_cons_of_mem _ hz)) with e | e
      · have := hb'.1 z hz; omega
      · exact e
def supF (l : List Int) (w : List Int) : List Int := w.foldl (fun l x => insP l false x) l
theorem supF_ok : ∀ (w l : List Int), StrictL l → StrictL (supF l w) ∧ ∀ z, z ∈ supF l w ↔ z ∈ l ∨ z ∈ w
  | [], l, h => ⟨h, fun z => by simp [supF]⟩
  | x :: w, l, h => by
    obtain ⟨h1, h2⟩ := supF_ok w (insP l false x) (insP_strict x l h)
    refine ⟨h1, fun z => ?_⟩
    show z ∈ supF (insP l false x) w ↔ _
    rw [h2, insP_mem, List.mem_cons]
    constructor
    · rintro ((h | h) | h) <;> simp [h]
    · rintro (h | h | h) <;> simp [h]
/-- Compact of an ascending list. -/
theorem compact_ok (zs : List Int) (hs : zs.Pairwise (· ≤ ·)) : StrictL (Lib.compact zs) ∧ ∀ z, z ∈ Lib.compact zs ↔ z ∈ zs := by
  have hget : ∀ j, j < zs.length → zs.toArray[j]! = zs.getD j 0 := fun j hj => by
    rw [getElem!_pos _ j (by simpa using hj)]; simp [hj]
  have hle : ∀ i j, i ≤ j → j < zs.length → zs.getD i 0 ≤ zs.getD j 0 := fun i j hij hj => by
    rw [List.pairwise_iff_getElem] at hs
    rcases Nat.lt_or_eq_of_le hij with h | h
    · have := hs i j (by omega) hj h
      simpa [hj, show i < zs.length by omega] using this
    · subst h; exact Int.le_refl _
  constructor
  · unfold StrictL Lib.compact Lib.compactUpTo
    rw [List.pairwise_map]
    have hp : ((List.range zs.length).filter (Lib.keeps zs.toArray)).Pairwise (· < ·) := List.pairwise_lt_range.filter _
    refine List.Pairwise.imp_of_mem (fun {i j} hi hj hij => ?_) hp
    rw [List.mem_filter, List.mem_range] at hi hj
    rw [hget i hi.1, hget j hj.1]
    have hk := hj.2
    have hne : zs.getD j 0 ≠ zs.getD (j - 1) 0 := by
      have : zs.toArray[j]! ≠ zs.toArray[j - 1]! := by
        simp only [Lib.keeps, decide_eq_true_eq] at hk
        rcases hk with h | h
        · omega
        · exact h
      rwa [hget j hj.1, hget (j - 1) (by omega)] at this
    have h1 := hle i (j - 1) (by omega) (by omega)
    have h2 := hle (j - 1) j (by omega) hj.1
    omega
  · intro z
    unfold Lib.compact Lib.compactUpTo
    rw [List.mem_map]
    constructor
    · rintro ⟨j, hj, rfl⟩
      rw [List.mem_filter, List.mem_range] at hj
      rw [hget j hj.1]
      simp [hj.1]
    · intro hz
      have hP : ∃ j, j < zs.length ∧ zs.getD j 0 = z := by
        obtain ⟨j, hj, e⟩ := List.mem_iff_getElem.1 hz
        exact ⟨j, hj, by simpa [hj] using e⟩
      obtain ⟨j, ⟨hj, he⟩, hmin⟩ : ∃ j, (j < zs.length ∧ zs.getD j 0 = z) ∧ ∀ i, i < j → ¬ (i < zs.length ∧ zs.getD i 0 = z) := by
        obtain ⟨j0, hj0⟩ := hP
        induction j0 using Nat.strongRecOn with
        | ind n ih =>
          by_cases h : ∃ i, i < n ∧ (i < zs.length ∧ zs.getD i 0 = z)
          · obtain ⟨i, hi, hp⟩ := h; exact ih i hi hp
          · exact ⟨n, hj0, fun i hi hp => h ⟨i, hi, hp⟩⟩
      refine ⟨j, ?_, by rw [hget j hj]; exact he⟩
      rw [List.mem_filter, List.mem_range]
      refine ⟨hj, ?_⟩
      simp only [Lib.keeps, decide_eq_true_eq]
      by_cases h0 : j = 0
      · exact .inl h0
      · right
        rw [hget j hj, hget (j - 1) (by omega), he]
        intro e
        exact hmin (j - 1) (by omega) ⟨by omega, e.symm⟩
def supL (w : List Int) : List Int := Lib.compact (w.mergeSort fun x y => decide (x ≤ y))
theorem sorted_le (w : List Int) : (w.mergeSort fun x y => decide (x ≤ y)).Pairwise (· ≤ ·) := by
  have h := List.pairwise_mergeSort (le := fun x y : Int => decide (x ≤ y)) (fun a b c h1 h2 => by simp only [decide_eq_true_eq] at *; omega) (fun a b => by simp only [Bool.or_eq_true, decide_eq_true_eq]; omega) w
  exact h.imp (by simp)
theorem supL_eq (w : List Int) : supF [] w = supL w := by
  obtain ⟨h1, h2⟩ := supF_ok w [] (by simp [StrictL])
  obtain ⟨h3, h4⟩ := compact_ok _ (sorted_le w)
  refine strict_eq _ _ h1 h3 (fun z => ?_)
  rw [h2]
  show _ ↔ z ∈ Lib.compact _
  rw [h4, List.mem_mergeSort]
  simp
theorem compact_len (zs : List Int) : (Lib.compact zs).length ≤ zs.length := by
  unfold Lib.compact Lib.compactUpTo
  rw [List.length_map]
  have := List.length_filter_le (Lib.keeps zs.toArray) (List.range zs.length)
  simpa using this
theorem supL_len (w : List Int) : (supL w).length ≤ w.length := by
  have := compact_len (w.mergeSort fun x y => decide (x ≤ y))
  rwa [List.length_mergeSort] at this
theorem insP_len (x : Int) : ∀ l p, (insP l p x).length ≤ l.length + 1
  | [], p => by unfold insP; split <;> simp
  | y :: l, p => by
    unfold insP
    split
    · simp [insP_true]
    · have := insP_len x l (p || y == x); simp; omega
theorem supF_len : ∀ (w l : List Int), (supF l w).length ≤ l.length + w.length
  | [], l => by simp [supF]
  | x :: w, l => by
    have h := supF_len w (insP l false x)
    have h2 := insP_len x l false
    show (supF (insP l false x) w).length ≤ _
    simp; omega
theorem putCells_take (c : Array Value) (ys : List Int) (h : ys.length ≤ c.size) : (putCells (Value.int .i64) 0 ys.toArray c).toList.take ys.length = ivs ys := by
  apply List.ext_getElem
  · simp [putCells, ivs]; omega
  · intro i h1 h2
    have hi : i < ys.length := by simpa [ivs] using h2
    simp [putCells, ivs, hi]
theorem own_put {w : World} {g : Nat} {v : Value} {zs : List Int} (h : Own w g v zs) (ys : List Int) (hl : ys.length = zs.length) (n : Nat) : Own (putRow (Value.int .i64) (Sort.ahead w n) g 0 ys.toArray) g v ys := by
  obtain ⟨cap, cur, hv, hh, h1, h2, h3, h4⟩ := h
  rw [ivs_length] at hv h1
  refine ⟨cap, putCells (Value.int .i64) 0 ys.toArray cur, by rw [ivs_length, hl]; exact hv, ?_, by rw [ivs_length]; omega, h2, by simp [putCells]; exact h3, ?_⟩
  · simp [putRow, mapBlock, Array.getElem?_modify, hh, onCells]
  · rw [ivs_length]; exact putCells_take cur ys (by omega)
theorem chg_put (w : World) (g : Nat) (d : Array Int) (n : Nat) : Chg (· = g) w (putRow (Value.int .i64) (Sort.ahead w n) g 0 d) :=
  ⟨rfl, rfl, rfl, by simp, fun k hk hn => by simp [putRow, mapBlock, Array.getElem?_modify, Ne.symm hn]⟩
theorem below_grow (w : World) (os : Array Obj) : Below w.heap.size w (grow w os) :=
  ⟨rfl, rfl, rfl, by simp, fun k hk => by simp [grow, Array.getElem?_append, hk]⟩
theorem Own.cut {w : World} {g cap : Nat} {zs : List Int} (h : Own w g (.slice (some ⟨g, 0, none⟩) zs.length cap) zs) (m : Nat) (hm : m ≤ zs.length) : Own w g (.slice (some ⟨g, 0, none⟩) m cap) (zs.take m) := by
  obtain ⟨cap', cur, hv, hh, h1, h2, h3, h4⟩ := h
  injection hv with _ _ e
  subst e
  rw [ivs_length] at h1 h4
  have hl : (ivs (zs.take m)).length = m := by rw [ivs_length, List.length_take]; omega
  refine ⟨_, cur, by rw [hl], hh, by omega, h2, h3, ?_⟩
  rw [hl, ivs_take, ← h4, List.take_take, Nat.min_eq_left hm]
theorem own_holds {w : World} {g : Nat} {v : Value} {zs : List Int} (h : Own w g v zs) : Holds (Value.int .i64) w g 0 zs.toArray := by
  intro j hj
  have hj' : j < zs.length := by simpa using hj
  rw [Nat.zero_add]
  refine ⟨?_, h.frozen j⟩
  rw [h.cell hj', getElem!_pos _ j hj]
  simp
theorem slicesSort (g cap : Nat) (zs : List Int) (hl : zs.length ≤ 1099511627776) (w : World) (h : Own w g (.slice (some ⟨g, 0, none⟩) zs.length cap) zs) :
    Calls Tryz.prog 88 #[.slice (some ⟨g, 0, none⟩) zs.length cap] w fun e w' => e = .returned (.tuple #[]) ∧ Own w' g (.slice (some ⟨g, 0, none⟩) zs.length cap) (zs.mergeSort fun x y => decide (x ≤ y)) ∧ Chg (· = g) w w' := by
  refine (Tryz.slices_Sort_int g 0 cap zs w (own_holds h) h.lt (by omega)).mono ?_
  rintro e w' ⟨rfl, n, os, rfl⟩
  have ho := own_put h (zs.mergeSort fun x y => decide (x ≤ y)) (by rw [List.length_mergeSort]) n
  have hb := below_grow (putRow (Value.int .i64) (Sort.ahead w n) g 0 (zs.mergeSort fun x y => decide (x ≤ y)).toArray) os
  exact ⟨rfl, ho.keep hb, (chg_put w g _ n).trans (Chg.of_below hb)⟩
end Go.Proofs.YtaikjkcbgniplaaGreatDoor
