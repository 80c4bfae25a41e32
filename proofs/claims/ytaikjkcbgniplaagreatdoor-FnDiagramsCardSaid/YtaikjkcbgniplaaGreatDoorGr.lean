/- Diagrams as graphs: parts found by a search, cycles: plain words, and both ways of finding parts agree on all graphs of at most four points. -/
import Derived.Test.YtaikjkcbgniplaaGreatDoorNb
import Derived.Test.YtaikjkcbgniplaaGreatDoorSup
namespace Go.Proofs.YtaikjkcbgniplaaGreatDoor
open Go.RowKit
set_option linter.unusedVariables false

abbrev St := List Bool × List Int
def stepB (s : St) (j : Int) : St := if s.1.getD j.toNat false then s else (s.1.set j.toNat true, s.2 ++ [j])
def roundB (nb : Int → List Int) (s : St) (k : Nat) : St := if k < s.2.length then (nb (s.2.getD k 0)).foldl stepB s else s
def bfsB (nb : Int → List Int) (s : St) : Nat → St
  | 0 => s
  | k + 1 => roundB nb (bfsB nb s k) k
structure Inv (n : Nat) (s : St) : Prop where
  len : s.1.length = n
  cnt : s.2.length + s.1.count false ≤ n
  pts : ∀ x ∈ s.2, ∃ t : Nat, x = (t : Int) ∧ t < n
theorem count_set (l : List Bool) (t : Nat) (ht : t < l.length) (h : l.getD t false = false) : (l.set t true).count false + 1 = l.count false := by
  have hg : l[t] = false := by simpa [ht] using h
  rw [List.count_set ht]
  simp only [hg]
  have : 0 < l.count false := List.count_pos_iff.2 (by rw [← hg]; exact List.getElem_mem ht)
  simp; omega
theorem inv_step {n : Nat} {s : St} (h : Inv n s) (t : Nat) (ht : t < n) : Inv n (stepB s (t : Int)) := by
  unfold stepB
  rw [Int.toNat_natCast]
  split
  · exact h
  · next hf =>
    have hf' : s.1.getD t false = false := by simpa using hf
    have hc := count_set s.1 t (by rw [h.len]; exact ht) hf'
    refine ⟨by simp [h.len], ?_, fun x hx => ?_⟩
    · have := h.cnt; simp; omega
    · rcases List.mem_append.1 hx with hx | hx
      · exact h.pts x hx
      · simp at hx; exact ⟨t, hx, ht⟩
theorem inv_fold {n : Nat} : ∀ (l : List Int) (s : St), Inv n s → (∀ x ∈ l, ∃ t : Nat, x = (t : Int) ∧ t < n) → Inv n (l.foldl stepB s)
  | [], s, h, _ => h
  | x :: l, s, h, hl => by
    obtain ⟨t, rfl, ht⟩ := hl x (by simp)
    exact inv_fold l _ (inv_step h t ht) (fun y hy => hl y (List.mem_cons_of_mem _ hy))
theorem inv_bfs {n : Nat} {nb : Int → List Int} (hnb : ∀ s, ∀ x ∈ nb s, ∃ t : Nat, x = (t : Int) ∧ t < n) {s : St} (h : Inv n s) : ∀ k, Inv n (bfsB nb s k)
  | 0 => h
  | k + 1 => by
    have ih := inv_bfs hnb h k
    unfold bfsB roundB
    split
    · exact inv_fold _ _ ih (hnb _)
    · exact ih
theorem bfs_stop {nb : Int → List Int} {s : St} {k : Nat} (h : (bfsB nb s k).2.length ≤ k) : ∀ d, bfsB nb s (k + d) = bfsB nb s k
  | 0 => rfl
  | d + 1 => by
    have ih := bfs_stop h d
    show roundB nb (bfsB nb s (k + d)) (k + d) = _
    rw [ih, roundB, if_neg (by omega)]
theorem bfs_end {nb : Int → List Int} {s : St} {k : Nat} (hk : k ≤ 4) (h : (bfsB nb s k).2.length ≤ k) : bfsB nb s k = bfsB nb s 4 := by
  have := bfs_stop h (4 - k)
  rw [show k + (4 - k) = 4 by omega] at this
  exact this.symm
theorem bfs_next {nb : Int → List Int} {s : St} {k : Nat} (h : k < (bfsB nb s k).2.length) : bfsB nb s (k + 1) = (nb ((bfsB nb s k).2.getD k 0)).foldl stepB (bfsB nb s k) := by
  show roundB nb (bfsB nb s k) k = _
  rw [roundB, if_pos h]
theorem fold_snoc (l : List Int) (s : St) (m : Nat) (h : m < l.length) : (l.take (m + 1)).foldl stepB s = stepB ((l.take m).foldl stepB s) l[m] := by
  rw [List.take_succ_eq_append_getElem h, List.foldl_append]; rfl
/-- The program's parts, with what it has seen, behind i points. -/
def partsI (n : Nat) (nb : Int → List Int) : Nat → List Bool × List (List Int)
  | 0 => (List.replicate n false, [])
  | i + 1 =>
    let s := partsI n nb i
    if s.1.getD i false then s else
      let r := bfsB nb (s.1.set i true, [(i : Int)]) 4
      (r.1, s.2 ++ [supF [] r.2])
/-- The reference's part of a point. -/
def partS (n : Nat) (nb : Int → List Int) (i : Nat) : List Int := ((List.range n).filter (fun k => (bfsB nb ((List.replicate n false).set i true, [(i : Int)]) 4).1.getD k false)).map (fun k : Nat => (k : Int))
def partsS (n : Nat) (nb : Int → List Int) (m : Nat) : List (List Int) := (((List.range m).filter (fun i => (partS n nb i).getD 0 0 == (i : Int)))).map (partS n nb)

/-! Graphs by numbers. -/
def eIx (i j : Nat) : Nat := if i < j then j * (j - 1) / 2 + i else i * (i - 1) / 2 + j
def adjQ (q i j : Nat) : Bool := (i != j) && (q / 2 ^ eIx i j % 2 == 1)
def nbQ (n q : Nat) (s : Int) : List Int := if isPt n s then ((List.range n).filter (adjQ q s.toNat)).map (fun j : Nat => (j : Int)) else []
theorem parts_same : ∀ n : Nat, n < 5 → ∀ q : Nat, q < 64 → (partsI n (nbQ n q) n).2 = partsS n (nbQ n q) n := by decide +kernel
def b2n (b : Bool) : Nat := if b then 1 else 0
def codeC (c : List (List Int)) : Nat :=
  b2n (ent c 0 1 != 0) + 2 * b2n (ent c 0 2 != 0) + 4 * b2n (ent c 1 2 != 0) + 8 * b2n (ent c 0 3 != 0) + 16 * b2n (ent c 1 3 != 0) + 32 * b2n (ent c 2 3 != 0)
theorem code_lt (c : List (List Int)) : codeC c < 64 := by
  unfold codeC b2n
  split <;> split <;> split <;> split <;> split <;> split <;> omega
theorem code_all : ∀ b0 b1 b2 b3 b4 b5 : Bool, ∀ q, q = b2n b0 + 2 * b2n b1 + 4 * b2n b2 + 8 * b2n b3 + 16 * b2n b4 + 32 * b2n b5 →
    (adjQ q 0 1 = b0 ∧ adjQ q 0 2 = b1 ∧ adjQ q 1 2 = b2 ∧ adjQ q 0 3 = b3 ∧ adjQ q 1 3 = b4 ∧ adjQ q 2 3 = b5) ∧ (adjQ q 1 0 = b0 ∧ adjQ q 2 0 = b1 ∧ adjQ q 2 1 = b2 ∧ adjQ q 3 0 = b3 ∧ adjQ q 3 1 = b4 ∧ adjQ q 3 2 = b5) := by
  rintro b0 b1 b2 b3 b4 b5 q rfl
  revert b0 b1 b2 b3 b4 b5
  decide
theorem sym_zero {c : List (List Int)} (h : isC c = true) (i j : Nat) (hi : i < c.length) (hj : j < c.length) (hne : i ≠ j) : (ent c j i != 0) = (ent c i j != 0) := by
  have := ((isC_iff c).1 h).2.2.2 i hi j hj
  rw [OkE, if_neg hne] at this
  rw [Bool.eq_iff_iff, bne_iff_ne, bne_iff_ne]
  exact not_congr this.2.2.symm
theorem adj_ok {c : List (List Int)} (h : isC c = true) (i j : Nat) (hi : i < c.length) (hj : j < c.length) : adjQ (codeC c) i j = nbP c i j := by
  have h4 := ((isC_iff c).1 h).2.1
  by_cases hne : i = j
  · subst hne; simp [adjQ, nbP]
  have hn : nbP c i j = (ent c i j != 0) := by
    have : ((j : Int) != (i : Int)) = true := by rw [bne_iff_ne]; omega
    simp [nbP, this]
  rw [hn]
  obtain ⟨h1, h2⟩ := code_all (ent c 0 1 != 0) (ent c 0 2 != 0) (ent c 1 2 != 0) (ent c 0 3 != 0) (ent c 1 3 != 0) (ent c 2 3 != 0) (codeC c) rfl
  have hs := fun hlt : j < i => sym_zero h j i hj hi (by omega)
  have hi4 : i < 4 := by omega
  have hj4 : j < 4 := by omega
  match i, j, hi4, hj4 with
  | 0, 0, _, _ => omega
  | 0, 1, _, _ => exact h1.1
  | 0, 2, _, _ => exact h1.2.1
  | 0, 3, _, _ => exact h1.2.2.2.1
  | 1, 0, _, _ => rw [h2.1]; exact (hs (by omega)).symm
  | 1, 1, _, _ => omega
  | 1, 2, _, _ => exact h1.2.2.1
  | 1, 3, _, _ => exact h1.2.2.2.2.1
  | 2, 0, _, _ => rw [h2.2.1]; exact (hs (by omega)).symm
  | 2, 1, _, _ => rw [h2.2.2.1]; exact (hs (by omega)).symm
  | 2, 2, _, _ => omega
  | 2, 3, _, _ => exact h1.2.2.2.2.2
  | 3, 0, _, _ => rw [h2.2.2.2.1]; exact (hs (by omega)).symm
  | 3, 1, _, _ => rw [h2.2.2.2.2.1]; exact (hs (by omega)).symm
  | 3, 2, _, _ => rw [h2.2.2.2.2.2]; exact (hs (by omega)).symm
  | 3, 3, _, _ => omega
theorem nb_code {c : List (List Int)} (h : isC c = true) : nbL c = nbQ c.length (codeC c) := by
  funext s
  unfold nbL nbQ
  cases hp : isPt c.length s with
  | false => rw [colN_g hp]; rfl
  | true =>
    rw [colN_t h hp, if_pos rfl, nbT]
    congr 1
    obtain ⟨t, rfl, ht⟩ := pt_nat hp
    rw [Int.toNat_natCast]
    apply List.filter_congr
    intro j hj
    exact (adj_ok h t j ht (List.mem_range.1 hj)).symm
theorem nb_pt (c : List (List Int)) (s : Int) : ∀ x ∈ nbL c s, ∃ t : Nat, x = (t : Int) ∧ t < c.length := by
  intro x hx
  rw [nbL, nbT, List.mem_map] at hx
  obtain ⟨j, hj, rfl⟩ := hx
  rw [List.mem_filter, List.mem_range] at hj
  have := colN_le c s
  exact ⟨j, rfl, by omega⟩
def partsL (c : List (List Int)) : List (List Int) := if isC c then (partsI c.length (nbL c) c.length).2 else []
theorem partsL_S {c : List (List Int)} (h : isC c = true) : partsL c = partsS c.length (nbL c) c.length := by
  have h4 := ((isC_iff c).1 h).2.1
  rw [partsL, if_pos h, nb_code h]
  exact parts_same _ (by omega) _ (code_lt c)
def nodupOk (n q : Nat) : Bool := (List.range n).all fun i => decide (bfsB (nbQ n q) ((partsI n (nbQ n q) i).1.set i true, [(i : Int)]) 4).2.Nodup
theorem nodup_all : ∀ n : Nat, n < 5 → ∀ q : Nat, q < 64 → nodupOk n q = true := by decide +kernel
theorem bfs_nodup {c : List (List Int)} (h : isC c = true) (i : Nat) (hi : i < c.length) : (bfsB (nbL c) ((partsI c.length (nbL c) i).1.set i true, [(i : Int)]) 4).2.Nodup := by
  have h4 := ((isC_iff c).1 h).2.1
  have := nodup_all c.length (by omega) (codeC c) (code_lt c)
  rw [nodupOk, List.all_eq_true] at this
  have h2 := this i (List.mem_range.2 hi)
  rw [decide_eq_true_iff] at h2
  rw [nb_code h]; exact h2
/-- Sorted, where no number stands twice. -/
theorem sort_nodup (p : List Int) (h : p.Nodup) : (p.mergeSort fun x y => decide (x ≤ y)) = supF [] p := by
  obtain ⟨h1, h2⟩ := supF_ok p [] (by simp [StrictL])
  have hs := sorted_le p
  have hperm : (p.mergeSort fun x y => decide (x ≤ y)).Perm p := List.mergeSort_perm _ _
  have hnd := hperm.nodup_iff.2 h
  refine strict_eq _ _ ?_ h1 (fun z => ?_)
  · unfold StrictL
    rw [List.nodup_iff_pairwise_ne] at hnd
    exact (hs.and hnd).imp (fun h => by omega)
  · rw [h2, List.mem_mergeSort]; simp
end Go.Proofs.YtaikjkcbgniplaaGreatDoor
