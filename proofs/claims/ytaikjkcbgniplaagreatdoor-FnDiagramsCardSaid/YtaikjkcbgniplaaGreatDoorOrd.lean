/- Orders of points: plain words on the lists that the reference makes and on what the program's search finds. -/
import Derived.Test.YtaikjkcbgniplaaGreatDoorRw
namespace Go.Proofs.YtaikjkcbgniplaaGreatDoor
open Go.RowKit
set_option linter.unusedVariables false

def ptsI (n : Nat) : List Int := (List.range n).map (fun i : Nat => (i : Int))
theorem ptsI_succ (n : Nat) : ptsI (n + 1) = ptsI n ++ [(n : Int)] := by simp [ptsI, List.range_succ]
def freeL (n : Nat) (o : List Int) : List Int := (ptsI n).filter (fun x => !o.contains x)
def nxt (n : Nat) (o : List Int) : List (List Int) := (freeL n o).map (fun x => o ++ [x])
def ext (n : Nat) : Nat → List Int → List (List Int)
  | 0, o => [o]
  | d + 1, o => (nxt n o).flatMap (ext n d)
def lvl (n : Nat) : Nat → List (List Int)
  | 0 => [[]]
  | i + 1 => (lvl n i).flatMap (nxt n)
theorem lvl_ext (n : Nat) : ∀ i d, (lvl n i).flatMap (ext n d) = ext n (i + d) []
  | 0, d => by simp [lvl]
  | i + 1, d => by
    have h := lvl_ext n i (d + 1)
    rw [show i + 1 + d = i + (d + 1) by omega, ← h, lvl, List.flatMap_assoc]
    rfl
theorem lvl_all (n : Nat) : lvl n n = ext n n [] := by
  have h := lvl_ext n n 0
  rw [Nat.add_zero] at h
  rw [← h]
  show lvl n n = (lvl n n).flatMap (fun o => [o])
  simp
/-- An order: points of n, each at most once. -/
def OrdP (n : Nat) (o : List Int) : Prop := (∀ x ∈ o, ∃ s : Nat, x = (s : Int) ∧ s < n) ∧ o.Nodup
theorem mem_free {n : Nat} {o : List Int} {x : Int} (h : x ∈ freeL n o) : (∃ s : Nat, x = (s : Int) ∧ s < n) ∧ x ∉ o := by
  rw [freeL, List.mem_filter] at h
  obtain ⟨h1, h2⟩ := h
  rw [ptsI, List.mem_map] at h1
  obtain ⟨s, hs, rfl⟩ := h1
  refine ⟨⟨s, rfl, List.mem_range.1 hs⟩, ?_⟩
  simpa using h2
theorem ordP_nxt {n : Nat} {o p : List Int} (h : OrdP n o) (hp : p ∈ nxt n o) : OrdP n p ∧ p.length = o.length + 1 := by
  rw [nxt, List.mem_map] at hp
  obtain ⟨x, hx, rfl⟩ := hp
  obtain ⟨h1, h2⟩ := mem_free hx
  refine ⟨⟨fun y hy => ?_, ?_⟩, by simp⟩
  · rcases List.mem_append.1 hy with hy | hy
    · exact h.1 y hy
    · simp at hy; subst hy; exact h1
  · refine List.nodup_append.2 ⟨h.2, by simp, fun a ha b hb => ?_⟩
    simp at hb; subst hb
    rintro rfl; exact h2 ha
theorem ordP_ext (n : Nat) : ∀ d (o p : List Int), OrdP n o → p ∈ ext n d o → OrdP n p ∧ p.length = o.length + d
  | 0, o, p, h, hp => by
    simp [ext] at hp; subst hp; exact ⟨h, rfl⟩
  | d + 1, o, p, h, hp => by
    rw [ext, List.mem_flatMap] at hp
    obtain ⟨q, hq, hp⟩ := hp
    obtain ⟨h1, h2⟩ := ordP_nxt h hq
    obtain ⟨h3, h4⟩ := ordP_ext n d q p h1 hp
    exact ⟨h3, by omega⟩
theorem ordP_nil (n : Nat) : OrdP n [] := ⟨by simp, by simp⟩
theorem ordP_lvl {n i : Nat} {o : List Int} (h : o ∈ lvl n i) : OrdP n o ∧ o.length = i := by
  have h2 := lvl_ext n i 0
  have h3 : (lvl n i).flatMap (ext n 0) = lvl n i := by show (lvl n i).flatMap (fun o => [o]) = _; simp
  rw [h3] at h2
  rw [h2] at h
  obtain ⟨h4, h5⟩ := ordP_ext n (i + 0) [] o (ordP_nil n) h
  exact ⟨h4, by simpa using h5⟩
/-- The order o makes b out of a, as far as it goes. -/
def fitAt (a b : List (List Int)) (o : List Int) (i j : Nat) : Bool := ent a (o.getD i 0).toNat (o.getD j 0).toNat == ent b i j
def ordOk (a b : List (List Int)) (o : List Int) : Bool := (List.range o.length).all fun i => (List.range o.length).all fun j => fitAt a b o i j
theorem ordOk_iff (a b : List (List Int)) (o : List Int) : ordOk a b o = true ↔ ∀ i, i < o.length → ∀ j, j < o.length → fitAt a b o i j = true := by
  simp [ordOk]
theorem fitAt_app (a b : List (List Int)) (o p : List Int) (i j : Nat) (hi : i < o.length) (hj : j < o.length) : fitAt a b (o ++ p) i j = fitAt a b o i j := by
  unfold fitAt
  have h1 : (o ++ p).getD i 0 = o.getD i 0 := by simp [List.getD, List.getElem?_append_left hi]
  have h2 : (o ++ p).getD j 0 = o.getD j 0 := by simp [List.getD, List.getElem?_append_left hj]
  rw [h1, h2]
theorem ordOk_pre {a b : List (List Int)} {o p : List Int} (h : ordOk a b (o ++ p) = true) : ordOk a b o = true := by
  rw [ordOk_iff] at h ⊢
  intro i hi j hj
  rw [← fitAt_app a b o p i j hi hj]
  exact h i (by rw [List.length_append]; omega) j (by rw [List.length_append]; omega)
theorem ordOk_ext (a b : List (List Int)) (n : Nat) : ∀ d (o p : List Int), p ∈ ext n d o → ordOk a b p = true → ordOk a b o = true
  | 0, o, p, hp, h => by simp [ext] at hp; subst hp; exact h
  | d + 1, o, p, hp, h => by
    rw [ext, List.mem_flatMap] at hp
    obtain ⟨q, hq, hp⟩ := hp
    have h1 := ordOk_ext a b n d q p hp h
    rw [nxt, List.mem_map] at hq
    obtain ⟨x, _, rfl⟩ := hq
    exact ordOk_pre h1
/-- What the search finds behind o. -/
def found (a b : List (List Int)) (n d : Nat) (o : List Int) : List (List Int) := (ext n d o).filter (ordOk a b)
theorem found_none {a b : List (List Int)} {n d : Nat} {o : List Int} (h : ordOk a b o = false) : found a b n d o = [] := by
  rw [found, List.filter_eq_nil_iff]
  intro p hp h2
  rw [ordOk_ext a b n d o p hp h2] at h
  cases h
theorem found_zero {a b : List (List Int)} {n : Nat} {o : List Int} (h : ordOk a b o = true) : found a b n 0 o = [o] := by simp [found, ext, h]
/-- .. through the first m points. -/
def foundT (a b : List (List Int)) (n d : Nat) (o : List Int) (m : Nat) : List (List Int) := (((ptsI m).filter (fun x => !o.contains x)).flatMap (fun x => found a b n d (o ++ [x])))
theorem foundT_all (a b : List (List Int)) (n d : Nat) (o : List Int) : foundT a b n d o n = found a b n (d + 1) o := by
  rw [foundT, found, ext, nxt, List.flatMap_map, List.filter_flatMap]
  rfl
theorem foundT_skip (a b : List (List Int)) (n d : Nat) (o : List Int) (m : Nat) (h : o.contains (m : Int) = true) : foundT a b n d o (m + 1) = foundT a b n d o m := by
  rw [foundT, foundT, ptsI_succ, List.filter_append]; simp at h; simp [h]
theorem foundT_add (a b : List (List Int)) (n d : Nat) (o : List Int) (m : Nat) (h : o.contains (m : Int) = false) : foundT a b n d o (m + 1) = foundT a b n d o m ++ found a b n d (o ++ [(m : Int)]) := by
  rw [foundT, foundT, ptsI_succ, List.filter_append]; simp at h; simp [h]
theorem foundT_none (a b : List (List Int)) (n d : Nat) (o : List Int) (m : Nat) (h : o.contains (m : Int) = false) (h2 : ordOk a b (o ++ [(m : Int)]) = false) : foundT a b n d o (m + 1) = foundT a b n d o m := by
  rw [foundT_add a b n d o m h, found_none h2, List.append_nil]
theorem foundT_mono (a b : List (List Int)) (n d : Nat) (o : List Int) (m : Nat) : ∃ r, foundT a b n d o (m + 1) = foundT a b n d o m ++ r := by
  cases h : o.contains (m : Int) with
  | true => exact ⟨[], by rw [foundT_skip a b n d o m h, List.append_nil]⟩
  | false => exact ⟨_, foundT_add a b n d o m h⟩
theorem foundT_pre (a b : List (List Int)) (n d : Nat) (o : List Int) (m : Nat) : ∀ k, ∃ r, foundT a b n d o (m + k) = foundT a b n d o m ++ r
  | 0 => ⟨[], by simp⟩
  | k + 1 => by
    obtain ⟨r, hr⟩ := foundT_pre a b n d o m k
    obtain ⟨s, hs⟩ := foundT_mono a b n d o (m + k)
    exact ⟨r ++ s, by rw [← Nat.add_assoc, hs, hr, List.append_assoc]⟩
/-- The search breaks off at m: what it has is all that it wants. -/
theorem found_break {a b : List (List Int)} {n d : Nat} {o : List Int} {m most : Nat} (hm : m ≤ n) (h : most ≤ (foundT a b n d o m).length) : (found a b n (d + 1) o).take most = (foundT a b n d o m).take most := by
  obtain ⟨r, hr⟩ := foundT_pre a b n d o m (n - m)
  rw [show m + (n - m) = n by omega] at hr
  rw [← foundT_all, hr, List.take_append_of_le_length h]
theorem found_more {a b : List (List Int)} {n d : Nat} {o : List Int} {m most : Nat} (h1 : o.contains (m : Int) = false) (h : (foundT a b n d o m).length < most) :
    (foundT a b n d o (m + 1)).take most = foundT a b n d o m ++ (found a b n d (o ++ [(m : Int)])).take (most - (foundT a b n d o m).length) := by
  rw [foundT_add a b n d o m h1, List.take_append, List.take_of_length_le (by omega)]
/-- One more point: what is to be tried. -/
theorem ordOk_snoc {a b : List (List Int)} {o : List Int} {m : Nat} (h : ordOk a b o = true) (hd : ent a m m = ent b o.length o.length) :
    ordOk a b (o ++ [(m : Int)]) = true ↔ ∀ j, j < o.length → (ent a m (o.getD j 0).toNat = ent b o.length j ∧ ent a (o.getD j 0).toNat m = ent b j o.length) := by
  have hl : (o ++ [(m : Int)]).getD o.length 0 = (m : Int) := by simp
  have hg : ∀ j, j < o.length → (o ++ [(m : Int)]).getD j 0 = o.getD j 0 := fun j hj => by simp [List.getD, List.getElem?_append_left hj]
  rw [ordOk_iff]
  constructor
  · intro h1 j hj
    have e1 := h1 o.length (by simp) j (by simp; omega)
    have e2 := h1 j (by simp; omega) o.length (by simp)
    rw [fitAt, hl, hg j hj, beq_iff_eq] at e1 e2
    exact ⟨by simpa using e1, by simpa using e2⟩
  · intro h1 i hi j hj
    simp at hi hj
    rw [fitAt, beq_iff_eq]
    by_cases ei : i < o.length
    · by_cases ej : j < o.length
      · have := (ordOk_iff a b o).1 h i ei j ej
        rw [← fitAt_app a b o [(m : Int)] i j ei ej, fitAt, beq_iff_eq] at this
        exact this
      · obtain rfl : j = o.length := by omega
        rw [hl, hg i ei]
        simpa using (h1 i ei).2
    · obtain rfl : i = o.length := by omega
      by_cases ej : j < o.length
      · rw [hl, hg j ej]
        simpa using (h1 j ej).1
      · obtain rfl : j = o.length := by omega
        rw [hl]; simpa using hd
end Go.Proofs.YtaikjkcbgniplaaGreatDoor
