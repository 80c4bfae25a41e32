/- WitnessOf and IsFinite of the program and of the reference: the first set whose determinant is not positive, for at most 2^38 rows. -/
import Derived.Test.YtaikjkcbgniplaaDoorPm
namespace Go.Proofs.YtaikjkcbgniplaaDoor
open Go.RowKit
set_option linter.unusedVariables false

theorem find_at {α : Type} (l : List α) (p : α → Bool) (i : Nat) (h : i < l.length) (hp : p l[i] = true) (hb : ∀ j (hj : j < l.length), j < i → p l[j] = false) : l.find? p = some l[i] := by
  rw [List.find?_eq_some_iff_getElem]
  refine ⟨hp, i, h, rfl, fun j hj => ?_⟩
  rw [hb j (by omega) hj]; rfl
theorem find_no {α : Type} (l : List α) (p : α → Bool) (hb : ∀ j (hj : j < l.length), p l[j] = false) : l.find? p = none := by
  rw [List.find?_eq_none]
  intro x hx
  obtain ⟨j, hj, rfl⟩ := List.mem_iff_getElem.1 hx
  rw [hb j hj]; simp
def badU (c : List (List Int)) (u : List Int) : Bool := decide (pmX c u ≤ 0)
def witS (c : List (List Int)) : List Int := ((setL c.length).find? (badU c)).getD []
def witL (c : List (List Int)) : List Int := if isC c then witS c else []
/-- All sets ahead of p are good. -/
def Pos (c : List (List Int)) (p : Nat) : Prop := ∀ j (hj : j < (setL c.length).length), j < p → badU c (setL c.length)[j] = false
theorem pos_zero (c : List (List Int)) : Pos c 0 := fun j _ h => absurd h (Nat.not_lt_zero j)
theorem pos_next {c : List (List Int)} {p : Nat} {u : List Int} {x : Int} (h : Pos c p) (hp : p < (setL c.length).length) (hu : setT (p + 1) c.length = u) (hx : pmX c u = x) (hb : decide (x ≤ 0) = false) : Pos c (p + 1) := by
  intro j hj hjp
  by_cases e : j = p
  · subst e hu hx
    rw [setL_get, badU]; exact hb
  · exact h j hj (by omega)
theorem wit_at {c : List (List Int)} {p : Nat} {u : List Int} {x : Int} (h : Pos c p) (hp : p < (setL c.length).length) (hu : setT (p + 1) c.length = u) (hx : pmX c u = x) (hb : decide (x ≤ 0) = true) : witS c = u := by
  subst hu hx
  rw [witS, find_at _ _ p hp (by rw [setL_get, badU]; exact hb) h]
  simp [setL_get]
theorem wit_none {c : List (List Int)} (h : Pos c (setL c.length).length) : witS c = [] := by
  rw [witS, find_no _ _ (fun j hj => h j hj hj)]; rfl
theorem witL_t {c : List (List Int)} (h : isC c = true) : witL c = witS c := by simp [witL, h]
theorem witL_f {c : List (List Int)} (h : isC c = false) : witL c = [] := by simp [witL, h]
theorem witL_len (c : List (List Int)) : (witL c).length ≤ 4 := by
  unfold witL
  split
  · next h =>
    have h4 := ((isC_iff c).1 h).2.1
    unfold witS
    cases e : (setL c.length).find? (badU c) with
    | none => simp
    | some u =>
      have hm := List.mem_of_find?_eq_some e
      rw [setL, List.mem_map] at hm
      obtain ⟨q, _, rfl⟩ := hm
      have := setT_len (q + 1) c.length
      simpa using (by omega)
  · simp
theorem pmS_get (c : List (List Int)) (p : Nat) (hp : p < (setL c.length).length) (hq : p < (pmS c).length) : (pmS c)[p] = pmX c (setT (p + 1) c.length) := by
  simp [pmS, setL_get]
def finB (c : List (List Int)) : Bool := isC c && decide ((witL c).length = 0)
theorem fin_len (n : Nat) : ((n : Int) == 0) = decide (n = 0) := by
  cases h : decide (n = 0) with
  | true => rw [decide_eq_true_iff] at h; rw [beq_iff_eq]; omega
  | false => rw [decide_eq_false_iff_not] at h; rw [beq_eq_false_iff_ne]; omega
/-- A row of a table of the call's own. -/
theorem Own2.row {w : World} {lo hi g o cap : Nat} {n : Nat} {zss : List (List Int)} (h : Own2 w lo hi (.slice (some ⟨g, o, none⟩) n cap) zss) {p : Nat} (hp : p < zss.length) {r : Value} (hr : w.cell? ⟨g, o + p, none⟩ = some r) : Own1 w lo hi r zss[p] := by
  obtain ⟨G, gs, vs, h1, h2, h3, h4, h5, h6⟩ := h
  have hv : p < vs.length := by rw [h5.1]; exact hp
  have hg : p < gs.length := by rw [h5.2.1]; exact hp
  obtain ⟨cap', e, _, _, hc, _⟩ := h4.form
  injection e with e1 e2 e3
  injection e1 with e1
  injection e1 with e1 e2
  subst e1 e2
  rw [Nat.zero_add, hc p vs[p] (List.getElem?_eq_getElem hv)] at hr
  injection hr with hr
  subst hr
  have hm : gs[p] ∈ gs := List.getElem_mem hg
  exact ⟨gs[p], (h3 _ hm).1, (h3 _ hm).2, h5.2.2 p _ _ _ (List.getElem?_eq_getElem hg) (List.getElem?_eq_getElem hv) (List.getElem?_eq_getElem hp)⟩
end Go.Proofs.YtaikjkcbgniplaaDoor
