/- Rows that a walk appends row by row: what it owns. -/
import Derived.Test.YtaikjkcbgniplaaGreatDoorMat
import Derived.Test.YtaikjkcbgniplaaGreatDoorBond
namespace Go.Proofs.YtaikjkcbgniplaaGreatDoor
open Go.RowKit
set_option linter.unusedVariables false

theorem own_ne {w : World} {e e' : TypeId} {g g' : Nat} {v v' : Value} {xs xs' : List Value} (h : OwnV w e g v xs) (h' : OwnV w e' g' v' xs') (hne : e ≠ e') : g ≠ g' := by
  rintro rfl
  obtain ⟨_, _, _, h1, _⟩ := h
  obtain ⟨_, _, _, h2, _⟩ := h'
  rw [h1] at h2
  cases h2
  exact hne rfl
/-- x holds the rows zss, in blocks of their own from B on and below hi. -/
def RowsV (w : World) (B hi : Nat) (x : Value) (zss : List (List Int)) : Prop :=
  ∃ gs vs, RowV w B 27 x zss.length vs ∧ Inner w gs vs zss ∧ (∀ g ∈ gs, B ≤ g ∧ g < hi) ∧ gs.Nodup
theorem RowsV.keep {w w' : World} {B hi : Nat} {x : Value} {zss : List (List Int)} (h : RowsV w B hi x zss) (hb : Below w.heap.size w w') : RowsV w' B hi x zss := by
  obtain ⟨gs, vs, h1, h2, h3, h4⟩ := h
  exact ⟨gs, vs, h1.keep hb, h2.keep hb, h3, h4⟩
theorem rowsV_empty (w : World) : RowsV (w.alloc (.cells #[] 27)) w.heap.size w.heap.size (.slice (some ⟨w.heap.size, 0, none⟩) 0 0) [] :=
  ⟨[], [], rowV_empty w _, Inner.nil _, by simp, List.nodup_nil⟩
theorem RowsV.own2 {w : World} {B hi : Nat} {x : Value} {zss : List (List Int)} (h : RowsV w B hi x zss) (hhi : hi ≤ w.heap.size) : Own2 w B w.heap.size x zss := by
  obtain ⟨gs, vs, h1, h2, h3, h4⟩ := h
  obtain ⟨G, hG, hO⟩ := h1.own
  refine ⟨G, gs, vs, hG, hO.lt, fun g hg => by have := h3 g hg; omega, hO, h2, ?_, h4⟩
  intro hmem
  obtain ⟨i, hi, rfl⟩ := List.mem_iff_getElem.1 hmem
  have hv : i < vs.length := by rw [h2.1, ← h2.2.1]; exact hi
  have hz : i < zss.length := by rw [← h2.2.1]; exact hi
  exact own_ne hO (h2.2.2 i _ _ _ (List.getElem?_eq_getElem hi) (List.getElem?_eq_getElem hv) (List.getElem?_eq_getElem hz)) (by decide) rfl
theorem inner_chg {w w' : World} {S : Nat → Prop} {gs : List Nat} {vs : List Value} {zss : List (List Int)} (h : Inner w gs vs zss) (hb : Chg S w w') (hn : ∀ g ∈ gs, ¬ S g) : Inner w' gs vs zss := h.chg hb hn
theorem rowsV_push {w w1 : World} {B hi g1 : Nat} {x x' r : Value} {zs : List Int} {zss : List (List Int)} {gs : List Nat} {vs : List Value}
    (h1 : RowV w B 27 x zss.length vs) (h2 : Inner w gs vs zss) (h3 : ∀ g ∈ gs, B ≤ g ∧ g < hi) (h4 : gs.Nodup) (ho : Own w g1 r zs) (hg1 : hi ≤ g1) (hB : B ≤ g1)
    (hgrow : (w.alloc (.cells #[r] 27)).grownBy w1 x.ownBlock) (hrow : RowV w1 B 27 x' (zss.length + 1) (vs ++ [r])) : RowsV w1 B w1.heap.size x' (zss ++ [zs]) := by
  obtain ⟨G, hG, hO⟩ := h1.own
  rw [hO.block] at hgrow
  have hch := chg_grown hgrow
  have hbn := below_new w (.cells #[r] 27)
  have hs := hch.size
  have hz : w.heap.size ≤ (w.alloc (.cells #[r] 27)).heap.size := hbn.size
  have hlt := ho.lt
  refine ⟨gs ++ [g1], vs ++ [r], hrow.cast rfl (by simp) rfl, ?_, ?_, ?_⟩
  · refine Inner.snoc ((h2.keep hbn).chg hch ?_) ((ho.keep hbn).chg hch ?_)
    · rintro g hmem rfl
      obtain ⟨i, hi, rfl⟩ := List.mem_iff_getElem.1 hmem
      have hv : i < vs.length := by rw [h2.1, ← h2.2.1]; exact hi
      have hz : i < zss.length := by rw [← h2.2.1]; exact hi
      exact own_ne hO (h2.2.2 i _ _ _ (List.getElem?_eq_getElem hi) (List.getElem?_eq_getElem hv) (List.getElem?_eq_getElem hz)) (by decide) rfl
    · rintro rfl
      exact own_ne hO ho (by decide) rfl
  · intro g hg
    rcases List.mem_append.1 hg with hg | hg
    · have q := h3 g hg; omega
    · simp at hg; omega
  · refine List.nodup_append.2 ⟨h4, by simp, fun g hg g' hg' => ?_⟩
    simp at hg'
    have := h3 g hg
    omega
end Go.Proofs.YtaikjkcbgniplaaGreatDoor
