/- The law's own helpers on slices of slices of numbers (size, copy, compare, mark, look whether the marks are held): what they do. -/
import Derived.Test.YtaikjkcbgniplaaGreatDoorInts
namespace Go.Proofs.YtaikjkcbgniplaaGreatDoor
open Go.RowKit
set_option linter.unusedVariables false

theorem elemRow : Elem Tryz.prog 24 27 24 := elem_of (.slice none 0 0) Tryz.underlying24 (by kernel_rfl) rfl (by omega)
theorem Tryz.infoRow : (Tryz.prog.info? 27).map (fun i => (i.zero, i.size, i.bytes)) = some (some (.slice none 0 0), 1, 24) := by kernel_rfl

/-- The values vs own the rows zss, each in its block. -/
def Inner (w : World) (gs : List Nat) (vs : List Value) (zss : List (List Int)) : Prop :=
  vs.length = zss.length ∧ gs.length = zss.length ∧ ∀ (i : Nat) (g : Nat) (r : Value) (zs : List Int), gs[i]? = some g → vs[i]? = some r → zss[i]? = some zs → Own w g r zs
theorem Inner.nil (w : World) : Inner w [] [] [] := ⟨rfl, rfl, fun i g r zs h _ _ => by simp at h⟩
theorem Inner.keep {w w' : World} {gs : List Nat} {vs : List Value} {zss : List (List Int)} (h : Inner w gs vs zss) (hb : Below w.heap.size w w') : Inner w' gs vs zss :=
  ⟨h.1, h.2.1, fun i g r zs h1 h2 h3 => (h.2.2 i g r zs h1 h2 h3).keep hb⟩
theorem Inner.chg {w w' : World} {S : Nat → Prop} {gs : List Nat} {vs : List Value} {zss : List (List Int)} (h : Inner w gs vs zss) (hb : Chg S w w') (hn : ∀ g ∈ gs, ¬ S g) : Inner w' gs vs zss :=
  ⟨h.1, h.2.1, fun i g r zs h1 h2 h3 => (h.2.2 i g r zs h1 h2 h3).chg hb (hn g (List.mem_of_getElem? h1))⟩
theorem Inner.snoc {w : World} {gs : List Nat} {vs : List Value} {zss : List (List Int)} {g : Nat} {r : Value} {zs : List Int} (h : Inner w gs vs zss) (ho : Own w g r zs) : Inner w (gs ++ [g]) (vs ++ [r]) (zss ++ [zs]) := by
  obtain ⟨h1, h2, h3⟩ := h
  refine ⟨by simp [h1], by simp [h2], fun i g' r' zs' e1 e2 e3 => ?_⟩
  by_cases hi : i < zss.length
  · rw [List.getElem?_append_left (by omega)] at e1 e2 e3
    exact h3 i g' r' zs' e1 e2 e3
  · rw [List.getElem?_append_right (by omega)] at e1 e2 e3
    have hz : i - zss.length = 0 := by
      have := (List.getElem?_eq_some_iff.1 e3).1
      simp at this
      omega
    rw [show i - gs.length = 0 by omega] at e1
    rw [show i - vs.length = 0 by omega] at e2
    rw [hz] at e3
    simp at e1 e2 e3
    subst e1 e2 e3
    exact ho
theorem Inner.rows {w : World} {gs : List Nat} {vs : List Value} {zss : List (List Int)} (h : Inner w gs vs zss) {v : Value} (hv : ReadV w v vs) : II w v zss := by
  obtain ⟨h1, h2, h3⟩ := h
  refine ⟨vs, hv, h1, fun i r zs e1 e2 => ?_⟩
  have hi : i < gs.length := by have := (List.getElem?_eq_some_iff.1 e2).1; omega
  exact (h3 i gs[i] r zs (List.getElem?_eq_getElem hi) e1 e2).read

/-- v owns the rows zss, in blocks from lo on and below hi. -/
def Own2 (w : World) (lo hi : Nat) (v : Value) (zss : List (List Int)) : Prop :=
  ∃ G gs vs, lo ≤ G ∧ G < hi ∧ (∀ g ∈ gs, lo ≤ g ∧ g < hi) ∧ OwnV w 27 G v vs ∧ Inner w gs vs zss ∧ G ∉ gs ∧ gs.Nodup
theorem Own2.keep {w w' : World} {lo hi : Nat} {v : Value} {zss : List (List Int)} (h : Own2 w lo hi v zss) (hb : Below w.heap.size w w') : Own2 w' lo hi v zss := by
  obtain ⟨G, gs, vs, h1, h2, h3, h4, h5, h6⟩ := h
  exact ⟨G, gs, vs, h1, h2, h3, h4.keep hb, h5.keep hb, h6⟩
theorem Own2.chg {w w' : World} {lo hi l2 h2 : Nat} {v : Value} {zss : List (List Int)} (h : Own2 w lo hi v zss) (hb : Chg (fun k => l2 ≤ k ∧ k < h2) w w') (hd : hi ≤ l2 ∨ h2 ≤ lo) : Own2 w' lo hi v zss := by
  obtain ⟨G, gs, vs, q1, q2, q3, q4, q5, q6⟩ := h
  exact ⟨G, gs, vs, q1, q2, q3, q4.chg hb (by omega), q5.chg hb (fun g hg => by have := q3 g hg; omega), q6⟩
theorem Own2.read {w : World} {lo hi : Nat} {v : Value} {zss : List (List Int)} (h : Own2 w lo hi v zss) : II w v zss := by
  obtain ⟨G, gs, vs, h1, h2, h3, h4, h5, h6⟩ := h
  exact h5.rows h4.read

theorem own_of_rowIsV {w : World} {b n : Nat} {e : TypeId} {f : Nat → Value} {xs : List Value} (h : w.rowIs b e n f) (hx : xs.length = n) (hm : n ≤ maxLen) (hf : ∀ i (hi : i < xs.length), f i = xs[i]) : OwnV w e b (.slice (some ⟨b, 0, none⟩) n n) xs := by
  obtain ⟨c, hb, hn, hc⟩ := h
  subst hx
  refine ⟨c.size, c, by rw [hn], hb, by omega, by omega, rfl, ?_⟩
  apply List.ext_getElem?
  intro i
  by_cases hi : i < xs.length
  · rw [List.getElem?_take, if_pos hi, List.getElem?_eq_getElem hi, ← hf i hi, ← hc i (by omega)]
    simp
  · rw [List.getElem?_eq_none (by simp; omega), List.getElem?_eq_none (by omega)]

/-- What a call answers that makes rows of its own. -/
def RetRows (w : World) (zss : List (List Int)) (e : Ending) (w' : World) : Prop := ∃ v, e = .returned v ∧ Own2 w' w.heap.size w'.heap.size v zss ∧ Below w.heap.size w w'
def RetRowsB (w : World) (zss : List (List Int)) (b : Bool) (e : Ending) (w' : World) : Prop := ∃ v, e = .returned (.tuple #[v, .bool b]) ∧ Own2 w' w.heap.size w'.heap.size v zss ∧ Below w.heap.size w w'
theorem RetRows.out {w w' : World} {zss : List (List Int)} {e : Ending} (h : RetRows w zss e w') : ∃ v, e = .returned v ∧ Own2 w' w.heap.size w'.heap.size v zss ∧ Below w.heap.size w w' := h
theorem RetRowsB.out {w w' : World} {zss : List (List Int)} {b : Bool} {e : Ending} (h : RetRowsB w zss b e w') : ∃ v, e = .returned (.tuple #[v, .bool b]) ∧ Own2 w' w.heap.size w'.heap.size v zss ∧ Below w.heap.size w w' := h

theorem ints_cons (z : List Int) (zss : List (List Int)) : ints (z :: zss) = z.length + ints zss := by simp [ints]
theorem ints_append (a b : List (List Int)) : ints (a ++ b) = ints a + ints b := by simp [ints]
theorem ints_take_succ (zss : List (List Int)) (k : Nat) (h : k < zss.length) : ints (zss.take (k + 1)) = ints (zss.take k) + zss[k].length := by
  rw [List.take_succ_eq_append_getElem h, ints_append]; simp [ints]
theorem ints_row (zss : List (List Int)) (k : Nat) (h : k < zss.length) : ints (zss.take k) + zss[k].length ≤ ints zss := by
  have h1 : ints zss = ints (zss.take (k + 1)) + ints (zss.drop (k + 1)) := by rw [← ints_append, List.take_append_drop]
  rw [ints_take_succ zss k h] at h1
  omega

def eqII (a b : List (List Int)) : Bool := a == b
theorem eqII_refl (a : List (List Int)) : eqII a a = true := by simp [eqII]
theorem eqII_true {a b : List (List Int)} (h : eqII a b = true) : a = b := by simpa [eqII] using h
end Go.Proofs.YtaikjkcbgniplaaGreatDoor
