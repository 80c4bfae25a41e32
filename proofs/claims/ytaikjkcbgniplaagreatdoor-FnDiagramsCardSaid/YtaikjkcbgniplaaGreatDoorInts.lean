/- The law's own helpers on slices of numbers (copy, compare, mark, look whether the marks are held): what they do, for slices of at most 2^40 elements. -/
import Derived.Test.YtaikjkcbgniplaaGreatDoorLib
import Derived.Deep.QuietTactic
import Derived.BigQuiet
namespace Go.Proofs.YtaikjkcbgniplaaGreatDoor
open Go.RowKit

theorem Tryz.infoInt : (Tryz.prog.info? 3).map (fun i => (i.zero, i.size, i.bytes)) = some (some (.int .i64 0), 1, 8) := by kernel_rfl

theorem own_of_rowIs {w : World} {b n : Nat} {f : Nat → Value} {xs : List Value} (h : w.rowIs b 3 n f) (hx : xs.length = n) (hm : n ≤ maxLen) (hf : ∀ i (hi : i < xs.length), f i = xs[i]) : OwnV w 3 b (.slice (some ⟨b, 0, none⟩) n n) xs := by
  obtain ⟨c, hb, hn, hc⟩ := h
  subst hx
  refine ⟨c.size, c, by rw [hn], hb, by omega, by omega, rfl, ?_⟩
  apply List.ext_getElem?
  intro i
  by_cases hi : i < xs.length
  · rw [List.getElem?_take, if_pos hi, List.getElem?_eq_getElem hi, ← hf i hi, ← hc i (by omega)]
    simp
  · rw [List.getElem?_eq_none (by simp; omega), List.getElem?_eq_none (by omega)]

def eqI (a b : List Int) : Bool := a == b
theorem eqI_true {a b : List Int} (h : eqI a b = true) : a = b := by simpa [eqI] using h
theorem eqI_refl (a : List Int) : eqI a a = true := by simp [eqI]

/-- k, k + 1, .. -/
def seqI (k n : Nat) : List Int := (List.range n).map fun i => ((k + i : Nat) : Int)
theorem seqI_length (k n : Nat) : (seqI k n).length = n := by simp [seqI]
theorem seqI_get (k n i : Nat) (h : i < (seqI k n).length) : (seqI k n)[i] = ((k + i : Nat) : Int) := by simp [seqI]
theorem seqI_zero (k : Nat) : seqI k 0 = [] := rfl
theorem seqI_succ (k n : Nat) : seqI k (n + 1) = seqI k n ++ [((k + n : Nat) : Int)] := by simp [seqI, List.range_succ]
theorem mark_step (k j : Nat) (zs : List Int) (h : j < zs.length) : (ivs (seqI k j ++ zs.drop j)).set j (.int .i64 ((k + j : Nat) : Int)) = ivs (seqI k (j + 1) ++ zs.drop (j + 1)) := by
  have e : ∀ (l : List Int) (i : Nat) (x : Int), (ivs l).set i (.int .i64 x) = ivs (l.set i x) := by
    intro l i x; rw [ivs, ivs, List.map_set]
  rw [e, seqI_succ, List.append_assoc, List.set_append_right _ _ (by rw [seqI_length]; omega), seqI_length, Nat.sub_self]
  rw [List.drop_eq_getElem_cons h, List.set_cons_zero]
  rfl

end Go.Proofs.YtaikjkcbgniplaaGreatDoor
