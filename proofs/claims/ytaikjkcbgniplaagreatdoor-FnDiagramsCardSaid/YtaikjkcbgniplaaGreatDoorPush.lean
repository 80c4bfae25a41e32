/- Append, one value at a time, where it counts which block the row lies in afterwards. -/
import Derived.Test.YtaikjkcbgniplaaGreatDoorLib
import Derived.Deep.AppendLies
namespace Go.Proofs.YtaikjkcbgniplaaGreatDoor
open Go.RowKit
set_option linter.unusedVariables false

section
variable {P : Program} {T e : TypeId} {bytes : Nat}
theorem wpList_pushL (E : Elem P T e bytes) {ops : Array Oper} {rest : List Oper} {o : Oper} {a : Act} {Q : Exit → Act → World → Prop} (w : World) (hgd : o.guard = none) (s x : Operand)
    (ho : o.op = .call { callee := .builtin .append, args := #[s, x], argTypes := #[T, T] }) (G : Nat) (v : Value) (xs : List Value) (hs : a.eval s = v) (hown : OwnV w e G v xs)
    (u : Value) (g0 : Nat) (hx : a.eval x = .slice (some ⟨g0, 0, none⟩) 1 1) (hu : w.cell? ⟨g0, 0, none⟩ = some u) (h1 : u.oneCell' = true) (hn : xs.length ≤ 1099511627776)
    (h : ∀ g cap w', OwnV w' e g (.slice (some ⟨g, 0, none⟩) (xs.length + 1) cap) (xs ++ [u]) → Chg (· = G) w w' → (g = G ∨ g = w.heap.size) → wpList P ops Q rest (a.put o.dst (.slice (some ⟨g, 0, none⟩) (xs.length + 1) cap)) w') : wpList P ops Q (o :: rest) a w := by
  refine wpList_plain hgd fun _ hK => ?_
  obtain ⟨i, z, hi, hz, h2, h3, hzc⟩ := E.info
  have hsm := E.small
  refine wp_append_lies w s x T ho 0 e i z 1 bytes E.slice hi hz h2 h3 hzc (by omega) v xs.length xs hs (hown.row (Nat.zero_le _)) ⟨g0, 0, none⟩ 1 1 [u] hx rfl (fun j y hj => ?_) (by simpa using h1) (by omega) (by unfold maxLen; omega) (Nat.le_trans (Nat.mul_le_mul_left _ hsm) (by omega)) (Nat.zero_le _) _ rfl (fun g cap w' hrow hgrow hor _ => ?_)
  · rw [addr_add]
    match j, hj with
    | 0, hj => simp at hj; subst hj; exact hu
  · rw [hown.block] at hgrow hor
    refine hK _ _ (h g cap w' (own_of_row hrow).1 (chg_grown hgrow) ?_)
    rcases hor with e | e
    · left; injection e with e; exact e.symm
    · right; exact e
end
end Go.Proofs.YtaikjkcbgniplaaGreatDoor
