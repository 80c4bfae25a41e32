/- RhoOf, SimpleRootWeight, BondOf of the program and of the reference: what they answer, for at most 2^40 numbers. -/
import Derived.Test.YtgappocmdbaahaaWgt
namespace Go.Proofs.Ytgappocmdbaahaa
open Go.RowKit
set_option linter.unusedVariables false

theorem pt_nat {n : Nat} {x : Int} (h : isPt n x = true) : ∃ k : Nat, x = (k : Int) ∧ k < n := by
  have := (isPt_iff n x).1 h
  exact ⟨x.toNat, by omega, by omega⟩
theorem isC_sq {c : List (List Int)} (h : isC c = true) (k : Nat) (hk : k < c.length) : c[k].length = c.length := ((isC_iff c).1 h).2.2.1 _ (List.getElem_mem hk)
def rhoN (c : List (List Int)) : Nat := if isC c then c.length else 0
def rhoL (c : List (List Int)) : List Int := List.replicate (rhoN c) 1
theorem rhoN_t {c : List (List Int)} (h : isC c = true) : rhoN c = c.length := by simp [rhoN, h]
theorem rhoN_f {c : List (List Int)} (h : isC c = false) : rhoN c = 0 := by simp [rhoN, h]
theorem rhoN_le (c : List (List Int)) : rhoN c ≤ c.length := by unfold rhoN; split <;> omega
theorem ones_snoc (k : Nat) : ivs (List.replicate (k + 1) (1 : Int)) = ivs (List.replicate k 1) ++ [.int .i64 1] := by
  rw [List.replicate_succ', ivs_append]; rfl
def colN (c : List (List Int)) (s : Int) : Nat := if isC c && isPt c.length s then c.length else 0
def colL (c : List (List Int)) (s : Int) : List Int := (List.range (colN c s)).map (fun i => ent c i s.toNat)
theorem colN_t {c : List (List Int)} {s : Int} (h : isC c = true) (h2 : isPt c.length s = true) : colN c s = c.length := by simp [colN, h, h2]
theorem colN_f {c : List (List Int)} {s : Int} (h : isC c = false) : colN c s = 0 := by simp [colN, h]
theorem colN_g {c : List (List Int)} {s : Int} (h : isPt c.length s = false) : colN c s = 0 := by simp [colN, h]
theorem colN_le (c : List (List Int)) (s : Int) : colN c s ≤ c.length := by unfold colN; split <;> omega
theorem col_snoc (c : List (List Int)) (s : Int) (k : Nat) (x : Int) (hx : ent c k s.toNat = x) (hk : k < colN c s) : ivs ((colL c s).take (k + 1)) = ivs ((colL c s).take k) ++ [.int .i64 x] := by
  subst hx
  rw [List.take_succ_eq_append_getElem (by simpa [colL] using hk)]
  simp [ivs, colL]
theorem col_end (c : List (List Int)) (s : Int) : (colL c s).take (colN c s) = colL c s := List.take_of_length_le (by simp [colL])
theorem colL_length (c : List (List Int)) (s : Int) : (colL c s).length = colN c s := by simp [colL]
def bondP (p : Int) : Int := if p = 0 then 2 else if p = 1 then 3 else if p = 2 then 4 else if p = 3 then 6 else 0
def bond (c : List (List Int)) (i j : Int) : Int := if isC c && isPt c.length i && isPt c.length j then (if i = j then 1 else bondP (wrap64 (ent c i.toNat j.toNat * ent c j.toNat i.toNat))) else -1
theorem bond_f {c : List (List Int)} {i j : Int} (h : isC c = false) : bond c i j = -1 := by simp [bond, h]
theorem bond_g {c : List (List Int)} {i j : Int} (h : isPt c.length i = false) : bond c i j = -1 := by simp [bond, h]
theorem bond_h {c : List (List Int)} {i j : Int} (h : isPt c.length j = false) : bond c i j = -1 := by simp [bond, h]
theorem bond_d {c : List (List Int)} {i j : Int} (h : isC c = true) (h1 : isPt c.length i = true) (h2 : isPt c.length j = true) (e : i = j) : bond c i j = 1 := by subst e; simp [bond, h, h1]
theorem bond_o {c : List (List Int)} {i j : Nat} {x y p : Int} (h : isC c = true) (h1 : isPt c.length i = true) (h2 : isPt c.length j = true) (e : (i : Int) ≠ j) (hx : ent c i j = x) (hy : ent c j i = y) (hp : wrap64 (x * y) = p) : bond c i j = bondP p := by
  subst hx hy hp; simp only [bond, h, h1, h2, Bool.and_self, if_pos, if_neg e, Int.toNat_natCast]
theorem bp0 : bondP 0 = 2 := rfl
theorem bp1 : bondP 1 = 3 := rfl
theorem bp2 : bondP 2 = 4 := rfl
theorem bp3 : bondP 3 = 6 := rfl
theorem bp4 {p : Int} (h0 : p ≠ 0) (h1 : p ≠ 1) (h2 : p ≠ 2) (h3 : p ≠ 3) : bondP p = 0 := by simp [bondP, h0, h1, h2, h3]


end Go.Proofs.Ytgappocmdbaahaa
