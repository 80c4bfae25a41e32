/- FormatInt of the program (strconv.Itoa) and of the reference: the decimal numeral, for every int. -/
import Derived.Test.YtaikjkcbgniplaaGreatDoorFmtInt
import Derived.Test.YtaikjkcbgniplaaGreatDoorShelf
namespace Go.Proofs.YtaikjkcbgniplaaGreatDoor
open Go.RowKit
set_option linter.unusedVariables false

theorem itoa_pos (n : Nat) : Lib.itoa (n : Int) = Lib.decDigits n := by unfold Lib.itoa; rw [if_neg (by omega)]; simp
theorem itoa_neg (n : Nat) (h : 1 ≤ n) : Lib.itoa (-(n : Int)) = 45 :: Lib.decDigits n := by unfold Lib.itoa; rw [if_pos (by omega)]; simp
theorem wf_bd {z : Int} (hz : (Lit.int .i64 z).wf = true) : -9223372036854775808 ≤ z ∧ z ≤ 9223372036854775807 := by
  exact bounds_i64 hz
theorem specFormatIntZero (w : World) : Calls Tryz.prog 102 #[.int .i64 0] w fun e w' => e = .returned (.string ⟨#[48]⟩) ∧ w = w' := by
  go_enter Tryz.func102, Tryz.ntmps102
  go_wp2_with fail
  go_ret
  exact ⟨rfl, rfl⟩
theorem specFormatInt (z : Int) (hz : (Lit.int .i64 z).wf = true) (w : World) :
    Calls Tryz.prog 102 #[.int .i64 z] w fun e w' => e = .returned (.string ⟨(Lib.itoa z).toArray⟩) ∧ Below w.heap.size w w' := by
  obtain ⟨hb1, hb2⟩ := wf_bd hz
  rcases Int.lt_trichotomy z 0 with h | h | h
  · obtain ⟨n, rfl⟩ : ∃ n : Nat, z = -(n : Int) := ⟨z.natAbs, by omega⟩
    rw [itoa_neg n (by omega)]
    exact specFormatIntNeg n (by omega) (by omega) w
  · subst h
    exact (specFormatIntZero w).mono fun e w' ⟨h1, h2⟩ => ⟨by rw [h1, show Lib.itoa 0 = [48] by rw [show (0 : Int) = ((0 : Nat) : Int) from rfl, itoa_pos, Lib.decDigits_one (by omega)]; rfl], h2 ▸ Below.refl _ _⟩
  · obtain ⟨n, rfl⟩ : ∃ n : Nat, z = (n : Int) := ⟨z.natAbs, by omega⟩
    rw [itoa_pos n]
    exact specFormatIntPos n (by omega) (by omega) w
theorem tab_keep {P : Program} {w w' : World} {n : String} {k : IntKind} {zs : List Int} (h : Lib.TabIs P w n k zs) (hb : Below w.heap.size w w') : Lib.TabIs P w' n k zs := by
  unfold Lib.TabIs World.var? at h ⊢
  cases hg : P.globalNamed n with
  | none => rw [hg] at h; cases h
  | some g =>
    rw [hg] at h
    simp only [Option.bind_some] at h ⊢
    cases hh : w.heap[g]? with
    | none => rw [hh] at h; cases h
    | some o => rw [hb.block g (Array.getElem?_eq_some_iff.1 hh).1]; exact h
theorem below_grew (w : World) (k : Nat) (os : Array Obj) : Below w.heap.size w (Sort.grow (w.drewN k) os) :=
  ⟨rfl, rfl, rfl, by simp [Sort.grow], fun q hq => by simp [Sort.grow, Array.getElem?_append, hq]⟩
theorem implFormatInt (z : Int) (hz : (Lit.int .i64 z).wf = true) (w : World) (ht : Lib.TabIs Tryz.prog w "internal/strconv.uint64pow10" .u64 Lib.pow10Tab) :
    Calls Tryz.prog 124 #[.int .i64 z] w fun e w' => e = .returned (.string ⟨(Lib.itoa z).toArray⟩) ∧ Below w.heap.size w w' := by
  have hb := wf_bd hz
  have HC := Lib.hid (fun w ht => Tryz.strconv_Itoa z hb.1 hb.2 w ht)
  clear hb
  go_enter Tryz.func124, Tryz.ntmps124
  go_wp2_with fail
  refine (HC.out _ ht).mono ?_
  rintro e w1 ⟨rfl, k, os, rfl⟩
  go_wp2_with fail
  go_ret
  exact ⟨rfl, below_grew w k os⟩
end Go.Proofs.YtaikjkcbgniplaaGreatDoor
