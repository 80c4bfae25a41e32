/- CompareWords of the reference, slices.Equal, EqualWords of both: what they answer, for words of at most 2^40 letters. -/
import Derived.Test.YtaikjkcbgniplaaGreatDoorInts
namespace Go.Proofs.YtaikjkcbgniplaaGreatDoor
open Go.RowKit
set_option linter.unusedVariables false

set_option maxHeartbeats 1000000 in
theorem slicesEqual (v1 v2 : Value) (a b : List Int) (ha : a.length ≤ 1099511627776) (w : World) (h1 : I w v1 a) (h2 : I w v2 b) :
    Calls Tryz.prog 112 #[v1, v2] w fun e w' => e = .returned (.bool (eqI a b)) ∧ Below w.heap.size w w' := by
  obtain ⟨g1, o1, c1, rfl, _, _, hc1⟩ := h1.form
  obtain ⟨g2, o2, c2, rfl, _, _, hc2⟩ := h2.form
  have H1 := Lib.hid hc1
  have H2 := Lib.hid hc2
  clear hc1 hc2 h1 h2
  by_cases hl : a.length = b.length
  · have hL := Lib.hid hl
    have dl : ((a.length : Int) != (b.length : Int)) = false := by rw [bne_eq_false_iff_eq]; omega
    clear hl
    go_enter Tryz.func112, Tryz.ntmps112
    go_wp2_with fail
    go_loopw [13] (fun i wr => ∃ k : Nat, k ≤ a.length ∧ i = .int .i64 k ∧ Below w.heap.size w wr ∧ Hid (∀ j (h1 : j < a.length) (h2 : j < b.length), j < k → a[j] = b[j])) (fun i _ => a.length - (intOf i).toNat)
    case atStart => exact ⟨0, by omega, rfl, Below.refl _ _, fun j _ _ h => absurd h (Nat.not_lt_zero j)⟩
    case round =>
      obtain ⟨k, hk, rfl, hbel, HE⟩ := hrel
      by_cases hlt' : k < a.length
      · have hlt2 : k < b.length := by have := hL.out; omega
        have x1 := (hbel.cell (World.block_lt_of_cell? w _ (H1.out k hlt'))).trans (H1.out k hlt')
        have x2 := (hbel.cell (World.block_lt_of_cell? w _ (H2.out k hlt2))).trans (H2.out k hlt2)
        have hk0 : (0 : Int) ≤ (k : Int) := by omega
        have hk1 : (k : Int) < (a.length : Int) := by omega
        have hk2 : (k : Int) < (b.length : Int) := by omega
        by_cases he : a[k] = b[k]
        · have hb : ((a[k] : Int) != (b[k] : Int)) = false := by rw [bne_eq_false_iff_eq]; exact he
          have HK := Lib.hid he
          clear he
          go_wp2_with fail
          go_region_held3 (fun w' => w'.cell? ⟨g1, o1 + k, none⟩ = some (.int .i64 a[k]) ∧ w'.cell? ⟨g2, o2 + k, none⟩ = some (.int .i64 b[k])) (go_keep) (fail)
          go_wp2_with fail
          go_roundw
          case rel =>
            refine ⟨k + 1, by omega, by go_num, hbel.drew, fun j q1 q2 hj => ?_⟩
            by_cases e : j = k
            · subst e; exact HK.out
            · exact HE.out j q1 q2 (by omega)
          case measure => simp [intOf]; omega
        · have hb : ((a[k] : Int) != (b[k] : Int)) = true := by rw [bne_iff_ne]; exact he
          have HK := Lib.hid he
          clear he
          go_wp2_with fail
          go_region_held3 (fun w' => w'.cell? ⟨g1, o1 + k, none⟩ = some (.int .i64 a[k]) ∧ w'.cell? ⟨g2, o2 + k, none⟩ = some (.int .i64 b[k])) (go_keep) (fail)
          go_wp2_with fail
          go_ret
          refine ⟨ret_bool ?_, hbel.drew⟩
          symm
          rw [eqI, beq_eq_false_iff_ne]
          intro e
          subst e
          exact HK.out rfl
      · obtain rfl : k = a.length := by omega
        go_wp2_with fail
        go_ret
        refine ⟨ret_bool ?_, hbel⟩
        symm
        rw [eqI, beq_iff_eq]
        exact List.ext_getElem hL.out (fun j q1 q2 => HE.out j q1 q2 q1)
  · have dl : ((a.length : Int) != (b.length : Int)) = true := by rw [bne_iff_ne]; omega
    have hL := Lib.hid hl
    clear hl
    go_enter Tryz.func112, Tryz.ntmps112
    go_wp2_with fail
    go_ret
    refine ⟨ret_bool ?_, Below.refl _ _⟩
    symm
    rw [eqI, beq_eq_false_iff_ne]
    intro e
    subst e
    exact hL.out rfl


/-- The order of words of one length. -/
def lexL : List Int → List Int → Int
  | x :: a, y :: b => if x < y then -1 else if y < x then 1 else lexL a b
  | _, _ => 0
def cmpL (a b : List Int) : Int := if a.length < b.length then -1 else if b.length < a.length then 1 else lexL a b
theorem lexL_self : ∀ a : List Int, lexL a a = 0
  | [] => rfl
  | x :: a => by rw [lexL, if_neg (by omega), if_neg (by omega), lexL_self a]
theorem lexL_zero : ∀ a b : List Int, a.length = b.length → lexL a b = 0 → a = b
  | [], [], _, _ => rfl
  | x :: a, y :: b, hl, h => by
    rw [lexL] at h
    by_cases c1 : x < y
    · rw [if_pos c1] at h; omega
    · rw [if_neg c1] at h
      by_cases c2 : y < x
      · rw [if_pos c2] at h; omega
      · rw [if_neg c2] at h
        rw [show x = y by omega, lexL_zero a b (by simpa using hl) h]
theorem cmpL_eq (a b : List Int) : (cmpL a b == 0) = eqI a b := by
  rw [eqI, Bool.eq_iff_iff, beq_iff_eq, beq_iff_eq]
  constructor
  · intro h
    rw [cmpL] at h
    by_cases c1 : a.length < b.length
    · rw [if_pos c1] at h; omega
    · rw [if_neg c1] at h
      by_cases c2 : b.length < a.length
      · rw [if_pos c2] at h; omega
      · rw [if_neg c2] at h
        exact lexL_zero a b (by omega) h
  · rintro rfl
    rw [cmpL, if_neg (by omega), if_neg (by omega), lexL_self]
theorem lexL_drop (a b : List Int) (k : Nat) (h1 : k < a.length) (h2 : k < b.length) : lexL (a.drop k) (b.drop k) = if a[k] < b[k] then -1 else if b[k] < a[k] then 1 else lexL (a.drop (k + 1)) (b.drop (k + 1)) := by
  rw [List.drop_eq_getElem_cons h1, List.drop_eq_getElem_cons h2, lexL]
theorem lexL_end (a b : List Int) (k : Nat) (h : a.length ≤ k ∨ b.length ≤ k) : lexL (a.drop k) (b.drop k) = 0 := by
  rcases h with h | h
  · rw [List.drop_of_length_le h]; cases b.drop k <;> rfl
  · rw [List.drop_of_length_le h]; cases a.drop k <;> rfl


end Go.Proofs.YtaikjkcbgniplaaGreatDoor
