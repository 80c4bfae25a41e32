/- IsWeight, IsWord, RhoOf, SimpleRootWeight, BondOf of the program and of the reference: what they answer, for rows of at most 2^40 numbers. -/
import Derived.Test.YtaikjkcbgniplaaDoorCartan
namespace Go.Proofs.YtaikjkcbgniplaaDoor
open Go.RowKit
set_option linter.unusedVariables false

def isPt (n : Nat) (x : Int) : Bool := decide (0 ≤ x) && decide (x < (n : Int))
theorem isPt_iff (n : Nat) (x : Int) : isPt n x = true ↔ 0 ≤ x ∧ x < (n : Int) := by simp [isPt]
theorem isPt_no (n : Nat) (x : Int) (h : ¬ (0 ≤ x ∧ x < (n : Int))) : isPt n x = false := by
  cases hp : isPt n x with
  | false => rfl
  | true => exact absurd ((isPt_iff n x).1 hp) h
theorem isPt_le (n : Nat) (x : Int) : (decide (0 ≤ x) && decide (x ≤ (n : Int) - 1)) = isPt n x := by
  rw [isPt, show decide (x ≤ (n : Int) - 1) = decide (x < (n : Int)) from by rw [decide_eq_decide]; omega]
set_option maxHeartbeats 400000 in
theorem isPoint (v : Value) (c : List (List Int)) (x : Int) (w : World) (h : II w v c) : Calls Tryd.prog 81 #[v, .int .i64 x] w fun e w' => e = .returned (.bool (isPt c.length x)) ∧ w = w' := by
  obtain ⟨g, o, cap, rfl, _, _, _⟩ := h.form
  clear h
  by_cases h0 : 0 ≤ x
  · by_cases h1 : x < (c.length : Int)
    · have hp := (isPt_iff c.length x).2 ⟨h0, h1⟩
      have HP := Lib.hid hp
      clear hp
      go_enter Tryd.func81, Tryd.ntmps81
      go_wp2_with fail
      go_ret
      exact ⟨ret_bool HP.out.symm, rfl⟩
    · have HP := Lib.hid (isPt_no c.length x (by omega))
      have d0 : decide (0 ≤ x) = true := by simpa using h0
      have d1 : decide (x < (c.length : Int)) = false := by simpa using h1
      clear h0 h1
      go_enter Tryd.func81, Tryd.ntmps81
      go_wp2_with fail
      go_ret
      exact ⟨ret_bool HP.out.symm, rfl⟩
  · have HP := Lib.hid (isPt_no c.length x (by omega))
    have d0 : decide (0 ≤ x) = false := by simpa using h0
    clear h0
    go_enter Tryd.func81, Tryd.ntmps81
    go_wp2_with fail
    go_ret
    exact ⟨ret_bool HP.out.symm, rfl⟩

def inR (x : Int) : Bool := decide (-1000 ≤ x) && decide (x ≤ 1000)
theorem inR_iff (x : Int) : inR x = true ↔ -1000 ≤ x ∧ x ≤ 1000 := by simp [inR]
def isWt (c : List (List Int)) (v : List Int) : Bool := isC c && decide (v.length = c.length) && v.all inR
theorem isWt_iff (c : List (List Int)) (v : List Int) : isWt c v = true ↔ isC c = true ∧ v.length = c.length ∧ ∀ x ∈ v, -1000 ≤ x ∧ x ≤ 1000 := by
  simp only [isWt, Bool.and_eq_true, decide_eq_true_iff, List.all_eq_true, inR_iff, and_assoc]
theorem isWt_no (c : List (List Int)) (v : List Int) (h : ¬ (isC c = true ∧ v.length = c.length ∧ ∀ x ∈ v, -1000 ≤ x ∧ x ≤ 1000)) : isWt c v = false := by
  cases hp : isWt c v with
  | false => rfl
  | true => exact absurd ((isWt_iff c v).1 hp) h
theorem all_of (v : List Int) (p : Int → Prop) (h : ∀ j (hj : j < v.length), p v[j]) : ∀ x ∈ v, p x := fun x hx => by
  obtain ⟨j, hj, rfl⟩ := List.mem_iff_getElem.1 hx
  exact h j hj
set_option maxHeartbeats 1000000 in
theorem specIsWeight (v1 v2 : Value) (c : List (List Int)) (v : List Int) (hc : c.length ≤ 1099511627776) (hv : v.length ≤ 1099511627776) (w : World) (h1 : II w v1 c) (h2 : I w v2 v) :
    Calls Tryd.prog 40 #[v1, v2] w fun e w' => e = .returned (.bool (isWt c v)) ∧ Below w.heap.size w w' := by
  obtain ⟨g1, o1, c1, hv1, _, _, _⟩ := h1.form
  obtain ⟨g2, o2, c2, rfl, _, _, hc2⟩ := h2.form
  have H2 := Lib.hid hc2
  clear hc2 h2
  subst hv1
  go_enter Tryd.func40, Tryd.ntmps40
  go_wp2_with fail
  go_loop [5] (fun i => ∃ k : Nat, k ≤ v.length ∧ i = .int .i64 k ∧ Hid (∀ j (hj : j < v.length), j < k → -1000 ≤ v[j] ∧ v[j] ≤ 1000)) (fun i => v.length - (intOf i).toNat)
  case atStart => exact ⟨0, by omega, rfl, fun j _ hj => absurd hj (Nat.not_lt_zero j)⟩
  case round =>
    obtain ⟨k, hk, rfl, HG⟩ := hrel
    by_cases hlt' : k < v.length
    · have x1 := H2.out k hlt'
      by_cases hx : -1000 ≤ v[k] ∧ v[k] ≤ 1000
      · have hb : (decide (-1000 ≤ v[k]) && decide (v[k] ≤ 1000)) = true := by simpa using hx
        have HX := Lib.hid hx
        clear hx
        go_wp2_with (go_at_call 62; refine (l1In _ _ _ _).mono ?_; rw [hb]; rintro e w1 ⟨rfl, rfl⟩)
        go_round
        case rel =>
          refine ⟨k + 1, by omega, by go_num, fun j hj hjk => ?_⟩
          by_cases e : j = k
          · subst e; exact HX.out
          · exact HG.out j hj (by omega)
        case measure => simp [intOf]; omega
      · have hb : (decide (-1000 ≤ v[k]) && decide (v[k] ≤ 1000)) = false := by rw [Bool.and_eq_false_iff, decide_eq_false_iff_not, decide_eq_false_iff_not]; omega
        have HF := Lib.hid (isWt_no c v (fun h => hx (h.2.2 _ (List.getElem_mem hlt'))))
        clear hx
        go_wp2_with (go_at_call 62; refine (l1In _ _ _ _).mono ?_; rw [hb]; rintro e w1 ⟨rfl, rfl⟩)
        go_ret
        exact ⟨ret_bool HF.out.symm, Below.refl _ _⟩
    · obtain rfl : k = v.length := by omega
      have hall := all_of v (fun x => -1000 ≤ x ∧ x ≤ 1000) (fun j hj => HG.out j hj hj)
      have HALL := Lib.hid hall
      clear hall
      cases hC : isC c with
      | false =>
        have HF := Lib.hid (isWt_no c v (fun h => by rw [hC] at h; exact absurd h.1 (by simp)))
        have HC := Lib.hid hC
        clear hC
        go_wp2_with (go_at_call 49; refine (specIsCartan _ c hc _ h1).mono ?_; rw [HC.out]; rintro e w1 ⟨rfl, hb1⟩)
        go_ret
        exact ⟨ret_bool HF.out.symm, hb1⟩
      | true =>
        have HC := Lib.hid hC
        clear hC
        by_cases hl : v.length = c.length
        · have HF := Lib.hid ((isWt_iff c v).2 ⟨HC.out, hl, HALL.out⟩)
          have hb : ((v.length : Int) == (c.length : Int)) = true := by rw [beq_iff_eq]; omega
          clear hl
          go_wp2_with (go_at_call 49; refine (specIsCartan _ c hc _ h1).mono ?_; rw [HC.out]; rintro e w1 ⟨rfl, hb1⟩)
          go_ret
          exact ⟨ret_bool HF.out.symm, hb1⟩
        · have HF := Lib.hid (isWt_no c v (fun h => hl h.2.1))
          have hb : ((v.length : Int) == (c.length : Int)) = false := by rw [beq_eq_false_iff_ne]; omega
          clear hl
          go_wp2_with (go_at_call 49; refine (specIsCartan _ c hc _ h1).mono ?_; rw [HC.out]; rintro e w1 ⟨rfl, hb1⟩)
          go_ret
          exact ⟨ret_bool HF.out.symm, hb1⟩
set_option maxHeartbeats 1000000 in
theorem implIsWeight (v1 v2 : Value) (c : List (List Int)) (v : List Int) (hc : c.length ≤ 1099511627776) (hv : v.length ≤ 1099511627776) (w : World) (h1 : II w v1 c) (h2 : I w v2 v) :
    Calls Tryd.prog 41 #[v1, v2] w fun e w' => e = .returned (.bool (isWt c v)) ∧ Below w.heap.size w w' := by
  obtain ⟨g1, o1, c1, hv1, _, _, _⟩ := h1.form
  obtain ⟨g2, o2, c2, rfl, _, _, hc2⟩ := h2.form
  have H2 := Lib.hid hc2
  clear hc2 h2
  subst hv1
  cases hC : isC c with
  | false =>
    have HF := Lib.hid (isWt_no c v (fun h => by rw [hC] at h; exact absurd h.1 (by simp)))
    have HC := Lib.hid hC
    clear hC
    go_enter Tryd.func41, Tryd.ntmps41
    go_wp2_with (go_at_call 28; refine (implIsCartan _ c hc _ h1).mono ?_; rw [HC.out]; rintro e w1 ⟨rfl, hb1⟩)
    go_ret
    exact ⟨ret_bool HF.out.symm, hb1⟩
  | true =>
    have HC := Lib.hid hC
    clear hC
    by_cases hl : v.length = c.length
    · have HL := Lib.hid hl
      have hb : ((v.length : Int) != (c.length : Int)) = false := by rw [bne_eq_false_iff_eq]; omega
      clear hl
      go_enter Tryd.func41, Tryd.ntmps41
      go_wp2_with (go_at_call 28; refine (implIsCartan _ c hc _ h1).mono ?_; rw [HC.out]; rintro e w1 ⟨rfl, hb1⟩)
      go_loopw [19] (fun i wr => ∃ k : Nat, k ≤ v.length ∧ i = .int .i64 k ∧ Below w.heap.size w wr ∧ Hid (∀ j (hj : j < v.length), j < k → -1000 ≤ v[j] ∧ v[j] ≤ 1000)) (fun i _ => v.length - (intOf i).toNat)
      case atStart => exact ⟨0, by omega, rfl, hb1, fun j _ hj => absurd hj (Nat.not_lt_zero j)⟩
      case round =>
        obtain ⟨k, hk, rfl, hbel, HG⟩ := hrel
        by_cases hlt' : k < v.length
        · have x1 := cells_keep hbel (H2.out k hlt')
          by_cases hx : -1000 ≤ v[k] ∧ v[k] ≤ 1000
          · have d1 : decide (v[k] < -1000) = false := by rw [decide_eq_false_iff_not]; omega
            have d2 : decide (1000 < v[k]) = false := by rw [decide_eq_false_iff_not]; omega
            have HX := Lib.hid hx
            clear hx
            go_wp2_with fail
            go_roundw
            case rel =>
              refine ⟨k + 1, by omega, by go_num, hbel, fun j hj hjk => ?_⟩
              by_cases e : j = k
              · subst e; exact HX.out
              · exact HG.out j hj (by omega)
            case measure => simp [intOf]; omega
          · have HF := Lib.hid (isWt_no c v (fun h => hx (h.2.2 _ (List.getElem_mem hlt'))))
            by_cases q : v[k] < -1000
            · have d1 : decide (v[k] < -1000) = true := by rw [decide_eq_true_iff]; exact q
              clear hx q
              go_wp2_with fail
              go_ret
              exact ⟨ret_bool HF.out.symm, hbel⟩
            · have d1 : decide (v[k] < -1000) = false := by rw [decide_eq_false_iff_not]; exact q
              have d2 : decide (1000 < v[k]) = true := by rw [decide_eq_true_iff]; omega
              clear hx q
              go_wp2_with fail
              go_ret
              exact ⟨ret_bool HF.out.symm, hbel⟩
        · obtain rfl : k = v.length := by omega
          have hall := all_of v (fun x => -1000 ≤ x ∧ x ≤ 1000) (fun j hj => HG.out j hj hj)
          have HF := Lib.hid ((isWt_iff c v).2 ⟨HC.out, HL.out, hall⟩)
          clear hall
          go_wp2_with fail
          go_ret
          exact ⟨ret_bool HF.out.symm, hbel⟩
    · have HF := Lib.hid (isWt_no c v (fun h => hl h.2.1))
      have hb : ((v.length : Int) != (c.length : Int)) = true := by rw [bne_iff_ne]; omega
      clear hl
      go_enter Tryd.func41, Tryd.ntmps41
      go_wp2_with (go_at_call 28; refine (implIsCartan _ c hc _ h1).mono ?_; rw [HC.out]; rintro e w1 ⟨rfl, hb1⟩)
      go_ret
      exact ⟨ret_bool HF.out.symm, hb1⟩

def isWd (c : List (List Int)) (v : List Int) : Bool := isC c && decide (v.length ≤ 15) && v.all (isPt c.length)
theorem isWd_iff (c : List (List Int)) (v : List Int) : isWd c v = true ↔ isC c = true ∧ v.length ≤ 15 ∧ ∀ x ∈ v, 0 ≤ x ∧ x < (c.length : Int) := by
  simp only [isWd, Bool.and_eq_true, decide_eq_true_iff, List.all_eq_true, isPt_iff, and_assoc]
theorem isWd_no (c : List (List Int)) (v : List Int) (h : ¬ (isC c = true ∧ v.length ≤ 15 ∧ ∀ x ∈ v, 0 ≤ x ∧ x < (c.length : Int))) : isWd c v = false := by
  cases hp : isWd c v with
  | false => rfl
  | true => exact absurd ((isWd_iff c v).1 hp) h
end Go.Proofs.YtaikjkcbgniplaaDoor
