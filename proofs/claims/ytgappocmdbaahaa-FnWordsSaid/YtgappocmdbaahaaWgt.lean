/- IsWeight, IsWord, RhoOf, SimpleRootWeight, BondOf of the program and of the reference: what they answer, for rows of at most 2^40 numbers. -/
import Derived.Test.YtgappocmdbaahaaCartan
namespace Go.Proofs.Ytgappocmdbaahaa
open Go.RowKit
set_option linter.unusedVariables false

def isPt (n : Nat) (x : Int) : Bool := decide (0 ≤ x) && decide (x < (n : Int))
theorem isPt_iff (n : Nat) (x : Int) : isPt n x = true ↔ 0 ≤ x ∧ x < (n : Int) := by simp [isPt]
theorem isPt_no (n : Nat) (x : Int) (h : ¬ (0 ≤ x ∧ x < (n : Int))) : isPt n x = false := by
  cases hp : isPt n x with
  | false => rfl
  | true => exact absurd ((isPt_iff n x).1 hp) h
theorem isPt_le (n : Nat) (x : Int) : (decide (0 ≤ x) && decide (x ≤ (n : Int) - 1)) = isPt n x := by
  rw [isPt, show decide (x ≤ (n : Int) - 1) = decide (x < (n : Int)) from by rw [decide_eq_decide]; omega]
set_option maxHeartbeats 400000 in
theorem isPoint (v : Value) (c : List (List Int)) (x : Int) (w : World) (h : II w v c) : Calls Try.prog 82 #[v, .int .i64 x] w fun e w' => e = .returned (.bool (isPt c.length x)) ∧ w = w' := by
  obtain ⟨g, o, cap, rfl, _, _, _⟩ := h.form
  clear h
  by_cases h0 : 0 ≤ x
  · by_cases h1 : x < (c.length : Int)
    · have hp := (isPt_iff c.length x).2 ⟨h0, h1⟩
      have HP := Lib.hid hp
      clear hp
      go_enter Try.func82, Try.ntmps82
      go_wp2_with fail
      go_ret
      exact ⟨ret_bool HP.out.symm, rfl⟩
    · have HP := Lib.hid (isPt_no c.length x (by omega))
      have d0 : decide (0 ≤ x) = true := by simpa using h0
      have d1 : decide (x < (c.length : Int)) = false := by simpa using h1
      clear h0 h1
      go_enter Try.func82, Try.ntmps82
      go_wp2_with fail
      go_ret
      exact ⟨ret_bool HP.out.symm, rfl⟩
  · have HP := Lib.hid (isPt_no c.length x (by omega))
    have d0 : decide (0 ≤ x) = false := by simpa using h0
    clear h0
    go_enter Try.func82, Try.ntmps82
    go_wp2_with fail
    go_ret
    exact ⟨ret_bool HP.out.symm, rfl⟩

def inR (x : Int) : Bool := decide (-1000 ≤ x) && decide (x ≤ 1000)
theorem inR_iff (x : Int) : inR x = true ↔ -1000 ≤ x ∧ x ≤ 1000 := by simp [inR]
def isWt (c : List (List Int)) (v : List Int) : Bool := isC c && decide (v.length = c.length) && v.all inR
theorem isWt_iff (c : List (List Int)) (v : List Int) : isWt c v = true ↔ isC c = true ∧ v.length = c.length ∧ ∀ x ∈ v, -1000 ≤ x ∧ x ≤ 1000 := by
  simp only [isWt, Bool.and_eq_true, decide_eq_true_iff, List.all_eq_true, inR_iff, and_assoc]
theorem isWt_no (c : List (List Int)) (v : List Int) (h : ¬ (isC c = true ∧ v.length = c.length ∧ ∀ x ∈ v, -1000 ≤ x ∧ x ≤ 1000)) : isWt c v = false := by
  cases hp : isWt c v with
  | false => rfl
  | true => exact absurd ((isWt_iff c v).1 hp) h
theorem all_of (v : List Int) (p : Int → Prop) (h : ∀ j (hj : j < v.length), p v[j]) : ∀ x ∈ v, p x := fun x hx => by
  obtain ⟨j, hj, rfl⟩ := List.mem_iff_getElem.1 hx
  exact h j hj

def isWd (c : List (List Int)) (v : List Int) : Bool := isC c && decide (v.length ≤ 15) && v.all (isPt c.length)
theorem isWd_iff (c : List (List Int)) (v : List Int) : isWd c v = true ↔ isC c = true ∧ v.length ≤ 15 ∧ ∀ x ∈ v, 0 ≤ x ∧ x < (c.length : Int) := by
  simp only [isWd, Bool.and_eq_true, decide_eq_true_iff, List.all_eq_true, isPt_iff, and_assoc]
theorem isWd_no (c : List (List Int)) (v : List Int) (h : ¬ (isC c = true ∧ v.length ≤ 15 ∧ ∀ x ∈ v, 0 ≤ x ∧ x < (c.length : Int))) : isWd c v = false := by
  cases hp : isWd c v with
  | false => rfl
  | true => exact absurd ((isWd_iff c v).1 hp) h
set_option maxHeartbeats 1000000 in
theorem specIsWord (v1 v2 : Value) (c : List (List Int)) (v : List Int) (hc : c.length ≤ 1099511627776) (hv : v.length ≤ 1099511627776) (w : World) (h1 : II w v1 c) (h2 : I w v2 v) :
    Calls Try.prog 37 #[v1, v2] w fun e w' => e = .returned (.bool (isWd c v)) ∧ Below w.heap.size w w' := by
  obtain ⟨g1, o1, c1, hv1, _, _, _⟩ := h1.form
  obtain ⟨g2, o2, c2, rfl, _, _, hc2⟩ := h2.form
  have H2 := Lib.hid hc2
  clear hc2 h2
  subst hv1
  go_enter Try.func37, Try.ntmps37
  go_wp2_with fail
  go_loop [5] (fun i => ∃ k : Nat, k ≤ v.length ∧ i = .int .i64 k ∧ Hid (∀ j (hj : j < v.length), j < k → 0 ≤ v[j] ∧ v[j] < (c.length : Int))) (fun i => v.length - (intOf i).toNat)
  case atStart => exact ⟨0, by omega, rfl, fun j _ hj => absurd hj (Nat.not_lt_zero j)⟩
  case round =>
    obtain ⟨k, hk, rfl, HG⟩ := hrel
    by_cases hlt' : k < v.length
    · have x1 := H2.out k hlt'
      cases hb : isPt c.length v[k] with
      | true =>
        have HX := Lib.hid ((isPt_iff _ _).1 hb)
        have HB := Lib.hid hb
        clear hb
        go_wp2_with (go_at_call 57; refine (l1In _ _ _ _).mono ?_; rw [isPt_le, HB.out]; rintro e w1 ⟨rfl, rfl⟩)
        go_round
        case rel =>
          refine ⟨k + 1, by omega, by go_num, fun j hj hjk => ?_⟩
          by_cases e : j = k
          · subst e; exact HX.out
          · exact HG.out j hj (by omega)
        case measure => simp [intOf]; omega
      | false =>
        have HF := Lib.hid (isWd_no c v (fun h => by rw [(isPt_iff _ _).2 (h.2.2 _ (List.getElem_mem hlt'))] at hb; cases hb))
        have HB := Lib.hid hb
        clear hb
        go_wp2_with (go_at_call 57; refine (l1In _ _ _ _).mono ?_; rw [isPt_le, HB.out]; rintro e w1 ⟨rfl, rfl⟩)
        go_ret
        exact ⟨ret_bool HF.out.symm, Below.refl _ _⟩
    · obtain rfl : k = v.length := by omega
      have hall := all_of v (fun x => 0 ≤ x ∧ x < (c.length : Int)) (fun j hj => HG.out j hj hj)
      have HALL := Lib.hid hall
      clear hall
      cases hC : isC c with
      | false =>
        have HF := Lib.hid (isWd_no c v (fun h => by rw [hC] at h; exact absurd h.1 (by simp)))
        have HC := Lib.hid hC
        clear hC
        go_wp2_with (go_at_call 54; refine (specIsCartan _ c hc _ h1).mono ?_; rw [HC.out]; rintro e w1 ⟨rfl, hb1⟩)
        go_ret
        exact ⟨ret_bool HF.out.symm, hb1⟩
      | true =>
        have HC := Lib.hid hC
        clear hC
        by_cases hl : v.length ≤ 15
        · have HF := Lib.hid ((isWd_iff c v).2 ⟨HC.out, hl, HALL.out⟩)
          have hb : decide ((v.length : Int) ≤ 15) = true := by rw [decide_eq_true_iff]; omega
          go_wp2_with (go_at_call 54; refine (specIsCartan _ c hc _ h1).mono ?_; rw [HC.out]; rintro e w1 ⟨rfl, hb1⟩)
          go_ret
          exact ⟨ret_bool HF.out.symm, hb1⟩
        · have HF := Lib.hid (isWd_no c v (fun h => hl h.2.1))
          have hb : decide ((v.length : Int) ≤ 15) = false := by rw [decide_eq_false_iff_not]; omega
          go_wp2_with (go_at_call 54; refine (specIsCartan _ c hc _ h1).mono ?_; rw [HC.out]; rintro e w1 ⟨rfl, hb1⟩)
          go_ret
          exact ⟨ret_bool HF.out.symm, hb1⟩
set_option maxHeartbeats 1000000 in
theorem isWordOf (v1 v2 : Value) (c : List (List Int)) (v : List Int) (hv : v.length ≤ 1099511627776) (w : World) (h1 : II w v1 c) (h2 : I w v2 v) :
    Calls Try.prog 67 #[v1, v2] w fun e w' => e = .returned (.bool (v.all (isPt c.length))) ∧ w = w' := by
  obtain ⟨g1, o1, c1, hv1, _, _, _⟩ := h1.form
  obtain ⟨g2, o2, c2, rfl, _, _, hc2⟩ := h2.form
  have H2 := Lib.hid hc2
  clear hc2 h2
  subst hv1
  go_enter Try.func67, Try.ntmps67
  go_wp2_with fail
  go_loop [9] (fun i => ∃ k : Nat, k ≤ v.length ∧ i = .int .i64 k ∧ Hid (∀ j (hj : j < v.length), j < k → isPt c.length v[j] = true)) (fun i => v.length - (intOf i).toNat)
  case atStart => exact ⟨0, by omega, rfl, fun j _ hj => absurd hj (Nat.not_lt_zero j)⟩
  case round =>
    obtain ⟨k, hk, rfl, HG⟩ := hrel
    by_cases hlt' : k < v.length
    · have x1 := H2.out k hlt'
      cases hb : isPt c.length v[k] with
      | true =>
        have HB := Lib.hid hb
        clear hb
        go_wp2_with (go_at_call 82; refine (isPoint _ c _ _ h1).mono ?_; rw [HB.out]; rintro e w1 ⟨rfl, rfl⟩)
        go_round
        case rel =>
          refine ⟨k + 1, by omega, by go_num, fun j hj hjk => ?_⟩
          by_cases e : j = k
          · subst e; exact HB.out
          · exact HG.out j hj (by omega)
        case measure => simp [intOf]; omega
      | false =>
        have hf : v.all (isPt c.length) = false := by
          cases ha : v.all (isPt c.length) with
          | false => rfl
          | true => rw [List.all_eq_true.1 ha _ (List.getElem_mem hlt')] at hb; cases hb
        have HF := Lib.hid hf
        have HB := Lib.hid hb
        clear hb hf
        go_wp2_with (go_at_call 82; refine (isPoint _ c _ _ h1).mono ?_; rw [HB.out]; rintro e w1 ⟨rfl, rfl⟩)
        go_ret
        exact ⟨ret_bool HF.out.symm, rfl⟩
    · obtain rfl : k = v.length := by omega
      have hall : v.all (isPt c.length) = true := List.all_eq_true.2 (all_of v (fun x => isPt c.length x = true) (fun j hj => HG.out j hj hj))
      have HF := Lib.hid hall
      clear hall
      go_wp2_with fail
      go_ret
      exact ⟨ret_bool HF.out.symm, rfl⟩
set_option maxHeartbeats 1000000 in
theorem implIsWord (v1 v2 : Value) (c : List (List Int)) (v : List Int) (hc : c.length ≤ 1099511627776) (hv : v.length ≤ 1099511627776) (w : World) (h1 : II w v1 c) (h2 : I w v2 v) :
    Calls Try.prog 36 #[v1, v2] w fun e w' => e = .returned (.bool (isWd c v)) ∧ Below w.heap.size w w' := by
  obtain ⟨g2, o2, c2, hv2, _, _, _⟩ := h2.form
  subst hv2
  cases hC : isC c with
  | false =>
    have HF := Lib.hid (isWd_no c v (fun h => by rw [hC] at h; exact absurd h.1 (by simp)))
    have HC := Lib.hid hC
    clear hC
    go_enter Try.func36, Try.ntmps36
    go_wp2_with (go_at_call 55; refine (implIsCartan _ c hc _ h1).mono ?_; rw [HC.out]; rintro e w1 ⟨rfl, hb1⟩)
    go_ret
    exact ⟨ret_bool HF.out.symm, hb1⟩
  | true =>
    have HC := Lib.hid hC
    clear hC
    by_cases hl : v.length ≤ 15
    · have hf : isWd c v = v.all (isPt c.length) := by rw [isWd, HC.out, decide_eq_true hl]; rfl
      have HF := Lib.hid hf
      clear hf
      have hb : decide ((v.length : Int) ≤ 15) = true := by rw [decide_eq_true_iff]; omega
      go_enter Try.func36, Try.ntmps36
      go_wp2_with fail
      refine (implIsCartan _ c hc _ h1).mono ?_
      rw [HC.out]
      rintro e w1 ⟨rfl, hb1⟩
      have k1 := h1.keep hb1
      have k2 := h2.keep hb1
      clear h1 h2
      go_wp2_with fail
      refine (isWordOf _ _ c v hv _ k1 k2).mono ?_
      rintro e w2 ⟨rfl, rfl⟩
      go_wp2_with fail
      go_ret
      exact ⟨ret_bool HF.out.symm, hb1⟩
    · have HF := Lib.hid (isWd_no c v (fun h => hl h.2.1))
      have hb : decide ((v.length : Int) ≤ 15) = false := by rw [decide_eq_false_iff_not]; omega
      go_enter Try.func36, Try.ntmps36
      go_wp2_with (go_at_call 55; refine (implIsCartan _ c hc _ h1).mono ?_; rw [HC.out]; rintro e w1 ⟨rfl, hb1⟩)
      go_ret
      exact ⟨ret_bool HF.out.symm, hb1⟩
end Go.Proofs.Ytgappocmdbaahaa
