/- EqualCartans of the program and of the reference (and slices.EqualFunc at slices.Equal): are the rows the same, for at most 2^40 numbers. -/
import Derived.Test.YtaikjkcbgniplaaGreatDoorMat
import Derived.Test.YtaikjkcbgniplaaGreatDoorCmp
import Derived.Test.YtaikjkcbgniplaaGreatDoorCartan
namespace Go.Proofs.YtaikjkcbgniplaaGreatDoor
open Go.RowKit
set_option linter.unusedVariables false

theorem eqII_no {a b : List (List Int)} (h : a ≠ b) : eqII a b = false := by rw [eqII, beq_eq_false_iff_ne]; exact h
theorem eqII_yes {a b : List (List Int)} (h : a = b) : eqII a b = true := by rw [eqII, beq_iff_eq]; exact h
set_option maxHeartbeats 2000000 in
theorem specEqualCartans (v1 v2 : Value) (a b : List (List Int)) (ha : total a ≤ 1099511627776) (w : World) (h1 : II w v1 a) (h2 : II w v2 b) :
    Calls Tryz.prog 71 #[v1, v2] w fun e w' => e = .returned (.bool (eqII a b)) ∧ Below w.heap.size w w' := by
  obtain ⟨g1, o1, c1, rfl, _, _, hc1⟩ := h1.form
  obtain ⟨g2, o2, c2, rfl, _, _, hc2⟩ := h2.form
  have H1 := Lib.hid hc1
  have H2 := Lib.hid hc2
  have hT : a.length ≤ 1099511627776 := by unfold total at ha; omega
  have HT : Hid (a.length + ints a ≤ 1099511627776) := ha
  clear hc1 hc2 h1 h2 ha
  by_cases hl : a.length = b.length
  rotate_left
  · have dl : ((a.length : Int) != (b.length : Int)) = true := by rw [bne_iff_ne]; omega
    have HF := Lib.hid (eqII_no (fun e : a = b => hl (by rw [e])))
    clear hl
    go_enter Tryz.func71, Tryz.ntmps71
    go_wp2_with fail
    go_ret
    exact ⟨ret_bool HF.out.symm, Below.refl _ _⟩
  have hL := Lib.hid hl
  have dl : ((a.length : Int) != (b.length : Int)) = false := by rw [bne_eq_false_iff_eq]; omega
  clear hl
  go_enter Tryz.func71, Tryz.ntmps71
  go_wp2_with fail
  go_loopw [5] (fun i wr => ∃ k : Nat, k ≤ a.length ∧ i = .int .i64 k ∧ Below w.heap.size w wr ∧ Hid (∀ j (h1 : j < a.length) (h2 : j < b.length), j < k → a[j] = b[j])) (fun i _ => a.length - (intOf i).toNat)
  case atStart => exact ⟨0, by omega, rfl, Below.refl _ _, fun j _ _ h => absurd h (Nat.not_lt_zero j)⟩
  case round =>
    obtain ⟨k, hk, rfl, hbel, HE⟩ := hrel
    by_cases hlt' : k < a.length
    · have hlt2 : k < b.length := by have := hL.out; omega
      obtain ⟨r1, y1, i1⟩ := H1.out k hlt'
      obtain ⟨r2, y2, i2⟩ := H2.out k hlt2
      have hle : a[k].length ≤ 1099511627776 := by have := ints_row a k hlt'; have := HT.out; omega
      obtain ⟨ra, hra⟩ : ∃ ra, a[k] = ra := ⟨_, rfl⟩
      obtain ⟨rb, hrb⟩ : ∃ rb, b[k] = rb := ⟨_, rfl⟩
      rw [hra] at i1 hle
      rw [hrb] at i2
      have HRA := Lib.hid hra
      have HRB := Lib.hid hrb
      clear hra hrb
      obtain ⟨gi, oi, ci, rfl, _, _, q1⟩ := i1.form
      obtain ⟨gj, oj, cj, rfl, _, _, q2⟩ := i2.form
      have Q1 := Lib.hid q1
      have Q2 := Lib.hid q2
      clear i1 i2 q1 q2
      have x1 := cells_keep hbel y1
      have x2 := cells_keep hbel y2
      have hk0 : (0 : Int) ≤ (k : Int) := by omega
      have hk1 : (k : Int) < (a.length : Int) := by omega
      have hk2 : (k : Int) < (b.length : Int) := by omega
      by_cases hm : ra.length = rb.length
      rotate_left
      · have dm : ((ra.length : Int) != (rb.length : Int)) = true := by rw [bne_iff_ne]; omega
        have HF := Lib.hid (eqII_no (fun e : a = b => hm (by rw [← HRA.out, ← HRB.out]; subst e; rfl)))
        clear hm
        go_wp2_with fail
        go_quiet (fail)
        go_wp2_with fail
        go_ret
        exact ⟨ret_bool HF.out.symm, below_drewN hbel nq⟩
      have hM := Lib.hid hm
      have dm : ((ra.length : Int) != (rb.length : Int)) = false := by rw [bne_eq_false_iff_eq]; omega
      clear hm
      go_wp2_with fail
      go_quiet (fail)
      replace hbel := below_drewN hbel nq
      clear x1 x2
      obtain ⟨wo, hwo⟩ : ∃ wo : World, wo = wr.drewN nq := ⟨_, rfl⟩
      rw [← hwo] at hbel
      rw [← hwo]
      clear hwo
      go_wp2_with fail
      go_loopw [6] (fun i wr => ∃ m : Nat, m ≤ ra.length ∧ i = .int .i64 m ∧ Below w.heap.size w wr ∧ Hid (∀ j (h1 : j < ra.length) (h2 : j < rb.length), j < m → ra[j] = rb[j])) (fun i _ => ra.length - (intOf i).toNat)
      case atStart => exact ⟨0, by omega, rfl, hbel, fun j _ _ h => absurd h (Nat.not_lt_zero j)⟩
      case round =>
        obtain ⟨m, hm, rfl, hbi, HJ⟩ := hrel
        have x1 := cells_keep hbi y1
        have x2 := cells_keep hbi y2
        by_cases hlm : m < ra.length
        · have hlm2 : m < rb.length := by have := hM.out; omega
          have z1 := Q1.out m hlm
          have z2 := Q2.out m hlm2
          have hm0 : (0 : Int) ≤ (m : Int) := by omega
          have hm1 : (m : Int) < (ra.length : Int) := by omega
          have hm2 : (m : Int) < (rb.length : Int) := by omega
          by_cases he : ra[m] = rb[m]
          · have HK := Lib.hid he
            obtain ⟨x, hx⟩ : ∃ x, ra[m] = x := ⟨_, rfl⟩
            obtain ⟨y, hy⟩ : ∃ y, rb[m] = y := ⟨_, rfl⟩
            rw [hx] at z1 he
            rw [hy] at z2 he
            clear hx hy
            have hb : (x != y) = false := by rw [bne_eq_false_iff_eq]; exact he
            clear he
            have x3 := cells_keep hbi z1
            have x4 := cells_keep hbi z2
            go_wp2_with fail
            go_quiet (fail)
            go_wp2_with fail
            go_roundw
            case rel =>
              refine ⟨m + 1, by omega, by go_num, below_drewN hbi nq, fun j q1 q2 hj => ?_⟩
              by_cases e : j = m
              · subst e; exact HK.out
              · exact HJ.out j q1 q2 (by omega)
            case measure => simp [intOf]; omega
          · have HF := Lib.hid (eqII_no (fun e : a = b => he (by
              have h3 : ra = rb := by rw [← HRA.out, ← HRB.out]; subst e; rfl
              subst h3; rfl)))
            obtain ⟨x, hx⟩ : ∃ x, ra[m] = x := ⟨_, rfl⟩
            obtain ⟨y, hy⟩ : ∃ y, rb[m] = y := ⟨_, rfl⟩
            rw [hx] at z1 he
            rw [hy] at z2 he
            clear hx hy
            have hb : (x != y) = true := by rw [bne_iff_ne]; exact he
            clear he
            have x3 := cells_keep hbi z1
            have x4 := cells_keep hbi z2
            go_wp2_with fail
            go_quiet (fail)
            go_wp2_with fail
            go_ret
            exact ⟨ret_bool HF.out.symm, below_drewN hbi nq⟩
        · obtain rfl : m = ra.length := by omega
          have HK := Lib.hid (show ra = rb from List.ext_getElem hM.out (fun j q1 q2 => HJ.out j q1 q2 q1))
          go_wp2_with fail
          go_roundw
          case rel =>
            refine ⟨k + 1, by omega, by go_num, hbi, fun j q1 q2 hj => ?_⟩
            by_cases e : j = k
            · subst e; exact HRA.out.trans (HK.out.trans HRB.out.symm)
            · exact HE.out j q1 q2 (by omega)
          case measure => simp [intOf]; omega
    · obtain rfl : k = a.length := by omega
      have HF := Lib.hid (eqII_yes (List.ext_getElem hL.out (fun j q1 q2 => HE.out j q1 q2 q1)))
      go_wp2_with fail
      go_ret
      exact ⟨ret_bool HF.out.symm, hbel⟩
set_option maxHeartbeats 2000000 in
theorem implEqualCartans (v1 v2 : Value) (a b : List (List Int)) (ha : total a ≤ 1099511627776) (w : World) (h1 : II w v1 a) (h2 : II w v2 b) :
    Calls Tryz.prog 70 #[v1, v2] w fun e w' => e = .returned (.bool (eqII a b)) ∧ Below w.heap.size w w' := by
  obtain ⟨g1, o1, c1, rfl, _, _, hc1⟩ := h1.form
  obtain ⟨g2, o2, c2, rfl, _, _, hc2⟩ := h2.form
  have H1 := Lib.hid hc1
  have H2 := Lib.hid hc2
  have hT : a.length ≤ 1099511627776 := by unfold total at ha; omega
  have HT : Hid (a.length + ints a ≤ 1099511627776) := ha
  clear hc1 hc2 h1 h2 ha
  go_enter Tryz.func70, Tryz.ntmps70
  go_wp2_with fail
  refine Calls.mono (R := fun e w' => e = .returned (.bool (eqII a b)) ∧ Below w.heap.size w w') ?_ ?_
  · by_cases hl : a.length = b.length
    rotate_left
    · have dl : ((a.length : Int) != (b.length : Int)) = true := by rw [bne_iff_ne]; omega
      have HF := Lib.hid (eqII_no (fun e : a = b => hl (by rw [e])))
      clear hl
      go_enter Tryz.func111, Tryz.ntmps111
      go_wp2_with fail
      go_ret
      exact ⟨ret_bool HF.out.symm, Below.refl _ _⟩
    have hL := Lib.hid hl
    have dl : ((a.length : Int) != (b.length : Int)) = false := by rw [bne_eq_false_iff_eq]; omega
    clear hl
    go_enter Tryz.func111, Tryz.ntmps111
    go_wp2_with fail
    go_loopw [17] (fun i wr => ∃ k : Nat, k ≤ a.length ∧ i = .int .i64 k ∧ Below w.heap.size w wr ∧ Hid (∀ j (h1 : j < a.length) (h2 : j < b.length), j < k → a[j] = b[j])) (fun i _ => a.length - (intOf i).toNat)
    case atStart => exact ⟨0, by omega, rfl, Below.refl _ _, fun j _ _ h => absurd h (Nat.not_lt_zero j)⟩
    case round =>
      obtain ⟨k, hk, rfl, hbel, HE⟩ := hrel
      by_cases hlt' : k < a.length
      · have hlt2 : k < b.length := by have := hL.out; omega
        obtain ⟨r1, y1, i1⟩ := H1.out k hlt'
        obtain ⟨r2, y2, i2⟩ := H2.out k hlt2
        have hle : a[k].length ≤ 1099511627776 := by have := ints_row a k hlt'; have := HT.out; omega
        have j1 := i1.keep hbel
        have j2 := i2.keep hbel
        obtain ⟨ra, hra⟩ : ∃ ra, a[k] = ra := ⟨_, rfl⟩
        obtain ⟨rb, hrb⟩ : ∃ rb, b[k] = rb := ⟨_, rfl⟩
        rw [hra] at j1 hle
        rw [hrb] at j2
        have HRA := Lib.hid hra
        have HRB := Lib.hid hrb
        clear hra hrb i1 i2
        have x1 := cells_keep hbel y1
        have x2 := cells_keep hbel y2
        have hk0 : (0 : Int) ≤ (k : Int) := by omega
        have hk1 : (k : Int) < (a.length : Int) := by omega
        have hk2 : (k : Int) < (b.length : Int) := by omega
        cases he : eqI ra rb with
        | true =>
          have HK := Lib.hid he
          clear he
          go_wp2_with fail
          refine (slicesEqual _ _ ra rb hle _ j1 j2).mono ?_
          rw [HK.out]
          rintro e w1 ⟨rfl, hb1⟩
          go_wp2_with fail
          go_roundw
          case rel =>
            refine ⟨k + 1, by omega, by go_num, below_trans hbel hb1, fun j q1 q2 hj => ?_⟩
            by_cases e : j = k
            · subst e; exact HRA.out.trans ((eqI_true HK.out).trans HRB.out.symm)
            · exact HE.out j q1 q2 (by omega)
          case measure => simp [intOf]; omega
        | false =>
          have HK := Lib.hid he
          have HF := Lib.hid (eqII_no (fun e : a = b => by
            have h3 : ra = rb := by rw [← HRA.out, ← HRB.out]; subst e; rfl
            rw [h3, eqI_refl] at he
            cases he))
          clear he
          go_wp2_with fail
          refine (slicesEqual _ _ ra rb hle _ j1 j2).mono ?_
          rw [HK.out]
          rintro e w1 ⟨rfl, hb1⟩
          go_wp2_with fail
          go_ret
          exact ⟨ret_bool HF.out.symm, below_trans hbel hb1⟩
      · obtain rfl : k = a.length := by omega
        have HF := Lib.hid (eqII_yes (List.ext_getElem hL.out (fun j q1 q2 => HE.out j q1 q2 q1)))
        go_wp2_with fail
        go_ret
        exact ⟨ret_bool HF.out.symm, hbel⟩
  · rintro e w1 ⟨rfl, hb1⟩
    go_wp2_with fail
    go_ret
    exact ⟨rfl, hb1⟩
end Go.Proofs.YtaikjkcbgniplaaGreatDoor
