/- IsCartan of the program and of the reference: both answer whether the rows are a Cartan matrix of rank 1 to 4, for at most 2^40 numbers. -/
import Derived.Test.YtaikjkcbgniplaaGreatDoorInts
import Derived.Deep.QuietTactic
import Derived.BigQuiet
import Derived.WalkSmall
namespace Go.Proofs.YtaikjkcbgniplaaGreatDoor
open Go.RowKit
set_option linter.unusedVariables false

def ent (c : List (List Int)) (i j : Nat) : Int := (c.getD i []).getD j 0
def OkE (c : List (List Int)) (i j : Nat) : Prop := if i = j then ent c i j = 2 else (-3 ≤ ent c i j ∧ ent c i j ≤ 0 ∧ (ent c i j = 0 ↔ ent c j i = 0))
instance (c : List (List Int)) (i j : Nat) : Decidable (OkE c i j) := by unfold OkE; infer_instance
def IsC (c : List (List Int)) : Prop := 1 ≤ c.length ∧ c.length ≤ 4 ∧ (∀ r ∈ c, r.length = c.length) ∧ ∀ i, i < c.length → ∀ j, j < c.length → OkE c i j
instance (c : List (List Int)) : Decidable (IsC c) := by unfold IsC; infer_instance
/-- Is c a Cartan matrix? -/
def isC (c : List (List Int)) : Bool := decide (IsC c)
theorem isC_iff (c : List (List Int)) : isC c = true ↔ IsC c := by simp [isC]
theorem isC_false (c : List (List Int)) (h : ¬ IsC c) : isC c = false := by simp [isC, h]
theorem ent_get (c : List (List Int)) (i j : Nat) (hi : i < c.length) (hj : j < c[i].length) : ent c i j = c[i][j] := by simp [ent, hi, hj]
theorem isC_row (c : List (List Int)) (k : Nat) (h : k < c.length) (hl : c[k].length ≠ c.length) : isC c = false := isC_false c (fun hc => hl (hc.2.2.1 _ (List.getElem_mem h)))
theorem isC_ent (c : List (List Int)) (i j : Nat) (hi : i < c.length) (hj : j < c.length) (h : ¬ OkE c i j) : isC c = false := isC_false c (fun hc => h (hc.2.2.2 i hi j hj))
def Sq (c : List (List Int)) : Prop := ∀ k (h : k < c.length), c[k].length = c.length
def Good (c : List (List Int)) (i j : Nat) : Prop := ∀ a b, a < c.length → b < c.length → (a < i ∨ a = i ∧ b < j) → OkE c a b
theorem Good.zero (c : List (List Int)) : Good c 0 0 := fun a b _ _ h => by omega
theorem Good.next {c : List (List Int)} {i j : Nat} (h : Good c i j) (hk : OkE c i j) : Good c i (j + 1) := fun a b ha hb hab => by
  by_cases e : a = i ∧ b = j
  · obtain ⟨rfl, rfl⟩ := e; exact hk
  · exact h a b ha hb (by omega)
theorem Good.line {c : List (List Int)} {i : Nat} (h : Good c i c.length) : Good c (i + 1) 0 := fun a b ha hb hab => h a b ha hb (by omega)
theorem isC_all (c : List (List Int)) (h : Sq c) (hg : Good c c.length 0) : isC c = (decide ((1 : Int) ≤ c.length) && decide ((c.length : Int) ≤ 4)) := by
  rw [Bool.eq_iff_iff, isC_iff, Bool.and_eq_true, decide_eq_true_iff, decide_eq_true_iff]
  constructor
  · intro hc; have := hc.1; have := hc.2.1; omega
  · rintro ⟨h1, h2⟩
    refine ⟨by omega, by omega, fun r hr => ?_, fun i hi j hj => hg i j hi hj (by omega)⟩
    obtain ⟨k, hk, rfl⟩ := List.mem_iff_getElem.1 hr
    exact h k hk
theorem okE_diag (c : List (List Int)) (i j : Nat) (e : i = j) (x : Int) (hx : ent c i j = x) : OkE c i j ↔ x = 2 := by
  subst e; subst hx; simp [OkE]
theorem okE_off (c : List (List Int)) (i j : Nat) (e : i ≠ j) (x y : Int) (hx : ent c i j = x) (hy : ent c j i = y) : OkE c i j ↔ (-3 ≤ x ∧ x ≤ 0 ∧ (x = 0 ↔ y = 0)) := by
  subst hx; subst hy; simp [OkE, e]

/-- The cells of row i, and one of them. -/
theorem II.at {w : World} {g o : Nat} {c : List (List Int)} (H : ∀ i (hi : i < c.length), ∃ r, w.cell? ⟨g, o + i, none⟩ = some r ∧ I w r c[i]) {i j : Nat} (hi : i < c.length) (hj : j < c[i].length) :
    ∃ gi oi ci x, w.cell? ⟨g, o + i, none⟩ = some (.slice (some ⟨gi, oi, none⟩) c[i].length ci) ∧ w.cell? ⟨gi, oi + j, none⟩ = some (.int .i64 x) ∧ ent c i j = x := by
  obtain ⟨r, h1, h2⟩ := H i hi
  obtain ⟨gi, oi, ci, rfl, _, _, hc⟩ := h2.form
  exact ⟨gi, oi, ci, c[i][j], h1, hc j hj, ent_get c i j hi hj⟩
theorem cells_keep {w w' : World} (hb : Below w.heap.size w w') {a : Addr} {u : Value} (h : w.cell? a = some u) : w'.cell? a = some u := (hb.cell (World.block_lt_of_cell? w _ h)).trans h

set_option maxHeartbeats 8000000 in
theorem specIsCartan (v : Value) (c : List (List Int)) (hc0 : c.length ≤ 1099511627776) (w : World) (h : II w v c) :
    Calls Tryz.prog 44 #[v] w fun e w' => e = .returned (.bool (isC c)) ∧ Below w.heap.size w w' := by
  obtain ⟨g, o, cap, rfl, _, _, hcell⟩ := h.form
  have HC := Lib.hid hcell
  clear hcell h
  go_enter Tryz.func44, Tryz.ntmps44
  go_wp2_with fail
  go_loop [3] (fun i => ∃ k : Nat, k ≤ c.length ∧ i = .int .i64 k ∧ Hid (∀ j (hj : j < c.length), j < k → c[j].length = c.length)) (fun i => c.length - (intOf i).toNat)
  case atStart => exact ⟨0, by omega, rfl, fun j _ hj => absurd hj (Nat.not_lt_zero j)⟩
  case round =>
    obtain ⟨k, hk, rfl, HS⟩ := hrel
    by_cases hlt' : k < c.length
    · obtain ⟨r, hrow, hr⟩ := HC.out k hlt'
      obtain ⟨gi, oi, ci, rfl, _, _, _⟩ := hr.form
      clear hr
      by_cases hle : c[k].length = c.length
      · have d1 : ((c[k].length : Int) != (c.length : Int)) = false := by rw [bne_eq_false_iff_eq]; omega
        have HL := Lib.hid hle
        clear hle
        go_wp2_with fail
        go_round
        case rel =>
          refine ⟨k + 1, by omega, by go_num, fun j hj hjk => ?_⟩
          by_cases e : j = k
          · subst e; exact HL.out
          · exact HS.out j hj (by omega)
        case measure => simp [intOf]; omega
      · have d1 : ((c[k].length : Int) != (c.length : Int)) = true := by rw [bne_iff_ne]; omega
        have HF := Lib.hid (isC_row c k hlt' hle)
        clear hle
        go_wp2_with fail
        go_ret
        exact ⟨ret_bool HF.out.symm, Below.refl _ _⟩
    · have HSq : Hid (Sq c) := fun j hj => HS.out j hj (by omega)
      obtain rfl : k = c.length := by omega
      clear HS
      go_wp2_with fail
      go_loopw [4] (fun i wr => ∃ k : Nat, k ≤ c.length ∧ i = .int .i64 k ∧ Below w.heap.size w wr ∧ Hid (Good c k 0)) (fun i _ => c.length - (intOf i).toNat)
      case atStart => exact ⟨0, by omega, rfl, Below.refl _ _, Good.zero c⟩
      case round =>
        obtain ⟨i, hi0, rfl, hbel, HG⟩ := hrel
        by_cases hi : i < c.length
        · obtain ⟨wo, rfl⟩ : ∃ wo : World, wo = wr := ⟨_, rfl⟩
          go_wp2_with fail
          go_loopw [5] (fun x wr => ∃ k : Nat, k ≤ c.length ∧ x = .int .i64 k ∧ Below w.heap.size w wr ∧ Hid (Good c i k)) (fun x _ => c.length - (intOf x).toNat)
          case atStart => exact ⟨0, by omega, rfl, hbel, HG⟩
          case round =>
            obtain ⟨j, hj0, rfl, hbi, HGi⟩ := hrel
            by_cases hj : j < c.length
            · have sq := HSq.out
              obtain ⟨gi, oi, ci, x, y1, y2, hx⟩ := II.at HC.out hi (by rw [sq i hi]; exact hj)
              obtain ⟨gj, oj, cj, y, y3, y4, hy⟩ := II.at HC.out hj (by rw [sq j hj]; exact hi)
              have x1 := cells_keep hbi y1
              have x2 := cells_keep hbi y2
              have x3 := cells_keep hbi y3
              have x4 := cells_keep hbi y4
              have hk0 : (0 : Int) ≤ (i : Int) := by omega
              have hk1 : (i : Int) < (c.length : Int) := by omega
              have hk2 : (0 : Int) ≤ (j : Int) := by omega
              have hk3 : (j : Int) < (c.length : Int) := by omega
              have hk4 : (j : Int) < (c[i].length : Int) := by rw [sq i hi]; omega
              have hk5 : (i : Int) < (c[j].length : Int) := by rw [sq j hj]; omega
              clear y1 y2 y3 y4 sq
              by_cases hij : i = j
              · have HK := Lib.hid (okE_diag c i j hij x hx)
                have d1 : ((i : Int) == (j : Int)) = true := by rw [beq_iff_eq]; omega
                have d2 : ((i : Int) != (j : Int)) = false := by rw [bne_eq_false_iff_eq]; omega
                clear hij
                by_cases h2 : x = 2
                · have d3 : (x != 2) = false := by rw [bne_eq_false_iff_eq]; exact h2
                  have HK2 := Lib.hid (HK.out.2 h2)
                  clear h2 hx hy
                  go_wp2_with fail
                  go_quiet ((go_at_call 85; exact Calls.quiet_of_same (l1InQ _ _ _ _)))
                  go_wp2_with fail
                  go_roundw
                  case rel => exact ⟨j + 1, by omega, by go_num, below_drewN hbi nq, HGi.out.next HK2.out⟩
                  case measure => simp [intOf]; omega
                · have d3 : (x != 2) = true := by rw [bne_iff_ne]; exact h2
                  have HF := Lib.hid (isC_ent c i j hi hj (fun h => h2 (HK.out.1 h)))
                  clear h2 hx hy
                  go_wp2_with fail
                  go_quiet ((go_at_call 85; exact Calls.quiet_of_same (l1InQ _ _ _ _)))
                  go_wp2_with fail
                  go_ret
                  exact ⟨ret_bool HF.out.symm, below_drewN hbi nq⟩
              · have HK := Lib.hid (okE_off c i j hij x y hx hy)
                have d1 : ((i : Int) == (j : Int)) = false := by rw [beq_eq_false_iff_ne]; omega
                have d2 : ((i : Int) != (j : Int)) = true := by rw [bne_iff_ne]; omega
                clear hij hx hy
                by_cases q1 : -3 ≤ x
                · by_cases q2 : x ≤ 0
                  · have f1 : decide (-3 ≤ x) = true := by simpa using q1
                    have f2 : decide (x ≤ 0) = true := by simpa using q2
                    by_cases z1 : x = 0
                    · have e1 : (x == 0) = true := by rw [beq_iff_eq]; exact z1
                      by_cases z2 : y = 0
                      · have e2 : (y == 0) = true := by rw [beq_iff_eq]; exact z2
                        have HK2 := Lib.hid (HK.out.2 ⟨q1, q2, by simp [z1, z2]⟩)
                        clear z1 z2 q1 q2
                        go_wp2_with fail
                        go_quiet ((go_at_call 85; exact Calls.quiet_of_same (l1InQ _ _ _ _)))
                        go_wp2_with fail
                        go_roundw
                        case rel => exact ⟨j + 1, by omega, by go_num, below_drewN hbi nq, HGi.out.next HK2.out⟩
                        case measure => simp [intOf]; omega
                      · have e2 : (y == 0) = false := by rw [beq_eq_false_iff_ne]; exact z2
                        have HF := Lib.hid (isC_ent c i j hi hj (fun h => z2 ((HK.out.1 h).2.2.1 z1)))
                        clear z1 z2 q1 q2
                        go_wp2_with fail
                        go_quiet ((go_at_call 85; exact Calls.quiet_of_same (l1InQ _ _ _ _)))
                        go_wp2_with fail
                        go_ret
                        exact ⟨ret_bool HF.out.symm, below_drewN hbi nq⟩
                    · have e1 : (x == 0) = false := by rw [beq_eq_false_iff_ne]; exact z1
                      by_cases z2 : y = 0
                      · have e2 : (y == 0) = true := by rw [beq_iff_eq]; exact z2
                        have HF := Lib.hid (isC_ent c i j hi hj (fun h => z1 ((HK.out.1 h).2.2.2 z2)))
                        clear z1 z2 q1 q2
                        go_wp2_with fail
                        go_quiet ((go_at_call 85; exact Calls.quiet_of_same (l1InQ _ _ _ _)))
                        go_wp2_with fail
                        go_ret
                        exact ⟨ret_bool HF.out.symm, below_drewN hbi nq⟩
                      · have e2 : (y == 0) = false := by rw [beq_eq_false_iff_ne]; exact z2
                        have HK2 := Lib.hid (HK.out.2 ⟨q1, q2, by simp [z1, z2]⟩)
                        clear z1 z2 q1 q2
                        go_wp2_with fail
                        go_quiet ((go_at_call 85; exact Calls.quiet_of_same (l1InQ _ _ _ _)))
                        go_wp2_with fail
                        go_roundw
                        case rel => exact ⟨j + 1, by omega, by go_num, below_drewN hbi nq, HGi.out.next HK2.out⟩
                        case measure => simp [intOf]; omega
                  · have f1 : decide (-3 ≤ x) = true := by simp; omega
                    have f2 : decide (x ≤ 0) = false := by simp; omega
                    have HF := Lib.hid (isC_ent c i j hi hj (fun h => q2 (HK.out.1 h).2.1))
                    clear q1 q2
                    go_wp2_with fail
                    go_quiet ((go_at_call 85; exact Calls.quiet_of_same (l1InQ _ _ _ _)))
                    go_wp2_with fail
                    go_ret
                    exact ⟨ret_bool HF.out.symm, below_drewN hbi nq⟩
                · have f1 : decide (-3 ≤ x) = false := by simp; omega
                  have HF := Lib.hid (isC_ent c i j hi hj (fun h => q1 (HK.out.1 h).1))
                  clear q1
                  go_wp2_with fail
                  go_quiet ((go_at_call 85; exact Calls.quiet_of_same (l1InQ _ _ _ _)))
                  go_wp2_with fail
                  go_ret
                  exact ⟨ret_bool HF.out.symm, below_drewN hbi nq⟩
            · obtain rfl : j = c.length := by omega
              go_wp2_with fail
              go_roundw
              case rel => exact ⟨i + 1, by omega, by go_num, hbi, HGi.out.line⟩
              case measure => simp [intOf]; omega
        · obtain rfl : i = c.length := by omega
          have HA := Lib.hid (isC_all c HSq.out HG.out)
          go_wp2_with (go_at_call 85; refine (l1In _ _ _ _).mono ?_; rintro e w1 ⟨rfl, rfl⟩)
          go_ret
          exact ⟨ret_bool HA.out.symm, hbel⟩

set_option maxHeartbeats 8000000 in
theorem implIsCartan (v : Value) (c : List (List Int)) (hc0 : c.length ≤ 1099511627776) (w : World) (h : II w v c) :
    Calls Tryz.prog 56 #[v] w fun e w' => e = .returned (.bool (isC c)) ∧ Below w.heap.size w w' := by
  obtain ⟨g, o, cap, rfl, _, _, hcell⟩ := h.form
  have HC := Lib.hid hcell
  clear hcell h
  by_cases hn1 : c.length < 1
  · have hf : isC c = false := isC_false c (fun hc => by have := hc.1; omega)
    have HF := Lib.hid hf
    clear hf
    go_enter Tryz.func56, Tryz.ntmps56
    go_wp2_with fail
    go_ret
    exact ⟨ret_bool HF.out.symm, Below.refl _ _⟩
  · by_cases hn4 : 4 < c.length
    · have hf : isC c = false := isC_false c (fun hc => by have := hc.2.1; omega)
      have HF := Lib.hid hf
      have d0 : decide ((c.length : Int) < 1) = false := by rw [decide_eq_false_iff_not]; omega
      clear hf
      go_enter Tryz.func56, Tryz.ntmps56
      go_wp2_with fail
      go_ret
      exact ⟨ret_bool HF.out.symm, Below.refl _ _⟩
    · have d0 : decide ((c.length : Int) < 1) = false := by rw [decide_eq_false_iff_not]; omega
      have d0' : decide ((4 : Int) < (c.length : Int)) = false := by rw [decide_eq_false_iff_not]; omega
      have d0n : decide (4 < c.length) = false := by rw [decide_eq_false_iff_not]; exact hn4
      have d1n : decide (c.length < 1) = false := by rw [decide_eq_false_iff_not]; exact hn1
      go_enter Tryz.func56, Tryz.ntmps56
      go_wp2_with fail
      go_loop [19] (fun i => ∃ k : Nat, k ≤ c.length ∧ i = .int .i64 k ∧ Hid (∀ j (hj : j < c.length), j < k → c[j].length = c.length)) (fun i => c.length - (intOf i).toNat)
      case atStart => exact ⟨0, by omega, rfl, fun j _ hj => absurd hj (Nat.not_lt_zero j)⟩
      case round =>
        obtain ⟨k, hk, rfl, HS⟩ := hrel
        by_cases hlt' : k < c.length
        · obtain ⟨r, hrow, hr⟩ := HC.out k hlt'
          obtain ⟨gi, oi, ci, rfl, _, _, _⟩ := hr.form
          clear hr
          by_cases hle : c[k].length = c.length
          · have d1 : ((c[k].length : Int) != (c.length : Int)) = false := by rw [bne_eq_false_iff_eq]; omega
            have HL := Lib.hid hle
            clear hle
            go_wp2_with fail
            go_round
            case rel =>
              refine ⟨k + 1, by omega, by go_num, fun j hj hjk => ?_⟩
              by_cases e : j = k
              · subst e; exact HL.out
              · exact HS.out j hj (by omega)
            case measure => simp [intOf]; omega
          · have d1 : ((c[k].length : Int) != (c.length : Int)) = true := by rw [bne_iff_ne]; omega
            have HF := Lib.hid (isC_row c k hlt' hle)
            clear hle
            go_wp2_with fail
            go_ret
            exact ⟨ret_bool HF.out.symm, Below.refl _ _⟩
        · have HSq : Hid (Sq c) := fun j hj => HS.out j hj (by omega)
          obtain rfl : k = c.length := by omega
          clear HS
          go_wp2_with fail
          go_loop [29] (fun i => ∃ k : Nat, k ≤ c.length ∧ i = .int .i64 k ∧ Hid (Good c k 0)) (fun i => c.length - (intOf i).toNat)
          case atStart => exact ⟨0, by omega, rfl, Good.zero c⟩
          case round =>
            obtain ⟨i, hi0, rfl, HG⟩ := hrel
            by_cases hi : i < c.length
            · go_wp2_with fail
              go_loop [33] (fun x => ∃ k : Nat, k ≤ c.length ∧ x = .int .i64 k ∧ Hid (Good c i k)) (fun x => c.length - (intOf x).toNat)
              case atStart => exact ⟨0, by omega, rfl, HG⟩
              case round =>
                obtain ⟨j, hj0, rfl, HGi⟩ := hrel
                by_cases hj : j < c.length
                · have sq := HSq.out
                  obtain ⟨gi, oi, ci, x, x1, x2, hx⟩ := II.at HC.out hi (by rw [sq i hi]; exact hj)
                  obtain ⟨gj, oj, cj, y, x3, x4, hy⟩ := II.at HC.out hj (by rw [sq j hj]; exact hi)
                  have hk4 : (j : Int) < (c[i].length : Int) := by rw [sq i hi]; omega
                  have hk5 : (i : Int) < (c[j].length : Int) := by rw [sq j hj]; omega
                  clear sq
                  by_cases hij : i = j
                  · have HK := Lib.hid (okE_diag c i j hij x hx)
                    have d1 : ((i : Int) == (j : Int)) = true := by rw [beq_iff_eq]; omega
                    have d2 : ((i : Int) != (j : Int)) = false := by rw [bne_eq_false_iff_eq]; omega
                    clear hij
                    by_cases h2 : x = 2
                    · have d3 : (x != 2) = false := by rw [bne_eq_false_iff_eq]; exact h2
                      have HK2 := Lib.hid (HK.out.2 h2)
                      clear h2 hx hy
                      go_wp2_with fail
                      go_round
                      case rel => exact ⟨j + 1, by omega, by go_num, HGi.out.next HK2.out⟩
                      case measure => simp [intOf]; omega
                    · have d3 : (x != 2) = true := by rw [bne_iff_ne]; exact h2
                      have HF := Lib.hid (isC_ent c i j hi hj (fun h => h2 (HK.out.1 h)))
                      clear h2 hx hy
                      go_wp2_with fail
                      go_ret
                      exact ⟨ret_bool HF.out.symm, Below.refl _ _⟩
                  · have HK := Lib.hid (okE_off c i j hij x y hx hy)
                    have d1 : ((i : Int) == (j : Int)) = false := by rw [beq_eq_false_iff_ne]; omega
                    have d2 : ((i : Int) != (j : Int)) = true := by rw [bne_iff_ne]; omega
                    clear hij hx hy
                    by_cases q1 : -3 ≤ x
                    · by_cases q2 : x ≤ 0
                      · have f1 : decide (x < -3) = false := by simp; omega
                        have f2 : decide (0 < x) = false := by simp; omega
                        by_cases z1 : x = 0
                        · have e1 : (x == 0) = true := by rw [beq_iff_eq]; exact z1
                          by_cases z2 : y = 0
                          · have e2 : (y == 0) = true := by rw [beq_iff_eq]; exact z2
                            have HK2 := Lib.hid (HK.out.2 ⟨q1, q2, by simp [z1, z2]⟩)
                            clear z1 z2 q1 q2
                            go_wp2_with fail
                            go_round
                            case rel => exact ⟨j + 1, by omega, by go_num, HGi.out.next HK2.out⟩
                            case measure => simp [intOf]; omega
                          · have e2 : (y == 0) = false := by rw [beq_eq_false_iff_ne]; exact z2
                            have HF := Lib.hid (isC_ent c i j hi hj (fun h => z2 ((HK.out.1 h).2.2.1 z1)))
                            clear z1 z2 q1 q2
                            go_wp2_with fail
                            go_ret
                            exact ⟨ret_bool HF.out.symm, Below.refl _ _⟩
                        · have e1 : (x == 0) = false := by rw [beq_eq_false_iff_ne]; exact z1
                          by_cases z2 : y = 0
                          · have e2 : (y == 0) = true := by rw [beq_iff_eq]; exact z2
                            have HF := Lib.hid (isC_ent c i j hi hj (fun h => z1 ((HK.out.1 h).2.2.2 z2)))
                            clear z1 z2 q1 q2
                            go_wp2_with fail
                            go_ret
                            exact ⟨ret_bool HF.out.symm, Below.refl _ _⟩
                          · have e2 : (y == 0) = false := by rw [beq_eq_false_iff_ne]; exact z2
                            have HK2 := Lib.hid (HK.out.2 ⟨q1, q2, by simp [z1, z2]⟩)
                            clear z1 z2 q1 q2
                            go_wp2_with fail
                            go_round
                            case rel => exact ⟨j + 1, by omega, by go_num, HGi.out.next HK2.out⟩
                            case measure => simp [intOf]; omega
                      · have f1 : decide (x < -3) = false := by simp; omega
                        have f2 : decide (0 < x) = true := by simp; omega
                        have HF := Lib.hid (isC_ent c i j hi hj (fun h => q2 (HK.out.1 h).2.1))
                        clear q1 q2
                        go_wp2_with fail
                        go_ret
                        exact ⟨ret_bool HF.out.symm, Below.refl _ _⟩
                    · have f1 : decide (x < -3) = true := by simp; omega
                      have HF := Lib.hid (isC_ent c i j hi hj (fun h => q1 (HK.out.1 h).1))
                      clear q1
                      go_wp2_with fail
                      go_ret
                      exact ⟨ret_bool HF.out.symm, Below.refl _ _⟩
                · obtain rfl : j = c.length := by omega
                  go_wp2_with fail
                  go_round
                  case rel => exact ⟨i + 1, by omega, by go_num, HGi.out.line⟩
                  case measure => simp [intOf]; omega
            · obtain rfl : i = c.length := by omega
              have ha := isC_all c HSq.out HG.out
              have hb : (decide ((1 : Int) ≤ c.length) && decide ((c.length : Int) ≤ 4)) = true := by rw [Bool.and_eq_true, decide_eq_true_iff, decide_eq_true_iff]; omega
              rw [hb] at ha
              have HA := Lib.hid ha
              clear ha hb
              go_wp2_with fail
              go_ret
              exact ⟨ret_bool HA.out.symm, Below.refl _ _⟩
end Go.Proofs.YtaikjkcbgniplaaGreatDoor
