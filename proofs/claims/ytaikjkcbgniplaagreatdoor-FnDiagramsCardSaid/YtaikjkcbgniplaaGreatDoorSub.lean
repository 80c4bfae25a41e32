/- SubCartan of the program and of the reference (and l3Set, isSet, picked): what they answer, for at most 2^38 numbers. -/
import Derived.Test.YtaikjkcbgniplaaGreatDoorRw
namespace Go.Proofs.YtaikjkcbgniplaaGreatDoor
open Go.RowKit
set_option linter.unusedVariables false

def okAt (n : Nat) (u : List Int) (j : Nat) : Bool := isPt n (u.getD j 0) && (decide (j = 0) || decide (u.getD (j - 1) 0 < u.getD j 0))
def setU (n : Nat) (u : List Int) : Bool := (List.range u.length).all (okAt n u)
theorem setU_iff (n : Nat) (u : List Int) : setU n u = true ↔ ∀ j, j < u.length → okAt n u j = true := by
  rw [setU, List.all_eq_true]; simp only [List.mem_range]
theorem setU_no {n : Nat} {u : List Int} (j : Nat) (hj : j < u.length) (h : okAt n u j = false) : setU n u = false := by
  cases hp : setU n u with
  | false => rfl
  | true => rw [(setU_iff n u).1 hp j hj] at h; cases h
theorem getD_get (u : List Int) (j : Nat) (h : j < u.length) : u.getD j 0 = u[j] := by simp [h]
theorem okAt_zero {n : Nat} {u : List Int} {k : Nat} {x : Int} (h : k < u.length) (hx : u[k] = x) (hk : k = 0) (hp : isPt n x = true) : okAt n u k = true := by
  subst hx hk; simp only [okAt, getD_get u 0 h, hp]; simp
theorem okAt_succ {n : Nat} {u : List Int} {k j : Nat} {x y : Int} (h : k < u.length) (hx : u[k] = x) (hk : k = j + 1) (h2 : j < u.length) (hy : u[j] = y) (hp : isPt n x = true) : okAt n u k = decide (y < x) := by
  subst hx hy hk; simp only [okAt, getD_get u (j + 1) h, hp, Nat.add_sub_cancel, getD_get u j h2]; simp
theorem okAt_no {n : Nat} {u : List Int} {k : Nat} {x : Int} (h : k < u.length) (hx : u[k] = x) (hp : isPt n x = false) : okAt n u k = false := by
  subst hx; simp only [okAt, getD_get u k h, hp]; simp
theorem setU_pt {n : Nat} {u : List Int} (h : setU n u = true) (j : Nat) (hj : j < u.length) : ∃ s : Nat, u[j] = (s : Int) ∧ s < n := by
  have h1 := (setU_iff n u).1 h j hj
  rw [okAt, Bool.and_eq_true, getD_get u j hj] at h1
  exact pt_nat h1.1
def pv (u : List Int) (k : Nat) : Int := if k = 0 then -1 else u.getD (k - 1) 0
theorem pv_succ (u : List Int) (k : Nat) (h : k < u.length) (x : Int) (hx : u[k] = x) : pv u (k + 1) = x := by
  subst hx; simp [pv, h]
theorem pv_ge (n : Nat) (u : List Int) (k : Nat) (hk : k ≤ u.length) (h : ∀ j, j < u.length → j < k → okAt n u j = true) : -1 ≤ pv u k := by
  unfold pv
  split
  · omega
  · next h0 =>
    have h1 := h (k - 1) (by omega) (by omega)
    rw [okAt, Bool.and_eq_true] at h1
    have := (isPt_iff _ _).1 h1.1
    omega
theorem okAt_pv (n : Nat) (u : List Int) (k : Nat) (hk : k < u.length) (x : Int) (hx : u[k] = x) (h : ∀ j, j < u.length → j < k → okAt n u j = true) : okAt n u k = true ↔ pv u k < x ∧ x < (n : Int) := by
  have hg := pv_ge n u k (by omega) h
  by_cases h0 : k = 0
  · subst h0
    rw [okAt, getD_get u 0 hk, hx, Bool.and_eq_true, isPt_iff]
    simp only [pv, if_pos, decide_true, Bool.true_or, and_true]
    omega
  · rw [pv, if_neg h0] at hg ⊢
    rw [okAt, getD_get u k hk, hx, Bool.and_eq_true, isPt_iff, Bool.or_eq_true, decide_eq_true_iff, decide_eq_true_iff]
    have h1 := h (k - 1) (by omega) (by omega)
    rw [okAt, Bool.and_eq_true] at h1
    have := (isPt_iff _ _).1 h1.1
    omega
def subR (c : List (List Int)) (u : List Int) (a : Int) : List Int := u.map (fun b => ent c a.toNat b.toNat)
def subS (c : List (List Int)) (u : List Int) : List (List Int) := u.map (subR c u)
def subOk (c : List (List Int)) (u : List Int) : Bool := isC c && setU c.length u && !decide (u.length = 0)
def subL (c : List (List Int)) (u : List Int) : List (List Int) := if subOk c u then subS c u else []
theorem subR_snoc (c : List (List Int)) (u : List Int) (s t m : Nat) (x : Int) (hm : m < u.length) (ht : u[m] = (t : Int)) (hx : ent c s t = x) : ivs ((subR c u (s : Int)).take (m + 1)) = ivs ((subR c u (s : Int)).take m) ++ [.int .i64 x] := by
  subst hx
  rw [List.take_succ_eq_append_getElem (by simpa [subR] using hm)]
  simp [ivs, subR, ht]
theorem subR_end (c : List (List Int)) (u : List Int) (a : Int) : (subR c u a).take u.length = subR c u a := List.take_of_length_le (by simp [subR])
theorem subR_length (c : List (List Int)) (u : List Int) (a : Int) : (subR c u a).length = u.length := by simp [subR]
theorem subS_length (c : List (List Int)) (u : List Int) : (subS c u).length = u.length := by simp [subS]
theorem subS_snoc (c : List (List Int)) (u : List Int) (k s : Nat) (h : k < u.length) (hs : u[k] = (s : Int)) : (subS c u).take (k + 1) = (subS c u).take k ++ [subR c u (s : Int)] := by
  rw [List.take_succ_eq_append_getElem (by rw [subS_length]; exact h)]
  simp [subS, hs]
theorem subS_end (c : List (List Int)) (u : List Int) : (subS c u).take u.length = subS c u := List.take_of_length_le (by rw [subS_length]; exact Nat.le_refl _)
theorem chain_le (n : Nat) (u : List Int) (h : setU n u = true) : ∀ j, j < u.length → (j : Int) ≤ u.getD j 0 := by
  intro j
  induction j with
  | zero =>
    intro hj
    have h1 := (setU_iff n u).1 h 0 hj
    rw [okAt, Bool.and_eq_true, isPt_iff] at h1
    exact h1.1.1
  | succ j ih =>
    intro hj
    have h1 := (setU_iff n u).1 h (j + 1) hj
    rw [okAt, Bool.and_eq_true, Bool.or_eq_true, decide_eq_true_iff, decide_eq_true_iff, Nat.add_sub_cancel] at h1
    have := ih (by omega)
    rcases h1.2 with h2 | h2
    · omega
    · omega
theorem set_short (n : Nat) (u : List Int) (h : setU n u = true) : u.length ≤ n := by
  by_cases h0 : u.length = 0
  · omega
  · have h1 := chain_le n u h (u.length - 1) (by omega)
    have h2 := (setU_iff n u).1 h (u.length - 1) (by omega)
    rw [okAt, Bool.and_eq_true, isPt_iff] at h2
    omega
theorem sub_total (c : List (List Int)) (u : List Int) : total (subL c u) ≤ 32 := by
  unfold subL
  split
  · next h =>
    rw [subOk, Bool.and_eq_true, Bool.and_eq_true] at h
    have h4 := ((isC_iff c).1 h.1.1).2.1
    have hu := set_short _ _ h.1.2
    have hi : ∀ l : List Int, ints (l.map (subR c u)) = l.length * u.length := by
      intro l
      induction l with
      | nil => simp [ints]
      | cons a l ih => rw [List.map_cons, ints_cons, ih, subR_length, List.length_cons, Nat.succ_mul]; omega
    have h5 : ints (subS c u) = u.length * u.length := hi u
    unfold total
    rw [subS_length, h5]
    have : u.length * u.length ≤ 4 * 4 := Nat.mul_le_mul (by omega) (by omega)
    omega
  · simp [total, ints]
theorem subOk_t {c : List (List Int)} {u : List Int} (h1 : isC c = true) (h2 : setU c.length u = true) (h3 : u.length ≠ 0) : subOk c u = true := by simp [subOk, h1, h2, h3]
theorem subOk_f {c : List (List Int)} {u : List Int} (h : isC c = false) : subOk c u = false := by simp [subOk, h]
theorem subOk_g {c : List (List Int)} {u : List Int} (h : setU c.length u = false) : subOk c u = false := by simp [subOk, h]
theorem subOk_h {c : List (List Int)} {u : List Int} (h : u.length = 0) : subOk c u = false := by simp [subOk, h]
theorem subL_t {c : List (List Int)} {u : List Int} (h : subOk c u = true) : subL c u = subS c u := by simp [subL, h]
theorem subL_f {c : List (List Int)} {u : List Int} (h : subOk c u = false) : subL c u = [] := by simp [subL, h]
set_option maxHeartbeats 2000000 in
theorem specSet (v1 v2 : Value) (c : List (List Int)) (u : List Int) (hc : c.length ≤ 1099511627776) (hu : u.length ≤ 1099511627776) (w : World) (h1 : II w v1 c) (h2 : I w v2 u) :
    Calls Tryz.prog 84 #[v1, v2] w fun e w' => e = .returned (.bool (setU c.length u && isC c)) ∧ Below w.heap.size w w' := by
  obtain ⟨g1, o1, c1, hv1, _, _, _⟩ := h1.form
  obtain ⟨g2, o2, c2, hv2, _, _, hc2⟩ := h2.form
  have H2 := Lib.hid hc2
  clear hc2 h2
  subst hv1 hv2
  go_enter Tryz.func84, Tryz.ntmps84
  go_wp2_with fail
  go_loopw [5] (fun i wr => ∃ k : Nat, k ≤ u.length ∧ i = .int .i64 k ∧ Below w.heap.size w wr ∧ Hid (∀ j, j < u.length → j < k → okAt c.length u j = true)) (fun i _ => u.length - (intOf i).toNat)
  case atStart => exact ⟨0, by omega, rfl, Below.refl _ _, fun j _ hj => absurd hj (Nat.not_lt_zero j)⟩
  case round =>
    obtain ⟨k, hk, rfl, hbel, HG⟩ := hrel
    by_cases hlt' : k < u.length
    · have y1 := H2.out k hlt'
      obtain ⟨x, hx⟩ : ∃ x, u[k] = x := ⟨_, rfl⟩
      rw [hx] at y1
      have x1 := cells_keep hbel y1
      have hk0 : (0 : Int) ≤ (k : Int) := by omega
      have hk1 : (k : Int) < (u.length : Int) := by omega
      by_cases p1 : 0 ≤ x
      rotate_left
      · have d1 : decide (0 ≤ x) = false := by rw [decide_eq_false_iff_not]; exact p1
        have hok := okAt_no (n := c.length) hlt' hx (isPt_no _ _ (by omega))
        have HF := Lib.hid (show (setU c.length u && isC c) = false by rw [setU_no k hlt' hok]; rfl)
        clear p1 hok hx
        go_wp2_with fail
        go_quiet ((go_at_call 85; exact Calls.quiet_of_same (l1InQ _ _ _ _)))
        go_wp2_with fail
        go_ret
        exact ⟨ret_bool HF.out.symm, below_drewN hbel nq⟩
      have d1 : decide (0 ≤ x) = true := by rw [decide_eq_true_iff]; exact p1
      by_cases p2 : x ≤ (c.length : Int) - 1
      rotate_left
      · have d2 : decide (x ≤ (c.length : Int) - 1) = false := by rw [decide_eq_false_iff_not]; exact p2
        have hok := okAt_no (n := c.length) hlt' hx (isPt_no _ _ (by omega))
        have HF := Lib.hid (show (setU c.length u && isC c) = false by rw [setU_no k hlt' hok]; rfl)
        clear p1 p2 hok hx
        go_wp2_with fail
        go_quiet ((go_at_call 85; exact Calls.quiet_of_same (l1InQ _ _ _ _)))
        go_wp2_with fail
        go_ret
        exact ⟨ret_bool HF.out.symm, below_drewN hbel nq⟩
      have d2 : decide (x ≤ (c.length : Int) - 1) = true := by rw [decide_eq_true_iff]; exact p2
      have hp : isPt c.length x = true := (isPt_iff _ _).2 ⟨p1, by omega⟩
      by_cases h0 : k = 0
      · have d3 : decide ((0 : Int) < (k : Int)) = false := by rw [decide_eq_false_iff_not]; omega
        have d3n : decide (0 < k) = false := by rw [decide_eq_false_iff_not]; omega
        have HO := Lib.hid (okAt_zero hlt' hx h0 hp)
        clear p1 p2 hp hx h0
        go_wp2_with fail
        go_quiet ((go_at_call 85; exact Calls.quiet_of_same (l1InQ _ _ _ _)))
        go_wp2_with fail
        go_roundw
        case rel =>
          refine ⟨k + 1, by omega, by go_num, below_drewN hbel nq, fun j q1 q2 => ?_⟩
          by_cases e : j = k
          · subst e; exact HO.out
          · exact HG.out j q1 (by omega)
        case measure => simp [intOf]; omega
      · obtain ⟨j0, hj0⟩ : ∃ j0, k = j0 + 1 := ⟨k - 1, by omega⟩
        have hj1 : j0 < u.length := by omega
        have hsub : (k : Int) - 1 = (j0 : Int) := by omega
        have d3 : decide ((0 : Int) < (k : Int)) = true := by rw [decide_eq_true_iff]; omega
        have d3n : decide (0 < k) = true := by rw [decide_eq_true_iff]; omega
        have y2 := H2.out j0 hj1
        obtain ⟨y, hy⟩ : ∃ y, u[j0] = y := ⟨_, rfl⟩
        rw [hy] at y2
        have x2 := cells_keep hbel y2
        have hk2 : (0 : Int) ≤ (j0 : Int) := by omega
        have hk3 : (j0 : Int) < (u.length : Int) := by omega
        have hS := okAt_succ hlt' hx hj0 hj1 hy hp
        by_cases hxy : y < x
        · have d4 : decide (x ≤ y) = false := by rw [decide_eq_false_iff_not]; omega
          have HO := Lib.hid (show okAt c.length u k = true by rw [hS, decide_eq_true_iff]; exact hxy)
          clear p1 p2 hp hx hy h0 hj0 hS hxy y2 y1
          go_wp2_with fail
          go_quiet ((go_at_call 85; exact Calls.quiet_of_same (l1InQ _ _ _ _)))
          go_wp2_with fail
          go_roundw
          case rel =>
            refine ⟨k + 1, by omega, by go_num, below_drewN hbel nq, fun j q1 q2 => ?_⟩
            by_cases e : j = k
            · subst e; exact HO.out
            · exact HG.out j q1 (by omega)
          case measure => simp [intOf]; omega
        · have d4 : decide (x ≤ y) = true := by rw [decide_eq_true_iff]; omega
          have hok : okAt c.length u k = false := by rw [hS, decide_eq_false_iff_not]; exact hxy
          have HF := Lib.hid (show (setU c.length u && isC c) = false by rw [setU_no k hlt' hok]; rfl)
          clear p1 p2 hp hx hy h0 hj0 hS hxy y2 y1 hok
          go_wp2_with fail
          go_quiet ((go_at_call 85; exact Calls.quiet_of_same (l1InQ _ _ _ _)))
          go_wp2_with fail
          go_ret
          exact ⟨ret_bool HF.out.symm, below_drewN hbel nq⟩
    · obtain rfl : k = u.length := by omega
      have HF := Lib.hid (show setU c.length u = true from (setU_iff _ _).2 (fun j hj => HG.out j hj hj))
      go_wp2_with fail
      refine (specIsCartan _ c hc _ (h1.keep hbel)).mono ?_
      rintro e w1 ⟨rfl, hb1⟩
      go_wp2_with fail
      go_ret
      exact ⟨ret_bool (by rw [HF.out]; rfl), below_trans hbel hb1⟩
set_option maxHeartbeats 2000000 in
theorem implIsSet (v1 v2 : Value) (c : List (List Int)) (u : List Int) (hu : u.length ≤ 1099511627776) (w : World) (h1 : II w v1 c) (h2 : I w v2 u) :
    Calls Tryz.prog 83 #[v1, v2] w fun e w' => e = .returned (.bool (setU c.length u)) ∧ w = w' := by
  obtain ⟨g1, o1, c1, hv1, _, _, _⟩ := h1.form
  obtain ⟨g2, o2, c2, hv2, _, _, hc2⟩ := h2.form
  have H2 := Lib.hid hc2
  clear hc2 h2 h1
  subst hv1 hv2
  go_enter Tryz.func83, Tryz.ntmps83
  go_wp2_with fail
  go_loop [5, 10] (fun p i => ∃ k : Nat, k ≤ u.length ∧ i = .int .i64 k ∧ p = .int .i64 (pv u k) ∧ Hid (∀ j, j < u.length → j < k → okAt c.length u j = true)) (fun _ i => u.length - (intOf i).toNat)
  case atStart => exact ⟨0, by omega, rfl, rfl, fun j _ hj => absurd hj (Nat.not_lt_zero j)⟩
  case round =>
    obtain ⟨k, hk, rfl, rfl, HG⟩ := hrel
    by_cases hlt' : k < u.length
    · have x1 := H2.out k hlt'
      obtain ⟨x, hx⟩ : ∃ x, u[k] = x := ⟨_, rfl⟩
      rw [hx] at x1
      have hi := okAt_pv c.length u k hlt' x hx HG.out
      have HV := Lib.hid (pv_succ u k hlt' x hx)
      obtain ⟨p, hp⟩ : ∃ p, pv u k = p := ⟨_, rfl⟩
      rw [hp] at hi
      rw [hp]
      clear hp hx
      by_cases a1 : p < x
      rotate_left
      · have d1 : decide (x ≤ p) = true := by rw [decide_eq_true_iff]; omega
        have HF := Lib.hid (setU_no k hlt' (by cases ho : okAt c.length u k with | false => rfl | true => exact absurd (hi.1 ho).1 a1))
        clear a1 hi
        go_wp2_with fail
        go_ret
        exact ⟨ret_bool HF.out.symm, rfl⟩
      have d1 : decide (x ≤ p) = false := by rw [decide_eq_false_iff_not]; omega
      by_cases a2 : x < (c.length : Int)
      rotate_left
      · have d2 : decide ((c.length : Int) ≤ x) = true := by rw [decide_eq_true_iff]; omega
        have HF := Lib.hid (setU_no k hlt' (by cases ho : okAt c.length u k with | false => rfl | true => exact absurd (hi.1 ho).2 a2))
        clear a1 a2 hi
        go_wp2_with fail
        go_ret
        exact ⟨ret_bool HF.out.symm, rfl⟩
      have d2 : decide ((c.length : Int) ≤ x) = false := by rw [decide_eq_false_iff_not]; omega
      have HO := Lib.hid (hi.2 ⟨a1, a2⟩)
      clear a1 a2 hi
      go_wp2_with fail
      go_round
      case rel =>
        refine ⟨k + 1, by omega, by go_num, by rw [HV.out], fun j q1 q2 => ?_⟩
        by_cases e : j = k
        · subst e; exact HO.out
        · exact HG.out j q1 (by omega)
      case measure => simp [intOf]; omega
    · obtain rfl : k = u.length := by omega
      have HF := Lib.hid (show setU c.length u = true from (setU_iff _ _).2 (fun j hj => HG.out j hj hj))
      go_wp2_with fail
      go_ret
      exact ⟨ret_bool HF.out.symm, rfl⟩
set_option maxHeartbeats 2000000 in
theorem implPickedP (v1 v2 : Value) (c : List (List Int)) (u : List Int) (hC : isC c = true) (hU : ∀ (j : Nat) (hj : j < u.length), ∃ s : Nat, u[j] = (s : Int) ∧ s < c.length) (hc : c.length ≤ 1099511627776) (hu : u.length ≤ 274877906944) (w : World) (h1 : II w v1 c) (h2 : I w v2 u) :
    Calls Tryz.prog 79 #[v1, v2] w (RetRows w (subS c u)) := by
  obtain ⟨g1, o1, c1, hv1, _, _, hc1⟩ := h1.form
  obtain ⟨g2, o2, c2, hv2, _, _, hc2⟩ := h2.form
  have H1 := Lib.hid hc1
  have H2 := Lib.hid hc2
  clear hc1 hc2
  subst hv1 hv2
  clear h1 h2
  have HC := Lib.hid hC
  have HU := Lib.hid hU
  clear hC hU
  go_enter Tryz.func79, Tryz.ntmps79
  go_wp2_with fail
  go_loopw [5, 14] (fun x i wr => ∃ k : Nat, k ≤ u.length ∧ i = .int .i64 k ∧ RowsV wr w.heap.size wr.heap.size x ((subS c u).take k) ∧ Below w.heap.size w wr) (fun _ i _ => u.length - (intOf i).toNat)
  case atStart =>
    obtain ⟨gs, vs, q1, q2, q3, q4⟩ := rowsV_empty w
    exact ⟨0, by omega, rfl, ⟨gs, vs, q1, q2, fun g hg => by have := q3 g hg; omega, q4⟩, (Below.refl _ _).alloc (Nat.le_refl _) _⟩
  case round =>
    obtain ⟨k, hk, rfl, hR, hbel⟩ := hrel
    by_cases hlt' : k < u.length
    · obtain ⟨wo, rfl⟩ : ∃ wo : World, wo = wr := ⟨_, rfl⟩
      obtain ⟨s, hs, hsn⟩ := HU.out k hlt'
      have y3 := H2.out k hlt'
      rw [hs] at y3
      have HSS := Lib.hid (subS_snoc c u k s hlt' hs)
      have hsq := Lib.hid (isC_sq HC.out s hsn)
      have b3 := cells_keep hbel y3
      clear hs
      go_wp2_with fail
      go_loopw [8, 21] (fun y i wr => ∃ m : Nat, m ≤ u.length ∧ i = .int .i64 m ∧ RowV wr wo.heap.size 3 y m (ivs ((subR c u (s : Int)).take m)) ∧ Below wo.heap.size wo wr) (fun _ i _ => u.length - (intOf i).toNat)
      case atStart => exact ⟨0, by omega, rfl, rowV_empty wo _, (Below.refl _ _).alloc (Nat.le_refl _) _⟩
      case round =>
        obtain ⟨m, hm, rfl, hrow, hbi⟩ := hrel
        clear b3
        by_cases hlm : m < u.length
        · obtain ⟨t, ht, htn⟩ := HU.out m hlm
          have y4 := H2.out m hlm
          rw [ht] at y4
          obtain ⟨gi, oi, ci, x, y1, y2, hx⟩ := II.at H1.out hsn (show t < c[s].length by rw [hsq.out]; exact htn)
          have HX := Lib.hid (subR_snoc c u s t m x hlm ht hx)
          have hbel2 := below_trans hbel hbi
          have a1 := cells_keep hbel2 y1
          have a2 := cells_keep hbel2 y2
          have a3 := cells_keep hbel2 y3
          have a4 := cells_keep hbel2 y4
          clear hx ht y1 y2 y4 hbel2
          have hk0 : (0 : Int) ≤ (m : Int) := by omega
          have hk1 : (m : Int) < (u.length : Int) := by omega
          have hk2 : (0 : Int) ≤ (s : Int) := by omega
          have hk3 : (t : Int) < (c[s].length : Int) := by rw [hsq.out]; omega
          have hk4 : (0 : Int) ≤ (t : Int) := by omega
          have hk5 : (s : Int) < (c.length : Int) := by omega
          have hk6 : (0 : Int) ≤ (k : Int) := by omega
          have hk7 : (k : Int) < (u.length : Int) := by omega
          go_wp2_with (at_builtin; refine wpList_pushV elemInt _ rfl _ _ rfl wo.heap.size u8 m _ rfl (hrow.alloc _) (.int .i64 x) wr.heap.size rfl (cell_new1 _ _ _) rfl (by omega) (by have := hbi.size; simp; omega) ?_; intro gg cap w2 hrow1 hgrow hb2)
          go_roundw
          case rel => exact ⟨m + 1, by omega, by go_num, hrow1.cast rfl rfl HX.out.symm, (hbi.alloc hbi.size _).trans hb2⟩
          case measure => simp [intOf]; omega
        · obtain rfl : m = u.length := by omega
          have hend := subR_end c u (s : Int)
          rw [hend] at hrow
          clear hend
          obtain ⟨gx, hgx, hown⟩ := hrow.own
          obtain ⟨cy, hy, _, _, _, _⟩ := hown.form
          rw [ivs_length] at hy
          subst hy
          have hR2 := hR.keep hbi
          obtain ⟨gs, vs, q1, q2, q3, q4⟩ := hR2
          have hbel2 := below_trans hbel hbi
          have hs0 := hbel.size
          have hs1 := hbi.size
          have HK := Lib.hid (show ((subS c u).take k).length = k by rw [List.length_take, subS_length]; omega)
          have q1' : RowV wr w.heap.size 27 u5 k vs := q1.cast rfl HK.out rfl
          have HP := Lib.hid (fun (w2 : World) (x' : Value) hgrow (hrow : RowV w2 w.heap.size 27 x' (k + 1) (vs ++ [_])) => rowsV_push (w1 := w2) (x' := x') q1 q2 q3 q4 hown (by omega) (by omega) hgrow (hrow.cast rfl (by rw [HK.out]) rfl))
          clear q1 q2 q3 q4 hrow
          go_wp2_with (at_builtin; refine wpList_pushV elemRow _ rfl _ _ rfl w.heap.size u5 k _ rfl (q1'.alloc _) (.slice (some ⟨gx, 0, none⟩) (subR c u (s : Int)).length cy) wr.heap.size rfl (cell_new1 _ _ _) rfl (by omega) (by have := hbel2.size; simp; omega) ?_; intro gg cap w2 hrow1 hgrow hb2)
          go_roundw
          case rel => exact ⟨k + 1, by omega, by go_num, by rw [HSS.out]; exact HP.out _ _ hgrow hrow1, (hbel2.alloc hbel2.size _).trans hb2⟩
          case measure => simp [intOf]; omega
    · obtain rfl : k = u.length := by omega
      rw [subS_end] at hR
      have hown := hR.own2 (Nat.le_refl _)
      go_wp2_with fail
      go_ret
      exact ⟨_, rfl, hown, hbel⟩
theorem implPicked (v1 v2 : Value) (c : List (List Int)) (u : List Int) (hC : isC c = true) (hU : setU c.length u = true) (hc : c.length ≤ 1099511627776) (hu : u.length ≤ 274877906944) (w : World) (h1 : II w v1 c) (h2 : I w v2 u) :
    Calls Tryz.prog 79 #[v1, v2] w (RetRows w (subS c u)) := implPickedP v1 v2 c u hC (setU_pt hU) hc hu w h1 h2
set_option maxHeartbeats 4000000 in
theorem specSubCartan (v1 v2 : Value) (c : List (List Int)) (u : List Int) (hc : c.length ≤ 1099511627776) (hu : u.length ≤ 274877906944) (w : World) (h1 : II w v1 c) (h2 : I w v2 u) :
    Calls Tryz.prog 24 #[v1, v2] w (RetRowsB w (subL c u) (subOk c u)) := by
  obtain ⟨g1, o1, c1, hv1, _, _, hc1⟩ := h1.form
  obtain ⟨g2, o2, c2, hv2, _, _, hc2⟩ := h2.form
  have H1 := Lib.hid hc1
  have H2 := Lib.hid hc2
  clear hc1 hc2
  subst hv1 hv2
  cases hB : (setU c.length u && isC c) with
  | false =>
    have HO := Lib.hid (show subOk c u = false by rw [subOk, Bool.and_comm (isC c), hB]; rfl)
    have HB := Lib.hid hB
    clear hB
    go_enter Tryz.func24, Tryz.ntmps24
    go_wp2_with fail
    refine (specSet _ _ c u hc (by omega) _ (h1.keep (below_new w _)) (h2.keep (below_new w _))).mono ?_
    rw [HB.out]
    rintro e w1 ⟨rfl, hb1⟩
    have hR0 := (rowsV_empty w).keep hb1
    have hb0 := below_trans (below_new w _) hb1
    have hs1 := hb1.size
    have hown := hR0.own2 (by simp at hs1; omega)
    go_wp2_with fail
    go_ret2
    exact ⟨_, by rw [HO.out]; rfl, by rw [subL_f HO.out]; exact hown, hb0⟩
  | true =>
    have HC := Lib.hid (Bool.and_eq_true_iff.1 hB).2
    have HU := Lib.hid (Bool.and_eq_true_iff.1 hB).1
    have HB := Lib.hid hB
    clear hB
    by_cases h0 : u.length = 0
    · have HO := Lib.hid (subOk_h (c := c) h0)
      have d0 : ((u.length : Int) == 0) = true := by rw [beq_iff_eq]; omega
      clear h0
      go_enter Tryz.func24, Tryz.ntmps24
      go_wp2_with fail
      refine (specSet _ _ c u hc (by omega) _ (h1.keep (below_new w _)) (h2.keep (below_new w _))).mono ?_
      rw [HB.out]
      rintro e w1 ⟨rfl, hb1⟩
      have hR0 := (rowsV_empty w).keep hb1
      have hb0 := below_trans (below_new w _) hb1
      have hs1 := hb1.size
      have hown := hR0.own2 (by simp at hs1; omega)
      go_wp2_with fail
      go_ret2
      exact ⟨_, by rw [HO.out]; rfl, by rw [subL_f HO.out]; exact hown, hb0⟩
    have HO := Lib.hid (subOk_t HC.out HU.out h0)
    have d0 : ((u.length : Int) == 0) = false := by rw [beq_eq_false_iff_ne]; omega
    clear h0
    go_enter Tryz.func24, Tryz.ntmps24
    go_wp2_with fail
    refine (specSet _ _ c u hc (by omega) _ (h1.keep (below_new w _)) (h2.keep (below_new w _))).mono ?_
    rw [HB.out]
    rintro e w1 ⟨rfl, hb1⟩
    have hR0 := (rowsV_empty w).keep hb1
    have hb0 := below_trans (below_new w _) hb1
    go_wp2_with fail
    go_loopw [6, 7] (fun x i wr => ∃ k : Nat, k ≤ u.length ∧ i = .int .i64 k ∧ RowsV wr w.heap.size wr.heap.size x ((subS c u).take k) ∧ Below w.heap.size w wr) (fun _ i _ => u.length - (intOf i).toNat)
    case atStart =>
      obtain ⟨gs, vs, q1, q2, q3, q4⟩ := hR0
      have hs1 := hb0.size
      exact ⟨0, by omega, rfl, ⟨gs, vs, q1, q2, fun g hg => by have := q3 g hg; omega, q4⟩, hb0⟩
    case round =>
      obtain ⟨k, hk, rfl, hR, hbel⟩ := hrel
      clear hR0 hb0
      by_cases hlt' : k < u.length
      · obtain ⟨wo, rfl⟩ : ∃ wo : World, wo = wr := ⟨_, rfl⟩
        obtain ⟨s, hs, hsn⟩ := setU_pt HU.out k hlt'
        have y3 := H2.out k hlt'
        rw [hs] at y3
        have HSS := Lib.hid (subS_snoc c u k s hlt' hs)
        have hsq := Lib.hid (isC_sq HC.out s hsn)
        have b3 := cells_keep hbel y3
        clear hs
        go_wp2_with fail
        go_loopw [8, 9] (fun y i wr => ∃ m : Nat, m ≤ u.length ∧ i = .int .i64 m ∧ RowV wr wo.heap.size 3 y m (ivs ((subR c u (s : Int)).take m)) ∧ Below wo.heap.size wo wr) (fun _ i _ => u.length - (intOf i).toNat)
        case atStart => exact ⟨0, by omega, rfl, rowV_empty wo _, (Below.refl _ _).alloc (Nat.le_refl _) _⟩
        case round =>
          obtain ⟨m, hm, rfl, hrow, hbi⟩ := hrel
          clear b3
          by_cases hlm : m < u.length
          · obtain ⟨t, ht, htn⟩ := setU_pt HU.out m hlm
            have y4 := H2.out m hlm
            rw [ht] at y4
            obtain ⟨gi, oi, ci, x, y1, y2, hx⟩ := II.at H1.out hsn (show t < c[s].length by rw [hsq.out]; exact htn)
            have HX := Lib.hid (subR_snoc c u s t m x hlm ht hx)
            have hbel2 := below_trans hbel hbi
            have a1 := cells_keep hbel2 y1
            have a2 := cells_keep hbel2 y2
            have a3 := cells_keep hbel2 y3
            have a4 := cells_keep hbel2 y4
            have hl1 : g1 < wo.heap.size := World.block_lt_of_cell? wo _ (cells_keep hbel y1)
            have hl2 : gi < wo.heap.size := World.block_lt_of_cell? wo _ (cells_keep hbel y2)
            have hl3 : g2 < wo.heap.size := World.block_lt_of_cell? wo _ (cells_keep hbel y3)
            have hl4 : g2 < wo.heap.size := World.block_lt_of_cell? wo _ (cells_keep hbel y4)
            clear hx ht y1 y2 y4 hbel2
            have hk0 : (0 : Int) ≤ (m : Int) := by omega
            have hk1 : (m : Int) < (u.length : Int) := by omega
            have hk2 : (0 : Int) ≤ (s : Int) := by omega
            have hk3 : (t : Int) < (c[s].length : Int) := by rw [hsq.out]; omega
            have hk4 : (0 : Int) ≤ (t : Int) := by omega
            have hk5 : (s : Int) < (c.length : Int) := by omega
            have hk6 : (0 : Int) ≤ (k : Int) := by omega
            have hk7 : (k : Int) < (u.length : Int) := by omega
            go_wp2_with fail
            go_region_held3 (fun w' => w'.cell? ⟨g1, o1 + s, none⟩ = some (.slice (some ⟨gi, oi, none⟩) c[s].length ci) ∧ w'.cell? ⟨gi, oi + t, none⟩ = some (.int .i64 x) ∧ w'.cell? ⟨g2, o2 + k, none⟩ = some (.int .i64 s) ∧ w'.cell? ⟨g2, o2 + m, none⟩ = some (.int .i64 t)) (first | go_keep | (go_split_ands; exact ⟨(hb1.cell hl1).trans ‹_›, (hb1.cell hl2).trans ‹_›, (hb1.cell hl3).trans ‹_›, (hb1.cell hl4).trans ‹_›⟩)) ((refine step_pushV elemInt _ (by rfl) _ _ (by rfl) wo.heap.size u8 m _ (by rfl) ((hrow.alloc _).drew) (.int .i64 x) wr.heap.size (by rfl) (cell_new1d _ _ _) (by rfl) (by omega) (by have := hbi.size; simp; omega) ?_; intro gg cap w1 hrow1 hgrow hb1))
            go_wp2_with fail
            go_roundw
            case rel => exact ⟨m + 1, by omega, by go_num, hrow1.cast rfl rfl HX.out.symm, ((hbi.alloc hbi.size _).drew).trans hb1⟩
            case measure => simp [intOf]; omega
          · obtain rfl : m = u.length := by omega
            have hend := subR_end c u (s : Int)
            rw [hend] at hrow
            clear hend
            obtain ⟨gx, hgx, hown⟩ := hrow.own
            obtain ⟨cy, hy, _, _, _, _⟩ := hown.form
            rw [ivs_length] at hy
            subst hy
            have hR2 := hR.keep hbi
            obtain ⟨gs, vs, q1, q2, q3, q4⟩ := hR2
            have hbel2 := below_trans hbel hbi
            have hs0 := hbel.size
            have hs1 := hbi.size
            have HK := Lib.hid (show ((subS c u).take k).length = k by rw [List.length_take, subS_length]; omega)
            have q1' : RowV wr w.heap.size 27 u6 k vs := q1.cast rfl HK.out rfl
            have HP := Lib.hid (fun (w2 : World) (x' : Value) hgrow (hrow : RowV w2 w.heap.size 27 x' (k + 1) (vs ++ [_])) => rowsV_push (w1 := w2) (x' := x') q1 q2 q3 q4 hown (by omega) (by omega) hgrow (hrow.cast rfl (by rw [HK.out]) rfl))
            clear q1 q2 q3 q4 hrow
            go_wp2_with (at_builtin; refine wpList_pushV elemRow _ rfl _ _ rfl w.heap.size u6 k _ rfl (q1'.alloc _) (.slice (some ⟨gx, 0, none⟩) (subR c u (s : Int)).length cy) wr.heap.size rfl (cell_new1 _ _ _) rfl (by omega) (by have := hbel2.size; simp; omega) ?_; intro gg cap w2 hrow1 hgrow hb2)
            go_roundw
            case rel => exact ⟨k + 1, by omega, by go_num, by rw [HSS.out]; exact HP.out _ _ hgrow hrow1, (hbel2.alloc hbel2.size _).trans hb2⟩
            case measure => simp [intOf]; omega
      · obtain rfl : k = u.length := by omega
        rw [subS_end] at hR
        have hown := hR.own2 (Nat.le_refl _)
        go_wp2_with fail
        go_ret2
        exact ⟨_, by rw [HO.out]; rfl, by rw [subL_t HO.out]; exact hown, hbel⟩
set_option maxHeartbeats 2000000 in
theorem implSubCartan (v1 v2 : Value) (c : List (List Int)) (u : List Int) (hc : c.length ≤ 1099511627776) (hu : u.length ≤ 274877906944) (w : World) (h1 : II w v1 c) (h2 : I w v2 u) :
    Calls Tryz.prog 23 #[v1, v2] w (RetRowsB w (subL c u) (subOk c u)) := by
  obtain ⟨g1, o1, c1, hv1, _, _, hc1⟩ := h1.form
  obtain ⟨g2, o2, c2, hv2, _, _, hc2⟩ := h2.form
  have H1 := Lib.hid hc1
  have H2 := Lib.hid hc2
  clear hc1 hc2
  subst hv1 hv2
  clear H1 H2
  cases hC : isC c with
  | false =>
    have HO := Lib.hid (subOk_f (u := u) hC)
    have HC := Lib.hid hC
    clear hC
    go_enter Tryz.func23, Tryz.ntmps23
    go_wp2_with fail
    refine (implIsCartan _ c hc _ h1).mono ?_
    rw [HC.out]
    rintro e w1 ⟨rfl, hb1⟩
    have k1 := h1.keep hb1
    have k2 := h2.keep hb1
    have hs1 := hb1.size
    go_wp2_with fail
    go_ret2
    obtain ⟨G, gs, vs, p1, p2, p3, p4⟩ := (rowsV_empty w1).own2 (by simp)
    exact ⟨_, by rw [HO.out]; rfl, by rw [subL_f HO.out]; exact ⟨G, gs, vs, by omega, p2, fun g hg => by have := p3 g hg; omega, p4⟩, hb1.alloc hs1 _⟩
  | true =>
    have HC := Lib.hid hC
    clear hC
    by_cases h0 : u.length = 0
    · have HO := Lib.hid (subOk_h (c := c) h0)
      have d0 : ((u.length : Int) == 0) = true := by rw [beq_iff_eq]; omega
      clear h0
      go_enter Tryz.func23, Tryz.ntmps23
      go_wp2_with fail
      refine (implIsCartan _ c hc _ h1).mono ?_
      rw [HC.out]
      rintro e w1 ⟨rfl, hb1⟩
      have k1 := h1.keep hb1
      have k2 := h2.keep hb1
      have hs1 := hb1.size
      go_wp2_with fail
      go_ret2
      obtain ⟨G, gs, vs, p1, p2, p3, p4⟩ := (rowsV_empty w1).own2 (by simp)
      exact ⟨_, by rw [HO.out]; rfl, by rw [subL_f HO.out]; exact ⟨G, gs, vs, by omega, p2, fun g hg => by have := p3 g hg; omega, p4⟩, hb1.alloc hs1 _⟩
    have d0 : ((u.length : Int) == 0) = false := by rw [beq_eq_false_iff_ne]; omega
    cases hU : setU c.length u with
    | false =>
      have HO := Lib.hid (subOk_g hU)
      have HU := Lib.hid hU
      clear hU h0
      go_enter Tryz.func23, Tryz.ntmps23
      go_wp2_with fail
      refine (implIsCartan _ c hc _ h1).mono ?_
      rw [HC.out]
      rintro e w1 ⟨rfl, hb1⟩
      have k1 := h1.keep hb1
      have k2 := h2.keep hb1
      have hs1 := hb1.size
      go_wp2_with fail
      refine (implIsSet _ _ c u (by omega) _ k1 k2).mono ?_
      rw [HU.out]
      rintro e w2 ⟨rfl, rfl⟩
      go_wp2_with fail
      go_ret2
      obtain ⟨G, gs, vs, p1, p2, p3, p4⟩ := (rowsV_empty w1).own2 (by simp)
      exact ⟨_, by rw [HO.out]; rfl, by rw [subL_f HO.out]; exact ⟨G, gs, vs, by omega, p2, fun g hg => by have := p3 g hg; omega, p4⟩, hb1.alloc hs1 _⟩
    | true =>
      have HO := Lib.hid (subOk_t HC.out hU h0)
      have HU := Lib.hid hU
      clear hU h0
      go_enter Tryz.func23, Tryz.ntmps23
      go_wp2_with fail
      refine (implIsCartan _ c hc _ h1).mono ?_
      rw [HC.out]
      rintro e w1 ⟨rfl, hb1⟩
      have k1 := h1.keep hb1
      have k2 := h2.keep hb1
      have hs1 := hb1.size
      go_wp2_with fail
      refine (implIsSet _ _ c u (by omega) _ k1 k2).mono ?_
      rw [HU.out]
      rintro e w2 ⟨rfl, rfl⟩
      go_wp2_with fail
      refine (implPicked _ _ c u HC.out HU.out hc hu _ k1 k2).mono ?_
      rintro e w2 ⟨v2, rfl, hown, hb2⟩
      obtain ⟨G, gs, vs, p1, p2, p3, p4⟩ := hown
      go_wp2_with fail
      go_ret2
      exact ⟨_, by rw [HO.out]; rfl, by rw [subL_t HO.out]; exact ⟨G, gs, vs, by omega, p2, fun g hg => by have := p3 g hg; omega, p4⟩, below_trans hb1 hb2⟩
end Go.Proofs.YtaikjkcbgniplaaGreatDoor
