/- CompareWords of the program (and cmp.Compare, cmp.Or, slices.Compare): what they answer, for words of at most 2^40 letters. -/
import Derived.Test.YtgappocmdbaahaaCmp
namespace Go.Proofs.Ytgappocmdbaahaa
open Go.RowKit
set_option linter.unusedVariables false

def cmpI (x y : Int) : Int := if x < y then -1 else if y < x then 1 else 0
theorem isNaN (x : Int) (w : World) : Calls Try.prog 95 #[.int .i64 x] w fun e w' => e = .returned (.bool false) ∧ w = w' := by
  have hb : (x != x) = false := by simp
  go_enter Try.func95, Try.ntmps95
  go_wp2_with fail
  go_ret
  exact ⟨rfl, rfl⟩
set_option maxHeartbeats 400000 in
theorem cmpCompare (x y : Int) (w : World) : Calls Try.prog 70 #[.int .i64 x, .int .i64 y] w fun e w' => e = .returned (.int .i64 (cmpI x y)) ∧ w = w' := by
  by_cases h1 : x < y
  · have d1 : decide (x < y) = true := by rw [decide_eq_true_iff]; exact h1
    have HF := Lib.hid (show cmpI x y = -1 by rw [cmpI, if_pos h1])
    clear h1
    go_enter Try.func70, Try.ntmps70
    go_wp2_with (go_at_call 95; refine (isNaN _ _).mono ?_; rintro e w1 ⟨rfl, rfl⟩)
    go_ret
    exact ⟨ret_int HF.out.symm, rfl⟩
  · by_cases h2 : y < x
    · have d1 : decide (x < y) = false := by rw [decide_eq_false_iff_not]; exact h1
      have d2 : decide (y < x) = true := by rw [decide_eq_true_iff]; exact h2
      have HF := Lib.hid (show cmpI x y = 1 by rw [cmpI, if_neg h1, if_pos h2])
      clear h1 h2
      go_enter Try.func70, Try.ntmps70
      go_wp2_with (go_at_call 95; refine (isNaN _ _).mono ?_; rintro e w1 ⟨rfl, rfl⟩)
      go_ret
      exact ⟨ret_int HF.out.symm, rfl⟩
    · have d1 : decide (x < y) = false := by rw [decide_eq_false_iff_not]; exact h1
      have d2 : decide (y < x) = false := by rw [decide_eq_false_iff_not]; exact h2
      have HF := Lib.hid (show cmpI x y = 0 by rw [cmpI, if_neg h1, if_neg h2])
      clear h1 h2
      go_enter Try.func70, Try.ntmps70
      go_wp2_with (go_at_call 95; refine (isNaN _ _).mono ?_; rintro e w1 ⟨rfl, rfl⟩)
      go_ret
      exact ⟨ret_int HF.out.symm, rfl⟩
def orL : List Int → Int
  | [] => 0
  | x :: r => if x = 0 then orL r else x
theorem orL_drop (a : List Int) (k : Nat) (h : k < a.length) : orL (a.drop k) = if a[k] = 0 then orL (a.drop (k + 1)) else a[k] := by
  rw [List.drop_eq_getElem_cons h, orL]
set_option maxHeartbeats 400000 in
theorem cmpOr (v1 : Value) (a : List Int) (ha : a.length ≤ 1099511627776) (w : World) (h1 : I w v1 a) :
    Calls Try.prog 69 #[v1] w fun e w' => e = .returned (.int .i64 (orL a)) ∧ w = w' := by
  obtain ⟨g1, o1, c1, rfl, _, _, hc1⟩ := h1.form
  have H1 := Lib.hid hc1
  clear hc1 h1
  go_enter Try.func69, Try.ntmps69
  go_wp2_with fail
  go_loop [8] (fun i => ∃ k : Nat, k ≤ a.length ∧ i = .int .i64 k ∧ Hid (orL (a.drop k) = orL a)) (fun i => a.length - (intOf i).toNat)
  case atStart => exact ⟨0, by omega, rfl, rfl⟩
  case round =>
    obtain ⟨k, hk, rfl, HG⟩ := hrel
    by_cases hlt' : k < a.length
    · have x1 := H1.out k hlt'
      have HD := Lib.hid (orL_drop a k hlt')
      obtain ⟨u, hu⟩ : ∃ u, a[k] = u := ⟨_, rfl⟩
      rw [hu] at x1 HD
      clear hu
      by_cases hx : u = 0
      · have hb : (u != 0) = false := by rw [bne_eq_false_iff_eq]; exact hx
        have HX := Lib.hid hx
        clear hx
        go_wp2_with fail
        go_round
        case rel => exact ⟨k + 1, by omega, by go_num, Lib.hid (by rw [← HG.out, HD.out, if_pos HX.out])⟩
        case measure => simp [intOf]; omega
      · have hb : (u != 0) = true := by rw [bne_iff_ne]; exact hx
        have HF := Lib.hid (show orL a = u by rw [← HG.out, HD.out, if_neg hx])
        clear hx
        go_wp2_with fail
        go_ret
        exact ⟨ret_int HF.out.symm, rfl⟩
    · obtain rfl : k = a.length := by omega
      have HF := Lib.hid (show orL a = 0 by rw [← HG.out, List.drop_length]; rfl)
      go_wp2_with fail
      go_ret
      exact ⟨ret_int HF.out.symm, rfl⟩
def scmp : List Int → List Int → Int
  | [], [] => 0
  | [], _ :: _ => -1
  | _ :: _, [] => 1
  | x :: a, y :: b => if x < y then -1 else if y < x then 1 else scmp a b
theorem scmp_lex : ∀ a b : List Int, a.length = b.length → scmp a b = lexL a b
  | [], [], _ => rfl
  | x :: a, y :: b, h => by rw [scmp, lexL, scmp_lex a b (by simpa using h)]
theorem scmp_drop (a b : List Int) (k : Nat) (h1 : k < a.length) (h2 : k < b.length) : scmp (a.drop k) (b.drop k) = if cmpI a[k] b[k] = 0 then scmp (a.drop (k + 1)) (b.drop (k + 1)) else cmpI a[k] b[k] := by
  rw [List.drop_eq_getElem_cons h1, List.drop_eq_getElem_cons h2, scmp, cmpI]
  by_cases c1 : a[k] < b[k]
  · simp [c1]
  · by_cases c2 : b[k] < a[k] <;> simp [c1, c2]
theorem scmp_long (a b : List Int) (k : Nat) (h1 : k < a.length) (h2 : b.length ≤ k) : scmp (a.drop k) (b.drop k) = 1 := by
  rw [List.drop_eq_getElem_cons h1, List.drop_of_length_le h2, scmp]
theorem scmp_short (a b : List Int) (h2 : a.length < b.length) : scmp (a.drop a.length) (b.drop a.length) = -1 := by
  rw [List.drop_eq_getElem_cons h2, List.drop_length, scmp]
theorem scmp_same (a b : List Int) (h2 : b.length ≤ a.length) : scmp (a.drop a.length) (b.drop a.length) = 0 := by
  rw [List.drop_of_length_le h2, List.drop_length, scmp]
set_option maxHeartbeats 1000000 in
theorem slicesCompare (v1 v2 : Value) (a b : List Int) (ha : a.length ≤ 1099511627776) (hb : b.length ≤ 1099511627776) (w : World) (h1 : I w v1 a) (h2 : I w v2 b) :
    Calls Try.prog 71 #[v1, v2] w fun e w' => e = .returned (.int .i64 (scmp a b)) ∧ w = w' := by
  obtain ⟨g1, o1, c1, rfl, _, _, hc1⟩ := h1.form
  obtain ⟨g2, o2, c2, rfl, _, _, hc2⟩ := h2.form
  have H1 := Lib.hid hc1
  have H2 := Lib.hid hc2
  clear hc1 hc2 h1 h2
  go_enter Try.func71, Try.ntmps71
  go_wp2_with fail
  go_loop [11] (fun i => ∃ k : Nat, k ≤ a.length ∧ i = .int .i64 k ∧ Hid (scmp (a.drop k) (b.drop k) = scmp a b)) (fun i => a.length - (intOf i).toNat)
  case atStart => exact ⟨0, by omega, rfl, rfl⟩
  case round =>
    obtain ⟨k, hk, rfl, HG⟩ := hrel
    by_cases hlt' : k < a.length
    · have x1 := H1.out k hlt'
      by_cases hlt2 : k < b.length
      · have x2 := H2.out k hlt2
        have HD := Lib.hid (scmp_drop a b k hlt' hlt2)
        obtain ⟨x, hx⟩ : ∃ x, a[k] = x := ⟨_, rfl⟩
        obtain ⟨y, hy⟩ : ∃ y, b[k] = y := ⟨_, rfl⟩
        rw [hx] at x1 HD
        rw [hy] at x2 HD
        clear hx hy
        obtain ⟨q, hq⟩ : ∃ q, cmpI x y = q := ⟨_, rfl⟩
        rw [hq] at HD
        have HQ := Lib.hid hq
        clear hq
        have d0 : decide (b.length ≤ k) = false := by rw [decide_eq_false_iff_not]; omega
        by_cases hz : q = 0
        · have hb : (q != 0) = false := by rw [bne_eq_false_iff_eq]; exact hz
          have HX := Lib.hid hz
          clear hz
          go_wp2_with (go_at_call 70; refine (cmpCompare _ _ _).mono ?_; rw [HQ.out]; rintro e w1 ⟨rfl, rfl⟩)
          go_round
          case rel => exact ⟨k + 1, by omega, by go_num, Lib.hid (by rw [← HG.out, HD.out, if_pos HX.out])⟩
          case measure => simp [intOf]; omega
        · have hb : (q != 0) = true := by rw [bne_iff_ne]; exact hz
          have HF := Lib.hid (show scmp a b = q by rw [← HG.out, HD.out, if_neg hz])
          clear hz
          go_wp2_with (go_at_call 70; refine (cmpCompare _ _ _).mono ?_; rw [HQ.out]; rintro e w1 ⟨rfl, rfl⟩)
          go_ret
          exact ⟨ret_int HF.out.symm, rfl⟩
      · have HF := Lib.hid (show scmp a b = 1 by rw [← HG.out, scmp_long a b k hlt' (by omega)])
        go_wp2_with fail
        go_ret
        exact ⟨ret_int HF.out.symm, rfl⟩
    · obtain rfl : k = a.length := by omega
      by_cases hs : a.length < b.length
      · have HF := Lib.hid (show scmp a b = -1 by rw [← HG.out, scmp_short a b hs])
        go_wp2_with fail
        go_ret
        exact ⟨ret_int HF.out.symm, rfl⟩
      · have HF := Lib.hid (show scmp a b = 0 by rw [← HG.out, scmp_same a b (by omega)])
        go_wp2_with fail
        go_ret
        exact ⟨ret_int HF.out.symm, rfl⟩
theorem cell_two0 (w : World) (x y : Value) (t : TypeId) : (w.alloc (.cells #[x, y] t)).cell? ⟨w.heap.size, 0, none⟩ = some x := by rw [World.cell?_alloc_mark]; rfl
theorem cell_two1 (w : World) (x y : Value) (t : TypeId) : (w.alloc (.cells #[x, y] t)).cell? ⟨w.heap.size, 1, none⟩ = some y := by rw [World.cell?_alloc_mark]; rfl
theorem read_two (w : World) (x y : Int) (t : TypeId) : I (w.alloc (.cells #[.int .i64 x, .int .i64 y] t)) (.slice (some ⟨w.heap.size, 0, none⟩) 2 2) [x, y] := by
  refine ⟨w.heap.size, 0, 2, rfl, by simp [ivs], by unfold maxLen; omega, fun i u h => ?_⟩
  match i, h with
  | 0, h => simp [ivs] at h; subst h; exact cell_two0 w _ _ t
  | 1, h => simp [ivs] at h; subst h; exact cell_two1 w _ _ t
theorem cmp_join (a b : List Int) : orL [cmpI a.length b.length, scmp a b] = cmpL a b := by
  simp only [orL, cmpI, cmpL, Int.ofNat_lt]
  by_cases c1 : a.length < b.length
  · simp [c1]
  · by_cases c2 : b.length < a.length
    · simp [c1, c2]
    · rw [scmp_lex a b (by omega)]
      simp only [c1, c2, if_false, if_true]
      split
      · next h => exact h.symm
      · rfl
set_option maxHeartbeats 1000000 in
theorem implCompareWords (v1 v2 : Value) (a b : List Int) (ha : a.length ≤ 1099511627776) (hb : b.length ≤ 1099511627776) (w : World) (h1 : I w v1 a) (h2 : I w v2 b) :
    Calls Try.prog 40 #[v1, v2] w fun e w' => e = .returned (.int .i64 (cmpL a b)) ∧ Below w.heap.size w w' := by
  obtain ⟨g1, o1, c1, hv1, _, _, _⟩ := h1.form
  obtain ⟨g2, o2, c2, hv2, _, _, _⟩ := h2.form
  subst hv1 hv2
  have HF := Lib.hid (cmp_join a b)
  go_enter Try.func40, Try.ntmps40
  go_wp2_with fail
  refine (cmpCompare _ _ _).mono ?_
  rintro e w1 ⟨rfl, rfl⟩
  go_wp2_with fail
  refine (slicesCompare _ _ a b ha hb _ h1 h2).mono ?_
  rintro e w1 ⟨rfl, rfl⟩
  go_wp2_with fail
  refine (cmpOr _ [cmpI a.length b.length, scmp a b] (by simp) _ (read_two w _ _ _)).mono ?_
  rintro e w1 ⟨rfl, rfl⟩
  go_wp2_with fail
  go_ret
  exact ⟨ret_int HF.out, below_new w _⟩
end Go.Proofs.Ytgappocmdbaahaa
