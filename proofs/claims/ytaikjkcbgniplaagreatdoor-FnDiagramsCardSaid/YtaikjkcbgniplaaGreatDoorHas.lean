/- Whether a list holds a number (l3Has; slices.Index, slices.Contains), and slices.Clone. -/
import Derived.Test.YtaikjkcbgniplaaGreatDoorOrd
namespace Go.Proofs.YtaikjkcbgniplaaGreatDoor
open Go.RowKit
set_option linter.unusedVariables false

theorem own_single (w : World) (e : TypeId) (u : Value) : RowV (w.alloc (.cells #[u] e)) w.heap.size e (.slice (some ⟨w.heap.size, 0, none⟩) 1 1) 1 [u] :=
  OwnV.rowV (xs := [u]) ⟨1, #[u], rfl, heap_alloc_new w _, by simp, by unfold maxLen; omega, rfl, rfl⟩ (Nat.le_refl _)
theorem RowV.mono' {w : World} {B B' : Nat} {e : TypeId} {v : Value} {n : Nat} {xs : List Value} (h : RowV w B e v n xs) (hB : B' ≤ B) : RowV w B' e v n xs := by
  obtain ⟨g, hg, ho⟩ := h.own
  have hn : n = xs.length := by have := h.1.1; omega
  subst hn
  exact ho.rowV (by omega)
def hasL (l : List Int) (x : Int) : Bool := l.contains x
theorem has_at {l : List Int} {x : Int} (k : Nat) (h : k < l.length) (e : l[k] = x) : hasL l x = true := by
  rw [hasL, List.contains_iff_mem]; exact List.mem_iff_getElem.2 ⟨k, h, e⟩
theorem has_not {l : List Int} {x : Int} (h : ∀ j (hj : j < l.length), l[j] ≠ x) : hasL l x = false := by
  cases hc : hasL l x with
  | false => rfl
  | true =>
    rw [hasL, List.contains_iff_mem] at hc
    obtain ⟨j, hj, e⟩ := List.mem_iff_getElem.1 hc
    exact absurd e (h j hj)
set_option maxHeartbeats 1000000 in
theorem specHas (v : Value) (l : List Int) (x : Int) (hl : l.length ≤ 1099511627776) (w : World) (h : I w v l) :
    Calls Tryz.prog 86 #[v, .int .i64 x] w fun e w' => e = .returned (.bool (hasL l x)) ∧ w = w' := by
  obtain ⟨g, o, cap, hv, _, _, hc⟩ := h.form
  subst hv
  have HC := Lib.hid hc
  clear hc h
  go_enter Tryz.func86, Tryz.ntmps86
  go_wp2_with fail
  go_loop [5] (fun i => ∃ k : Nat, k ≤ l.length ∧ i = .int .i64 k ∧ Hid (∀ j (hj : j < l.length), j < k → l[j] ≠ x)) (fun i => l.length - (intOf i).toNat)
  case atStart => exact ⟨0, by omega, rfl, fun j _ h => absurd h (Nat.not_lt_zero j)⟩
  case round =>
    obtain ⟨k, hk, rfl, HN⟩ := hrel
    by_cases hlt' : k < l.length
    · have x1 := HC.out k hlt'
      obtain ⟨y, hy⟩ : ∃ y, l[k] = y := ⟨_, rfl⟩
      rw [hy] at x1
      by_cases e : y = x
      · have d1 : (y == x) = true := by rw [beq_iff_eq]; exact e
        have HF := Lib.hid (has_at k hlt' (hy.trans e))
        clear hy e
        go_wp2_with fail
        go_ret
        exact ⟨ret_bool HF.out.symm, rfl⟩
      · have d1 : (y == x) = false := by rw [beq_eq_false_iff_ne]; exact e
        have HY := Lib.hid (show l[k] ≠ x by rw [hy]; exact e)
        clear hy e
        go_wp2_with fail
        go_round
        case rel =>
          refine ⟨k + 1, by omega, by go_num, fun j hj hjk => ?_⟩
          by_cases e : j = k
          · subst e; exact HY.out
          · exact HN.out j hj (by omega)
        case measure => simp [intOf]; omega
    · obtain rfl : k = l.length := by omega
      have HF := Lib.hid (has_not (l := l) (x := x) (fun j hj => HN.out j hj hj))
      go_wp2_with fail
      go_ret
      exact ⟨ret_bool HF.out.symm, rfl⟩
/-- nil, or what reads as the numbers. -/
def N0 (w : World) (v : Value) (zs : List Int) : Prop := (v = .slice none 0 0 ∧ zs = []) ∨ I w v zs
theorem N0.keep {w w' : World} {v : Value} {zs : List Int} (h : N0 w v zs) (hb : Below w.heap.size w w') : N0 w' v zs := h.elim .inl (fun h => .inr (h.keep hb))
theorem N0.form {w : World} {v : Value} {zs : List Int} (h : N0 w v zs) : ∃ a cap, v = .slice a zs.length cap ∧ ∀ i (hi : i < zs.length), ∃ x, a = some x ∧ w.cell? (x.add i) = some (.int .i64 zs[i]) := by
  rcases h with ⟨rfl, rfl⟩ | h
  · exact ⟨none, 0, rfl, fun i hi => absurd hi (Nat.not_lt_zero i)⟩
  · obtain ⟨g, o, cap, hv, _, _, hc⟩ := h.form
    refine ⟨_, cap, hv, fun i hi => ⟨_, rfl, ?_⟩⟩
    have : (⟨g, o, none⟩ : Addr).add i = ⟨g, o + i, none⟩ := by unfold Addr.add; split <;> simp_all
    rw [this]; exact hc i hi
/-- Some number, not negative exactly if x is there. -/
def IdxR (l : List Int) (x : Int) (w : World) (e : Ending) (w' : World) : Prop := ∃ q : Int, e = .returned (.int .i64 q) ∧ decide (0 ≤ q) = hasL l x ∧ w = w'
set_option maxHeartbeats 1000000 in
theorem slicesIndex (v : Value) (l : List Int) (x : Int) (hl : l.length ≤ 1099511627776) (w : World) (h : N0 w v l) :
    Calls Tryz.prog 130 #[v, .int .i64 x] w (IdxR l x w) := by
  rcases h with ⟨rfl, rfl⟩ | h
  · go_enter Tryz.func130, Tryz.ntmps130
    go_wp2_with fail
    go_loop [8] (fun i => i = .int .i64 0) (fun i => 0)
    case atStart => rfl
    case round =>
      subst hrel
      go_wp2_with fail
      go_ret
      exact ⟨_, rfl, rfl, rfl⟩
  obtain ⟨g, o, cap, hv, _, _, hc⟩ := h.form
  subst hv
  have HC := Lib.hid hc
  clear hc h
  go_enter Tryz.func130, Tryz.ntmps130
  go_wp2_with fail
  go_loop [8] (fun i => ∃ k : Nat, k ≤ l.length ∧ i = .int .i64 k ∧ Hid (∀ j (hj : j < l.length), j < k → l[j] ≠ x)) (fun i => l.length - (intOf i).toNat)
  case atStart => exact ⟨0, by omega, rfl, fun j _ h => absurd h (Nat.not_lt_zero j)⟩
  case round =>
    obtain ⟨k, hk, rfl, HN⟩ := hrel
    by_cases hlt' : k < l.length
    · have x1 := HC.out k hlt'
      obtain ⟨y, hy⟩ : ∃ y, l[k] = y := ⟨_, rfl⟩
      rw [hy] at x1
      by_cases e : y = x
      · have d1 : (x == y) = true := by rw [beq_iff_eq]; exact e.symm
        have HF := Lib.hid (has_at k hlt' (hy.trans e))
        clear hy e
        go_wp2_with fail
        go_ret
        exact ⟨_, rfl, by rw [HF.out, decide_eq_true_iff]; omega, rfl⟩
      · have d1 : (x == y) = false := by rw [beq_eq_false_iff_ne]; exact Ne.symm e
        have HY := Lib.hid (show l[k] ≠ x by rw [hy]; exact e)
        clear hy e
        go_wp2_with fail
        go_round
        case rel =>
          refine ⟨k + 1, by omega, by go_num, fun j hj hjk => ?_⟩
          by_cases e : j = k
          · subst e; exact HY.out
          · exact HN.out j hj (by omega)
        case measure => simp [intOf]; omega
    · obtain rfl : k = l.length := by omega
      have HF := Lib.hid (has_not (l := l) (x := x) (fun j hj => HN.out j hj hj))
      go_wp2_with fail
      go_ret
      exact ⟨_, rfl, by rw [HF.out]; rfl, rfl⟩
theorem slicesContains (v : Value) (l : List Int) (x : Int) (hl : l.length ≤ 1099511627776) (w : World) (h : N0 w v l) :
    Calls Tryz.prog 115 #[v, .int .i64 x] w fun e w' => e = .returned (.bool (hasL l x)) ∧ w = w' := by
  go_enter Tryz.func115, Tryz.ntmps115
  go_wp2_with fail
  refine (slicesIndex _ l x hl _ h).mono ?_
  rintro e w1 ⟨q, rfl, hq, rfl⟩
  have HI := Lib.hid hq
  clear hq
  go_wp2_with fail
  go_ret
  exact ⟨ret_bool HI.out, rfl⟩
/-- A clone: nil of nil, else a slice of its own. -/
def CloneR (w : World) (v : Value) (zs : List Int) (e : Ending) (w' : World) : Prop := ∃ u, e = .returned u ∧ ((v = .slice none 0 0 ∧ u = .slice none 0 0) ∨ (∃ g, w.heap.size ≤ g ∧ Own w' g u zs)) ∧ Below w.heap.size w w'
set_option maxHeartbeats 1000000 in
theorem slicesClone (v : Value) (l : List Int) (hl : l.length ≤ 274877906944) (w : World) (h : N0 w v l) :
    Calls Tryz.prog 109 #[v] w (CloneR w v l) := by
  have qn := fun (w : World) (a : Option Addr) (n c n' c' : Nat) => Lib.run_eql_slice_nil (P := Tryz.prog) w _ _ a n c n' c' Tryz.underlying27
  rcases h with ⟨rfl, rfl⟩ | h
  · go_enter Tryz.func109, Tryz.ntmps109
    go_wp2_with fail
    go_ret
    exact ⟨_, rfl, .inl ⟨rfl, rfl⟩, Below.refl _ _⟩
  obtain ⟨g, o, cap, hv, _, _, hc⟩ := h.form
  subst hv
  have HC := Lib.hid hc
  clear hc h
  have hbn := below_new w (.cells #[] 3)
  go_enter Tryz.func109, Tryz.ntmps109
  go_wp2_with (at_builtin; refine wpList_appendV elemInt _ rfl _ _ rfl w.heap.size (.slice (some ⟨w.heap.size, 0, none⟩) 0 0) 0 [] rfl (rowV_empty w _) (ivs l) g o l.length cap rfl (ivs_length l) (cells_after HC.out hbn) (ivs_one l) (by omega) hbn.size ?_; intro gg cp w1 hrow hgrow hb1)
  have hrow2 : RowV w1 w.heap.size 3 (.slice (some ⟨gg, 0, none⟩) l.length cp) l.length (ivs l) := hrow.cast (by rw [Nat.zero_add]) (by omega) (by simp)
  obtain ⟨g2, hg2, hown⟩ := hrow2.own
  have HO := Lib.hid hown
  clear hrow hrow2 hown
  go_wp2_with fail
  go_ret
  exact ⟨_, rfl, .inr ⟨g2, hg2, HO.out⟩, hbn.trans hb1⟩
end Go.Proofs.YtaikjkcbgniplaaGreatDoor
