/- AddWeights of the program and of the reference: both add the numbers at the same places (going round as Go's do), for slices of at most 2^40 numbers. -/
import Derived.Test.YtddoonefajnndaaInts
namespace Go.Proofs.Ytddoonefajnndaa
open Go.RowKit

def addL (a b : List Int) : List Int := List.zipWith (fun x y => IntKind.i64.wrap (x + y)) a b
theorem addL_length (a b : List Int) : (addL a b).length = min a.length b.length := by simp [addL]
theorem addL_take (a b : List Int) (k : Nat) (h1 : k < a.length) (h2 : k < b.length) : ivs ((addL a b).take (k + 1)) = ivs ((addL a b).take k) ++ [.int .i64 (IntKind.i64.wrap (a[k] + b[k]))] := by
  rw [List.take_succ_eq_append_getElem (by rw [addL_length]; omega)]
  simp [ivs, addL]

set_option maxHeartbeats 1000000 in
theorem specAddWeights (v1 v2 : Value) (a b : List Int) (ha : a.length ≤ 1099511627776) (hb : b.length ≤ 1099511627776) (w : World) (h1 : I w v1 a) (h2 : I w v2 b) :
    Calls Try.prog 27 #[v1, v2] w (RetInts w (addL a b)) := by
  obtain ⟨g1, o1, c1, rfl, _, _, hc1⟩ := h1.form
  obtain ⟨g2, o2, c2, rfl, _, _, hc2⟩ := h2.form
  have H1 := Lib.hid hc1
  have H2 := Lib.hid hc2
  clear hc1 hc2 h1 h2
  go_enter Try.func27, Try.ntmps27
  go_wp2_with fail
  go_loopw [5, 6] (fun v i wr => ∃ k : Nat, k ≤ a.length ∧ k ≤ b.length ∧ i = .int .i64 k ∧ RowV wr w.heap.size 3 v k (ivs ((addL a b).take k)) ∧ Below w.heap.size w wr) (fun _ i _ => a.length - (intOf i).toNat)
  case atStart => exact ⟨0, by omega, by omega, rfl, rowV_empty w _, (Below.refl _ _).alloc (Nat.le_refl _) _⟩
  case round =>
    obtain ⟨k, hka, hkb, rfl, hrow, hbel⟩ := hrel
    by_cases hlt' : k < a.length ∧ k < b.length
    · obtain ⟨q1, q2⟩ := hlt'
      have x1 := (hbel.cell (World.block_lt_of_cell? w _ (H1.out k q1))).trans (H1.out k q1)
      have x2 := (hbel.cell (World.block_lt_of_cell? w _ (H2.out k q2))).trans (H2.out k q2)
      have hl1 := World.block_lt_of_cell? w _ (H1.out k q1)
      have hl2 := World.block_lt_of_cell? w _ (H2.out k q2)
      have hk0 : (0 : Int) ≤ (k : Int) := by omega
      have hk1 : (k : Int) < (a.length : Int) := by omega
      have hk2 : (k : Int) < (b.length : Int) := by omega
      go_wp2_with fail
      go_region_held3 (fun w' => w'.cell? ⟨g1, o1 + k, none⟩ = some (.int .i64 a[k]) ∧ w'.cell? ⟨g2, o2 + k, none⟩ = some (.int .i64 b[k])) (first | go_keep | (go_split_ands; exact ⟨(hb1.cell hl1).trans ‹_›, (hb1.cell hl2).trans ‹_›⟩)) ((refine step_pushV elemInt _ (by rfl) _ _ (by rfl) w.heap.size u5 k _ (by rfl) ((hrow.alloc _).drew) (.int .i64 (IntKind.i64.wrap (a[k] + b[k]))) wr.heap.size (by rfl) (cell_new1d _ _ _) (by rfl) (by omega) (by have := hbel.size; simp; omega) ?_; intro gg cap w1 hrow1 hgrow hb1))
      go_wp2_with fail
      go_roundw
      case rel => exact ⟨k + 1, by omega, by omega, by go_num, hrow1.cast rfl rfl (addL_take a b k q1 q2).symm, ((hbel.alloc hbel.size _).drew).trans hb1⟩
      case measure => simp [intOf]; omega
    · by_cases hka2 : k < a.length
      · have d1 : decide (k < b.length) = false := by simp; omega
        have hend : (addL a b).take k = addL a b := List.take_of_length_le (by rw [addL_length]; omega)
        rw [hend] at hrow
        obtain ⟨g, hg, hown⟩ := hrow.own
        clear hend
        go_wp2_with fail
        go_ret
        exact ⟨_, g, rfl, hg, hown, hbel⟩
      · have d1 : decide (k < a.length) = false := by simp; omega
        have hend : (addL a b).take k = addL a b := List.take_of_length_le (by rw [addL_length]; omega)
        rw [hend] at hrow
        obtain ⟨g, hg, hown⟩ := hrow.own
        clear hend
        go_wp2_with fail
        go_ret
        exact ⟨_, g, rfl, hg, hown, hbel⟩
set_option maxHeartbeats 1000000 in
theorem implAddWeights (v1 v2 : Value) (a b : List Int) (ha : a.length ≤ 1099511627776) (hb : b.length ≤ 1099511627776) (w : World) (h1 : I w v1 a) (h2 : I w v2 b) :
    Calls Try.prog 29 #[v1, v2] w (RetInts w (addL a b)) := by
  obtain ⟨g1, o1, c1, rfl, _, _, hc1⟩ := h1.form
  obtain ⟨g2, o2, c2, rfl, _, _, hc2⟩ := h2.form
  have H1 := Lib.hid hc1
  have H2 := Lib.hid hc2
  clear hc1 hc2 h1 h2
  by_cases hle : a.length ≤ b.length
  · skip
    go_enter Try.func29, Try.ntmps29
    go_wp2_with fail
    go_loopw [5, 13] (fun v i wr => ∃ k : Nat, k ≤ a.length ∧ k ≤ b.length ∧ i = .int .i64 k ∧ RowV wr w.heap.size 3 v k (ivs ((addL a b).take k)) ∧ Below w.heap.size w wr) (fun _ i _ => a.length - (intOf i).toNat)
    case atStart => exact ⟨0, by omega, by omega, rfl, rowV_empty w _, (Below.refl _ _).alloc (Nat.le_refl _) _⟩
    case round =>
      obtain ⟨k, hka, hkb, rfl, hrow, hbel⟩ := hrel
      by_cases hlt' : k < a.length ∧ k < b.length
      · obtain ⟨q1, q2⟩ := hlt'
        have x1 := (hbel.cell (World.block_lt_of_cell? w _ (H1.out k q1))).trans (H1.out k q1)
        have x2 := (hbel.cell (World.block_lt_of_cell? w _ (H2.out k q2))).trans (H2.out k q2)
        have hl1 := World.block_lt_of_cell? w _ (H1.out k q1)
        have hl2 := World.block_lt_of_cell? w _ (H2.out k q2)
        have hk0 : (0 : Int) ≤ (k : Int) := by omega
        have hk1 : (k : Int) < (a.length : Int) := by omega
        have hk2 : (k : Int) < (b.length : Int) := by omega
        go_wp2_with fail
        go_region_held3 (fun w' => w'.cell? ⟨g1, o1 + k, none⟩ = some (.int .i64 a[k]) ∧ w'.cell? ⟨g2, o2 + k, none⟩ = some (.int .i64 b[k])) (first | go_keep | (go_split_ands; exact ⟨(hb1.cell hl1).trans ‹_›, (hb1.cell hl2).trans ‹_›⟩)) ((refine step_pushV elemInt _ (by rfl) _ _ (by rfl) w.heap.size u5 k _ (by rfl) ((hrow.alloc _).drew) (.int .i64 (IntKind.i64.wrap (a[k] + b[k]))) wr.heap.size (by rfl) (cell_new1d _ _ _) (by rfl) (by omega) (by have := hbel.size; simp; omega) ?_; intro gg cap w1 hrow1 hgrow hb1))
        go_wp2_with fail
        go_roundw
        case rel => exact ⟨k + 1, by omega, by omega, by go_num, hrow1.cast rfl rfl (addL_take a b k q1 q2).symm, ((hbel.alloc hbel.size _).drew).trans hb1⟩
        case measure => simp [intOf]; omega
      · have hend : (addL a b).take k = addL a b := List.take_of_length_le (by rw [addL_length]; omega)
        rw [hend] at hrow
        obtain ⟨g, hg, hown⟩ := hrow.own
        clear hend
        go_wp2_with fail
        go_ret
        exact ⟨_, g, rfl, hg, hown, hbel⟩
  · skip
    go_enter Try.func29, Try.ntmps29
    go_wp2_with fail
    go_loopw [5, 13] (fun v i wr => ∃ k : Nat, k ≤ a.length ∧ k ≤ b.length ∧ i = .int .i64 k ∧ RowV wr w.heap.size 3 v k (ivs ((addL a b).take k)) ∧ Below w.heap.size w wr) (fun _ i _ => a.length - (intOf i).toNat)
    case atStart => exact ⟨0, by omega, by omega, rfl, rowV_empty w _, (Below.refl _ _).alloc (Nat.le_refl _) _⟩
    case round =>
      obtain ⟨k, hka, hkb, rfl, hrow, hbel⟩ := hrel
      by_cases hlt' : k < a.length ∧ k < b.length
      · obtain ⟨q1, q2⟩ := hlt'
        have x1 := (hbel.cell (World.block_lt_of_cell? w _ (H1.out k q1))).trans (H1.out k q1)
        have x2 := (hbel.cell (World.block_lt_of_cell? w _ (H2.out k q2))).trans (H2.out k q2)
        have hl1 := World.block_lt_of_cell? w _ (H1.out k q1)
        have hl2 := World.block_lt_of_cell? w _ (H2.out k q2)
        have hk0 : (0 : Int) ≤ (k : Int) := by omega
        have hk1 : (k : Int) < (a.length : Int) := by omega
        have hk2 : (k : Int) < (b.length : Int) := by omega
        go_wp2_with fail
        go_region_held3 (fun w' => w'.cell? ⟨g1, o1 + k, none⟩ = some (.int .i64 a[k]) ∧ w'.cell? ⟨g2, o2 + k, none⟩ = some (.int .i64 b[k])) (first | go_keep | (go_split_ands; exact ⟨(hb1.cell hl1).trans ‹_›, (hb1.cell hl2).trans ‹_›⟩)) ((refine step_pushV elemInt _ (by rfl) _ _ (by rfl) w.heap.size u5 k _ (by rfl) ((hrow.alloc _).drew) (.int .i64 (IntKind.i64.wrap (a[k] + b[k]))) wr.heap.size (by rfl) (cell_new1d _ _ _) (by rfl) (by omega) (by have := hbel.size; simp; omega) ?_; intro gg cap w1 hrow1 hgrow hb1))
        go_wp2_with fail
        go_roundw
        case rel => exact ⟨k + 1, by omega, by omega, by go_num, hrow1.cast rfl rfl (addL_take a b k q1 q2).symm, ((hbel.alloc hbel.size _).drew).trans hb1⟩
        case measure => simp [intOf]; omega
      · have hend : (addL a b).take k = addL a b := List.take_of_length_le (by rw [addL_length]; omega)
        rw [hend] at hrow
        obtain ⟨g, hg, hown⟩ := hrow.own
        clear hend
        go_wp2_with fail
        go_ret
        exact ⟨_, g, rfl, hg, hown, hbel⟩
end Go.Proofs.Ytddoonefajnndaa
