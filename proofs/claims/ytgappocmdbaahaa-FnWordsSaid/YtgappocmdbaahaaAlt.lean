/- AlternatingWord of the program and of the reference: both answer two letters in turn, at most fifteen. -/
import Derived.Test.YtgappocmdbaahaaInts
namespace Go.Proofs.Ytgappocmdbaahaa
open Go.RowKit

def altN (n : Int) : Nat := min n.toNat 15
theorem altN_spec (n : Int) : altN n ≤ 15 ∧ ((altN n : Int) ≤ n ∨ n < 0 ∧ altN n = 0) ∧ ((altN n : Int) = n ∨ altN n = 15 ∨ n < 0) := by unfold altN; omega
def altL (i j n : Int) : List Int := (List.range (altN n)).map fun k => if k % 2 = 0 then i else j
theorem altL_take (i j n : Int) (k : Nat) (h : k < altN n) : ivs ((altL i j n).take (k + 1)) = ivs ((altL i j n).take k) ++ [.int .i64 (if k % 2 = 0 then i else j)] := by
  rw [List.take_succ_eq_append_getElem (by simpa [altL] using h)]
  simp [ivs, altL]
theorem altL_length (i j n : Int) : (altL i j n).length ≤ 15 := by simp [altL, altN]; omega

set_option maxHeartbeats 1000000 in
theorem specAlternatingWord (i j n : Int) (w : World) :
    Calls Try.prog 49 #[.int .i64 i, .int .i64 j, .int .i64 n] w (RetInts w (altL i j n)) := by
  go_enter Try.func49, Try.ntmps49
  go_wp2_with fail
  go_loopw [7, 8] (fun v c wr => ∃ k : Nat, k ≤ altN n ∧ c = .int .i64 k ∧ RowV wr w.heap.size 3 v k (ivs ((altL i j n).take k)) ∧ Below w.heap.size w wr) (fun _ c _ => altN n - (intOf c).toNat)
  case atStart => exact ⟨0, by omega, rfl, rowV_empty w _, (Below.refl _ _).alloc (Nat.le_refl _) _⟩
  case round =>
    obtain ⟨k, hk, rfl, hrow, hbel⟩ := hrel
    have hN := altN_spec n
    by_cases hlt' : k < altN n
    · have hk1 : (k : Int) < n := by omega
      have hk2 : (k : Int) < 15 := by omega
      by_cases he : k % 2 = 0
      · have hm : ((k : Int) % 2 == 0) = true := by rw [beq_iff_eq]; omega
        have HE := Lib.hid he
        clear he hN
        go_wp2_with (at_builtin; refine wpList_pushV elemInt _ rfl _ _ rfl w.heap.size u7 k _ rfl (hrow.alloc _) (.int .i64 i) wr.heap.size rfl (cell_new1 _ _ _) rfl (by omega) (by have := hbel.size; simp; omega) ?_; intro gg cap w1 hrow1 hgrow hb1)
        go_roundw
        case rel => exact ⟨k + 1, by omega, by go_num, hrow1.cast rfl rfl (by rw [altL_take i j n k hlt', if_pos HE.out]), (hbel.alloc hbel.size _).trans hb1⟩
        case measure => simp [intOf]; omega
      · have hm : ((k : Int) % 2 == 0) = false := by rw [beq_eq_false_iff_ne]; omega
        have HE := Lib.hid he
        clear he hN
        go_wp2_with (at_builtin; refine wpList_pushV elemInt _ rfl _ _ rfl w.heap.size u7 k _ rfl (hrow.alloc _) (.int .i64 j) wr.heap.size rfl (cell_new1 _ _ _) rfl (by omega) (by have := hbel.size; simp; omega) ?_; intro gg cap w1 hrow1 hgrow hb1)
        go_roundw
        case rel => exact ⟨k + 1, by omega, by go_num, hrow1.cast rfl rfl (by rw [altL_take i j n k hlt', if_neg HE.out]), (hbel.alloc hbel.size _).trans hb1⟩
        case measure => simp [intOf]; omega
    · have hend : (altL i j n).take k = altL i j n := List.take_of_length_le (by simp [altL]; omega)
      rw [hend] at hrow
      clear hend
      obtain ⟨g, hg, hown⟩ := hrow.own
      by_cases hn : (k : Int) < n
      · have d2 : decide ((k : Int) < 15) = false := by simp; omega
        clear hN
        go_wp2_with fail
        go_ret
        exact ⟨_, g, rfl, hg, hown, hbel⟩
      · have d1 : decide ((k : Int) < n) = false := by simpa using hn
        clear hN
        go_wp2_with fail
        go_ret
        exact ⟨_, g, rfl, hg, hown, hbel⟩
set_option maxHeartbeats 1000000 in
theorem implAlternatingWord (i j n : Int) (w : World) :
    Calls Try.prog 48 #[.int .i64 i, .int .i64 j, .int .i64 n] w (RetInts w (altL i j n)) := by
  go_enter Try.func48, Try.ntmps48
  go_wp2_with fail
  go_loopw [7, 8] (fun v c wr => ∃ k : Nat, k ≤ altN n ∧ c = .int .i64 k ∧ RowV wr w.heap.size 3 v k (ivs ((altL i j n).take k)) ∧ Below w.heap.size w wr) (fun _ c _ => altN n - (intOf c).toNat)
  case atStart => exact ⟨0, by omega, rfl, rowV_empty w _, (Below.refl _ _).alloc (Nat.le_refl _) _⟩
  case round =>
    obtain ⟨k, hk, rfl, hrow, hbel⟩ := hrel
    have hN := altN_spec n
    by_cases hlt' : k < altN n
    · have hk1 : (k : Int) < n := by omega
      have hk2 : (k : Int) < 15 := by omega
      by_cases he : k % 2 = 0
      · have hm : ((k : Int) % 2 == 0) = true := by rw [beq_iff_eq]; omega
        have HE := Lib.hid he
        clear he hN
        go_wp2_with (at_builtin; refine wpList_pushV elemInt _ rfl _ _ rfl w.heap.size u7 k _ rfl (hrow.alloc _) (.int .i64 i) wr.heap.size rfl (cell_new1 _ _ _) rfl (by omega) (by have := hbel.size; simp; omega) ?_; intro gg cap w1 hrow1 hgrow hb1)
        go_roundw
        case rel => exact ⟨k + 1, by omega, by go_num, hrow1.cast rfl rfl (by rw [altL_take i j n k hlt', if_pos HE.out]), (hbel.alloc hbel.size _).trans hb1⟩
        case measure => simp [intOf]; omega
      · have hm : ((k : Int) % 2 == 0) = false := by rw [beq_eq_false_iff_ne]; omega
        have HE := Lib.hid he
        clear he hN
        go_wp2_with (at_builtin; refine wpList_pushV elemInt _ rfl _ _ rfl w.heap.size u7 k _ rfl (hrow.alloc _) (.int .i64 j) wr.heap.size rfl (cell_new1 _ _ _) rfl (by omega) (by have := hbel.size; simp; omega) ?_; intro gg cap w1 hrow1 hgrow hb1)
        go_roundw
        case rel => exact ⟨k + 1, by omega, by go_num, hrow1.cast rfl rfl (by rw [altL_take i j n k hlt', if_neg HE.out]), (hbel.alloc hbel.size _).trans hb1⟩
        case measure => simp [intOf]; omega
    · have hend : (altL i j n).take k = altL i j n := List.take_of_length_le (by simp [altL]; omega)
      rw [hend] at hrow
      clear hend
      obtain ⟨g, hg, hown⟩ := hrow.own
      by_cases hn : (k : Int) < n
      · have d2 : decide ((k : Int) < 15) = false := by simp; omega
        clear hN
        go_wp2_with fail
        go_ret
        exact ⟨_, g, rfl, hg, hown, hbel⟩
      · have d1 : decide ((k : Int) < n) = false := by simpa using hn
        clear hN
        go_wp2_with fail
        go_ret
        exact ⟨_, g, rfl, hg, hown, hbel⟩
end Go.Proofs.Ytgappocmdbaahaa
