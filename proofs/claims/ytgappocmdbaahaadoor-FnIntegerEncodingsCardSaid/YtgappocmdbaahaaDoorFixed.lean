/- EncodeFixed of the program and of the reference: what they answer, for every number and every width. -/
import Derived.Test.YtgappocmdbaahaaDoorLib
namespace Go.Proofs.YtgappocmdbaahaaDoor
open Go.RowKit

def fixL : Nat → Nat → List UInt8
  | 0, _ => []
  | m + 1, n => fixL m (n / 256) ++ [UInt8.ofNat (n % 256)]
def fixR (m n : Nat) : List UInt8 := if n / 256 ^ m = 0 then fixL m n else []
theorem fixL_length : ∀ (m n : Nat), (fixL m n).length = m
  | 0, _ => rfl
  | m + 1, n => by simp [fixL, fixL_length m]
theorem fixL_get : ∀ (m n j : Nat), j < m → (fixL m n)[j]? = some (UInt8.ofNat (n / 256 ^ (m - 1 - j) % 256))
  | 0, _, j, h => absurd h (Nat.not_lt_zero j)
  | m + 1, n, j, h => by
    rw [fixL]
    by_cases hj : j < m
    · rw [List.getElem?_append_left (by rw [fixL_length]; exact hj), fixL_get m _ j hj, Nat.div_div_eq_div_mul, show m + 1 - 1 - j = (m - 1 - j) + 1 by omega, Nat.pow_succ, Nat.mul_comm 256]
    · obtain rfl : j = m := by omega
      rw [List.getElem?_append_right (by rw [fixL_length]; omega), fixL_length]
      simp
/-- The reference builds from the least byte on. -/
theorem fixL_succ : ∀ (k n : Nat), fixL (k + 1) n = UInt8.ofNat (n / 256 ^ k % 256) :: fixL k n
  | 0, n => by simp [fixL]
  | k + 1, n => by
    rw [fixL, fixL_succ k (n / 256), fixL, Nat.div_div_eq_div_mul, Nat.pow_succ, Nat.mul_comm (256 ^ k)]
    rfl
theorem Tryd.infoU8f : (Tryd.prog.info? 5).map (fun i => (i.zero, i.size, i.bytes)) = some (some (.int .u8 0), 1, 1) := by kernel_rfl

set_option maxHeartbeats 400000 in
theorem implEncodeFixed (n m : Nat) (h1 : 1 ≤ m) (h7 : m ≤ 7) (hn : n < 256 ^ m) (w : World) :
    Calls Tryd.prog 27 #[.int .i64 n, .int .i64 m] w fun e w' => e = .returned (.string ⟨(fixL m n).toArray⟩) ∧ Below w.heap.size w w' := by
  have hmk := run_make_row' (P := Tryd.prog) 37 5 (.int .u8 0) 1 Tryd.underlying37 Tryd.infoU8f rfl .i64 .i64 m (by omega) (by omega)
  have d1 : decide ((m : Int) < 1) = false := by simp; omega
  have d2 : decide ((7 : Int) < m) = false := by simp; omega
  have d3 : decide ((n : Int) < 0) = false := by simp
  have d4 : ((n : Int) / 2 ^ (8 * m) != 0) = false := by
    have : n / 2 ^ (8 * m) = 0 := Nat.div_eq_of_lt (by rw [Nat.pow_mul]; exact hn)
    have h2 : (n : Int) / 2 ^ (8 * m) = ((n / 2 ^ (8 * m) : Nat) : Int) := by simp
    rw [h2, this]; rfl
  go_enter Tryd.func27, Tryd.ntmps27
  go_wp2_with fail
  clear hmk
  go_loopw [28] (fun i wr => ∃ (k : Nat), k ≤ m ∧ i = .int .i64 k ∧ wr.rowIs w.heap.size 5 m (fun j => if m - k ≤ j then .int .u8 (n / 256 ^ (m - 1 - j) % 256 : Nat) else .int .u8 0) ∧ Below w.heap.size w wr) (fun i _ => m - (intOf i).toNat)
  case atStart => exact ⟨0, by omega, rfl, (World.rowIs_made w _ m _).congr (fun i hi => by rw [if_neg (by omega)]), (Below.refl _ _).alloc (Nat.le_refl _) _⟩
  case round =>
    obtain ⟨k, hk, rfl, hrow, hbel⟩ := hrel
    by_cases hlt' : k < m
    · have hcell := hrow.cell (i := m - 1 - k) (by omega)
      have hfr := hrow.frozen (m - 1 - k)
      go_wp2_with fail
      go_roundw
      case rel =>
        refine ⟨k + 1, by omega, by go_num, ((hrow.set (m - 1 - k) _).congr ?_), hbel.setCell (Nat.le_refl _) _⟩
        intro j hj
        by_cases e : j = m - 1 - k
        · subst e
          rw [if_pos rfl, if_pos (by omega), show m - 1 - (m - 1 - k) = k by omega, show 256 ^ k = 2 ^ (8 * k) from (Nat.pow_mul 2 8 k).symm]
          simp
        · rw [if_neg e]
          by_cases e2 : m - k ≤ j
          · rw [if_pos e2, if_pos (by omega)]
          · rw [if_neg e2, if_neg (by omega)]
      case measure => simp [intOf]; omega
    · obtain rfl : k = m := by omega
      have hcv := run_convert_bytes_back (P := Tryd.prog) wr 37 9 5 ⟨w.heap.size, 0, none⟩ k (fixL k n) Tryd.underlying37 Tryd.underlying5 Tryd.underlying9 (fun j hj => by
        rw [fixL_length] at hj
        have hg := fixL_get k n j hj
        rw [List.getElem?_eq_some_iff] at hg
        obtain ⟨_, hg⟩ := hg
        rw [addr_add, hrow.cell hj, if_pos (by omega), hg, bv_ofNat _ (Nat.mod_lt _ (by omega))]
        rfl)
      rw [fixL_length] at hcv
      go_wp2_with fail
      go_ret
      exact ⟨rfl, hbel⟩
set_option maxHeartbeats 400000 in
theorem implEncodeFixedBig (n m : Nat) (h1 : 1 ≤ m) (h7 : m ≤ 7) (hn : 256 ^ m ≤ n) (w : World) :
    Calls Tryd.prog 27 #[.int .i64 n, .int .i64 m] w fun e w' => e = .returned (.string ⟨#[]⟩) ∧ w = w' := by
  have d1 : decide ((m : Int) < 1) = false := by simp; omega
  have d2 : decide ((7 : Int) < m) = false := by simp; omega
  have d3 : decide ((n : Int) < 0) = false := by simp
  have d4 : ((n : Int) / 2 ^ (8 * m) != 0) = true := by
    have : 0 < n / 2 ^ (8 * m) := Nat.div_pos (by rw [Nat.pow_mul]; exact hn) (Nat.pow_pos (by omega))
    have h2 : (n : Int) / 2 ^ (8 * m) = ((n / 2 ^ (8 * m) : Nat) : Int) := by simp
    rw [h2, bne_iff_ne]; omega
  go_enter Tryd.func27, Tryd.ntmps27
  go_wp2_with fail
  go_ret
  exact ⟨rfl, rfl⟩
set_option maxHeartbeats 400000 in
theorem specEncodeFixed (n m : Nat) (h1 : 1 ≤ m) (h7 : m ≤ 7) (hn : n < 9223372036854775808) (w : World) :
    Calls Tryd.prog 29 #[.int .i64 n, .int .i64 m] w fun e w' => e = .returned (.string ⟨(fixR m n).toArray⟩) ∧ Below w.heap.size w w' := by
  have HN := Lib.hid hn
  clear hn
  have d1 : decide ((1 : Int) ≤ m) = true := by simp; omega
  have d2 : decide ((m : Int) ≤ 7) = true := by simp; omega
  have d3 : decide ((n : Int) < 0) = false := by simp
  go_enter Tryd.func29, Tryd.ntmps29
  go_wp2_with (go_at_call 48; refine (l1In _ _ _ _).mono ?_; rintro e w1 ⟨rfl, rfl⟩)
  go_loopw [0, 5, 6] (fun x v i wr => ∃ (k : Nat), k ≤ m ∧ i = .int .i64 k ∧ x = .int .i64 (n / 256 ^ k : Nat) ∧ v = .string ⟨(fixL k n).toArray⟩ ∧ Below w.heap.size w wr) (fun _ _ i _ => m - (intOf i).toNat)
  case atStart => exact ⟨0, by omega, rfl, by simp, rfl, Below.refl _ _⟩
  case round =>
    obtain ⟨k, hk, rfl, rfl, rfl, hbel⟩ := hrel
    obtain ⟨q, hq⟩ : ∃ q, q = n / 256 ^ k := ⟨_, rfl⟩
    rw [← hq]
    have HQ := Lib.hid hq
    clear hq
    by_cases hlt' : k < m
    · have hcv := run_convert_bytes_back (P := Tryd.prog) (wr.alloc (.cells #[.int .u8 ((q : Int) % 256)] 5)) 37 9 5 ⟨wr.heap.size, 0, none⟩ 1 [UInt8.ofNat (q % 256)] Tryd.underlying37 Tryd.underlying5 Tryd.underlying9 (fun j hj => by
        obtain rfl : j = 0 := by simpa using hj
        have h := bv_ofNat (q % 256) (by omega)
        unfold bv at h
        rw [addr_add, World.cell?_alloc_mark, List.getElem_singleton, ← h]
        rfl)
      simp only [List.length_singleton] at hcv
      have hsz : (fixL k n).length ≤ 7 := by rw [fixL_length]; omega
      go_wp2_with fail
      go_roundw
      case rel =>
        refine ⟨k + 1, by omega, by go_num, ?_, ?_, hbel.alloc hbel.size _⟩
        · have h := HN.out
          have h2 : q ≤ n := by rw [HQ.out]; exact Nat.div_le_self _ _
          rw [IntWalk.wrap64_in _ ⟨by omega, by omega⟩, Nat.pow_succ, ← Nat.div_div_eq_div_mul, ← HQ.out]
          go_num
        · rw [fixL_succ, ← HQ.out]
          rfl
      case measure => simp [intOf]; omega
    · obtain rfl : k = m := by omega
      by_cases hq0 : q = 0
      · subst hq0
        go_wp2_with fail
        go_ret
        exact ⟨by rw [fixR, if_pos (by have := HQ.out; omega)]; rfl, hbel⟩
      · have hq1 : 1 ≤ q := by omega
        go_wp2_with fail
        go_ret
        exact ⟨by rw [fixR, if_neg (by have := HQ.out; omega)]; rfl, hbel⟩
set_option maxHeartbeats 400000 in
theorem specEncodeFixedNo (n m : Int) (h : m < 1 ∨ 7 < m ∨ n < 0) (w : World) :
    Calls Tryd.prog 29 #[.int .i64 n, .int .i64 m] w fun e w' => e = .returned (.string ⟨#[]⟩) ∧ w = w' := by
  by_cases c1 : m < 1
  · have d1 : decide ((1 : Int) ≤ m) = false := by simp; omega
    go_enter Tryd.func29, Tryd.ntmps29
    go_wp2_with (go_at_call 48; refine (l1In _ _ _ _).mono ?_; rintro e w1 ⟨rfl, rfl⟩)
    go_ret
    exact ⟨rfl, rfl⟩
  · have d1 : decide ((1 : Int) ≤ m) = true := by simp; omega
    by_cases c2 : 7 < m
    · have d2 : decide (m ≤ 7) = false := by simp; omega
      go_enter Tryd.func29, Tryd.ntmps29
      go_wp2_with (go_at_call 48; refine (l1In _ _ _ _).mono ?_; rintro e w1 ⟨rfl, rfl⟩)
      go_ret
      exact ⟨rfl, rfl⟩
    · have d2 : decide (m ≤ 7) = true := by simp; omega
      have d3 : decide (n < 0) = true := by simp; omega
      go_enter Tryd.func29, Tryd.ntmps29
      go_wp2_with (go_at_call 48; refine (l1In _ _ _ _).mono ?_; rintro e w1 ⟨rfl, rfl⟩)
      go_ret
      exact ⟨rfl, rfl⟩
set_option maxHeartbeats 400000 in
theorem implEncodeFixedNo (n m : Int) (h : m < 1 ∨ 7 < m ∨ n < 0) (w : World) :
    Calls Tryd.prog 27 #[.int .i64 n, .int .i64 m] w fun e w' => e = .returned (.string ⟨#[]⟩) ∧ w = w' := by
  by_cases c1 : m < 1
  · have d1 : decide (m < 1) = true := by simp; omega
    go_enter Tryd.func27, Tryd.ntmps27
    go_wp2_with fail
    go_ret
    exact ⟨rfl, rfl⟩
  · have d1 : decide (m < 1) = false := by simp; omega
    by_cases c2 : 7 < m
    · have d2 : decide (7 < m) = true := by simp; omega
      go_enter Tryd.func27, Tryd.ntmps27
      go_wp2_with fail
      go_ret
      exact ⟨rfl, rfl⟩
    · have d2 : decide (7 < m) = false := by simp; omega
      have d3 : decide (n < 0) = true := by simp; omega
      go_enter Tryd.func27, Tryd.ntmps27
      go_wp2_with fail
      go_ret
      exact ⟨rfl, rfl⟩
end Go.Proofs.YtgappocmdbaahaaDoor
