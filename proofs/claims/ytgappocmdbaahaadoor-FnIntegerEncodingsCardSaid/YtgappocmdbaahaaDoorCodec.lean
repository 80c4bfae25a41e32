/- DecodeFixed, EncodeFixed, EncodeVarint of the program and of the reference: what they answer, for every string of at most 1048576 bytes and every number. -/
import Derived.Test.YtgappocmdbaahaaDoorLib
namespace Go.Proofs.YtgappocmdbaahaaDoor
open Go.RowKit

def decN (l : List UInt8) : Nat := l.foldl (fun n b => n * 256 + b.toNat) 0
theorem decN_snoc (l : List UInt8) (b : UInt8) : decN (l ++ [b]) = decN l * 256 + b.toNat := by simp [decN, List.foldl_append]
theorem decN_lt (l : List UInt8) : decN l < 256 ^ l.length := by
  have h : ∀ (l : List UInt8) (n : Nat), l.foldl (fun n b => n * 256 + b.toNat) n < (n + 1) * 256 ^ l.length := by
    intro l
    induction l with
    | nil => intro n; simp
    | cons b l ih =>
      intro n
      have h1 := ih (n * 256 + b.toNat)
      have h2 := b.toNat_lt
      have h3 : (n * 256 + b.toNat + 1) * 256 ^ l.length ≤ ((n + 1) * 256) * 256 ^ l.length := Nat.mul_le_mul_right _ (by omega)
      rw [List.foldl_cons, List.length_cons, Nat.pow_succ]
      rw [show (n + 1) * (256 ^ l.length * 256) = ((n + 1) * 256) * 256 ^ l.length by rw [Nat.mul_comm (256 ^ l.length) 256, Nat.mul_assoc]]
      omega
  simpa [decN] using h l 0
theorem decN_take (s : ByteArray) (k : Nat) (h : k ≤ 6) : decN (s.data.toList.take k) < 281474976710656 := by
  have h1 := decN_lt (s.data.toList.take k)
  have h2 : (s.data.toList.take k).length ≤ k := List.length_take_le _ _
  have h3 : 256 ^ (s.data.toList.take k).length ≤ 256 ^ k := Nat.pow_le_pow_right (by omega) h2
  have h4 : 256 ^ k ≤ 256 ^ 6 := Nat.pow_le_pow_right (by omega) h
  omega

set_option maxHeartbeats 400000 in
theorem implDecodeFixed (s : ByteArray) (m : Nat) (h1 : 1 ≤ m) (h7 : m ≤ 7) (hs : m ≤ s.size) (hs2 : s.size ≤ 1048576) (w : World) :
    Calls Tryd.prog 28 #[.string s, .int .i64 m] w fun e w' => e = .returned (.tuple #[.int .i64 (decN (s.data.toList.take m)), .bool true]) ∧ w = w' := by
  have d1 : decide ((m : Int) < 1) = false := by simp; omega
  have d2 : decide ((7 : Int) < m) = false := by simp; omega
  have d3 : decide (s.size < m) = false := by simp; omega
  go_enter Tryd.func28, Tryd.ntmps28
  go_wp2
  go_loop [6, 21] (fun v i => ∃ k : Nat, k ≤ m ∧ i = .int .i64 k ∧ v = .int .i64 (decN (s.data.toList.take k))) (fun _ i => m - (intOf i).toNat)
  case atStart => exact ⟨0, Nat.zero_le _, rfl, rfl⟩
  case round =>
    obtain ⟨k, hk, rfl, rfl⟩ := hrel
    by_cases hlt' : k < m
    · have hb1 : s[k].toNat < 256 := s[k].toNat_lt
      have hd := decN_take s k (by omega)
      have hor : bits .or .i64 ((decN (s.data.toList.take k) : Int) * 256) (s[k].toNat : Int) = ((decN (s.data.toList.take k) * 256 + s[k].toNat : Nat) : Int) := by
        have := i64_or_add (decN (s.data.toList.take k)) s[k].toNat 8 (by omega) (by omega) (by omega)
        simp only [Nat.reducePow] at this
        rw [show (decN (s.data.toList.take k) : Int) * 256 = ((256 * decN (s.data.toList.take k) : Nat) : Int) by omega, this]
        omega
      go_wp2
      go_round
      case rel => exact ⟨k + 1, by omega, by go_num, by rw [take_succ_get s k (by omega), decN_snoc]; go_num⟩
      case measure => simp [intOf]; omega
    · obtain rfl : k = m := by omega
      go_wp2
      go_ret2
      exact ⟨rfl, rfl⟩
set_option maxHeartbeats 400000 in
theorem implDecodeFixedNo (s : ByteArray) (m : Int) (h : m < 1 ∨ 7 < m ∨ (s.size : Int) < m) (w : World) :
    Calls Tryd.prog 28 #[.string s, .int .i64 m] w fun e w' => e = .returned (.tuple #[.int .i64 0, .bool false]) ∧ w = w' := by
  by_cases c1 : m < 1
  · go_enter Tryd.func28, Tryd.ntmps28
    go_wp2
    go_ret2
    exact ⟨rfl, rfl⟩
  · by_cases c2 : 7 < m
    · go_enter Tryd.func28, Tryd.ntmps28
      go_wp2
      go_ret2
      exact ⟨rfl, rfl⟩
    · have c3 : (s.size : Int) < m := by omega
      go_enter Tryd.func28, Tryd.ntmps28
      go_wp2
      go_ret2
      exact ⟨rfl, rfl⟩
end Go.Proofs.YtgappocmdbaahaaDoor
