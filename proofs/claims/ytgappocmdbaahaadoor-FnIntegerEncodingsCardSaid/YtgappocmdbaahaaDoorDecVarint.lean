/- DecodeVarint of the program and of the reference: both answer the first prefix of at most seven bytes that is an encoding, for every string of at most 1048576 bytes. -/
import Derived.Test.YtgappocmdbaahaaDoorVarint
import Derived.Lib.Strings
namespace Go.Proofs.YtgappocmdbaahaaDoor
open Go.RowKit

def leN : List UInt8 → Nat
  | [] => 0
  | b :: l => leN l * 128 + b.toNat % 128
theorem leN_lt : ∀ l : List UInt8, leN l < 128 ^ l.length
  | [] => by simp [leN]
  | b :: l => by have h := leN_lt l; rw [leN, List.length_cons, Nat.pow_succ]; omega
theorem leN_snoc : ∀ (l : List UInt8) (b : UInt8), leN (l ++ [b]) = 128 ^ l.length * (b.toNat % 128) + leN l
  | [], b => by simp [leN]
  | a :: l, b => by rw [List.cons_append, leN, leN_snoc l b, leN, List.length_cons, Nat.pow_succ, Nat.mul_comm (128 ^ l.length) 128, Nat.mul_assoc]; omega
theorem leN_max (l : List UInt8) (h : l.length ≤ 7) : leN l ≤ 562949953421311 := by
  have h1 := leN_lt l
  have h2 : 128 ^ l.length ≤ 128 ^ 7 := Nat.pow_le_pow_right (by omega) h
  omega

theorem varL_form : ∀ n : Nat, ∃ l b, varL n = l ++ [b] ∧ b.toNat < 128 ∧ ∀ x ∈ l, 128 ≤ x.toNat := by
  intro n
  induction n using Nat.strongRecOn with
  | _ n ih =>
    by_cases h : n < 128
    · exact ⟨[], UInt8.ofNat n, by rw [varL_small n h]; rfl, by rw [UInt8.toNat_ofNat']; omega, by simp⟩
    · obtain ⟨l, b, h1, h2, h3⟩ := ih (n / 128) (by omega)
      refine ⟨UInt8.ofNat (n % 128 + 128) :: l, b, by rw [varL_big n (by omega), h1]; rfl, h2, fun x hx => ?_⟩
      rcases List.mem_cons.1 hx with rfl | hx
      · rw [UInt8.toNat_ofNat']; omega
      · exact h3 x hx
theorem varL_ne_last (n : Nat) (l : List UInt8) (b : UInt8) (hb : 128 ≤ b.toNat) : varL n ≠ l ++ [b] := by
  intro e
  obtain ⟨l', b', h1, h2, _⟩ := varL_form n
  rw [h1] at e
  have := (List.append_inj' e rfl).2
  simp only [List.cons.injEq, and_true] at this
  subst this
  omega
theorem varL_ne_mid (n : Nat) (l : List UInt8) (b x : UInt8) (hx : x ∈ l) (h : x.toNat < 128) : varL n ≠ l ++ [b] := by
  intro e
  obtain ⟨l', b', h1, _, h3⟩ := varL_form n
  rw [h1] at e
  have := (List.append_inj' e rfl).1
  subst this
  have := h3 x hx
  omega

def vfind (T : List UInt8) : Nat → Nat → Nat × Nat
  | 0, _ => (0, 0)
  | f + 1, k => if k ≤ T.length then (if varL (leN (T.take k)) = T.take k then (leN (T.take k), k) else vfind T f (k + 1)) else (0, 0)
theorem vfind_none (T : List UInt8) : ∀ (f k i : Nat) (h : i < T.length), T[i].toNat < 128 → i + 1 < k → vfind T f k = (0, 0)
  | 0, _, _, _, _, _ => rfl
  | f + 1, k, i, h, hb, hk => by
    rw [vfind]
    by_cases hl : k ≤ T.length
    · obtain ⟨j, rfl⟩ : ∃ j, k = j + 1 := ⟨k - 1, by omega⟩
      rw [if_pos hl, if_neg, vfind_none T f _ i h hb (by omega)]
      rw [List.take_succ_eq_append_getElem (by omega)]
      refine varL_ne_mid _ _ _ T[i] ?_ hb
      exact List.mem_take_iff_getElem.2 ⟨i, by omega, rfl⟩
    · rw [if_neg hl]
def vres (p : Nat × Nat) : Value := .tuple #[.int .i64 p.1, .int .i64 p.2]

set_option maxRecDepth 100000 in
set_option maxHeartbeats 1000000 in
theorem implDecodeVarint (s : ByteArray) (hs : s.size ≤ 1048576) (w : World) :
    Calls Tryd.prog 25 #[.string s] w fun e w' => e = .returned (vres (vfind s.data.toList 7 1)) ∧ Below w.heap.size w w' := by
  go_enter Tryd.func25, Tryd.ntmps25
  go_wp2_with fail
  go_loopw [4, 5] (fun v i wr => ∃ k n : Nat, k ≤ 7 ∧ k ≤ s.size ∧ i = .int .i64 k ∧ v = .int .i64 n ∧ Below w.heap.size w wr ∧ Hid (n = leN (s.data.toList.take k) ∧ vfind s.data.toList (7 - k) (k + 1) = vfind s.data.toList 7 1)) (fun _ i _ => 8 - (intOf i).toNat)
  case atStart => exact ⟨0, 0, by omega, by omega, rfl, rfl, Below.refl _ _, rfl, rfl⟩
  case round =>
    obtain ⟨k, n, hk, hks, rfl, rfl, hbel, HF⟩ := hrel
    by_cases hlt' : k < 7
    · have dk : decide ((k : Int) < 7) = true := by simp; omega
      by_cases hle : k < s.size
      · have hb1 : s[k].toNat < 256 := s[k].toNat_lt
        have eand : bits .and .u8 (s[k].toNat : Int) 127 = (s[k].toNat : Int) % 128 := by rw [show (127 : Int) = ((127 : Nat) : Int) from rfl, u8_and_nat _ _ (by omega) (by omega), show (127 : Nat) = 2 ^ 7 - 1 from rfl, Nat.and_two_pow_sub_one_eq_mod]; rfl
        obtain ⟨N, hN⟩ : ∃ N, N = leN (s.data.toList.take (k + 1)) := ⟨_, rfl⟩
        have HN := Lib.hid hN
        have hNm : N ≤ 562949953421311 := by rw [hN]; exact leN_max _ (by simp; omega)
        have hor : bits .or .i64 (n : Int) (wrap64 ((s[k].toNat : Int) % 128 * 2 ^ (7 * k))) = (N : Int) := by
          have e1 : (s.data.toList.take k).length = k := by simp; omega
          have e2 := leN_snoc (s.data.toList.take k) s[k]
          rw [← take_succ_get s k hle, ← hN, e1, ← HF.out.1] at e2
          have e3 := leN_lt (s.data.toList.take k)
          rw [e1, ← HF.out.1] at e3
          rw [show (128 : Nat) ^ k = 2 ^ (7 * k) from (Nat.pow_mul 2 7 k).symm] at e2 e3
          have e4 : ((s[k].toNat : Int) % 128 * 2 ^ (7 * k)) = ((2 ^ (7 * k) * (s[k].toNat % 128) : Nat) : Int) := by
            simp [Int.mul_comm]
          have e5 : 2 ^ (7 * k) * (s[k].toNat % 128) ≤ 562949953421311 := by omega
          rw [e4, IntWalk.wrap64_in _ ⟨by omega, by omega⟩, i64_or_nat _ _ (by omega) (by omega), Nat.or_comm, ← Nat.two_pow_add_eq_or_of_lt e3]
          rw [e2]
        clear hN
        by_cases hsm : s[k].toNat < 128
        · by_cases hm : varL N = s.data.toList.take (k + 1)
          · have hb : (varL N == (s.extract 0 (k + 1)).toList) = true := by rw [Lib.extract_toList, List.drop_zero, Nat.sub_zero, ← hm]; simp
            have HM := Lib.hid hm
            clear hm
            go_wp2_with fail
            have hk2 : (k : Int) + 1 ≤ (s.size : Int) := by omega
            have hk3 : (0 : Int) ≤ (k : Int) + 1 := by omega
            have hk4 : IntKind.i64.wrap ((k : Int) + 1) = (k : Int) + 1 := IntWalk.i64_in _ (by omega)
            have hk5 : ((k : Int) + 1).toNat = k + 1 := by omega
            go_region_held3 (fun _ => True) (trivial) ((first | (go_at_call 24; go_must (refine (implEncodeVarint _ hNm _).mono ?_; rintro e w1 ⟨rfl, hb1⟩))))
            all_goals
              clear hk2 hk3 hk4 hk5
              go_wp2_with fail
              go_ret2
              refine ⟨?_, hbel.trans (Below.mono (Below.trans (Below.drew (Below.refl _ _)) hb1) hbel.size)⟩
              have h := HF.out.2
              rw [show 7 - k = (6 - k) + 1 by omega, vfind, if_pos (by simp; omega), ← HN.out, if_pos HM.out] at h
              rw [← h]; rfl
          · have hb : (varL N == (s.extract 0 (k + 1)).toList) = false := by rw [Lib.extract_toList, List.drop_zero, Nat.sub_zero]; simpa using hm
            have HM := Lib.hid hm
            clear hm
            go_wp2_with fail
            have hk2 : (k : Int) + 1 ≤ (s.size : Int) := by omega
            have hk3 : (0 : Int) ≤ (k : Int) + 1 := by omega
            have hk4 : IntKind.i64.wrap ((k : Int) + 1) = (k : Int) + 1 := IntWalk.i64_in _ (by omega)
            have hk5 : ((k : Int) + 1).toNat = k + 1 := by omega
            go_region_held3 (fun _ => True) (trivial) ((first | (go_at_call 24; go_must (refine (implEncodeVarint _ hNm _).mono ?_; rintro e w1 ⟨rfl, hb1⟩))))
            all_goals
              clear hk2 hk3 hk4 hk5
              go_wp2_with fail
              go_ret2
              refine ⟨?_, hbel.trans (Below.mono (Below.trans (Below.drew (Below.refl _ _)) hb1) hbel.size)⟩
              have h := HF.out.2
              rw [show 7 - k = (6 - k) + 1 by omega, vfind, if_pos (by simp; omega), ← HN.out, if_neg HM.out] at h
              rw [vfind_none _ _ _ k (by simpa using hle) (by simp; exact hsm) (by omega)] at h
              rw [← h]; rfl
        · go_wp2_with fail
          go_roundw
          case rel =>
            refine ⟨k + 1, N, by omega, by omega, by go_num, rfl, hbel, HN.out, ?_⟩
            have h := HF.out.2
            rw [show 7 - k = (6 - k) + 1 by omega, vfind, if_pos (by simp; omega), if_neg] at h
            · rw [show 7 - (k + 1) = 6 - k by omega]; exact h
            · rw [take_succ_get s k hle]
              exact varL_ne_last _ _ _ (by omega)
          case measure => simp [intOf]; omega
      · obtain rfl : k = s.size := by omega
        go_wp2_with fail
        go_ret2
        refine ⟨?_, hbel⟩
        have h := HF.out.2
        rw [show 7 - s.size = (6 - s.size) + 1 by omega, vfind, if_neg (by simp)] at h
        rw [← h]; rfl
    · obtain rfl : k = 7 := by omega
      by_cases hle : 7 < s.size
      · go_wp2_with fail
        go_ret2
        refine ⟨?_, hbel⟩
        have h := HF.out.2
        rw [← h]; rfl
      · have hle' : ((7 : Nat) : Int) < (s.size : Int) ∨ ¬ (((7 : Nat) : Int) < (s.size : Int)) := by omega
        have d9 : decide (7 < s.size) = false := by simpa using hle
        go_wp2_with fail
        go_ret2
        refine ⟨?_, hbel⟩
        have h := HF.out.2
        rw [← h]; rfl
end Go.Proofs.YtgappocmdbaahaaDoor
