/- Encodings are decoded again, whatever follows. Plain: of no program. -/
import Derived.Test.YtgappocmdbaahaaDoorUnhex
import Derived.Test.YtgappocmdbaahaaDoorDecVarint
import Derived.Test.YtgappocmdbaahaaDoorFixed
import Derived.Test.YtgappocmdbaahaaDoorCodec
import Derived.Test.YtgappocmdbaahaaDoorPInt
namespace Go.Proofs.YtgappocmdbaahaaDoor
open Go.RowKit
set_option linter.unusedVariables false

theorem leN_varL (n : Nat) : leN (varL n) = n := by
  induction n using Nat.strongRecOn with
  | _ n ih =>
    by_cases h : n < 128
    · rw [varL_small n h]
      have e : (UInt8.ofNat n).toNat = n := by rw [UInt8.toNat_ofNat']; omega
      simp only [leN, e]; omega
    · rw [varL_big n (by omega), leN, ih (n / 128) (by omega)]
      have e : (UInt8.ofNat (n % 128 + 128)).toNat = n % 128 + 128 := by rw [UInt8.toNat_ofNat']; omega
      rw [e]; omega
theorem varL_len : ∀ (k n : Nat), n < 128 ^ (k + 1) → (varL n).length ≤ k + 1
  | 0, n, h => by rw [varL_small n (by omega)]; simp
  | k + 1, n, h => by
    by_cases h1 : n < 128
    · rw [varL_small n h1]; simp
    · rw [varL_big n (by omega), List.length_cons]
      have := varL_len k (n / 128) (by rw [Nat.div_lt_iff_lt_mul (by decide)]; rw [Nat.pow_succ] at h; exact h)
      omega
theorem varL_ne (n : Nat) : varL n ≠ [] := by
  obtain ⟨l, b, h, _⟩ := varL_form n
  rw [h]; simp
theorem varL_bytes (n : Nat) (k : Nat) (hk : k + 1 < (varL n).length) : 128 ≤ ((varL n)[k]'(by omega)).toNat := by
  obtain ⟨l, b, h, _, h3⟩ := varL_form n
  have hl : (varL n).length = l.length + 1 := by rw [h]; simp
  have : (varL n)[k]'(by omega) = l[k]'(by omega) := by
    simp only [h]
    rw [List.getElem_append_left]
  rw [this]
  exact h3 _ (List.getElem_mem _)
theorem vfind_var (n : Nat) (t : List UInt8) : ∀ (f k : Nat), 1 ≤ k → k ≤ (varL n).length → (varL n).length < f + k → vfind (varL n ++ t) f k = (n, (varL n).length)
  | 0, k, h1, h2, h3 => by omega
  | f + 1, k, h1, h2, h3 => by
    rw [vfind, if_pos (by simp; omega)]
    by_cases e : k = (varL n).length
    · subst e
      rw [List.take_left' rfl, leN_varL, if_pos rfl]
    · rw [if_neg, vfind_var n t f (k + 1) (by omega) (by omega) (by omega)]
      obtain ⟨j, rfl⟩ : ∃ j, k = j + 1 := ⟨k - 1, by omega⟩
      rw [List.take_succ_eq_append_getElem (by simp; omega)]
      refine varL_ne_last _ _ _ ?_
      rw [List.getElem_append_left (by omega)]
      exact varL_bytes n j (by omega)
theorem vfind_enc (n : Nat) (h : n ≤ 562949953421311) (t : List UInt8) : vfind (varL n ++ t) 7 1 = (n, (varL n).length) := by
  have h1 := varL_len 6 n (by omega)
  have h2 : 0 < (varL n).length := List.length_pos_iff.2 (varL_ne n)
  exact vfind_var n t 7 1 (by omega) (by omega) (by omega)
theorem decN_cons (l : List UInt8) : ∀ a : Nat, l.foldl (fun n (b : UInt8) => n * 256 + b.toNat) a = a * 256 ^ l.length + decN l := by
  induction l with
  | nil => intro a; simp [decN]
  | cons b l ih =>
    intro a
    simp only [decN, List.foldl_cons, List.length_cons, Nat.pow_succ] at ih ⊢
    rw [ih (a * 256 + b.toNat), ih (0 * 256 + b.toNat)]
    grind
theorem decN_fix : ∀ (m n : Nat), decN (fixL m n) = n % 256 ^ m
  | 0, n => by simp [fixL, decN, Nat.mod_one]
  | m + 1, n => by
    rw [fixL_succ, decN, List.foldl_cons, decN_cons, fixL_length, decN_fix m n]
    have e : (UInt8.ofNat (n / 256 ^ m % 256)).toNat = n / 256 ^ m % 256 := by rw [UInt8.toNat_ofNat']; omega
    rw [e, Nat.pow_succ, Nat.mod_mul]
    grind
theorem unhex_hex : ∀ l : List UInt8, unhexL (hexL l) = some l
  | [] => rfl
  | b :: l => by
    have hb := b.toNat_lt
    have h1 := unhx_hx ⟨b.toNat / 16, by omega⟩
    have h2 := unhx_hx ⟨b.toNat % 16, by omega⟩
    dsimp only at h1 h2
    have e : hexL (b :: l) = hx (b.toNat / 16) :: hx (b.toNat % 16) :: hexL l := by simp [hexL]
    rw [e, unhexL, h1, h2, if_neg (by omega), unhex_hex l, Option.map_some]
    have e2 : (16 * ((b.toNat / 16 : Nat) : Int) + ((b.toNat % 16 : Nat) : Int)).toNat = b.toNat := by omega
    rw [e2]
    simp
theorem digs0_len : ∀ (k u : Nat), u < 10 ^ k → (digs0 u).length ≤ k
  | 0, u, h => by have : u = 0 := by omega
                  subst this; simp [digs0]
  | k + 1, u, h => by
    by_cases h0 : u = 0
    · subst h0; simp [digs0]
    · rw [digs0_step u h0, List.length_append]
      have := digs0_len k (u / 10) (by rw [Nat.pow_succ] at h; omega)
      simp; omega
theorem dec_small (u : Nat) (h : u < 1000000000) : (Lib.decDigits u).length ≤ 9 := by
  by_cases h0 : u = 0
  · subst h0; decide +kernel
  · have := digs0_len 9 u (by omega)
    rw [digs0, if_neg h0] at this
    exact this
theorem dec_large (u : Nat) (h : 1000000000 ≤ u) : 10 ≤ (Lib.decDigits u).length := by
  have h1 := (decFrom_dsum _ _ _ (decFrom_dec u)).1
  have h2 := dsum_lt (Lib.decDigits u) 0 0 (by omega)
  rw [h1, Nat.zero_add] at h2
  by_cases hc : (Lib.decDigits u).length ≤ 9
  · have : 10 ^ (Lib.decDigits u).length ≤ 10 ^ 9 := Nat.pow_le_pow_right (by omega) hc
    omega
  · omega
theorem pi_itoa (n : Int) : piOk (Lib.itoa n) = (decide (-1000000000 < n) && decide (n < 1000000000)) ∧ (piOk (Lib.itoa n) = true → piV (Lib.itoa n) = n) := by
  by_cases hn : n < 0
  · have e : Lib.itoa n = 45 :: Lib.decDigits n.natAbs := by unfold Lib.itoa; rw [if_pos hn]
    by_cases h : -1000000000 < n
    · have hl := dec_small n.natAbs (by omega)
      have h2 := pi_yes (l := Lib.itoa n) (n := n) rfl (by rw [e]; simp; omega) (fun _ => by rw [e]; rfl)
      refine ⟨by rw [h2.1, decide_eq_true h, decide_eq_true (by omega)]; rfl, fun hk => by rw [piV_t hk, h2.2]⟩
    · have hl := dec_large n.natAbs (by omega)
      have h2 := pi_long (l := Lib.itoa n) (by rw [e]; simp; omega)
      refine ⟨by rw [h2, decide_eq_false h]; rfl, fun hk => by rw [h2] at hk; cases hk⟩
  · have e : Lib.itoa n = Lib.decDigits n.toNat := by unfold Lib.itoa; rw [if_neg hn]
    by_cases h : n < 1000000000
    · have hl := dec_small n.toNat (by omega)
      have h2 := pi_yes (l := Lib.itoa n) (n := n) rfl (by rw [e]; omega) (fun h10 => by rw [e] at h10; omega)
      refine ⟨by rw [h2.1, decide_eq_true h, decide_eq_true (by omega)]; rfl, fun hk => by rw [piV_t hk, h2.2]⟩
    · have hl := dec_large n.toNat (by omega)
      have h2 : piOk (Lib.itoa n) = false := by
        by_cases h11 : 10 < (Lib.itoa n).length
        · exact pi_long h11
        · refine pi_ten (by rw [e] at h11 ⊢; omega) ?_
          intro hh
          have := (itoa_facts n (by omega)).2.2.1 hh
          omega
      refine ⟨by rw [h2, decide_eq_false h]; simp, fun hk => by rw [h2] at hk; cases hk⟩
end Go.Proofs.YtgappocmdbaahaaDoor
