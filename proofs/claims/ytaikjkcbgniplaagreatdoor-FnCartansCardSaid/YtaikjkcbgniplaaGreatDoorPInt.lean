/- ParseInt of the program (strconv.Atoi, Itoa) and of the reference: for every string. -/
import Derived.Test.YtaikjkcbgniplaaGreatDoorItoa
import Derived.Lib.AtoiTie
import Derived.Lib.AtoiBound
import Derived.Lib.AtoiErrMem
import Derived.Stop.LaidErr
namespace Go.Proofs.YtaikjkcbgniplaaGreatDoor
open Go.RowKit
set_option linter.unusedVariables false

def isDg (b : UInt8) : Bool := decide (48 ≤ b.toNat) && decide (b.toNat ≤ 57)
def dsum : Nat → List UInt8 → Nat
  | a, [] => a
  | a, b :: l => if isDg b then dsum (a * 10 + (b.toNat - 48)) l else dsum a l
def dcnt (l : List UInt8) : Nat := (l.filter isDg).length
theorem dsum_snoc (l : List UInt8) (b : UInt8) (a : Nat) : dsum a (l ++ [b]) = if isDg b then dsum a l * 10 + (b.toNat - 48) else dsum a l := by
  induction l generalizing a with
  | nil => simp [dsum]
  | cons x r ih => simp only [List.cons_append, dsum]; split <;> exact ih _
theorem dsum_lt (l : List UInt8) (a k : Nat) (h : a < 10 ^ k) : dsum a l < 10 ^ (k + l.length) := by
  induction l generalizing a k with
  | nil => simpa [dsum] using h
  | cons x r ih =>
    simp only [dsum]
    split
    · next hd =>
      have hx : 48 ≤ x.toNat ∧ x.toNat ≤ 57 := by simpa [isDg] using hd
      have := ih (a * 10 + (x.toNat - 48)) (k + 1) (by rw [Nat.pow_succ]; omega)
      rw [List.length_cons, show k + (r.length + 1) = k + 1 + r.length by omega]; exact this
    · have := ih a (k + 1) (by rw [Nat.pow_succ]; omega)
      rw [List.length_cons, show k + (r.length + 1) = k + 1 + r.length by omega]; exact this
theorem dsum_bd (l : List UInt8) (h : l.length ≤ 11) : dsum 0 l < 100000000000 := by
  have h1 := dsum_lt l 0 0 (by decide)
  have h2 : 10 ^ (0 + l.length) ≤ 10 ^ 11 := Nat.pow_le_pow_right (by decide) (by omega)
  have e : (10 : Nat) ^ 11 = 100000000000 := by decide
  omega
theorem dcnt_le (l : List UInt8) : dcnt l ≤ l.length := List.length_filter_le _ _
theorem dcnt_snoc (l : List UInt8) (b : UInt8) : dcnt (l ++ [b]) = if isDg b then dcnt l + 1 else dcnt l := by
  simp only [dcnt, List.filter_append, List.length_append, List.filter_cons, List.filter_nil]
  split <;> rfl
theorem decFrom_dsum (l : List UInt8) (a n : Nat) (h : Lib.decFrom a l = some n) : dsum a l = n ∧ dcnt l = l.length := by
  induction l generalizing a with
  | nil => simp [Lib.decFrom] at h; simp [dsum, dcnt, h]
  | cons b r ih =>
    simp only [Lib.decFrom, Lib.digitVal] at h
    by_cases hd : 48 ≤ b.toNat ∧ b.toNat ≤ 57
    · rw [if_pos hd] at h
      have hb : isDg b = true := by simp [isDg, hd]
      have := ih _ h
      simp only [dsum, hb, if_true, dcnt, List.filter_cons, List.length_cons]
      exact ⟨this.1, by have h2 := this.2; simp only [dcnt] at h2; omega⟩
    · rw [if_neg hd] at h; cases h
theorem decFrom_append (l m : List UInt8) (a : Nat) : Lib.decFrom a (l ++ m) = (Lib.decFrom a l).bind fun n => Lib.decFrom n m := by
  induction l generalizing a with
  | nil => simp [Lib.decFrom]
  | cons b r ih =>
    simp only [List.cons_append, Lib.decFrom]
    cases Lib.digitVal b with
    | none => rfl
    | some d => exact ih _
theorem digitVal_of (d : Nat) (h : d < 10) : Lib.digitVal (UInt8.ofNat (48 + d)) = some d := by
  have : (UInt8.ofNat (48 + d)).toNat = 48 + d := by simp; omega
  simp only [Lib.digitVal, this]
  rw [if_pos (by omega)]; congr 1; omega
theorem decFrom_dec (u : Nat) : Lib.decFrom 0 (Lib.decDigits u) = some u := by
  induction u using Nat.strongRecOn with
  | _ u ih =>
    rw [Lib.decDigits]
    split
    · next h => simp only [Lib.decFrom, digitVal_of u h]; congr 1; omega
    · next h =>
      rw [decFrom_append, ih (u / 10) (by omega)]
      simp only [Option.bind_some, Lib.decFrom, digitVal_of (u % 10) (by omega)]
      congr 1; omega
theorem dec_ne (u : Nat) : Lib.decDigits u ≠ [] := by
  intro e
  have h := Lib.decDigits_length u
  rw [e] at h
  have := Lib.nDigits_pos u
  simp at h; omega
theorem dec_head (u : Nat) (b : UInt8) (r : List UInt8) (h : Lib.decDigits u = b :: r) : 48 ≤ b.toNat ∧ b.toNat ≤ 57 := by
  have h2 := decFrom_dec u
  rw [h] at h2
  simp only [Lib.decFrom, Lib.digitVal] at h2
  by_cases hd : 48 ≤ b.toNat ∧ b.toNat ≤ 57
  · exact hd
  · rw [if_neg hd] at h2; cases h2
theorem decNat_dec (u : Nat) : Lib.decNat (Lib.decDigits u) = some u := by
  unfold Lib.decNat
  have := dec_ne u
  rw [if_neg (by simpa using this)]
  exact decFrom_dec u
theorem atoi_itoa (n : Int) : Lib.atoi (Lib.itoa n) = some n := by
  unfold Lib.itoa
  split
  · next h =>
    simp only [Lib.atoi, beq_self_eq_true, if_true, decNat_dec, Option.map_some]
    congr 1; omega
  · next h =>
    cases hd : Lib.decDigits n.toNat with
    | nil => exact absurd hd (dec_ne _)
    | cons b r =>
      have hb := dec_head _ b r hd
      have e45 : (b == 45) = false := by rw [beq_eq_false_iff_ne]; rintro rfl; simp at hb
      have e43 : (b == 43) = false := by rw [beq_eq_false_iff_ne]; rintro rfl; simp at hb
      simp only [Lib.atoi, e45, e43, Bool.false_eq_true, if_false]
      rw [← hd, decNat_dec]
      simp only [Option.map_some]
      congr 1; omega
/-- The number that the reference reads: the digits among the first 11 bytes, and the sign. -/
def spN (l : List UInt8) : Int := if l.head? = some 45 then -(dsum 0 (l.take 11) : Int) else dsum 0 (l.take 11)
def piOk (l : List UInt8) : Bool := decide (dcnt (l.take 11) ≤ 9) && decide (l.length ≤ 10) && decide (Lib.itoa (spN l) = l)
def piV (l : List UInt8) : Int := if piOk l then spN l else 0
theorem piV_f {l : List UInt8} (h : piOk l = false) : piV l = 0 := by simp [piV, h]
theorem piV_t {l : List UInt8} (h : piOk l = true) : piV l = spN l := by simp [piV, h]
theorem spN_bd (l : List UInt8) : -100000000000 < spN l ∧ spN l < 100000000000 := by
  have := dsum_bd (l.take 11) (by simp; omega)
  unfold spN
  split <;> omega
theorem itoa_facts (n : Int) (h : (Lib.itoa n).length ≤ 11) : spN (Lib.itoa n) = n ∧ dcnt (Lib.itoa n) + (if n < 0 then 1 else 0) = (Lib.itoa n).length ∧ ((Lib.itoa n).head? = some 45 ↔ n < 0) := by
  unfold spN
  rw [List.take_of_length_le h]
  unfold Lib.itoa
  by_cases hn : n < 0
  · rw [if_pos hn]
    have hd := decFrom_dsum _ _ _ (decFrom_dec n.natAbs)
    have e : isDg 45 = false := by decide
    simp only [List.head?_cons, if_true, dsum, e, Bool.false_eq_true, if_false, dcnt, List.filter_cons, List.length_cons, hn]
    refine ⟨by rw [hd.1]; omega, ?_, trivial⟩
    have := hd.2
    simp only [dcnt] at this
    rw [this]
  · rw [if_neg hn]
    have hd := decFrom_dsum _ _ _ (decFrom_dec n.toNat)
    have hh : (Lib.decDigits n.toNat).head? ≠ some 45 := by
      intro e
      cases hl : Lib.decDigits n.toNat with
      | nil => exact absurd hl (dec_ne _)
      | cons b r =>
        have := dec_head _ b r hl
        rw [hl] at e
        simp at e
        subst e
        simp at this
    rw [if_neg hh, hd.1, hd.2, if_neg hn]
    exact ⟨by omega, by omega, by simp [hh, hn]⟩
theorem pi_long {l : List UInt8} (h : 10 < l.length) : piOk l = false := by
  unfold piOk
  rw [decide_eq_false (p := l.length ≤ 10) (by omega)]; simp
theorem pi_ten {l : List UInt8} (h : l.length = 10) (h0 : l.head? ≠ some 45) : piOk l = false := by
  unfold piOk
  by_cases e : Lib.itoa (spN l) = l
  · have hf := itoa_facts (spN l) (by rw [e]; omega)
    rw [e] at hf
    have : ¬ spN l < 0 := fun h => h0 (hf.2.2.2 h)
    have h2 := hf.2.1
    rw [if_neg this] at h2
    rw [List.take_of_length_le (by omega), decide_eq_false (p := dcnt l ≤ 9) (by omega)]; simp
  · rw [decide_eq_false (p := Lib.itoa (spN l) = l) e]; simp
theorem pi_none {l : List UInt8} (h : Lib.atoi l = none) : piOk l = false := by
  unfold piOk
  rw [decide_eq_false (p := Lib.itoa (spN l) = l) (by intro e; rw [← e, atoi_itoa] at h; cases h)]; simp
theorem pi_other {l : List UInt8} {n : Int} (h : Lib.atoi l = some n) (hn : Lib.itoa n ≠ l) : piOk l = false := by
  unfold piOk
  rw [decide_eq_false (p := Lib.itoa (spN l) = l) (by
    intro e
    have h2 := h
    rw [← e, atoi_itoa] at h2
    rw [Option.some.inj h2] at e
    exact hn e)]; simp
theorem pi_yes {l : List UInt8} {n : Int} (hn : Lib.itoa n = l) (h10 : l.length ≤ 10) (h : l.length = 10 → l.head? = some 45) : piOk l = true ∧ spN l = n := by
  have hf := itoa_facts n (by rw [hn]; omega)
  rw [hn] at hf
  refine ⟨?_, hf.1⟩
  unfold piOk
  rw [hf.1, List.take_of_length_le (by omega), decide_eq_true hn, decide_eq_true h10, decide_eq_true (p := dcnt l ≤ 9)]; rfl
  have h2 := hf.2.1
  by_cases hneg : n < 0
  · rw [if_pos hneg] at h2; omega
  · rw [if_neg hneg] at h2
    have : l.length ≠ 10 := fun e => hneg (hf.2.2.1 (h e))
    omega
theorem head_sz (s : ByteArray) (h : 0 < s.size) : s.data.toList.head? = some s[0] := by
  rw [List.head?_eq_getElem?, List.getElem?_eq_getElem (by simpa using h)]; rfl
theorem take_at (s : ByteArray) (k : Nat) (h : k < s.size) : s.data.toList.take (k + 1) = s.data.toList.take k ++ [s[k]] := by
  rw [List.take_succ_eq_append_getElem (by simpa using h)]; rfl
theorem bytes_ne {l : List UInt8} {s : ByteArray} : (⟨l.toArray⟩ : ByteArray) = s ↔ l = s.data.toList := by
  constructor
  · rintro rfl; rfl
  · rintro rfl; rfl
theorem ne_toList {X s : ByteArray} (h : X ≠ s) : (X.toList == s.toList) = false := by
  rw [beq_eq_false_iff_ne, ByteArray.toList_eq, ByteArray.toList_eq]
  intro e
  apply h
  cases X; cases s
  exact congrArg _ (Array.toList_inj.1 e)
theorem spN_len (l : List UInt8) (k : Nat) (h : k = l.length ∨ k = 11) (h2 : k ≤ 11) (h3 : k ≤ l.length) : l.take k = l.take 11 := by
  rcases h with rfl | rfl
  · rw [List.take_of_length_le (Nat.le_refl _), List.take_of_length_le (by omega)]
  · rfl
set_option maxHeartbeats 2000000 in
theorem specParseInt (s : ByteArray) (hs : s.size ≤ 1048576) (w : World) :
    Calls Tryz.prog 127 #[.string s] w fun e w' => e = .returned (.tuple #[.int .i64 (piV s.data.toList), .bool (piOk s.data.toList)]) ∧ Below w.heap.size w w' := by
  go_enter Tryz.func127, Tryz.ntmps127
  go_wp2_with fail
  go_loop [4, 5, 6] (fun n c i => ∃ (k m d : Nat), k ≤ s.size ∧ k ≤ 11 ∧ i = .int .i64 k ∧ n = .int .i64 m ∧ c = .int .i64 d ∧ m < 100000000000 ∧ d ≤ k ∧ Hid (m = dsum 0 (s.data.toList.take k) ∧ d = dcnt (s.data.toList.take k))) (fun _ _ i => 12 - (intOf i).toNat)
  case atStart => exact ⟨0, 0, 0, by omega, by omega, rfl, rfl, rfl, by omega, by omega, by simp [Hid, dsum, dcnt]⟩
  case round =>
    obtain ⟨k, m, d, hk, hk11, rfl, rfl, rfl, hm, hd, HI⟩ := hrel
    by_cases hlt' : k < s.size
    · by_cases h11 : k < 11
      · have HT := Lib.hid (take_at s k hlt')
        have HB := Lib.hid (dsum_bd (s.data.toList.take (k + 1)) (by rw [List.length_take]; omega))
        have hb1 : s[k].toNat < 256 := s[k].toNat_lt
        have hk0 : (0 : Int) ≤ (k : Int) := by omega
        have hk1 : (k : Int) < (s.size : Int) := by omega
        by_cases g1 : 48 ≤ s[k].toNat
        · by_cases g2 : s[k].toNat ≤ 57
          · have HD := Lib.hid (show isDg s[k] = true by rw [isDg, decide_eq_true g1, decide_eq_true g2]; rfl)
            have hm2 : m * 10 + (s[k].toNat - 48) < 100000000000 := by
              have h := HB.out
              rw [HT.out, dsum_snoc, HD.out, if_pos rfl, ← HI.out.1] at h; exact h
            have HN := Lib.hid (show m * 10 + (s[k].toNat - 48) = dsum 0 (s.data.toList.take (k + 1)) ∧ d + 1 = dcnt (s.data.toList.take (k + 1)) by
              rw [HT.out, dsum_snoc, dcnt_snoc, HD.out, if_pos rfl, if_pos rfl, ← HI.out.1, ← HI.out.2]; exact ⟨rfl, rfl⟩)
            clear HI
            go_wp2_with fail
            go_round
            case rel => exact ⟨k + 1, m * 10 + (s[k].toNat - 48), d + 1, by omega, by omega, by go_num, by go_num, by go_num, hm2, by omega, HN⟩
            case measure => simp [intOf]; omega
          · have HD := Lib.hid (show isDg s[k] = false by rw [isDg, decide_eq_false g2]; simp)
            have d2 : decide ((s[k].toNat : Int) ≤ 57) = false := by rw [decide_eq_false_iff_not]; omega
            have HN := Lib.hid (show m = dsum 0 (s.data.toList.take (k + 1)) ∧ d = dcnt (s.data.toList.take (k + 1)) by
              rw [HT.out, dsum_snoc, dcnt_snoc, HD.out, if_neg (by simp), if_neg (by simp), ← HI.out.1, ← HI.out.2]; exact ⟨rfl, rfl⟩)
            clear HI
            go_wp2_with fail
            go_round
            case rel => exact ⟨k + 1, m, d, by omega, by omega, by go_num, rfl, rfl, hm, by omega, HN⟩
            case measure => simp [intOf]; omega
        · have HD := Lib.hid (show isDg s[k] = false by rw [isDg, decide_eq_false g1]; simp)
          have d2 : decide ((48 : Int) ≤ (s[k].toNat : Int)) = false := by rw [decide_eq_false_iff_not]; omega
          have HN := Lib.hid (show m = dsum 0 (s.data.toList.take (k + 1)) ∧ d = dcnt (s.data.toList.take (k + 1)) by
            rw [HT.out, dsum_snoc, dcnt_snoc, HD.out, if_neg (by simp), if_neg (by simp), ← HI.out.1, ← HI.out.2]; exact ⟨rfl, rfl⟩)
          clear HI
          go_wp2_with fail
          go_round
          case rel => exact ⟨k + 1, m, d, by omega, by omega, by go_num, rfl, rfl, hm, by omega, HN⟩
          case measure => simp [intOf]; omega
      · have d11 : decide ((k : Int) < 11) = false := by rw [decide_eq_false_iff_not]; omega
        have HP := Lib.hid (show m = dsum 0 (s.data.toList.take 11) ∧ d = dcnt (s.data.toList.take 11) by
          rw [← spN_len s.data.toList k (by simp; omega) hk11 (by simpa using hk)]; exact HI.out)
        clear HI
        by_cases h0 : 0 < s.size
        · by_cases h45 : s[0].toNat = 45
          · have hb0 : (((s[0].toNat : Nat) : Int) == 45) = true := by rw [beq_iff_eq]; omega
            have e0 : s[0] = 45 := by apply UInt8.toNat.inj; rw [h45]; rfl
            have HH := Lib.hid e0
            clear h45 e0
            have HV := Lib.hid (show spN s.data.toList = -(m : Int) by unfold spN; rw [head_sz s h0, HH.out, if_pos rfl, HP.out.1])
            have hv := spN_bd s.data.toList
            rw [HV.out] at hv
            have hwf : (Lit.int .i64 (-(m : Int))).wf = true := WalkArith.wf_i64 (by omega)
            by_cases hd9 : 9 < d
            · have HO := Lib.hid (show piOk s.data.toList = false by unfold piOk; rw [← HP.out.2, decide_eq_false (p := d ≤ 9) (by omega)]; simp)
              clear HP
              go_wp2_with fail
              go_ret2
              exact ⟨by rw [HO.out, piV_f HO.out]; rfl, Below.refl _ _⟩
            · by_cases hs10 : 10 < s.size
              · have HO := Lib.hid (show piOk s.data.toList = false from pi_long (by simpa using hs10))
                clear HP
                go_wp2_with fail
                go_ret2
                exact ⟨by rw [HO.out, piV_f HO.out]; rfl, Below.refl _ _⟩
              · omega
          · have hb0 : (((s[0].toNat : Nat) : Int) == 45) = false := by rw [beq_eq_false_iff_ne]; omega
            have HH := Lib.hid (show ¬ s[0] = 45 by intro e; rw [e] at h45; exact h45 rfl)
            clear h45
            have HV := Lib.hid (show spN s.data.toList = (m : Int) by unfold spN; rw [head_sz s h0, if_neg (by simpa using HH.out), HP.out.1])
            have hv := spN_bd s.data.toList
            rw [HV.out] at hv
            have hwf : (Lit.int .i64 ((m : Int))).wf = true := WalkArith.wf_i64 (by omega)
            by_cases hd9 : 9 < d
            · have HO := Lib.hid (show piOk s.data.toList = false by unfold piOk; rw [← HP.out.2, decide_eq_false (p := d ≤ 9) (by omega)]; simp)
              clear HP
              go_wp2_with fail
              go_ret2
              exact ⟨by rw [HO.out, piV_f HO.out]; rfl, Below.refl _ _⟩
            · by_cases hs10 : 10 < s.size
              · have HO := Lib.hid (show piOk s.data.toList = false from pi_long (by simpa using hs10))
                clear HP
                go_wp2_with fail
                go_ret2
                exact ⟨by rw [HO.out, piV_f HO.out]; rfl, Below.refl _ _⟩
              · omega
        · omega
    · have dk : decide ((k : Int) < (s.size : Int)) = false := by rw [decide_eq_false_iff_not]; omega
      have HP := Lib.hid (show m = dsum 0 (s.data.toList.take 11) ∧ d = dcnt (s.data.toList.take 11) by
        rw [← spN_len s.data.toList k (by simp; omega) hk11 (by simpa using hk)]; exact HI.out)
      clear HI
      by_cases h0 : 0 < s.size
      · by_cases h45 : s[0].toNat = 45
        · have hb0 : (((s[0].toNat : Nat) : Int) == 45) = true := by rw [beq_iff_eq]; omega
          have e0 : s[0] = 45 := by apply UInt8.toNat.inj; rw [h45]; rfl
          have HH := Lib.hid e0
          clear h45 e0
          have HV := Lib.hid (show spN s.data.toList = -(m : Int) by unfold spN; rw [head_sz s h0, HH.out, if_pos rfl, HP.out.1])
          have hv := spN_bd s.data.toList
          rw [HV.out] at hv
          have hwf : (Lit.int .i64 (-(m : Int))).wf = true := WalkArith.wf_i64 (by omega)
          by_cases hd9 : 9 < d
          · have HO := Lib.hid (show piOk s.data.toList = false by unfold piOk; rw [← HP.out.2, decide_eq_false (p := d ≤ 9) (by omega)]; simp)
            clear HP
            go_wp2_with fail
            go_ret2
            exact ⟨by rw [HO.out, piV_f HO.out]; rfl, Below.refl _ _⟩
          · by_cases hs10 : 10 < s.size
            · have HO := Lib.hid (show piOk s.data.toList = false from pi_long (by simpa using hs10))
              clear HP
              go_wp2_with fail
              go_ret2
              exact ⟨by rw [HO.out, piV_f HO.out]; rfl, Below.refl _ _⟩
            · by_cases he : Lib.itoa (-(m : Int)) = s.data.toList
              · have HO := Lib.hid (show piOk s.data.toList = true by unfold piOk; rw [← HP.out.2, HV.out, decide_eq_true (p := d ≤ 9) (by omega), decide_eq_true he, decide_eq_true (by simpa using (show s.size ≤ 10 by omega))]; rfl)
                have HC := Lib.hid (specFormatInt (-(m : Int)) hwf w)
                have he2 : (⟨(Lib.itoa (-(m : Int))).toArray⟩ : ByteArray) = s := bytes_ne.2 he
                rw [he2] at HC
                clear HP he he2 hwf
                go_wp2_with fail
                refine HC.out.mono ?_
                rintro e w2 ⟨rfl, hb2⟩
                go_wp2_with fail
                go_ret2
                exact ⟨by rw [HO.out, piV_t HO.out, HV.out]; rfl, hb2⟩
              · have HO := Lib.hid (show piOk s.data.toList = false by unfold piOk; rw [HV.out, decide_eq_false he]; simp)
                have HC := Lib.hid (specFormatInt (-(m : Int)) hwf w)
                have he2 : (⟨(Lib.itoa (-(m : Int))).toArray⟩ : ByteArray) ≠ s := fun e => he (bytes_ne.1 e)
                obtain ⟨X, hX⟩ : ∃ X, (⟨(Lib.itoa (-(m : Int))).toArray⟩ : ByteArray) = X := ⟨_, rfl⟩
                rw [hX] at HC he2
                replace he2 := ne_toList he2
                clear HP he hwf hX
                go_wp2_with fail
                refine HC.out.mono ?_
                rintro e w2 ⟨rfl, hb2⟩
                go_wp2_with fail
                go_ret2
                exact ⟨by rw [HO.out, piV_f HO.out]; rfl, hb2⟩
        · have hb0 : (((s[0].toNat : Nat) : Int) == 45) = false := by rw [beq_eq_false_iff_ne]; omega
          have HH := Lib.hid (show ¬ s[0] = 45 by intro e; rw [e] at h45; exact h45 rfl)
          clear h45
          have HV := Lib.hid (show spN s.data.toList = (m : Int) by unfold spN; rw [head_sz s h0, if_neg (by simpa using HH.out), HP.out.1])
          have hv := spN_bd s.data.toList
          rw [HV.out] at hv
          have hwf : (Lit.int .i64 ((m : Int))).wf = true := WalkArith.wf_i64 (by omega)
          by_cases hd9 : 9 < d
          · have HO := Lib.hid (show piOk s.data.toList = false by unfold piOk; rw [← HP.out.2, decide_eq_false (p := d ≤ 9) (by omega)]; simp)
            clear HP
            go_wp2_with fail
            go_ret2
            exact ⟨by rw [HO.out, piV_f HO.out]; rfl, Below.refl _ _⟩
          · by_cases hs10 : 10 < s.size
            · have HO := Lib.hid (show piOk s.data.toList = false from pi_long (by simpa using hs10))
              clear HP
              go_wp2_with fail
              go_ret2
              exact ⟨by rw [HO.out, piV_f HO.out]; rfl, Below.refl _ _⟩
            · by_cases he : Lib.itoa ((m : Int)) = s.data.toList
              · have HO := Lib.hid (show piOk s.data.toList = true by unfold piOk; rw [← HP.out.2, HV.out, decide_eq_true (p := d ≤ 9) (by omega), decide_eq_true he, decide_eq_true (by simpa using (show s.size ≤ 10 by omega))]; rfl)
                have HC := Lib.hid (specFormatInt ((m : Int)) hwf w)
                have he2 : (⟨(Lib.itoa ((m : Int))).toArray⟩ : ByteArray) = s := bytes_ne.2 he
                rw [he2] at HC
                clear HP he he2 hwf
                go_wp2_with fail
                refine HC.out.mono ?_
                rintro e w2 ⟨rfl, hb2⟩
                go_wp2_with fail
                go_ret2
                exact ⟨by rw [HO.out, piV_t HO.out, HV.out]; rfl, hb2⟩
              · have HO := Lib.hid (show piOk s.data.toList = false by unfold piOk; rw [HV.out, decide_eq_false he]; simp)
                have HC := Lib.hid (specFormatInt ((m : Int)) hwf w)
                have he2 : (⟨(Lib.itoa ((m : Int))).toArray⟩ : ByteArray) ≠ s := fun e => he (bytes_ne.1 e)
                obtain ⟨X, hX⟩ : ∃ X, (⟨(Lib.itoa ((m : Int))).toArray⟩ : ByteArray) = X := ⟨_, rfl⟩
                rw [hX] at HC he2
                replace he2 := ne_toList he2
                clear HP he hwf hX
                go_wp2_with fail
                refine HC.out.mono ?_
                rintro e w2 ⟨rfl, hb2⟩
                go_wp2_with fail
                go_ret2
                exact ⟨by rw [HO.out, piV_f HO.out]; rfl, hb2⟩
      · have hz : s.size = 0 := by omega
        have HV := Lib.hid (show spN s.data.toList = (m : Int) by unfold spN; rw [if_neg (by rw [List.eq_nil_of_length_eq_zero (by simpa using hz : s.data.toList.length = 0)]; simp), HP.out.1])
        have hv := spN_bd s.data.toList
        rw [HV.out] at hv
        have hwf : (Lit.int .i64 ((m : Int))).wf = true := WalkArith.wf_i64 (by omega)
        by_cases hd9 : 9 < d
        · omega
        · by_cases hs10 : 10 < s.size
          · omega
          · by_cases he : Lib.itoa ((m : Int)) = s.data.toList
            · have HO := Lib.hid (show piOk s.data.toList = true by unfold piOk; rw [← HP.out.2, HV.out, decide_eq_true (p := d ≤ 9) (by omega), decide_eq_true he, decide_eq_true (by simpa using (show s.size ≤ 10 by omega))]; rfl)
              have HC := Lib.hid (specFormatInt ((m : Int)) hwf w)
              have he2 : (⟨(Lib.itoa ((m : Int))).toArray⟩ : ByteArray) = s := bytes_ne.2 he
              rw [he2] at HC
              clear HP he he2 hwf
              go_wp2_with fail
              refine HC.out.mono ?_
              rintro e w2 ⟨rfl, hb2⟩
              go_wp2_with fail
              go_ret2
              exact ⟨by rw [HO.out, piV_t HO.out, HV.out]; rfl, hb2⟩
            · have HO := Lib.hid (show piOk s.data.toList = false by unfold piOk; rw [HV.out, decide_eq_false he]; simp)
              have HC := Lib.hid (specFormatInt ((m : Int)) hwf w)
              have he2 : (⟨(Lib.itoa ((m : Int))).toArray⟩ : ByteArray) ≠ s := fun e => he (bytes_ne.1 e)
              obtain ⟨X, hX⟩ : ∃ X, (⟨(Lib.itoa ((m : Int))).toArray⟩ : ByteArray) = X := ⟨_, rfl⟩
              rw [hX] at HC he2
              replace he2 := ne_toList he2
              clear HP he hwf hX
              go_wp2_with fail
              refine HC.out.mono ?_
              rintro e w2 ⟨rfl, hb2⟩
              go_wp2_with fail
              go_ret2
              exact ⟨by rw [HO.out, piV_f HO.out]; rfl, hb2⟩
theorem var_keep {P : Program} {w w' : World} {n : String} {cs : Array Value} (h : w.var? P n = some cs) (hb : Below w.heap.size w w') : w'.var? P n = some cs := by
  unfold World.var? at h ⊢
  cases hg : P.globalNamed n with
  | none => rw [hg] at h; cases h
  | some g =>
    rw [hg] at h
    simp only [Option.bind_some] at h ⊢
    cases hh : w.heap[g]? with
    | none => rw [hh] at h; cases h
    | some o => rw [hb.block g (Array.getElem?_eq_some_iff.1 hh).1]; exact h
theorem implItoa (w : World) (ht : Lib.TabIs Tryz.prog w "internal/strconv.uint64pow10" .u64 Lib.pow10Tab) (z : Int) (hz : (Lit.int .i64 z).wf = true) : Calls Tryz.prog 147 #[.int .i64 z] w fun e w' => e = .returned (.string ⟨(Lib.itoa z).toArray⟩) ∧ Below w.heap.size w w' := by
  have hb := wf_bd hz
  refine (Tryz.strconv_Itoa z hb.1 hb.2 w ht).mono ?_
  rintro e w1 ⟨rfl, k, os, rfl⟩
  exact ⟨rfl, below_grew w k os⟩
theorem atoiOk (s : ByteArray) (n : Int) (hs : s.size ≤ 1048576) (w : World) (h : Lib.atoi s.data.toList = some n) (hl : s.size ≤ 18) :
    Calls Tryz.prog 148 #[.string s] w fun e w' => e = .returned (.tuple #[.int .i64 n, .nilIface]) ∧ Below w.heap.size w w' := by
  refine (Tryz.strconv_Atoi_ok s (by omega) n (by rw [Lib.atoiAll_short _ (by simpa using hl), h]; rfl) w).mono ?_
  rintro e w1 ⟨rfl, rfl | ⟨t, rfl⟩⟩
  · exact ⟨rfl, Below.refl _ _⟩
  · exact ⟨rfl, Lib.bytesWorld_below w _ t⟩
theorem atoiNo (s : ByteArray) (hs : s.size ≤ 1048576) (w : World) (h : Lib.atoi s.data.toList = none) (tp : TypeId) (p : Value) (hv : w.var? Tryz.prog "strconv.ErrSyntax" = some #[.iface tp p]) (hl : s.size ≤ 18) :
    Calls Tryz.prog 148 #[.string s] w fun e w' => ∃ te ad, e = .returned (.tuple #[.int .i64 0, .iface te (.pointer (some ad))]) ∧ Below w.heap.size w w' := by
  refine (Tryz.strconv_Atoi_syntax_var s (by omega) (by rw [Lib.atoiAll_short _ (by simpa using hl), h]; rfl) tp p w hv).mono ?_
  rintro e w1 ⟨N, rfl, _, _, hb⟩
  exact ⟨_, _, rfl, hb⟩
set_option maxHeartbeats 2000000 in
theorem implParseInt (s : ByteArray) (hs : s.size ≤ 1048576) (w : World) (ht : Lib.TabIs Tryz.prog w "internal/strconv.uint64pow10" .u64 Lib.pow10Tab) (tp : TypeId) (p : Value) (hv : w.var? Tryz.prog "strconv.ErrSyntax" = some #[.iface tp p]) :
    Calls Tryz.prog 125 #[.string s] w fun e w' => e = .returned (.tuple #[.int .i64 (piV s.data.toList), .bool (piOk s.data.toList)]) ∧ Below w.heap.size w w' := by
  have HT := Lib.hid ht
  have HV := Lib.hid hv
  clear ht hv
  have hl : s.data.toList.length = s.size := by simp
  have HL := Lib.hid hl
  clear hl
  by_cases h10 : 10 < s.size
  · have HO := Lib.hid (pi_long (l := s.data.toList) (by rw [HL.out]; exact h10))
    go_enter Tryz.func125, Tryz.ntmps125
    go_wp2_with fail
    go_ret2
    exact ⟨by rw [HO.out, piV_f HO.out]; rfl, Below.refl _ _⟩
  by_cases e10 : s.size = 10
  · have h0 : 0 < s.size := by omega
    have d10 : ((s.size : Int) == 10) = true := by rw [beq_iff_eq]; omega
    by_cases h45 : s[0].toNat = 45
    · have e0 : s[0] = 45 := by apply UInt8.toNat.inj; rw [h45]; rfl
      have HH := Lib.hid (show s.size = 10 → s.data.toList.head? = some 45 from fun _ => by rw [head_sz s h0, e0])
      have hb0 : (((s[0].toNat : Nat) : Int) == 45) = true := by rw [beq_iff_eq]; omega
      clear h45 e0
      cases hA : Lib.atoi s.data.toList with
      | none =>
        have HO := Lib.hid (pi_none hA)
        have HC := Lib.hid (atoiNo s hs w hA tp p HV.out (by omega))
        clear hA
        go_enter Tryz.func125, Tryz.ntmps125
        go_wp2_with fail
        refine HC.out.mono ?_
        rintro e w1 ⟨te, ad, rfl, hb1⟩
        go_wp2_with fail
        go_ret2
        exact ⟨by rw [HO.out, piV_f HO.out]; rfl, hb1⟩
      | some n =>
        have hwf : (Lit.int .i64 n).wf = true := by
          have := Lib.atoi_bound hA (by rw [HL.out]; omega)
          exact WalkArith.wf_i64 (by omega)
        have HC := Lib.hid (atoiOk s n hs w hA (by omega))
        have HI := Lib.hid (fun w ht => implItoa w ht n hwf)
        by_cases he : Lib.itoa n = s.data.toList
        · have HO := Lib.hid (pi_yes he (by rw [HL.out]; omega) (by rw [HL.out]; exact HH.out))
          have he2 : (⟨(Lib.itoa n).toArray⟩ : ByteArray) = s := bytes_ne.2 he
          rw [he2] at HI
          clear hA he he2
          go_enter Tryz.func125, Tryz.ntmps125
          go_wp2_with fail
          refine HC.out.mono ?_
          rintro e w1 ⟨rfl, hb1⟩
          have ht1 := tab_keep HT.out hb1
          go_wp2_with fail
          refine (HI.out _ ht1).mono ?_
          rintro e w2 ⟨rfl, hb2⟩
          go_wp2_with fail
          go_ret2
          exact ⟨by rw [HO.out.1, piV_t HO.out.1, HO.out.2]; rfl, below_trans hb1 hb2⟩
        · have HO := Lib.hid (pi_other hA he)
          have he2 : (⟨(Lib.itoa n).toArray⟩ : ByteArray) ≠ s := fun e => he (bytes_ne.1 e)
          obtain ⟨X, hX⟩ : ∃ X, (⟨(Lib.itoa n).toArray⟩ : ByteArray) = X := ⟨_, rfl⟩
          rw [hX] at HI he2
          replace he2 := ne_toList he2
          clear hA he hX
          go_enter Tryz.func125, Tryz.ntmps125
          go_wp2_with fail
          refine HC.out.mono ?_
          rintro e w1 ⟨rfl, hb1⟩
          have ht1 := tab_keep HT.out hb1
          go_wp2_with fail
          refine (HI.out _ ht1).mono ?_
          rintro e w2 ⟨rfl, hb2⟩
          go_wp2_with fail
          go_ret2
          exact ⟨by rw [HO.out, piV_f HO.out]; rfl, below_trans hb1 hb2⟩
    · have HO := Lib.hid (pi_ten (l := s.data.toList) (by rw [HL.out]; exact e10) (by rw [head_sz s h0]; intro e; injection e with e; rw [e] at h45; exact h45 rfl))
      have hb0 : (((s[0].toNat : Nat) : Int) == 45) = false := by rw [beq_eq_false_iff_ne]; omega
      clear h45
      go_enter Tryz.func125, Tryz.ntmps125
      go_wp2_with fail
      go_ret2
      exact ⟨by rw [HO.out, piV_f HO.out]; rfl, Below.refl _ _⟩
  · have HH := Lib.hid (show s.size = 10 → s.data.toList.head? = some 45 from fun h => absurd h e10)
    have d10 : ((s.size : Int) == 10) = false := by rw [beq_eq_false_iff_ne]; omega
    cases hA : Lib.atoi s.data.toList with
    | none =>
      have HO := Lib.hid (pi_none hA)
      have HC := Lib.hid (atoiNo s hs w hA tp p HV.out (by omega))
      clear hA
      go_enter Tryz.func125, Tryz.ntmps125
      go_wp2_with fail
      refine HC.out.mono ?_
      rintro e w1 ⟨te, ad, rfl, hb1⟩
      go_wp2_with fail
      go_ret2
      exact ⟨by rw [HO.out, piV_f HO.out]; rfl, hb1⟩
    | some n =>
      have hwf : (Lit.int .i64 n).wf = true := by
        have := Lib.atoi_bound hA (by rw [HL.out]; omega)
        exact WalkArith.wf_i64 (by omega)
      have HC := Lib.hid (atoiOk s n hs w hA (by omega))
      have HI := Lib.hid (fun w ht => implItoa w ht n hwf)
      by_cases he : Lib.itoa n = s.data.toList
      · have HO := Lib.hid (pi_yes he (by rw [HL.out]; omega) (by rw [HL.out]; exact HH.out))
        have he2 : (⟨(Lib.itoa n).toArray⟩ : ByteArray) = s := bytes_ne.2 he
        rw [he2] at HI
        clear hA he he2
        go_enter Tryz.func125, Tryz.ntmps125
        go_wp2_with fail
        refine HC.out.mono ?_
        rintro e w1 ⟨rfl, hb1⟩
        have ht1 := tab_keep HT.out hb1
        go_wp2_with fail
        refine (HI.out _ ht1).mono ?_
        rintro e w2 ⟨rfl, hb2⟩
        go_wp2_with fail
        go_ret2
        exact ⟨by rw [HO.out.1, piV_t HO.out.1, HO.out.2]; rfl, below_trans hb1 hb2⟩
      · have HO := Lib.hid (pi_other hA he)
        have he2 : (⟨(Lib.itoa n).toArray⟩ : ByteArray) ≠ s := fun e => he (bytes_ne.1 e)
        obtain ⟨X, hX⟩ : ∃ X, (⟨(Lib.itoa n).toArray⟩ : ByteArray) = X := ⟨_, rfl⟩
        rw [hX] at HI he2
        replace he2 := ne_toList he2
        clear hA he hX
        go_enter Tryz.func125, Tryz.ntmps125
        go_wp2_with fail
        refine HC.out.mono ?_
        rintro e w1 ⟨rfl, hb1⟩
        have ht1 := tab_keep HT.out hb1
        go_wp2_with fail
        refine (HI.out _ ht1).mono ?_
        rintro e w2 ⟨rfl, hb2⟩
        go_wp2_with fail
        go_ret2
        exact ⟨by rw [HO.out, piV_f HO.out]; rfl, below_trans hb1 hb2⟩
end Go.Proofs.YtaikjkcbgniplaaGreatDoor
