/- The law FnIntegerEncodings: an encoded number is decoded again, whatever follows, and no other string is accepted. -/
import Derived.Test.YtgappocmdbaahaaDoorDraw
import Derived.Test.YtgappocmdbaahaaDoorEnc
import Derived.Test.YtgappocmdbaahaaDoorTie
import Derived.Test.YtgappocmdbaahaaDoorCards
import Derived.LaidMore
import Derived.Stop.Joined
import Derived.Stop.LaidErr
import Derived.SevenTiedAt
import Derived.Lib.LaidTab
namespace Go.Proofs.YtgappocmdbaahaaDoor.lawEnc
def laidD : List (String × DataW Unit) := [("math/bits.deBruijn32tab", Rows.laid_math_bits_deBruijn32tab), ("math/bits.deBruijn64tab", Rows.laid_math_bits_deBruijn64tab), ("internal/strconv.uint64pow10", Rows.laid_internal_strconv_uint64pow10), ("strconv.ErrRange", Rows.laid_strconv_ErrRange), ("strconv.ErrSyntax", Rows.laid_strconv_ErrSyntax)]
open Go.ChangeShapes Go.WideShapes Go.ChangeAt Go.RowKit
open Go.ChangeMaps (open_string shut_string)
set_option linter.unusedVariables false

def encS (n : Int) : List UInt8 := if 0 ≤ n ∧ n ≤ 562949953421311 then varL n.toNat else []
theorem encVar (n : Int) (w : World) : Calls Tryd.prog 24 #[.int .i64 n] w fun e w' => e = .returned (.string ⟨(encS n).toArray⟩) ∧ Below w.heap.size w w' := by
  by_cases h : 0 ≤ n ∧ n ≤ 562949953421311
  · have := implEncodeVarint n.toNat (by omega) w
    rw [Int.toNat_of_nonneg h.1] at this
    rw [encS, if_pos h]
    exact this
  · rw [encS, if_neg h]
    refine (implEncodeVarintNo n (by omega) w).mono ?_
    rintro e w' ⟨rfl, rfl⟩
    exact ⟨rfl, Below.refl _ _⟩
def fixS (n k : Int) : List UInt8 := if 1 ≤ k ∧ k ≤ 7 ∧ 0 ≤ n ∧ n.toNat < 256 ^ k.toNat then fixL k.toNat n.toNat else []
theorem encFix (n k : Int) (w : World) : Calls Tryd.prog 27 #[.int .i64 n, .int .i64 k] w fun e w' => e = .returned (.string ⟨(fixS n k).toArray⟩) ∧ Below w.heap.size w w' := by
  by_cases h : 1 ≤ k ∧ k ≤ 7 ∧ 0 ≤ n
  · by_cases h2 : n.toNat < 256 ^ k.toNat
    · have := implEncodeFixed n.toNat k.toNat (by omega) (by omega) h2 w
      rw [Int.toNat_of_nonneg h.2.2, Int.toNat_of_nonneg (by omega)] at this
      rw [fixS, if_pos ⟨h.1, h.2.1, h.2.2, h2⟩]
      exact this
    · have := implEncodeFixedBig n.toNat k.toNat (by omega) (by omega) (by omega) w
      rw [Int.toNat_of_nonneg h.2.2, Int.toNat_of_nonneg (by omega)] at this
      rw [fixS, if_neg (fun c => h2 c.2.2.2)]
      refine this.mono ?_
      rintro e w' ⟨rfl, rfl⟩
      exact ⟨rfl, Below.refl _ _⟩
  · rw [fixS, if_neg (fun c => h ⟨c.1, c.2.1, c.2.2.1⟩)]
    refine (implEncodeFixedNo n k (by omega) w).mono ?_
    rintro e w' ⟨rfl, rfl⟩
    exact ⟨rfl, Below.refl _ _⟩
theorem encFixS (n k : Int) (hn : (Lit.int .i64 n).wf = true) (w : World) : Calls Tryd.prog 29 #[.int .i64 n, .int .i64 k] w fun e w' => e = .returned (.string ⟨(fixS n k).toArray⟩) ∧ Below w.heap.size w w' := by
  have hb := bounds_i64 hn
  by_cases h : 1 ≤ k ∧ k ≤ 7 ∧ 0 ≤ n
  · have := specEncodeFixed n.toNat k.toNat (by omega) (by omega) (by omega) w
    rw [Int.toNat_of_nonneg h.2.2, Int.toNat_of_nonneg (by omega)] at this
    have e : fixR k.toNat n.toNat = fixS n k := by
      rw [fixR, fixS]
      by_cases h2 : n.toNat < 256 ^ k.toNat
      · rw [if_pos (Nat.div_eq_of_lt h2), if_pos ⟨h.1, h.2.1, h.2.2, h2⟩]
      · have hp : 0 < 256 ^ k.toNat := Nat.pow_pos (by decide)
        have hd : ¬ n.toNat / 256 ^ k.toNat = 0 := by
          have := (Nat.le_div_iff_mul_le hp).2 (show 1 * 256 ^ k.toNat ≤ n.toNat by omega)
          omega
        rw [if_neg hd, if_neg (fun c => h2 c.2.2.2)]
    rw [← e]; exact this
  · rw [fixS, if_neg (fun c => h ⟨c.1, c.2.1, c.2.2.1⟩)]
    refine (specEncodeFixedNo n k (by omega) w).mono ?_
    rintro e w' ⟨rfl, rfl⟩
    exact ⟨rfl, Below.refl _ _⟩
theorem app_toList (l : List UInt8) (t : ByteArray) : (⟨l.toArray⟩ ++ t : ByteArray).data.toList = l ++ t.data.toList := by
  rw [ByteArray.data_append]; simp
theorem app_size (l : List UInt8) (t : ByteArray) : (⟨l.toArray⟩ ++ t : ByteArray).size = l.length + t.size := by
  have := congrArg List.length (app_toList l t)
  rw [List.length_append] at this
  exact this
/-- What DecodeFixed answers to an encoding with a tail. -/
theorem decFix (n k : Int) (t : ByteArray) (ht : t.size ≤ 40) (w : World) : Calls Tryd.prog 28 #[.string (⟨(fixS n k).toArray⟩ ++ t), .int .i64 k] w fun e w' => ∃ (y : Int) (b : Bool), e = .returned (.tuple #[.int .i64 y, .bool b]) ∧ (fixS n k ≠ [] → b = true ∧ y = n) ∧ w = w' := by
  by_cases h : fixS n k = []
  · by_cases h2 : k < 1 ∨ 7 < k ∨ ((⟨(fixS n k).toArray⟩ ++ t : ByteArray).size : Int) < k
    · refine (implDecodeFixedNo _ k h2 w).mono ?_
      rintro e w' ⟨rfl, rfl⟩
      exact ⟨_, _, rfl, fun c => absurd h c, rfl⟩
    · have := implDecodeFixed (⟨(fixS n k).toArray⟩ ++ t) k.toNat (by omega) (by omega) (by omega) (by rw [app_size, h]; simp; omega) w
      rw [Int.toNat_of_nonneg (by omega)] at this
      refine this.mono ?_
      rintro e w' ⟨rfl, rfl⟩
      exact ⟨_, _, rfl, fun c => absurd h c, rfl⟩
  · have hc : 1 ≤ k ∧ k ≤ 7 ∧ 0 ≤ n ∧ n.toNat < 256 ^ k.toNat := by
      by_cases c : 1 ≤ k ∧ k ≤ 7 ∧ 0 ≤ n ∧ n.toNat < 256 ^ k.toNat
      · exact c
      · rw [fixS, if_neg c] at h; exact absurd rfl h
    have hf : fixS n k = fixL k.toNat n.toNat := by rw [fixS, if_pos hc]
    have := implDecodeFixed (⟨(fixS n k).toArray⟩ ++ t) k.toNat (by omega) (by omega) (by rw [app_size, hf, fixL_length]; omega) (by rw [app_size, hf, fixL_length]; omega) w
    rw [Int.toNat_of_nonneg (by omega), app_toList, hf, List.take_left' (fixL_length _ _), decN_fix, Nat.mod_eq_of_lt hc.2.2.2, ← hf] at this
    refine this.mono ?_
    rintro e w' ⟨rfl, rfl⟩
    exact ⟨_, _, rfl, fun _ => ⟨rfl, by omega⟩, rfl⟩
theorem fixS_len (n k : Int) : (fixS n k).length ≤ 7 ∧ (fixS n k ≠ [] → ((fixS n k).length : Int) = k) := by
  unfold fixS
  split
  · next h => rw [fixL_length]; omega
  · simp
theorem varL_len7 (m : Nat) (h : m ≤ 562949953421311) : (varL m).length ≤ 7 := by
  have := varL_len 6 m (Nat.lt_of_le_of_lt h (by decide +kernel))
  exact this
theorem encS_len (n : Int) : (encS n).length ≤ 7 := by
  by_cases h : 0 ≤ n ∧ n ≤ 562949953421311
  · rw [encS, if_pos h]; exact varL_len7 _ (by omega)
  · rw [encS, if_neg h]; simp
theorem vres_out (p : Nat × Nat) : vres p = .tuple #[.int .i64 p.1, .int .i64 p.2] := rfl
theorem vfind_encS (n : Int) (t : ByteArray) (h : encS n ≠ []) : vfind (⟨(encS n).toArray⟩ ++ t : ByteArray).data.toList 7 1 = (n.toNat, (encS n).length) ∧ 0 ≤ n := by
  by_cases c : 0 ≤ n ∧ n ≤ 562949953421311
  · have hf : encS n = varL n.toNat := by rw [encS, if_pos c]
    rw [app_toList, hf, vfind_enc _ (by omega)]
    exact ⟨rfl, c.1⟩
  · rw [encS, if_neg c] at h; exact absurd rfl h
theorem decVar (n : Int) (t : ByteArray) (ht : t.size ≤ 40) (w : World) : Calls Tryd.prog 25 #[.string (⟨(encS n).toArray⟩ ++ t)] w fun e w' => ∃ (x k : Int), e = .returned (.tuple #[.int .i64 x, .int .i64 k]) ∧ (encS n ≠ [] → x = n ∧ k = (encS n).length) ∧ Below w.heap.size w w' := by
  have hl := encS_len n
  have hs : (⟨(encS n).toArray⟩ ++ t : ByteArray).size ≤ 1048576 := by rw [app_size]; omega
  have hv := vfind_encS n t
  have hd := implDecodeVarint (⟨(encS n).toArray⟩ ++ t) hs w
  generalize vfind (⟨(encS n).toArray⟩ ++ t : ByteArray).data.toList 7 1 = p at hv hd
  refine hd.mono ?_
  rintro e w' ⟨rfl, hb⟩
  refine ⟨p.1, p.2, by rw [vres_out], fun hne => ?_, hb⟩
  obtain ⟨rfl, h0⟩ := hv hne
  exact ⟨Int.toNat_of_nonneg h0, rfl⟩
theorem encS_ne (n : Int) : encS n ≠ [] ↔ 0 ≤ n ∧ n ≤ 562949953421311 := by
  unfold encS
  split
  · next h => exact ⟨fun _ => h, fun _ => varL_ne _⟩
  · next h => exact ⟨fun c => absurd rfl c, fun c => absurd c h⟩
theorem gPow : Tryd.prog.globalNamed "internal/strconv.uint64pow10" = some 3 := by kernel_rfl
theorem factP {W : World} (h : laidMet Tryd.prog laidD W) : Lib.TabIs Tryd.prog W "internal/strconv.uint64pow10" .u64 Lib.pow10Tab :=
  Lib.tabIs_of_head (n := 20) (e := 94) (t := 111) gPow (by kernel_rfl) Tryd.underlying111 Tryd.underlying94 (by kernel_rfl) (by kernel_rfl) h.tail.tail
theorem gErr : Tryd.prog.globalNamed "strconv.ErrSyntax" = some 0 := by kernel_rfl
theorem gErrT : (Tryd.prog.globals[0]?).map (·.type) = some 57 := by kernel_rfl
theorem star : "*" ++ "errors.errorString" = "*errors.errorString" := by decide
theorem rowE (u : TypeId) (h : Tryd.prog.typeName? 3 u = some "*errors.errorString") : u = 107 :=
  typeName_ptr_named (nm := "errors.errorString") (by rw [star]; kernel_rfl) (by kernel_rfl) (by decide) u (by rw [star]; exact h)
theorem cellsE : Tryd.prog.cellsOf 109 = 1 := by kernel_rfl
theorem cellsS : Tryd.prog.cellsOf 9 = 1 := by kernel_rfl
theorem factE {W : World} (h : laidMet Tryd.prog laidD W) : ∃ tp p, W.var? Tryd.prog "strconv.ErrSyntax" = some #[.iface tp p] := by
  obtain ⟨a1, s1, hv1, _⟩ := laid_sentinel h.tail.tail.tail.tail gErr gErrT Tryd.underlying57 rowE Tryd.underlying107 Tryd.underlying109 rfl rfl Tryd.underlying9 cellsE cellsS
  exact ⟨_, _, hv1⟩
theorem facts {W : World} (h : laidMet Tryd.prog laidD W) : Lib.TabIs Tryd.prog W "internal/strconv.uint64pow10" .u64 Lib.pow10Tab ∧ ∃ tp p, W.var? Tryd.prog "strconv.ErrSyntax" = some #[.iface tp p] := ⟨factP h, factE h⟩
theorem hexSz (t : ByteArray) (ht : t.size ≤ 40) (w : World) : Calls Tryd.prog 31 #[.string ⟨(hexL t.data.toList).toArray⟩] w fun e w' => e = .returned (.tuple #[.string t, .bool true]) ∧ Below w.heap.size w w' := by
  have hl : (⟨(hexL t.data.toList).toArray⟩ : ByteArray).size = 2 * t.size := by
    exact hexL_length t.data.toList
  refine (implDecodeHex _ (by rw [hl]; omega) (by rw [hl]; omega) w).mono ?_
  rintro e w' ⟨rfl, hb⟩
  refine ⟨?_, hb⟩
  have e2 : (⟨(hexL t.data.toList).toArray⟩ : ByteArray).data.toList = hexL t.data.toList := by simp
  rw [e2, unhex_hex, hexRes, str_of_list]
theorem good_cases {m z : Int} {b : Bool} (h1 : b = (decide (-1000000000 < m) && decide (m < 1000000000))) (h2 : b = true → z = m) : (b = true ∧ z = m ∧ -1000000000 < m ∧ m < 1000000000) ∨ (b = false ∧ ¬ -1000000000 < m) ∨ (b = false ∧ -1000000000 < m ∧ ¬ m < 1000000000) := by
  by_cases c1 : -1000000000 < m
  · by_cases c2 : m < 1000000000
    · have hb : b = true := by rw [h1, decide_eq_true c1, decide_eq_true c2]; rfl
      exact .inl ⟨hb, h2 hb, c1, c2⟩
    · exact .inr (.inr ⟨by rw [h1, decide_eq_false c2]; simp, c1, c2⟩)
  · exact .inr (.inl ⟨by rw [h1, decide_eq_false c1]; simp, c1⟩)
theorem parseBack (m : Int) (hm : (Lit.int .i64 m).wf = true) (w : World) (ht : Lib.TabIs Tryd.prog w "internal/strconv.uint64pow10" .u64 Lib.pow10Tab) (hv : ∃ tp p, w.var? Tryd.prog "strconv.ErrSyntax" = some #[.iface tp p]) :
    Calls Tryd.prog 20 #[.string ⟨(Lib.itoa m).toArray⟩] w fun e w' => ∃ (z : Int) (b : Bool), e = .returned (.tuple #[.int .i64 z, .bool b]) ∧ b = (decide (-1000000000 < m) && decide (m < 1000000000)) ∧ (b = true → z = m) ∧ Below w.heap.size w w' := by
  obtain ⟨tp, p, hv⟩ := hv
  have hb := bounds_i64 hm
  have hl := Lib.itoa_length_le m hb.1 hb.2
  have h := implParseInt ⟨(Lib.itoa m).toArray⟩ (show (Lib.itoa m).length ≤ 1048576 by omega) w ht tp p hv
  have e2 : (⟨(Lib.itoa m).toArray⟩ : ByteArray).data.toList = Lib.itoa m := by simp
  rw [e2] at h
  refine h.mono ?_
  rintro e w' ⟨rfl, hbl⟩
  exact ⟨_, _, rfl, (pi_itoa m).1, (pi_itoa m).2, hbl⟩
set_option maxHeartbeats 4000000 in
set_option maxRecDepth 100000 in
theorem walk (W : World) (a0 : Option Addr) (c0 : Nat) (z0 : List Int) (w0 : ArgB W a0 c0 z0) (hL : laidMet Tryd.prog laidD W) :
    Calls Tryd.prog 7 #[.slice a0 z0.length c0] W fun e w' => e = .returned (.bool true) ∧ Below W.heap.size W w' := by
  have HT := Lib.hid (facts hL)
  clear hL
  by_cases s0 : z0.length ≤ 1048576
  rotate_left
  · go_enter Tryd.func7, Tryd.ntmps7
    go_wp2_with fail
    refine (lawBig a0 c0 z0 true (decide_eq_true (by omega)) _).mono ?_
    rintro e w1 ⟨rfl, rfl⟩
    go_wp2_with fail
    go_ret
    exact ⟨rfl, Below.refl _ _⟩
  go_enter Tryd.func7, Tryd.ntmps7
  go_wp2_with fail
  refine (lawBig a0 c0 z0 false (decide_eq_false (by omega)) _).mono ?_
  rintro e w1 ⟨rfl, rfl⟩
  go_wp2_with fail
  refine (drawEncodeVarint a0 c0 z0 s0 _ w0).mono ?_
  rintro e w1 ⟨n, rfl, hn, b1⟩
  go_wp2_with fail
  refine (drawEncodeHex a0 c0 z0 s0 _ (w0.keep b1)).mono ?_
  rintro e w2 ⟨t, rfl, ht, h2⟩
  have b2 := below_trans b1 h2
  go_wp2_with fail
  refine (encVar n _).mono ?_
  rintro e w3 ⟨rfl, h3⟩
  have b3 := below_trans b2 h3
  have hl := encS_len n
  go_wp2_with fail
  refine (decVar n t ht _).mono ?_
  rintro e w4 ⟨x, k, rfl, hxk, h4⟩
  have b4 := below_trans b3 h4
  clear b1 b2 b3 h2 h3 h4
  have key : ((encS n).isEmpty = false ∧ 0 ≤ n ∧ n ≤ 562949953421311 ∧ x = n ∧ k = (encS n).length) ∨ ((encS n).isEmpty = true ∧ 0 ≤ n ∧ ¬ n ≤ 562949953421311) ∨ ((encS n).isEmpty = true ∧ ¬ 0 ≤ n) := by
    by_cases hc : encS n = []
    · have hn2 : ¬ (0 ≤ n ∧ n ≤ 562949953421311) := fun c => (encS_ne n).2 c hc
      rw [hc]
      by_cases h0 : 0 ≤ n
      · exact .inr (.inl ⟨rfl, h0, by omega⟩)
      · exact .inr (.inr ⟨rfl, h0⟩)
    · have h1 := (encS_ne n).1 hc
      have h2 := hxk hc
      exact .inl ⟨by simpa using hc, h1.1, h1.2, h2.1, h2.2⟩
  clear hxk
  rcases key with ⟨e1, e2, e3, rfl, rfl⟩ | ⟨e1, e2, e3⟩ | ⟨e1, e2⟩
  all_goals
    go_wp2_with fail
    refine (drawEncodeFixed a0 c0 z0 s0 _ (w0.keep b4)).mono ?_
    rintro e w5 ⟨m, q, rfl, hm, hq1, hq2, h5⟩
    have b5 := below_trans b4 h5
    clear e1 e2 h5
    go_wp2_with fail
    refine (encFix m q _).mono ?_
    rintro e w6 ⟨rfl, h6⟩
    have b6 := below_trans b5 h6
    have hl2 := fixS_len m q
    have hl3 := hl2.1
    go_wp2_with fail
    refine (decFix m q t ht _).mono ?_
    rintro e w7 ⟨y, ok, rfl, hy, rfl⟩
    clear b4 b5 h6
    have key2 : fixS m q = [] ∨ (fixS m q ≠ [] ∧ ok = true ∧ y = m ∧ ((fixS m q).length : Int) = q) := by
      by_cases hc : fixS m q = []
      · exact .inl hc
      · exact .inr ⟨hc, (hy hc).1, (hy hc).2, hl2.2 hc⟩
    clear hy hl2
    rcases key2 with hF | ⟨hF, rfl, rfl, hF3⟩
    all_goals
      go_wp2_with fail
      refine (encFixS _ _ (by assumption) _).mono ?_
      rintro e w8 ⟨rfl, h8⟩
      have b8 := below_trans b6 h8
      have hx := hexL_length t.data.toList
      have hx2 : (((hexL t.data.toList).length : Int) == 2 * (t.size : Int)) = true := by
        rw [hx, beq_iff_eq]; simp
      clear hx h8
      go_wp2_with fail
      refine (implEncodeHex t (by omega) _).mono ?_
      rintro e w9 ⟨rfl, h9⟩
      have b9 := below_trans b8 h9
      go_wp2_with fail
      refine (hexSz t ht _).mono ?_
      rintro e w10 ⟨rfl, h10⟩
      have b10 := below_trans b9 h10
      clear b6 b8 b9 h9 h10
      go_wp2_with fail
      refine (implFormatInt _ (by assumption) _ (tab_keep HT.out.1 b10)).mono ?_
      rintro e w11 ⟨rfl, h11⟩
      have b11 := below_trans b10 h11
      go_wp2_with fail
      refine (parseBack _ (by assumption) _ (tab_keep HT.out.1 b11) ⟨_, _, var_keep HT.out.2.choose_spec.choose_spec b11⟩).mono ?_
      rintro e w12 ⟨z, gd, rfl, hg1, hg2, h12⟩
      have b12 := below_trans b11 h12
      clear b10 b11 h11 h12
      rcases good_cases hg1 hg2 with ⟨rfl, rfl, g1, g2⟩ | ⟨rfl, g1⟩ | ⟨rfl, g1, g2⟩
      all_goals
        clear hg1 hg2
        go_wp2_with fail
        refine (specFormatInt _ (by assumption) _).mono ?_
        rintro e w13 ⟨rfl, h13⟩
        have b13 := below_trans b12 h13
        clear b12 h13
        go_wp2_with fail
        go_ret
        first
        | exact ⟨rfl, b13⟩
        | exact ⟨ret_bool (by have h := decide_eq_false (Int.not_lt.2 g2); rw [h]; rfl), b13⟩

theorem own : ownKnob Tryd.prog.godebug = none := by kernel_rfl
theorem laidOut : laidOutB Tryd.prog = true := by kernel_rfl
theorem door_met (os : Os) (args : Array Value) : laidMetH Tryd.prog laidD ((World.doorLaid Tryd.prog 400 os).forCall (fun _ _ => 0) ⟨#[], args, []⟩).memory :=
  laidMetH_of_parts3 (fuel := 8) (laidMet_of_run' 8 (by kernel_rfl) (by kernel_rfl)) (by kernel_rfl) (by kernel_rfl)
set_option maxRecDepth 100000 in
theorem lifted (os : Os) (started : os.Started) (H : Type) (enc : TypeId × Value → H) :
    ReturnsInHanded {} Tryd.checked os 7 .any (fun w args => (Rows.fnIntegerEncodingsSpec.pre enc Tryd.prog Tryd.f7 [] false w args ∧ laidMetH Tryd.prog laidD w) ∧ sizedMet enc Tryd.prog Tryd.f7 (OpenSpec.ofChange Rows.fnIntegerEncodingsSpec) false w args)
      (Rows.fnIntegerEncodingsSpec.post enc Tryd.prog Tryd.f7 false true false false) := by
  refine returnsInHanded_of_change_and (C := Tryd.checked) (X := fun w _ => laidMetH Tryd.prog laidD w) (fun _ _ _ hh h => h.of_heap hh) own started (by kernel_rfl) Tryd.func7
    (ChangeSpec.witness_shaped (enc := enc) (C := Tryd.checked) (os := os) (X := fun w _ => laidMetH Tryd.prog laidD w) false (World.doorLaid Tryd.prog 400 os) #[.slice none 0 0] 8 rfl (World.shaped_of_RefB (by kernel_rfl) (by kernel_rfl)) (by kernel_rfl) (by kernel_rfl) (by kernel_rfl) (door_met os _)) ?_
  intro W base args ds gs before hval0 hW _ _ hL _
  rw [MakeChecks.laidMetH_plain _ _ _ (by kernel_rfl)] at hL
  have hval : ∀ (j : Nat) t v, Tryd.f7.params[j]? = some t → args[j]? = some v → Value.okWide Tryd.prog W .any base t v := hval0
  have hW' := hW
  obtain ⟨p, q, hA0, hV, rfl, hfz, hnd⟩ := hW
  have hA : DataW.TrodAll enc Tryd.prog W 0 (fun _ => true) true Tryd.f7.params.toList args.toList ds p := hA0
  rw [Tryd.params7] at hA hval
  obtain ⟨v0, vs0, d0, ds0, p0, q0, hargs, rfl, rfl, h0, r0⟩ := trodAll_cons hA
  obtain ⟨rfl, rfl, rfl⟩ := trodAll_nil r0
  obtain rfl : args = #[v0] := by cases args; simp_all
  obtain ⟨rfl, rfl⟩ := trodVars_none hV
  obtain ⟨a0, len0, cap0, rfl⟩ := okWide_slice Tryd.underlying37 (hval 0 37 v0 rfl rfl)
  have k0 := h0
  have lt0 : ∀ x ∈ p0, x.block < W.heap.size := by obtain ⟨m, hm⟩ := k0; exact DataW.trod_lt m _ _ _ hm
  obtain ⟨z0, rfl, w0⟩ : ∃ zs : List Int, len0 = zs.length ∧ ArgB W a0 cap0 zs := by
    obtain ⟨fuel, hf⟩ := h0
    rcases open_ints Tryd.underlying37 Tryd.underlying5 (by kernel_rfl) hf with ⟨hcs, _⟩ | ⟨x, l, c, zs, hcs, _, hl, hm, hz, _, hcell, hwz⟩
    · simp [Value.cells] at hcs
      obtain ⟨rfl, rfl, rfl⟩ := hcs
      exact ⟨[], rfl, argB_nil W⟩
    · simp [Value.cells] at hcs
      obtain ⟨rfl, rfl, rfl⟩ := hcs
      exact ⟨_, argB_some hl hm (by simpa using hz) hcell hwz⟩
  clear hA0 hval0
  refine (walk W a0 cap0 z0 w0 hL).mono fun e W' ⟨he, bel⟩ => ?_
  subst he
  exact ⟨_, rfl, _, _, _, [], _, [], hW', trodAll_mk1 (shut_bool Tryd.underlying4 _), (trodAll_cons_mk (Below.trod laidOut (by kernel_rfl) (of_decide_eq_true (by kernel_rfl)) k0 bel lt0) trodAll_mk0), rfl, bel.frame _, fun h => by cases h⟩

theorem over : Rows.fnIntegerEncodingsRow.holds Tryd.pinned (OpenSpec.ofChange Rows.fnIntegerEncodingsSpec) :=
  OpenClaim.holds_of_wide 7 Tryd.f7 rfl rfl rfl rfl rfl rfl rfl ⟨rfl, rfl, rfl, rfl, rfl⟩ rfl rfl rfl rfl rfl (by kernel_rfl) Tryd.func7 (by kernel_rfl)
    (of_decide_eq_true (by kernel_rfl)) (by unfold Func.isWrapper; first | (rw [if_pos (by decide +kernel)]; kernel_rfl) | (rw [if_neg (by decide +kernel)]; exact ⟨rfl, rfl⟩))
    (fun os started H enc _ => lifted os started H enc)

theorem proved : Rows.FnIntegerEncodingsCardSaid :=
  Claim7.holds_tied_plain_at .later [] [.data, .data, .data, .sentinel, .sentinel] true (true, "fdf06209352da6ea8e69da289ffa207fe23d0219b4f5b75ddc130d8f4956d6c6") true
    over (fun _ h => by cases h) (by kernel_rfl) (fun _ h => by cases h) fnIntegerEncodings_row_tie rfl ⟨rfl, rfl⟩ (by kernel_rfl) rfl
    (fun f fn hf hfn => by
      obtain rfl : f = 7 := Option.some.inj ((show Tryd.prog.funcNamed "loop.example/g02076/laws.FnIntegerEncodings" = some 7 by kernel_rfl).symm.trans hf) |>.symm
      obtain rfl : fn = Tryd.f7 := (Option.some.inj (Tryd.func7.symm.trans hfn)).symm
      exact ⟨by kernel_rfl, fun j t ht => by
        rw [Tryd.params7] at ht
        have hm : t ∈ [37] := by simpa using Array.mem_of_getElem? ht
        have hall : ([37].all fun u => !Tryd.prog.wantsStandIn u) = true := by kernel_rfl
        exact (show Tryd.prog.wantsStandIn t = false by simpa using List.all_eq_true.1 hall t hm)⟩)
    (by kernel_rfl)
#print axioms proved
end Go.Proofs.YtgappocmdbaahaaDoor.lawEnc
