/- The law FnCartans: matrices are read back from their texts, bonds do not depend on the order of points, and types are what they are called. -/
import Derived.Test.YtaikjkcbgniplaaGreatDoorDrawAll
import Derived.Test.YtaikjkcbgniplaaGreatDoorSame
import Derived.Test.YtaikjkcbgniplaaGreatDoorFinAll
import Derived.Test.YtaikjkcbgniplaaGreatDoorPCar
import Derived.Test.YtaikjkcbgniplaaGreatDoorTr
import Derived.Test.YtaikjkcbgniplaaGreatDoorShp
import Derived.Test.YtaikjkcbgniplaaGreatDoorTie
import Derived.Test.YtaikjkcbgniplaaGreatDoorCards
import Derived.LaidMore
import Derived.Stop.Joined
import Derived.Stop.LaidErr
import Derived.SevenTiedAt
import Derived.Lib.LaidTab
import Derived.Lay
namespace Go.Proofs.YtaikjkcbgniplaaGreatDoor.lawCar
def laidD : List (String × DataW Unit) := [("math/bits.deBruijn32tab", Rows.laid_math_bits_deBruijn32tab), ("math/bits.deBruijn64tab", Rows.laid_math_bits_deBruijn64tab), ("internal/strconv.uint64pow10", Rows.laid_internal_strconv_uint64pow10), ("unicode/utf8.acceptRanges", Rows.laid_unicode_utf8_acceptRanges), ("strconv.ErrRange", Rows.laid_strconv_ErrRange), ("strconv.ErrSyntax", Rows.laid_strconv_ErrSyntax), ("unicode/utf8.first", Rows.laid_unicode_utf8_first)]
open Go.ChangeShapes Go.WideShapes Go.ChangeAt Go.RowKit
open Go.ChangeMaps (open_string shut_string)
set_option linter.unusedVariables false

theorem rhoN_t {c : List (List Int)} (h : isC c = true) : rhoN c = c.length := by rw [rhoN, if_pos h]
theorem colN_t {c : List (List Int)} (h : isC c = true) (k : Nat) (hk : k < c.length) : colN c (k : Int) = c.length := by
  have : isPt c.length (k : Int) = true := (isPt_iff _ _).2 ⟨by omega, by omega⟩
  rw [colN, h, this]; rfl
theorem ent_tr {c : List (List Int)} (h : isC c = true) {i j : Nat} (hi : i < c.length) (hj : j < c.length) : ent (trL c) i j = ent c j i := by
  have e1 : (trL c).getD i [] = colL c (i : Int) := by simp [trL, rhoN_t h, hi]
  rw [ent, e1, colL, colN_t h i hi]
  simp [hj]
theorem tr_len {c : List (List Int)} (h : isC c = true) : (trL c).length = c.length := by rw [trL_length, rhoN_t h]
theorem tr_isC {c : List (List Int)} (h : isC c = true) : isC (trL c) = true := by
  obtain ⟨h1, h2, h3, h4⟩ := (isC_iff c).1 h
  rw [isC_iff]
  refine ⟨by rw [tr_len h]; exact h1, by rw [tr_len h]; exact h2, fun r hr => ?_, ?_⟩
  · rw [tr_len h]
    rw [trL, List.mem_map] at hr
    obtain ⟨k, hk, rfl⟩ := hr
    rw [List.mem_range, rhoN_t h] at hk
    rw [colL, List.length_map, List.length_range, colN_t h k hk]
  · rw [tr_len h]
    intro i hi j hj
    have := h4 i hi j hj
    have b := h4 j hj i hi
    rw [OkE] at this b ⊢
    rw [ent_tr h hi hj, ent_tr h hj hi]
    by_cases e : i = j
    · subst e; exact this
    · rw [if_neg (Ne.symm e)] at b
      rw [if_neg e]
      exact ⟨b.1, b.2.1, b.2.2⟩
theorem cutGo_skipC (c : UInt8) (x r cur : List UInt8) (h : c ∉ x) : cutGo c cur (x ++ r) = cutGo c (cur ++ x) r := by
  induction x generalizing cur with
  | nil => simp
  | cons b x ih =>
    rw [List.cons_append, cutGo, if_neg (fun e => h (by simp [e])), ih _ (fun e => h (by simp [e]))]
    simp
theorem cut_tailC (c : UInt8) : ∀ (r : List (List UInt8)) (cur : List UInt8), (∀ x ∈ r, c ∉ x) → cutGo c cur (Lib.joinTail [c] r) = cur :: r
  | [], cur, _ => by simp [Lib.joinTail, cutGo]
  | y :: r, cur, h => by
    have e : Lib.joinTail [c] (y :: r) = c :: (y ++ Lib.joinTail [c] r) := by simp [Lib.joinTail]
    rw [e, cutGo, if_pos rfl, cutGo_skipC _ _ _ _ (h y (by simp)), List.nil_append, cut_tailC c r y (fun x hx => h x (by simp [hx]))]
theorem cut_joinC (c : UInt8) (ls : List (List UInt8)) (h0 : ls ≠ []) (h : ∀ x ∈ ls, c ∉ x) : cutL c (Lib.join ls [c]) = ls := by
  cases ls with
  | nil => exact absurd rfl h0
  | cons x r => rw [Lib.join_cons, cutL, cutGo_skipC _ _ _ _ (h x (by simp)), List.nil_append, cut_tailC c r x (fun y hy => h y (by simp [hy]))]
theorem itoa_small : (([-3, -2, -1, 0, 1, 2] : List Int).all fun x => decide (num 9 (Lib.itoa x) = x) && !(Lib.itoa x).contains 44 && !(Lib.itoa x).contains 59) = true := by decide +kernel
theorem itoa_s {x : Int} (h1 : -3 ≤ x) (h2 : x ≤ 2) : num 9 (Lib.itoa x) = x ∧ (44 : UInt8) ∉ Lib.itoa x ∧ (59 : UInt8) ∉ Lib.itoa x := by
  have hx : x ∈ ([-3, -2, -1, 0, 1, 2] : List Int) := by
    have : x = -3 ∨ x = -2 ∨ x = -1 ∨ x = 0 ∨ x = 1 ∨ x = 2 := by omega
    rcases this with rfl | rfl | rfl | rfl | rfl | rfl <;> decide
  have := List.all_eq_true.1 itoa_small x hx
  simpa [and_assoc] using this
theorem mem_join_tail (c : UInt8) (b : UInt8) (hb : b ≠ c) : ∀ r : List (List UInt8), (∀ x ∈ r, b ∉ x) → b ∉ Lib.joinTail [c] r := by
  intro r h hm
  simp only [Lib.joinTail, List.mem_flatten, List.mem_map] at hm
  obtain ⟨l, ⟨x, hx, rfl⟩, hl⟩ := hm
  rcases List.mem_append.1 hl with h1 | h1
  · simp at h1; exact hb h1
  · exact h x hx h1
theorem mem_join (c : UInt8) (b : UInt8) (hb : b ≠ c) (ls : List (List UInt8)) (h : ∀ x ∈ ls, b ∉ x) : b ∉ Lib.join ls [c] := by
  cases ls with
  | nil => simp [Lib.join]
  | cons x r =>
    rw [Lib.join_cons, List.mem_append]
    rintro (hm | hm)
    · exact h x (by simp) hm
    · exact mem_join_tail c b hb r (fun y hy => h y (by simp [hy])) hm
theorem isC_range {c : List (List Int)} (h : isC c = true) {r : List Int} (hr : r ∈ c) {x : Int} (hx : x ∈ r) : -3 ≤ x ∧ x ≤ 2 := by
  obtain ⟨h1, h2, h3, h4⟩ := (isC_iff c).1 h
  obtain ⟨i, hi, rfl⟩ := List.mem_iff_getElem.1 hr
  obtain ⟨j, hj, rfl⟩ := List.mem_iff_getElem.1 hx
  have hl := h3 _ (List.getElem_mem hi)
  have := h4 i hi j (by omega)
  rw [OkE, ent_get c i j hi hj] at this
  split at this <;> omega
theorem nums_back {c : List (List Int)} (h : isC c = true) {r : List Int} (hr : r ∈ c) : numsOf 9 (joinN 44 r) = r := by
  have hne : r ≠ [] := by
    intro e
    have := ((isC_iff c).1 h).2.2.1 r hr
    have := ((isC_iff c).1 h).1
    rw [e] at *
    simp at *
    omega
  rw [numsOf, joinN, cut_joinC 44 _ (by simpa [nums] using hne) (by
    intro x hx
    rw [nums, List.mem_map] at hx
    obtain ⟨y, hy, rfl⟩ := hx
    have := isC_range h hr hy
    exact (itoa_s this.1 this.2).2.1), nums, List.map_map]
  conv => rhs; rw [← List.map_id r]
  refine List.map_congr_left (fun x hx => ?_)
  have := isC_range h hr hx
  exact (itoa_s this.1 this.2).1
theorem cs_back {c : List (List Int)} (h : isC c = true) : csOf 9 (fmtS c) = c := by
  have h1 := ((isC_iff c).1 h).1
  have hne : c ≠ [] := by intro e; rw [e] at h1; simp at h1
  rw [csOf, fmtS, cut_joinC 59 _ (by simpa [rowsT] using hne) (by
    intro x hx
    rw [rowsT, List.mem_map] at hx
    obtain ⟨r, hr, rfl⟩ := hx
    refine mem_join 44 59 (by decide) _ (fun y hy => ?_)
    rw [nums, List.mem_map] at hy
    obtain ⟨z, hz, rfl⟩ := hy
    have := isC_range h hr hz
    exact (itoa_s this.1 this.2).2.2), rowsT, List.map_map]
  conv => rhs; rw [← List.map_id c]
  exact List.map_congr_left (fun r hr => nums_back h hr)
theorem read_back (c : List (List Int)) : pcOk (fmtC c) = isC c ∧ (isC c = true → pcL (fmtC c) = c) := by
  cases h : isC c with
  | false =>
    have e : fmtC c = [] := by rw [fmtC, h]; rfl
    rw [e]
    exact ⟨pc_nil.1, fun k => by cases k⟩
  | true =>
    have e : fmtC c = fmtS c := by rw [fmtC, h]; rfl
    have hp : pcOk (fmtC c) = true := by rw [e, pcOk, cs_back h, h, decide_eq_true rfl]; rfl
    exact ⟨hp, fun _ => by rw [pcL, if_pos hp, e, cs_back h]⟩
theorem bond_flip (c : List (List Int)) (i j : Int) : bond c i j = bond c j i := by
  unfold bond
  cases isC c <;> cases isPt c.length i <;> cases isPt c.length j <;> simp
  by_cases e : i = j
  · subst e; rfl
  · rw [if_neg e, if_neg (Ne.symm e), Int.mul_comm]
theorem bond_tr (c : List (List Int)) (i j : Int) : bond (trL c) i j = bond c i j := by
  cases hC : isC c with
  | false =>
    have e : trL c = [] := by simp [trL, rhoN, hC]
    have hn : isC ([] : List (List Int)) = false := by decide
    rw [bond, bond, e, hn, hC]; rfl
  | true =>
    have hT := tr_isC hC
    have hl := tr_len hC
    unfold bond
    rw [hT, hC, hl]
    cases hi : isPt c.length i <;> cases hj : isPt c.length j <;> simp
    by_cases e : i = j
    · rw [if_pos e, if_pos e]
    · obtain ⟨p, rfl, hp⟩ := pt_nat hi
      obtain ⟨q, rfl, hq⟩ := pt_nat hj
      rw [if_neg e, if_neg e]
      simp only [Int.toNat_natCast]
      rw [ent_tr hC hp hq, ent_tr hC hq hp, Int.mul_comm]
theorem sh_total {z : List (List Int)} (h : Sh z) : total z ≤ 25 := by
  have := ints_le' z 4 h.2.2
  have := h.2.1
  unfold total; omega
theorem join_test {a b : List (List Int)} (h : joinOk a b = true) : isC (joinL a b) = true ∧ (partsL (joinL a b)).length = (partsL a).length + (partsL b).length := by
  rw [joinL_t h]; exact ⟨join_isC h, join_parts h⟩
theorem parts_small (c : List (List Int)) : (partsL c).length ≤ 32 := by
  have := parts_total c
  unfold total at this; omega
theorem gPow : Tryz.prog.globalNamed "internal/strconv.uint64pow10" = some 5 := by kernel_rfl
theorem factP {W : World} (h : laidMet Tryz.prog laidD W) : Lib.TabIs Tryz.prog W "internal/strconv.uint64pow10" .u64 Lib.pow10Tab :=
  Lib.tabIs_of_head (n := 20) (e := 117) (t := 162) gPow (by kernel_rfl) Tryz.underlying162 Tryz.underlying117 (by kernel_rfl) (by kernel_rfl) h.tail.tail
theorem gErr : Tryz.prog.globalNamed "strconv.ErrSyntax" = some 3 := by kernel_rfl
theorem gErrT : (Tryz.prog.globals[3]?).map (·.type) = some 91 := by kernel_rfl
theorem star : "*" ++ "errors.errorString" = "*errors.errorString" := by decide
theorem rowE (u : TypeId) (h : Tryz.prog.typeName? 3 u = some "*errors.errorString") : u = 166 :=
  typeName_ptr_named (nm := "errors.errorString") (by rw [star]; kernel_rfl) (by kernel_rfl) (by decide) u (by rw [star]; exact h)
theorem cellsE : Tryz.prog.cellsOf 168 = 1 := by kernel_rfl
theorem cellsS : Tryz.prog.cellsOf 9 = 1 := by kernel_rfl
theorem factE {W : World} (h : laidMet Tryz.prog laidD W) : ∃ tp p, W.var? Tryz.prog "strconv.ErrSyntax" = some #[.iface tp p] := by
  obtain ⟨a1, s1, hv1, _⟩ := laid_sentinel h.tail.tail.tail.tail.tail gErr gErrT Tryz.underlying91 rowE Tryz.underlying166 Tryz.underlying168 rfl rfl Tryz.underlying9 cellsE cellsS
  exact ⟨_, _, hv1⟩
theorem facts {W : World} (h : laidMet Tryz.prog laidD W) (hS : W.ShapedOpen Tryz.prog) : LaidAll W := ⟨factP h, factE h, maxIs hS⟩
set_option maxHeartbeats 8000000 in
set_option maxRecDepth 100000 in
theorem walk (W : World) (a0 : Option Addr) (c0 : Nat) (z0 : List Int) (w0 : ArgB W a0 c0 z0) (hL : laidMet Tryz.prog laidD W) (hS : W.ShapedOpen Tryz.prog) :
    Calls Tryz.prog 5 #[.slice a0 z0.length c0] W fun e w' => e = .returned (.bool true) ∧ Below W.heap.size W w' := by
  have HT := Lib.hid (facts hL hS)
  clear hL hS
  by_cases s0 : z0.length ≤ 1048576
  rotate_left
  · go_enter Tryz.func5, Tryz.ntmps5
    go_wp2_with fail
    refine (lawBig a0 c0 z0 true (decide_eq_true (by omega)) _).mono ?_
    rintro e w1 ⟨rfl, rfl⟩
    go_wp2_with fail
    go_ret
    exact ⟨rfl, Below.refl _ _⟩
  go_enter Tryz.func5, Tryz.ntmps5
  go_wp2_with fail
  refine (lawBig a0 c0 z0 false (decide_eq_false (by omega)) _).mono ?_
  rintro e w1 ⟨rfl, rfl⟩
  go_wp2_with fail
  refine (drawFormatCartan a0 c0 z0 s0 _ w0).mono ?_
  rintro e x0 ⟨v, z, rfl, hI, hsh, bT⟩
  obtain ⟨g1, o1, c1, rfl, _, _, _⟩ := hI.form
  have hz := hsh.2.1
  have hzt := sh_total hsh
  clear hsh
  have hfl := fmtC_len z
  go_wp2_with fail
  refine (implFormatCartan _ z (by omega) _ hI (tab_keep HT.out.1 bT)).mono ?_
  rintro e x1 ⟨rfl, h⟩
  replace hI := hI.keep h
  replace bT := below_trans bT h
  clear h
  go_wp2_with fail
  refine (implParseCartan ⟨(fmtC z).toArray⟩ (show (fmtC z).length ≤ 1048576 by omega) _ (HT.out.keep bT)).mono ?_
  intro e x2 r
  obtain ⟨vx2, rfl, ox2, h⟩ := r.out
  clear r
  have hX := ox2.read
  clear ox2
  replace hI := hI.keep h
  replace bT := below_trans bT h
  clear h
  have EF : (⟨(fmtC z).toArray⟩ : ByteArray).data.toList = fmtC z := by simp
  obtain ⟨rb1, rb2⟩ := read_back z
  rw [EF] at hX ⊢
  rw [rb1]
  have HRB := Lib.hid rb2
  obtain ⟨X, hXX⟩ : ∃ X, pcL (fmtC z) = X := ⟨_, rfl⟩
  rw [hXX] at hX HRB
  obtain ⟨F, hF⟩ : ∃ F, fmtC z = F := ⟨_, rfl⟩
  have HF := Lib.hid hF
  rw [HF.out]
  clear EF rb1 rb2 hXX hF
  obtain ⟨gX, pX, cX, rfl, _, _, _⟩ := hX.form
  go_wp2_with fail
  refine (specFormatCartan _ z (by omega) _ hI).mono ?_
  rintro e x3 ⟨rfl, h⟩
  rw [HF.out]
  replace hI := hI.keep h
  replace hX := hX.keep h
  replace bT := below_trans bT h
  clear h
  go_wp2_with fail
  refine (specIsCartan _ z (by omega) _ hI).mono ?_
  rintro e x4 ⟨rfl, h⟩
  replace hI := hI.keep h
  replace hX := hX.keep h
  replace bT := below_trans bT h
  clear h
  cases hC : isC z
  rotate_left
  · have hXz := HRB.out hC
    clear hC
    rw [hXz] at hX
    rw [hXz]
    clear HRB hXz
    go_wp2_with fail
    refine (lawSameWords _ _ z z (by omega) _ hX hI).mono ?_
    rintro e xs ⟨rfl, h⟩
    replace hI := hI.keep h
    replace bT := below_trans bT h
    clear h hX
    simp only [eqII_refl]
    go_wp2_with fail
    refine (implIsCartan _ z (by omega) _ hI).mono ?_
    rintro e x5 ⟨rfl, h⟩
    replace hI := hI.keep h
    replace bT := below_trans bT h
    clear h
    go_wp2_with fail
    refine (specIsCartan _ z (by omega) _ hI).mono ?_
    rintro e x6 ⟨rfl, h⟩
    replace hI := hI.keep h
    replace bT := below_trans bT h
    clear h
    go_wp2_with fail
    refine (implTransposeCartan _ z (by omega) _ hI).mono ?_
    intro e x7 r
    obtain ⟨vx7, rfl, ox7, h⟩ := r.out
    clear r
    have hT1 := ox7.read
    clear ox7
    replace hI := hI.keep h
    replace bT := below_trans bT h
    clear h
    go_wp2_with fail
    refine (specTransposeCartan _ z (by omega) _ hI).mono ?_
    intro e x8 r
    obtain ⟨vx8, rfl, ox8, h⟩ := r.out
    clear r
    have hT2 := ox8.read
    clear ox8
    replace hI := hI.keep h
    replace hT1 := hT1.keep h
    replace bT := below_trans bT h
    clear h
    have htt := trL_ints z
    go_wp2_with fail
    refine (lawSameWords _ _ (trL z) (trL z) (by omega) _ hT1 hT2).mono ?_
    rintro e x9 ⟨rfl, h⟩
    replace hI := hI.keep h
    replace hT1 := hT1.keep h
    replace hT2 := hT2.keep h
    replace bT := below_trans bT h
    clear h
    clear hT1 hT2 hI htt
    simp only [eqII_refl]
    go_wp2_with fail
    refine (drawParseCartan a0 c0 z0 s0 _ (w0.keep bT)).mono ?_
    rintro e x10 ⟨t, rfl, ht, h⟩
    replace bT := below_trans bT h
    clear h
    go_wp2_with fail
    refine (implParseCartan t (by omega) _ (HT.out.keep bT)).mono ?_
    intro e x11 r
    obtain ⟨vx11, rfl, ox11, h⟩ := r.out
    clear r
    have hP1 := ox11.read
    clear ox11
    replace bT := below_trans bT h
    clear h
    clear hP1
    go_wp2_with fail
    refine (specParseCartan t (by omega) _).mono ?_
    intro e x12 r
    obtain ⟨vx12, rfl, ox12, h⟩ := r.out
    clear r
    have hP2 := ox12.read
    clear ox12
    replace bT := below_trans bT h
    clear h
    clear hP2
    go_wp2_with fail
    refine (drawBondOf a0 c0 z0 s0 _ (w0.keep bT)).mono ?_
    rintro e x13 ⟨vd, d, i, j, rfl, hD, hds, h⟩
    replace bT := below_trans bT h
    clear h
    obtain ⟨g2, o2, c2, rfl, _, _, _⟩ := hD.form
    have hd5 := hds.2.1
    clear hds
    go_wp2_with fail
    refine (implBondOf _ d i j (by omega) _ hD).mono ?_
    rintro e x14 ⟨rfl, h⟩
    replace hD := hD.keep h
    replace bT := below_trans bT h
    clear h
    go_wp2_with fail
    refine (specBondOf _ d i j (by omega) _ hD).mono ?_
    rintro e x15 ⟨rfl, h⟩
    replace hD := hD.keep h
    replace bT := below_trans bT h
    clear h
    go_wp2_with fail
    refine (implBondOf _ d i j (by omega) _ hD).mono ?_
    rintro e x16 ⟨rfl, h⟩
    replace hD := hD.keep h
    replace bT := below_trans bT h
    clear h
    go_wp2_with fail
    refine (implBondOf _ d j i (by omega) _ hD).mono ?_
    rintro e x17 ⟨rfl, h⟩
    replace hD := hD.keep h
    replace bT := below_trans bT h
    clear h
    rw [← bond_flip d i j]
    go_wp2_with fail
    refine (implBondOf _ d i j (by omega) _ hD).mono ?_
    rintro e x18 ⟨rfl, h⟩
    replace hD := hD.keep h
    replace bT := below_trans bT h
    clear h
    go_wp2_with fail
    refine (implTransposeCartan _ d (by omega) _ hD).mono ?_
    intro e x19 r
    obtain ⟨vx19, rfl, ox19, h⟩ := r.out
    clear r
    have hT3 := ox19.read
    clear ox19
    replace hD := hD.keep h
    replace bT := below_trans bT h
    clear h
    have htt := trL_ints d
    go_wp2_with fail
    refine (implBondOf _ (trL d) i j (by unfold total at htt; omega) _ hT3).mono ?_
    rintro e x20 ⟨rfl, h⟩
    replace hD := hD.keep h
    replace hT3 := hT3.keep h
    replace bT := below_trans bT h
    clear h
    rw [bond_tr]
    clear hT3 hD htt
    go_wp2_with fail
    refine (drawTypeCartan a0 c0 z0 s0 _ (w0.keep bT)).mono ?_
    rintro e x21 ⟨s, rfl, hs, h⟩
    replace bT := below_trans bT h
    clear h
    go_wp2_with fail
    refine (implTypeCartan s _).mono ?_
    intro e x22 r
    obtain ⟨vx22, rfl, ox22, h⟩ := r.out
    clear r
    have hY := ox22.read
    clear ox22
    replace bT := below_trans bT h
    clear h
    obtain ⟨gx22, px22, cx22, rfl, _, _, _⟩ := hY.form
    go_wp2_with fail
    refine (specTypeCartan s _).mono ?_
    intro e x23 r
    obtain ⟨vx23, rfl, ox23, h⟩ := r.out
    clear r
    have hZ := ox23.read
    clear ox23
    replace hY := hY.keep h
    replace bT := below_trans bT h
    clear h
    obtain ⟨gx23, px23, cx23, rfl, _, _, _⟩ := hZ.form
    have hty := typ_total s
    have HTN := Lib.hid (fun (h : typOk s = true) => typ_name h)
    cases hk : typOk s
    rotate_left
    · have hnm := HTN.out hk
      have hsz : (⟨(nameL (typL s)).toArray⟩ : ByteArray) = s := by rw [hnm]
      have HSZ := Lib.hid hsz
      clear hk HTN hnm hsz
      go_wp2_with fail
      refine (lawSameWords _ _ (typL s) (typL s) (by omega) _ hY hZ).mono ?_
      rintro e xt ⟨rfl, h⟩
      replace hZ := hZ.keep h
      replace bT := below_trans bT h
      clear h hY
      simp only [eqII_refl]
      go_wp2_with fail
      refine (implNameOf _ (typL s) (by unfold total at hty; omega) _ hZ (HT.out.2.2.keep bT)).mono ?_
      rintro e xu ⟨rfl, h⟩
      rw [HSZ.out]
      replace bT := below_trans bT h
      clear h hZ hty HSZ
      go_wp2_with fail
      refine (drawJoinCartans a0 c0 z0 s0 _ (w0.keep bT)).mono ?_
      rintro e x24 ⟨va, A, vb, B, rfl, hA, hAs, hB, hBs, h⟩
      replace bT := below_trans bT h
      clear h
      have HA := Lib.hid hA
      have HB := Lib.hid hB
      obtain ⟨gA, oA, cA, rfl, _, _, _⟩ := hA.form
      obtain ⟨gB, oB, cB, rfl, _, _, _⟩ := hB.form
      have hA := HA.out
      have hB := HB.out
      have hA5 := hAs.2.1
      have hB5 := hBs.2.1
      clear HA HB hAs hBs
      go_wp2_with fail
      refine (implJoinCartans _ _ A B (by omega) (by omega) _ hA hB).mono ?_
      intro e x25 r
      obtain ⟨vx25, rfl, ox25, h⟩ := r.out
      clear r
      have hU := ox25.read
      clear ox25
      replace hA := hA.keep h
      replace hB := hB.keep h
      replace bT := below_trans bT h
      clear h
      obtain ⟨gx25, px25, cx25, rfl, _, _, _⟩ := hU.form
      go_wp2_with fail
      refine (specJoinCartans _ _ A B (by omega) (by omega) _ hA hB).mono ?_
      intro e x26 r
      obtain ⟨vx26, rfl, ox26, h⟩ := r.out
      clear r
      have hV := ox26.read
      clear ox26
      replace hA := hA.keep h
      replace hB := hB.keep h
      replace hU := hU.keep h
      replace bT := below_trans bT h
      clear h
      obtain ⟨gx26, px26, cx26, rfl, _, _, _⟩ := hV.form
      have hjt := join_total A B
      go_wp2_with fail
      refine (drawEqualCartans a0 c0 z0 s0 _ (w0.keep bT)).mono ?_
      rintro e x27 ⟨vp, P, vq, Q, rfl, hP, hPs, hQ, hQs, h⟩
      replace hA := hA.keep h
      replace hB := hB.keep h
      replace hU := hU.keep h
      replace hV := hV.keep h
      replace bT := below_trans bT h
      clear h
      have HP := Lib.hid hP
      have HQ := Lib.hid hQ
      obtain ⟨gP, oP, cP, rfl, _, _, _⟩ := hP.form
      obtain ⟨gQ, oQ, cQ, rfl, _, _, _⟩ := hQ.form
      have hP := HP.out
      have hQ := HQ.out
      have hPt := sh_total hPs
      clear HP HQ hPs hQs
      go_wp2_with fail
      refine (lawSameWords _ _ (joinL A B) (joinL A B) (by omega) _ hU hV).mono ?_
      rintro e x28 ⟨rfl, h⟩
      replace hA := hA.keep h
      replace hB := hB.keep h
      replace hU := hU.keep h
      replace hV := hV.keep h
      replace hP := hP.keep h
      replace hQ := hQ.keep h
      replace bT := below_trans bT h
      clear h
      simp only [eqII_refl]
      have HJ := Lib.hid (fun (h : joinOk A B = true) => join_test h)
      cases hj : joinOk A B
      rotate_left
      · obtain ⟨j1, j2⟩ := HJ.out hj
        have hp1 := parts_small A
        have hp2 := parts_small B
        have hp3 := parts_small (joinL A B)
        clear HJ hj
        go_wp2_with fail
        refine (implIsCartan _ (joinL A B) (by unfold total at hjt; omega) _ hV).mono ?_
        rintro e x29 ⟨rfl, h⟩
        replace hA := hA.keep h
        replace hB := hB.keep h
        replace hU := hU.keep h
        replace hV := hV.keep h
        replace hP := hP.keep h
        replace hQ := hQ.keep h
        replace bT := below_trans bT h
        clear h
        rw [j1]
        go_wp2_with fail
        refine (specPartsOf _ (joinL A B) (by unfold total at hjt; omega) _ hV).mono ?_
        intro e x30 r
        obtain ⟨vx30, rfl, ox30, h⟩ := r.out
        clear r
        have hN1 := ox30.read
        clear ox30
        replace hA := hA.keep h
        replace hB := hB.keep h
        replace hU := hU.keep h
        replace hV := hV.keep h
        replace hP := hP.keep h
        replace hQ := hQ.keep h
        replace bT := below_trans bT h
        clear h
        obtain ⟨gx30, px30, cx30, rfl, _, _, _⟩ := hN1.form
        go_wp2_with fail
        refine (specPartsOf _ A (by omega) _ hA).mono ?_
        intro e x31 r
        obtain ⟨vx31, rfl, ox31, h⟩ := r.out
        clear r
        have hN2 := ox31.read
        clear ox31
        replace hA := hA.keep h
        replace hB := hB.keep h
        replace hU := hU.keep h
        replace hV := hV.keep h
        replace hP := hP.keep h
        replace hQ := hQ.keep h
        replace hN1 := hN1.keep h
        replace bT := below_trans bT h
        clear h
        obtain ⟨gx31, px31, cx31, rfl, _, _, _⟩ := hN2.form
        go_wp2_with fail
        refine (specPartsOf _ B (by omega) _ hB).mono ?_
        intro e x32 r
        obtain ⟨vx32, rfl, ox32, h⟩ := r.out
        clear r
        have hN3 := ox32.read
        clear ox32
        replace hA := hA.keep h
        replace hB := hB.keep h
        replace hU := hU.keep h
        replace hV := hV.keep h
        replace hP := hP.keep h
        replace hQ := hQ.keep h
        replace hN1 := hN1.keep h
        replace hN2 := hN2.keep h
        replace bT := below_trans bT h
        clear h
        obtain ⟨gx32, px32, cx32, rfl, _, _, _⟩ := hN3.form
        have j3 : (((partsL (joinL A B)).length : Int) == ((partsL A).length : Int) + ((partsL B).length : Int)) = true := by rw [beq_iff_eq]; omega
        clear j2 hN1 hN2 hN3 hU hV hA hB
        go_wp2_with fail
        refine (implEqualCartans _ _ P Q (by omega) _ hP hQ).mono ?_
        rintro e e1 ⟨rfl, h⟩
        replace hP := hP.keep h
        replace hQ := hQ.keep h
        replace bT := below_trans bT h
        clear h
        go_wp2_with fail
        refine (specEqualCartans _ _ P Q (by omega) _ hP hQ).mono ?_
        rintro e e2 ⟨rfl, h⟩
        replace bT := below_trans bT h
        clear h
        go_wp2_with fail
        go_ret
        exact ⟨rfl, bT⟩
      · clear HJ hj hU hV hA hB
        go_wp2_with fail
        refine (implEqualCartans _ _ P Q (by omega) _ hP hQ).mono ?_
        rintro e e1 ⟨rfl, h⟩
        replace hP := hP.keep h
        replace hQ := hQ.keep h
        replace bT := below_trans bT h
        clear h
        go_wp2_with fail
        refine (specEqualCartans _ _ P Q (by omega) _ hP hQ).mono ?_
        rintro e e2 ⟨rfl, h⟩
        replace bT := below_trans bT h
        clear h
        go_wp2_with fail
        go_ret
        exact ⟨rfl, bT⟩
    · clear HTN hk
      go_wp2_with fail
      refine (lawSameWords _ _ (typL s) (typL s) (by omega) _ hY hZ).mono ?_
      rintro e xt ⟨rfl, h⟩
      replace bT := below_trans bT h
      clear h hY hZ hty
      simp only [eqII_refl]
      go_wp2_with fail
      refine (drawJoinCartans a0 c0 z0 s0 _ (w0.keep bT)).mono ?_
      rintro e x24 ⟨va, A, vb, B, rfl, hA, hAs, hB, hBs, h⟩
      replace bT := below_trans bT h
      clear h
      have HA := Lib.hid hA
      have HB := Lib.hid hB
      obtain ⟨gA, oA, cA, rfl, _, _, _⟩ := hA.form
      obtain ⟨gB, oB, cB, rfl, _, _, _⟩ := hB.form
      have hA := HA.out
      have hB := HB.out
      have hA5 := hAs.2.1
      have hB5 := hBs.2.1
      clear HA HB hAs hBs
      go_wp2_with fail
      refine (implJoinCartans _ _ A B (by omega) (by omega) _ hA hB).mono ?_
      intro e x25 r
      obtain ⟨vx25, rfl, ox25, h⟩ := r.out
      clear r
      have hU := ox25.read
      clear ox25
      replace hA := hA.keep h
      replace hB := hB.keep h
      replace bT := below_trans bT h
      clear h
      obtain ⟨gx25, px25, cx25, rfl, _, _, _⟩ := hU.form
      go_wp2_with fail
      refine (specJoinCartans _ _ A B (by omega) (by omega) _ hA hB).mono ?_
      intro e x26 r
      obtain ⟨vx26, rfl, ox26, h⟩ := r.out
      clear r
      have hV := ox26.read
      clear ox26
      replace hA := hA.keep h
      replace hB := hB.keep h
      replace hU := hU.keep h
      replace bT := below_trans bT h
      clear h
      obtain ⟨gx26, px26, cx26, rfl, _, _, _⟩ := hV.form
      have hjt := join_total A B
      go_wp2_with fail
      refine (drawEqualCartans a0 c0 z0 s0 _ (w0.keep bT)).mono ?_
      rintro e x27 ⟨vp, P, vq, Q, rfl, hP, hPs, hQ, hQs, h⟩
      replace hA := hA.keep h
      replace hB := hB.keep h
      replace hU := hU.keep h
      replace hV := hV.keep h
      replace bT := below_trans bT h
      clear h
      have HP := Lib.hid hP
      have HQ := Lib.hid hQ
      obtain ⟨gP, oP, cP, rfl, _, _, _⟩ := hP.form
      obtain ⟨gQ, oQ, cQ, rfl, _, _, _⟩ := hQ.form
      have hP := HP.out
      have hQ := HQ.out
      have hPt := sh_total hPs
      clear HP HQ hPs hQs
      go_wp2_with fail
      refine (lawSameWords _ _ (joinL A B) (joinL A B) (by omega) _ hU hV).mono ?_
      rintro e x28 ⟨rfl, h⟩
      replace hA := hA.keep h
      replace hB := hB.keep h
      replace hU := hU.keep h
      replace hV := hV.keep h
      replace hP := hP.keep h
      replace hQ := hQ.keep h
      replace bT := below_trans bT h
      clear h
      simp only [eqII_refl]
      have HJ := Lib.hid (fun (h : joinOk A B = true) => join_test h)
      cases hj : joinOk A B
      rotate_left
      · obtain ⟨j1, j2⟩ := HJ.out hj
        have hp1 := parts_small A
        have hp2 := parts_small B
        have hp3 := parts_small (joinL A B)
        clear HJ hj
        go_wp2_with fail
        refine (implIsCartan _ (joinL A B) (by unfold total at hjt; omega) _ hV).mono ?_
        rintro e x29 ⟨rfl, h⟩
        replace hA := hA.keep h
        replace hB := hB.keep h
        replace hU := hU.keep h
        replace hV := hV.keep h
        replace hP := hP.keep h
        replace hQ := hQ.keep h
        replace bT := below_trans bT h
        clear h
        rw [j1]
        go_wp2_with fail
        refine (specPartsOf _ (joinL A B) (by unfold total at hjt; omega) _ hV).mono ?_
        intro e x30 r
        obtain ⟨vx30, rfl, ox30, h⟩ := r.out
        clear r
        have hN1 := ox30.read
        clear ox30
        replace hA := hA.keep h
        replace hB := hB.keep h
        replace hU := hU.keep h
        replace hV := hV.keep h
        replace hP := hP.keep h
        replace hQ := hQ.keep h
        replace bT := below_trans bT h
        clear h
        obtain ⟨gx30, px30, cx30, rfl, _, _, _⟩ := hN1.form
        go_wp2_with fail
        refine (specPartsOf _ A (by omega) _ hA).mono ?_
        intro e x31 r
        obtain ⟨vx31, rfl, ox31, h⟩ := r.out
        clear r
        have hN2 := ox31.read
        clear ox31
        replace hA := hA.keep h
        replace hB := hB.keep h
        replace hU := hU.keep h
        replace hV := hV.keep h
        replace hP := hP.keep h
        replace hQ := hQ.keep h
        replace hN1 := hN1.keep h
        replace bT := below_trans bT h
        clear h
        obtain ⟨gx31, px31, cx31, rfl, _, _, _⟩ := hN2.form
        go_wp2_with fail
        refine (specPartsOf _ B (by omega) _ hB).mono ?_
        intro e x32 r
        obtain ⟨vx32, rfl, ox32, h⟩ := r.out
        clear r
        have hN3 := ox32.read
        clear ox32
        replace hA := hA.keep h
        replace hB := hB.keep h
        replace hU := hU.keep h
        replace hV := hV.keep h
        replace hP := hP.keep h
        replace hQ := hQ.keep h
        replace hN1 := hN1.keep h
        replace hN2 := hN2.keep h
        replace bT := below_trans bT h
        clear h
        obtain ⟨gx32, px32, cx32, rfl, _, _, _⟩ := hN3.form
        have j3 : (((partsL (joinL A B)).length : Int) == ((partsL A).length : Int) + ((partsL B).length : Int)) = true := by rw [beq_iff_eq]; omega
        clear j2 hN1 hN2 hN3 hU hV hA hB
        go_wp2_with fail
        refine (implEqualCartans _ _ P Q (by omega) _ hP hQ).mono ?_
        rintro e e1 ⟨rfl, h⟩
        replace hP := hP.keep h
        replace hQ := hQ.keep h
        replace bT := below_trans bT h
        clear h
        go_wp2_with fail
        refine (specEqualCartans _ _ P Q (by omega) _ hP hQ).mono ?_
        rintro e e2 ⟨rfl, h⟩
        replace bT := below_trans bT h
        clear h
        go_wp2_with fail
        go_ret
        exact ⟨rfl, bT⟩
      · clear HJ hj hU hV hA hB
        go_wp2_with fail
        refine (implEqualCartans _ _ P Q (by omega) _ hP hQ).mono ?_
        rintro e e1 ⟨rfl, h⟩
        replace hP := hP.keep h
        replace hQ := hQ.keep h
        replace bT := below_trans bT h
        clear h
        go_wp2_with fail
        refine (specEqualCartans _ _ P Q (by omega) _ hP hQ).mono ?_
        rintro e e2 ⟨rfl, h⟩
        replace bT := below_trans bT h
        clear h
        go_wp2_with fail
        go_ret
        exact ⟨rfl, bT⟩
  · clear hC hX HRB
    go_wp2_with fail
    refine (implIsCartan _ z (by omega) _ hI).mono ?_
    rintro e x5 ⟨rfl, h⟩
    replace hI := hI.keep h
    replace bT := below_trans bT h
    clear h
    go_wp2_with fail
    refine (specIsCartan _ z (by omega) _ hI).mono ?_
    rintro e x6 ⟨rfl, h⟩
    replace hI := hI.keep h
    replace bT := below_trans bT h
    clear h
    go_wp2_with fail
    refine (implTransposeCartan _ z (by omega) _ hI).mono ?_
    intro e x7 r
    obtain ⟨vx7, rfl, ox7, h⟩ := r.out
    clear r
    have hT1 := ox7.read
    clear ox7
    replace hI := hI.keep h
    replace bT := below_trans bT h
    clear h
    go_wp2_with fail
    refine (specTransposeCartan _ z (by omega) _ hI).mono ?_
    intro e x8 r
    obtain ⟨vx8, rfl, ox8, h⟩ := r.out
    clear r
    have hT2 := ox8.read
    clear ox8
    replace hI := hI.keep h
    replace hT1 := hT1.keep h
    replace bT := below_trans bT h
    clear h
    have htt := trL_ints z
    go_wp2_with fail
    refine (lawSameWords _ _ (trL z) (trL z) (by omega) _ hT1 hT2).mono ?_
    rintro e x9 ⟨rfl, h⟩
    replace hI := hI.keep h
    replace hT1 := hT1.keep h
    replace hT2 := hT2.keep h
    replace bT := below_trans bT h
    clear h
    clear hT1 hT2 hI htt
    simp only [eqII_refl]
    go_wp2_with fail
    refine (drawParseCartan a0 c0 z0 s0 _ (w0.keep bT)).mono ?_
    rintro e x10 ⟨t, rfl, ht, h⟩
    replace bT := below_trans bT h
    clear h
    go_wp2_with fail
    refine (implParseCartan t (by omega) _ (HT.out.keep bT)).mono ?_
    intro e x11 r
    obtain ⟨vx11, rfl, ox11, h⟩ := r.out
    clear r
    have hP1 := ox11.read
    clear ox11
    replace bT := below_trans bT h
    clear h
    clear hP1
    go_wp2_with fail
    refine (specParseCartan t (by omega) _).mono ?_
    intro e x12 r
    obtain ⟨vx12, rfl, ox12, h⟩ := r.out
    clear r
    have hP2 := ox12.read
    clear ox12
    replace bT := below_trans bT h
    clear h
    clear hP2
    go_wp2_with fail
    refine (drawBondOf a0 c0 z0 s0 _ (w0.keep bT)).mono ?_
    rintro e x13 ⟨vd, d, i, j, rfl, hD, hds, h⟩
    replace bT := below_trans bT h
    clear h
    obtain ⟨g2, o2, c2, rfl, _, _, _⟩ := hD.form
    have hd5 := hds.2.1
    clear hds
    go_wp2_with fail
    refine (implBondOf _ d i j (by omega) _ hD).mono ?_
    rintro e x14 ⟨rfl, h⟩
    replace hD := hD.keep h
    replace bT := below_trans bT h
    clear h
    go_wp2_with fail
    refine (specBondOf _ d i j (by omega) _ hD).mono ?_
    rintro e x15 ⟨rfl, h⟩
    replace hD := hD.keep h
    replace bT := below_trans bT h
    clear h
    go_wp2_with fail
    refine (implBondOf _ d i j (by omega) _ hD).mono ?_
    rintro e x16 ⟨rfl, h⟩
    replace hD := hD.keep h
    replace bT := below_trans bT h
    clear h
    go_wp2_with fail
    refine (implBondOf _ d j i (by omega) _ hD).mono ?_
    rintro e x17 ⟨rfl, h⟩
    replace hD := hD.keep h
    replace bT := below_trans bT h
    clear h
    rw [← bond_flip d i j]
    go_wp2_with fail
    refine (implBondOf _ d i j (by omega) _ hD).mono ?_
    rintro e x18 ⟨rfl, h⟩
    replace hD := hD.keep h
    replace bT := below_trans bT h
    clear h
    go_wp2_with fail
    refine (implTransposeCartan _ d (by omega) _ hD).mono ?_
    intro e x19 r
    obtain ⟨vx19, rfl, ox19, h⟩ := r.out
    clear r
    have hT3 := ox19.read
    clear ox19
    replace hD := hD.keep h
    replace bT := below_trans bT h
    clear h
    have htt := trL_ints d
    go_wp2_with fail
    refine (implBondOf _ (trL d) i j (by unfold total at htt; omega) _ hT3).mono ?_
    rintro e x20 ⟨rfl, h⟩
    replace hD := hD.keep h
    replace hT3 := hT3.keep h
    replace bT := below_trans bT h
    clear h
    rw [bond_tr]
    clear hT3 hD htt
    go_wp2_with fail
    refine (drawTypeCartan a0 c0 z0 s0 _ (w0.keep bT)).mono ?_
    rintro e x21 ⟨s, rfl, hs, h⟩
    replace bT := below_trans bT h
    clear h
    go_wp2_with fail
    refine (implTypeCartan s _).mono ?_
    intro e x22 r
    obtain ⟨vx22, rfl, ox22, h⟩ := r.out
    clear r
    have hY := ox22.read
    clear ox22
    replace bT := below_trans bT h
    clear h
    obtain ⟨gx22, px22, cx22, rfl, _, _, _⟩ := hY.form
    go_wp2_with fail
    refine (specTypeCartan s _).mono ?_
    intro e x23 r
    obtain ⟨vx23, rfl, ox23, h⟩ := r.out
    clear r
    have hZ := ox23.read
    clear ox23
    replace hY := hY.keep h
    replace bT := below_trans bT h
    clear h
    obtain ⟨gx23, px23, cx23, rfl, _, _, _⟩ := hZ.form
    have hty := typ_total s
    have HTN := Lib.hid (fun (h : typOk s = true) => typ_name h)
    cases hk : typOk s
    rotate_left
    · have hnm := HTN.out hk
      have hsz : (⟨(nameL (typL s)).toArray⟩ : ByteArray) = s := by rw [hnm]
      have HSZ := Lib.hid hsz
      clear hk HTN hnm hsz
      go_wp2_with fail
      refine (lawSameWords _ _ (typL s) (typL s) (by omega) _ hY hZ).mono ?_
      rintro e xt ⟨rfl, h⟩
      replace hZ := hZ.keep h
      replace bT := below_trans bT h
      clear h hY
      simp only [eqII_refl]
      go_wp2_with fail
      refine (implNameOf _ (typL s) (by unfold total at hty; omega) _ hZ (HT.out.2.2.keep bT)).mono ?_
      rintro e xu ⟨rfl, h⟩
      rw [HSZ.out]
      replace bT := below_trans bT h
      clear h hZ hty HSZ
      go_wp2_with fail
      refine (drawJoinCartans a0 c0 z0 s0 _ (w0.keep bT)).mono ?_
      rintro e x24 ⟨va, A, vb, B, rfl, hA, hAs, hB, hBs, h⟩
      replace bT := below_trans bT h
      clear h
      have HA := Lib.hid hA
      have HB := Lib.hid hB
      obtain ⟨gA, oA, cA, rfl, _, _, _⟩ := hA.form
      obtain ⟨gB, oB, cB, rfl, _, _, _⟩ := hB.form
      have hA := HA.out
      have hB := HB.out
      have hA5 := hAs.2.1
      have hB5 := hBs.2.1
      clear HA HB hAs hBs
      go_wp2_with fail
      refine (implJoinCartans _ _ A B (by omega) (by omega) _ hA hB).mono ?_
      intro e x25 r
      obtain ⟨vx25, rfl, ox25, h⟩ := r.out
      clear r
      have hU := ox25.read
      clear ox25
      replace hA := hA.keep h
      replace hB := hB.keep h
      replace bT := below_trans bT h
      clear h
      obtain ⟨gx25, px25, cx25, rfl, _, _, _⟩ := hU.form
      go_wp2_with fail
      refine (specJoinCartans _ _ A B (by omega) (by omega) _ hA hB).mono ?_
      intro e x26 r
      obtain ⟨vx26, rfl, ox26, h⟩ := r.out
      clear r
      have hV := ox26.read
      clear ox26
      replace hA := hA.keep h
      replace hB := hB.keep h
      replace hU := hU.keep h
      replace bT := below_trans bT h
      clear h
      obtain ⟨gx26, px26, cx26, rfl, _, _, _⟩ := hV.form
      have hjt := join_total A B
      go_wp2_with fail
      refine (drawEqualCartans a0 c0 z0 s0 _ (w0.keep bT)).mono ?_
      rintro e x27 ⟨vp, P, vq, Q, rfl, hP, hPs, hQ, hQs, h⟩
      replace hA := hA.keep h
      replace hB := hB.keep h
      replace hU := hU.keep h
      replace hV := hV.keep h
      replace bT := below_trans bT h
      clear h
      have HP := Lib.hid hP
      have HQ := Lib.hid hQ
      obtain ⟨gP, oP, cP, rfl, _, _, _⟩ := hP.form
      obtain ⟨gQ, oQ, cQ, rfl, _, _, _⟩ := hQ.form
      have hP := HP.out
      have hQ := HQ.out
      have hPt := sh_total hPs
      clear HP HQ hPs hQs
      go_wp2_with fail
      refine (lawSameWords _ _ (joinL A B) (joinL A B) (by omega) _ hU hV).mono ?_
      rintro e x28 ⟨rfl, h⟩
      replace hA := hA.keep h
      replace hB := hB.keep h
      replace hU := hU.keep h
      replace hV := hV.keep h
      replace hP := hP.keep h
      replace hQ := hQ.keep h
      replace bT := below_trans bT h
      clear h
      simp only [eqII_refl]
      have HJ := Lib.hid (fun (h : joinOk A B = true) => join_test h)
      cases hj : joinOk A B
      rotate_left
      · obtain ⟨j1, j2⟩ := HJ.out hj
        have hp1 := parts_small A
        have hp2 := parts_small B
        have hp3 := parts_small (joinL A B)
        clear HJ hj
        go_wp2_with fail
        refine (implIsCartan _ (joinL A B) (by unfold total at hjt; omega) _ hV).mono ?_
        rintro e x29 ⟨rfl, h⟩
        replace hA := hA.keep h
        replace hB := hB.keep h
        replace hU := hU.keep h
        replace hV := hV.keep h
        replace hP := hP.keep h
        replace hQ := hQ.keep h
        replace bT := below_trans bT h
        clear h
        rw [j1]
        go_wp2_with fail
        refine (specPartsOf _ (joinL A B) (by unfold total at hjt; omega) _ hV).mono ?_
        intro e x30 r
        obtain ⟨vx30, rfl, ox30, h⟩ := r.out
        clear r
        have hN1 := ox30.read
        clear ox30
        replace hA := hA.keep h
        replace hB := hB.keep h
        replace hU := hU.keep h
        replace hV := hV.keep h
        replace hP := hP.keep h
        replace hQ := hQ.keep h
        replace bT := below_trans bT h
        clear h
        obtain ⟨gx30, px30, cx30, rfl, _, _, _⟩ := hN1.form
        go_wp2_with fail
        refine (specPartsOf _ A (by omega) _ hA).mono ?_
        intro e x31 r
        obtain ⟨vx31, rfl, ox31, h⟩ := r.out
        clear r
        have hN2 := ox31.read
        clear ox31
        replace hA := hA.keep h
        replace hB := hB.keep h
        replace hU := hU.keep h
        replace hV := hV.keep h
        replace hP := hP.keep h
        replace hQ := hQ.keep h
        replace hN1 := hN1.keep h
        replace bT := below_trans bT h
        clear h
        obtain ⟨gx31, px31, cx31, rfl, _, _, _⟩ := hN2.form
        go_wp2_with fail
        refine (specPartsOf _ B (by omega) _ hB).mono ?_
        intro e x32 r
        obtain ⟨vx32, rfl, ox32, h⟩ := r.out
        clear r
        have hN3 := ox32.read
        clear ox32
        replace hA := hA.keep h
        replace hB := hB.keep h
        replace hU := hU.keep h
        replace hV := hV.keep h
        replace hP := hP.keep h
        replace hQ := hQ.keep h
        replace hN1 := hN1.keep h
        replace hN2 := hN2.keep h
        replace bT := below_trans bT h
        clear h
        obtain ⟨gx32, px32, cx32, rfl, _, _, _⟩ := hN3.form
        have j3 : (((partsL (joinL A B)).length : Int) == ((partsL A).length : Int) + ((partsL B).length : Int)) = true := by rw [beq_iff_eq]; omega
        clear j2 hN1 hN2 hN3 hU hV hA hB
        go_wp2_with fail
        refine (implEqualCartans _ _ P Q (by omega) _ hP hQ).mono ?_
        rintro e e1 ⟨rfl, h⟩
        replace hP := hP.keep h
        replace hQ := hQ.keep h
        replace bT := below_trans bT h
        clear h
        go_wp2_with fail
        refine (specEqualCartans _ _ P Q (by omega) _ hP hQ).mono ?_
        rintro e e2 ⟨rfl, h⟩
        replace bT := below_trans bT h
        clear h
        go_wp2_with fail
        go_ret
        exact ⟨rfl, bT⟩
      · clear HJ hj hU hV hA hB
        go_wp2_with fail
        refine (implEqualCartans _ _ P Q (by omega) _ hP hQ).mono ?_
        rintro e e1 ⟨rfl, h⟩
        replace hP := hP.keep h
        replace hQ := hQ.keep h
        replace bT := below_trans bT h
        clear h
        go_wp2_with fail
        refine (specEqualCartans _ _ P Q (by omega) _ hP hQ).mono ?_
        rintro e e2 ⟨rfl, h⟩
        replace bT := below_trans bT h
        clear h
        go_wp2_with fail
        go_ret
        exact ⟨rfl, bT⟩
    · clear HTN hk
      go_wp2_with fail
      refine (lawSameWords _ _ (typL s) (typL s) (by omega) _ hY hZ).mono ?_
      rintro e xt ⟨rfl, h⟩
      replace bT := below_trans bT h
      clear h hY hZ hty
      simp only [eqII_refl]
      go_wp2_with fail
      refine (drawJoinCartans a0 c0 z0 s0 _ (w0.keep bT)).mono ?_
      rintro e x24 ⟨va, A, vb, B, rfl, hA, hAs, hB, hBs, h⟩
      replace bT := below_trans bT h
      clear h
      have HA := Lib.hid hA
      have HB := Lib.hid hB
      obtain ⟨gA, oA, cA, rfl, _, _, _⟩ := hA.form
      obtain ⟨gB, oB, cB, rfl, _, _, _⟩ := hB.form
      have hA := HA.out
      have hB := HB.out
      have hA5 := hAs.2.1
      have hB5 := hBs.2.1
      clear HA HB hAs hBs
      go_wp2_with fail
      refine (implJoinCartans _ _ A B (by omega) (by omega) _ hA hB).mono ?_
      intro e x25 r
      obtain ⟨vx25, rfl, ox25, h⟩ := r.out
      clear r
      have hU := ox25.read
      clear ox25
      replace hA := hA.keep h
      replace hB := hB.keep h
      replace bT := below_trans bT h
      clear h
      obtain ⟨gx25, px25, cx25, rfl, _, _, _⟩ := hU.form
      go_wp2_with fail
      refine (specJoinCartans _ _ A B (by omega) (by omega) _ hA hB).mono ?_
      intro e x26 r
      obtain ⟨vx26, rfl, ox26, h⟩ := r.out
      clear r
      have hV := ox26.read
      clear ox26
      replace hA := hA.keep h
      replace hB := hB.keep h
      replace hU := hU.keep h
      replace bT := below_trans bT h
      clear h
      obtain ⟨gx26, px26, cx26, rfl, _, _, _⟩ := hV.form
      have hjt := join_total A B
      go_wp2_with fail
      refine (drawEqualCartans a0 c0 z0 s0 _ (w0.keep bT)).mono ?_
      rintro e x27 ⟨vp, P, vq, Q, rfl, hP, hPs, hQ, hQs, h⟩
      replace hA := hA.keep h
      replace hB := hB.keep h
      replace hU := hU.keep h
      replace hV := hV.keep h
      replace bT := below_trans bT h
      clear h
      have HP := Lib.hid hP
      have HQ := Lib.hid hQ
      obtain ⟨gP, oP, cP, rfl, _, _, _⟩ := hP.form
      obtain ⟨gQ, oQ, cQ, rfl, _, _, _⟩ := hQ.form
      have hP := HP.out
      have hQ := HQ.out
      have hPt := sh_total hPs
      clear HP HQ hPs hQs
      go_wp2_with fail
      refine (lawSameWords _ _ (joinL A B) (joinL A B) (by omega) _ hU hV).mono ?_
      rintro e x28 ⟨rfl, h⟩
      replace hA := hA.keep h
      replace hB := hB.keep h
      replace hU := hU.keep h
      replace hV := hV.keep h
      replace hP := hP.keep h
      replace hQ := hQ.keep h
      replace bT := below_trans bT h
      clear h
      simp only [eqII_refl]
      have HJ := Lib.hid (fun (h : joinOk A B = true) => join_test h)
      cases hj : joinOk A B
      rotate_left
      · obtain ⟨j1, j2⟩ := HJ.out hj
        have hp1 := parts_small A
        have hp2 := parts_small B
        have hp3 := parts_small (joinL A B)
        clear HJ hj
        go_wp2_with fail
        refine (implIsCartan _ (joinL A B) (by unfold total at hjt; omega) _ hV).mono ?_
        rintro e x29 ⟨rfl, h⟩
        replace hA := hA.keep h
        replace hB := hB.keep h
        replace hU := hU.keep h
        replace hV := hV.keep h
        replace hP := hP.keep h
        replace hQ := hQ.keep h
        replace bT := below_trans bT h
        clear h
        rw [j1]
        go_wp2_with fail
        refine (specPartsOf _ (joinL A B) (by unfold total at hjt; omega) _ hV).mono ?_
        intro e x30 r
        obtain ⟨vx30, rfl, ox30, h⟩ := r.out
        clear r
        have hN1 := ox30.read
        clear ox30
        replace hA := hA.keep h
        replace hB := hB.keep h
        replace hU := hU.keep h
        replace hV := hV.keep h
        replace hP := hP.keep h
        replace hQ := hQ.keep h
        replace bT := below_trans bT h
        clear h
        obtain ⟨gx30, px30, cx30, rfl, _, _, _⟩ := hN1.form
        go_wp2_with fail
        refine (specPartsOf _ A (by omega) _ hA).mono ?_
        intro e x31 r
        obtain ⟨vx31, rfl, ox31, h⟩ := r.out
        clear r
        have hN2 := ox31.read
        clear ox31
        replace hA := hA.keep h
        replace hB := hB.keep h
        replace hU := hU.keep h
        replace hV := hV.keep h
        replace hP := hP.keep h
        replace hQ := hQ.keep h
        replace hN1 := hN1.keep h
        replace bT := below_trans bT h
        clear h
        obtain ⟨gx31, px31, cx31, rfl, _, _, _⟩ := hN2.form
        go_wp2_with fail
        refine (specPartsOf _ B (by omega) _ hB).mono ?_
        intro e x32 r
        obtain ⟨vx32, rfl, ox32, h⟩ := r.out
        clear r
        have hN3 := ox32.read
        clear ox32
        replace hA := hA.keep h
        replace hB := hB.keep h
        replace hU := hU.keep h
        replace hV := hV.keep h
        replace hP := hP.keep h
        replace hQ := hQ.keep h
        replace hN1 := hN1.keep h
        replace hN2 := hN2.keep h
        replace bT := below_trans bT h
        clear h
        obtain ⟨gx32, px32, cx32, rfl, _, _, _⟩ := hN3.form
        have j3 : (((partsL (joinL A B)).length : Int) == ((partsL A).length : Int) + ((partsL B).length : Int)) = true := by rw [beq_iff_eq]; omega
        clear j2 hN1 hN2 hN3 hU hV hA hB
        go_wp2_with fail
        refine (implEqualCartans _ _ P Q (by omega) _ hP hQ).mono ?_
        rintro e e1 ⟨rfl, h⟩
        replace hP := hP.keep h
        replace hQ := hQ.keep h
        replace bT := below_trans bT h
        clear h
        go_wp2_with fail
        refine (specEqualCartans _ _ P Q (by omega) _ hP hQ).mono ?_
        rintro e e2 ⟨rfl, h⟩
        replace bT := below_trans bT h
        clear h
        go_wp2_with fail
        go_ret
        exact ⟨rfl, bT⟩
      · clear HJ hj hU hV hA hB
        go_wp2_with fail
        refine (implEqualCartans _ _ P Q (by omega) _ hP hQ).mono ?_
        rintro e e1 ⟨rfl, h⟩
        replace hP := hP.keep h
        replace hQ := hQ.keep h
        replace bT := below_trans bT h
        clear h
        go_wp2_with fail
        refine (specEqualCartans _ _ P Q (by omega) _ hP hQ).mono ?_
        rintro e e2 ⟨rfl, h⟩
        replace bT := below_trans bT h
        clear h
        go_wp2_with fail
        go_ret
        exact ⟨rfl, bT⟩

theorem own : ownKnob Tryz.prog.godebug = none := by kernel_rfl
theorem laidOut : laidOutB Tryz.prog = true := by kernel_rfl
set_option maxRecDepth 100000 in
theorem lifted (os : Os) (started : os.Started) (H : Type) (enc : TypeId × Value → H) :
    ReturnsInHanded {} Tryz.checked os 5 .any (fun w args => (Rows.fnCartansSpec.pre enc Tryz.prog Tryz.f5 [] false w args ∧ laidMetH Tryz.prog laidD w) ∧ sizedMet enc Tryz.prog Tryz.f5 (OpenSpec.ofChange Rows.fnCartansSpec) false w args)
      (Rows.fnCartansSpec.post enc Tryz.prog Tryz.f5 false true false false) := by
  refine changeAndShaped (C := Tryz.checked) (X := fun w _ => laidMetH Tryz.prog laidD w) (fun _ _ _ hh h => h.of_heap hh) own started (by kernel_rfl) Tryz.func5
    (ChangeSpec.witness_shaped (enc := enc) (C := Tryz.checked) (os := os) (X := fun w _ => laidMetH Tryz.prog laidD w) false (World.laidAll Tryz.prog os laidD) #[.slice none 0 0] 8 (World.laidAll_os _ _ _) (World.shaped_of_ZipB (by kernel_rfl) (by kernel_rfl)) (by kernel_rfl) (by kernel_rfl) (by kernel_rfl) (by rw [MakeChecks.laidMetH_plain _ _ _ (by kernel_rfl)]; exact laidMet_laidAll _ (by kernel_rfl) (by kernel_rfl))) ?_
  intro W base args ds gs before hval0 hW hL hS
  rw [MakeChecks.laidMetH_plain _ _ _ (by kernel_rfl)] at hL
  have hval : ∀ (j : Nat) t v, Tryz.f5.params[j]? = some t → args[j]? = some v → Value.okWide Tryz.prog W .any base t v := hval0
  have hW' := hW
  obtain ⟨p, q, hA0, hV, rfl, hfz, hnd⟩ := hW
  have hA : DataW.TrodAll enc Tryz.prog W 0 (fun _ => true) true Tryz.f5.params.toList args.toList ds p := hA0
  rw [Tryz.params5] at hA hval
  obtain ⟨v0, vs0, d0, ds0, p0, q0, hargs, rfl, rfl, h0, r0⟩ := trodAll_cons hA
  obtain ⟨rfl, rfl, rfl⟩ := trodAll_nil r0
  obtain rfl : args = #[v0] := by cases args; simp_all
  obtain ⟨rfl, rfl⟩ := trodVars_none hV
  obtain ⟨a0, len0, cap0, rfl⟩ := okWide_slice Tryz.underlying22 (hval 0 22 v0 rfl rfl)
  have k0 := h0
  have lt0 : ∀ x ∈ p0, x.block < W.heap.size := by obtain ⟨m, hm⟩ := k0; exact DataW.trod_lt m _ _ _ hm
  obtain ⟨z0, rfl, w0⟩ : ∃ zs : List Int, len0 = zs.length ∧ ArgB W a0 cap0 zs := by
    obtain ⟨fuel, hf⟩ := h0
    rcases open_ints Tryz.underlying22 Tryz.underlying5 (by kernel_rfl) hf with ⟨hcs, _⟩ | ⟨x, l, c, zs, hcs, _, hl, hm, hz, _, hcell, hwz⟩
    · simp [Value.cells] at hcs
      obtain ⟨rfl, rfl, rfl⟩ := hcs
      exact ⟨[], rfl, argB_nil W⟩
    · simp [Value.cells] at hcs
      obtain ⟨rfl, rfl, rfl⟩ := hcs
      exact ⟨_, argB_some hl hm (by simpa using hz) hcell hwz⟩
  clear hA0 hval0
  refine (walk W a0 cap0 z0 w0 hL hS).mono fun e W' ⟨he, bel⟩ => ?_
  subst he
  exact ⟨_, rfl, _, _, _, [], _, [], hW', trodAll_mk1 (shut_bool Tryz.underlying4 _), (trodAll_cons_mk (Below.trod laidOut (by kernel_rfl) (of_decide_eq_true (by kernel_rfl)) k0 bel lt0) trodAll_mk0), rfl, bel.frame _, fun h => by cases h⟩

theorem over : Rows.fnCartansRow.holds Tryz.pinned (OpenSpec.ofChange Rows.fnCartansSpec) :=
  OpenClaim.holds_of_wide 5 Tryz.f5 rfl rfl rfl rfl rfl rfl rfl ⟨rfl, rfl, rfl, rfl, rfl⟩ rfl rfl rfl rfl rfl (by kernel_rfl) Tryz.func5 (by kernel_rfl)
    (of_decide_eq_true (by kernel_rfl)) (by unfold Func.isWrapper; first | (rw [if_pos (by decide +kernel)]; kernel_rfl) | (rw [if_neg (by decide +kernel)]; exact ⟨rfl, rfl⟩))
    (fun os started H enc _ => lifted os started H enc)

theorem proved : Rows.FnCartansCardSaid :=
  Claim7.holds_tied_plain_at .later [] [.data, .data, .data, .data, .sentinel, .sentinel, .pinned] true (true, "286c404a3442d8073e429c246eecfafdca6e35af4207595feabd738080626f50") true
    over (fun _ h => by cases h) (by kernel_rfl) (fun _ h => by cases h) fnCartans_row_tie rfl ⟨rfl, rfl⟩ (by kernel_rfl) rfl
    (fun f fn hf hfn => by
      obtain rfl : f = 5 := Option.some.inj ((show Tryz.prog.funcNamed "loop.example/g02076/laws.FnCartans" = some 5 by kernel_rfl).symm.trans hf) |>.symm
      obtain rfl : fn = Tryz.f5 := (Option.some.inj (Tryz.func5.symm.trans hfn)).symm
      exact ⟨by kernel_rfl, fun j t ht => by
        rw [Tryz.params5] at ht
        have hm : t ∈ [22] := by simpa using Array.mem_of_getElem? ht
        have hall : ([22].all fun u => !Tryz.prog.wantsStandIn u) = true := by kernel_rfl
        exact (show Tryz.prog.wantsStandIn t = false by simpa using List.all_eq_true.1 hall t hm)⟩)
    (by kernel_rfl)
#print axioms proved
end Go.Proofs.YtaikjkcbgniplaaGreatDoor.lawCar
