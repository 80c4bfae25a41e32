/- The law FnExactParseWeight: the program's ParseWeight returns what the reference's returns, for all arguments. -/
import Derived.Test.YtaikjkcbgniplaaDoorMat
import Derived.Test.YtaikjkcbgniplaaDoorPWt
import Derived.Test.YtaikjkcbgniplaaDoorShp
import Derived.Test.YtaikjkcbgniplaaDoorTie
import Derived.Test.YtaikjkcbgniplaaDoorCards
import Derived.LaidMore
import Derived.Stop.Joined
import Derived.Stop.LaidErr
import Derived.SevenTiedAt
import Derived.Lib.LaidTab
import Derived.Lay
namespace Go.Proofs.YtaikjkcbgniplaaDoor.lawParseWeight
def laidD : List (String × DataW Unit) := [("math/bits.deBruijn32tab", Rows.laid_math_bits_deBruijn32tab), ("math/bits.deBruijn64tab", Rows.laid_math_bits_deBruijn64tab), ("internal/strconv.uint64pow10", Rows.laid_internal_strconv_uint64pow10), ("unicode/utf8.acceptRanges", Rows.laid_unicode_utf8_acceptRanges), ("strconv.ErrRange", Rows.laid_strconv_ErrRange), ("strconv.ErrSyntax", Rows.laid_strconv_ErrSyntax), ("unicode/utf8.first", Rows.laid_unicode_utf8_first)]
open Go.ChangeShapes Go.WideShapes Go.ChangeAt Go.RowKit
open Go.ChangeMaps (open_string shut_string)
set_option linter.unusedVariables false

theorem gPow : Tryd.prog.globalNamed "internal/strconv.uint64pow10" = some 5 := by kernel_rfl
theorem factP {W : World} (h : laidMet Tryd.prog laidD W) : Lib.TabIs Tryd.prog W "internal/strconv.uint64pow10" .u64 Lib.pow10Tab :=
  Lib.tabIs_of_head (n := 20) (e := 97) (t := 140) gPow (by kernel_rfl) Tryd.underlying140 Tryd.underlying97 (by kernel_rfl) (by kernel_rfl) h.tail.tail
theorem gErr : Tryd.prog.globalNamed "strconv.ErrSyntax" = some 3 := by kernel_rfl
theorem gErrT : (Tryd.prog.globals[3]?).map (·.type) = some 69 := by kernel_rfl
theorem star : "*" ++ "errors.errorString" = "*errors.errorString" := by decide
theorem rowE (u : TypeId) (h : Tryd.prog.typeName? 3 u = some "*errors.errorString") : u = 136 :=
  typeName_ptr_named (nm := "errors.errorString") (by rw [star]; kernel_rfl) (by kernel_rfl) (by decide) u (by rw [star]; exact h)
theorem cellsE : Tryd.prog.cellsOf 138 = 1 := by kernel_rfl
theorem cellsS : Tryd.prog.cellsOf 9 = 1 := by kernel_rfl
theorem factE {W : World} (h : laidMet Tryd.prog laidD W) : ∃ tp p, W.var? Tryd.prog "strconv.ErrSyntax" = some #[.iface tp p] := by
  obtain ⟨a1, s1, hv1, _⟩ := laid_sentinel h.tail.tail.tail.tail.tail gErr gErrT Tryd.underlying69 rowE Tryd.underlying136 Tryd.underlying138 rfl rfl Tryd.underlying9 cellsE cellsS
  exact ⟨_, _, hv1⟩
theorem facts {W : World} (h : laidMet Tryd.prog laidD W) (hS : W.ShapedOpen Tryd.prog) : LaidAll W := ⟨factP h, factE h, maxIs hS⟩
set_option maxHeartbeats 1000000 in
theorem walk (W : World) (a0 : Option Addr) (c0 : Nat) (z0 : List (List Int)) (w0 : ArgII W a0 c0 z0) (z1 : ByteArray) (w1 : z1.size ≤ maxLen) (hL : laidMet Tryd.prog laidD W) (hS : W.ShapedOpen Tryd.prog) :
    Calls Tryd.prog 5 #[.slice a0 z0.length c0, .string z1] W fun e w' => e = .returned (.bool true) ∧ Below W.heap.size W w' := by
  have HT := Lib.hid (facts hL hS)
  clear hL hS
  obtain ⟨m0, m0'⟩ := w0.caps
  unfold maxLen at m0'
  unfold maxLen at w1
  have b0 : Below W.heap.size W W := Below.refl _ _
  by_cases s1 : z1.size ≤ 1048576
  rotate_left
  · go_enter Tryd.func5, Tryd.ntmps5
    go_wp2_with fail
    go_ret
    exact ⟨rfl, b0⟩
  by_cases s0 : (0) + total z0 ≤ 1048576
  rotate_left
  · have s0' := Nat.lt_of_not_le s0
    go_enter Tryd.func5, Tryd.ntmps5
    go_wp2_with fail
    refine (szIntSSNo a0 c0 z0 _ (1048576 - (0)) _ (w0) ?_ ?_ (by omega)).mono ?_
    · omega
    · omega
    rintro e w1 ⟨rfl, rfl⟩
    go_wp2_with fail
    go_ret
    exact ⟨rfl, b0⟩
  have q0 : ints z0 ≤ 1048576 := by unfold total at s0; omega
  go_enter Tryd.func5, Tryd.ntmps5
  go_wp2_with fail
  refine (szIntSS a0 c0 z0 _ (1048576 - (0)) _ (w0) ?_ ?_ (by omega)).mono ?_
  · omega
  · omega
  rintro e w1 ⟨rfl, rfl⟩
  have RB : (pwL z0 z1).length ≤ 1099511000000 := by have := pw_len z0 z1; omega
  obtain ⟨R, hR⟩ : ∃ R, R = pwL z0 z1 := ⟨_, rfl⟩
  have HR := Lib.hid hR
  rw [← hR] at RB
  clear hR
  obtain ⟨B, hB⟩ : ∃ B, B = pwOk z0 z1 := ⟨_, rfl⟩
  have HB := Lib.hid hB
  clear hB
  go_wp2_with fail
  refine (toIntSS a0 c0 z0 (by omega) _ (w0.keep b0)).mono ?_
  intro e x1 r1
  obtain ⟨v1, rfl, o1, h1⟩ := r1.out
  clear r1
  have b1 := below_trans b0 h1
  have t1 := h1.size
  go_wp2_with fail
  refine (specParseWeight _ z0 z1 (by unfold total at s0; omega) (by omega) _ (o1.read)).mono ?_
  intro e x2 r2
  rw [← HB.out] at r2
  obtain ⟨v2, rfl, o2, h2⟩ := r2.out
  clear r2
  replace o1 := o1.keep h2
  have b2 := below_trans b1 h2
  have t2 := h2.size
  rw [← HR.out] at o2
  clear o1
  go_wp2_with fail
  refine (toIntSS a0 c0 z0 (by omega) _ (w0.keep b2)).mono ?_
  intro e x3 r3
  obtain ⟨v3, rfl, o3, h3⟩ := r3.out
  clear r3
  replace o2 := o2.keep h3
  have b3 := below_trans b2 h3
  have t3 := h3.size
  go_wp2_with fail
  refine (implParseWeight _ z0 z1 (by unfold total at s0; omega) (by omega) _ (o3.read) (HT.out.keep b3)).mono ?_
  intro e x4 r4
  rw [← HB.out] at r4
  obtain ⟨v4, rfl, o4, h4⟩ := r4.out
  clear r4
  replace o2 := o2.keep h4
  replace o3 := o3.keep h4
  have b4 := below_trans b3 h4
  have t4 := h4.size
  rw [← HR.out] at o4
  go_wp2_with fail
  refine (eqIntS _ _ R R (by omega) _ o4.read o2.read).mono ?_
  rintro e x5 ⟨rfl, h5⟩
  replace o2 := o2.keep h5
  replace o3 := o3.keep h5
  replace o4 := o4.keep h5
  have b5 := below_trans b4 h5
  have t5 := h5.size
  simp only [eqI_refl]
  go_wp2_with fail
  refine (toIntSS a0 c0 z0 (by omega) _ (w0.keep b5)).mono ?_
  intro e x6 r6
  obtain ⟨v6, rfl, o6, h6⟩ := r6.out
  clear r6
  replace o2 := o2.keep h6
  replace o3 := o3.keep h6
  replace o4 := o4.keep h6
  have b6 := below_trans b5 h6
  have t6 := h6.size
  go_wp2_with fail
  refine (eqIntSS _ _ z0 z0 (by omega) _ o3.read o6.read).mono ?_
  rintro e x7 ⟨rfl, h7⟩
  replace o2 := o2.keep h7
  replace o3 := o3.keep h7
  replace o4 := o4.keep h7
  replace o6 := o6.keep h7
  have b7 := below_trans b6 h7
  have t7 := h7.size
  simp only [eqII_refl]
  clear o6
  go_wp2_with fail
  refine (markII _ _ _ _ _ (1) _ o3 ?_ ?_).mono ?_
  · omega
  · omega
  rintro e x8 ⟨rfl, o3', c8, t8⟩
  replace o3 := o3'
  clear o3'
  replace o2 := o2.chg c8 (by omega)
  replace o4 := o4.chg c8 (by omega)
  have b8 := below_chg2 b7 c8 (by have := b2.size; omega)
  clear o3
  go_wp2_with fail
  refine (eqIntS _ _ R R (by omega) _ o4.read o2.read).mono ?_
  rintro e x9 ⟨rfl, h9⟩
  replace o2 := o2.keep h9
  replace o4 := o4.keep h9
  have b9 := below_trans b8 h9
  have t9 := h9.size
  simp only [eqI_refl]
  go_wp2_with fail
  refine (markI _ _ _ _ _ (1) _ o4 ?_ ?_).mono ?_
  · omega
  · omega
  rintro e x10 ⟨rfl, o4', c10, t10⟩
  replace o4 := o4'
  clear o4'
  replace o2 := o2.chg c10 (by omega)
  have b10 := below_chg2 b9 c10 (by have := b3.size; omega)
  go_wp2_with fail
  refine (heldI _ _ 1 R.length _ o4.read ?_ ?_).mono ?_
  · omega
  · omega
  rintro e x11 ⟨rfl, h11⟩
  replace o2 := o2.keep h11
  replace o4 := o4.keep h11
  have b11 := below_trans b10 h11
  have t11 := h11.size
  go_wp2_with fail
  refine (toIntSS a0 c0 z0 (by omega) _ (w0.keep b11)).mono ?_
  intro e x12 r12
  obtain ⟨v12, rfl, o12, h12⟩ := r12.out
  clear r12
  replace o2 := o2.keep h12
  replace o4 := o4.keep h12
  have b12 := below_trans b11 h12
  have t12 := h12.size
  go_wp2_with fail
  refine (implParseWeight _ z0 z1 (by unfold total at s0; omega) (by omega) _ (o12.read) (HT.out.keep b12)).mono ?_
  intro e x13 r13
  rw [← HB.out] at r13
  obtain ⟨v13, rfl, o13, h13⟩ := r13.out
  clear r13
  replace o2 := o2.keep h13
  replace o4 := o4.keep h13
  replace o12 := o12.keep h13
  have b13 := below_trans b12 h13
  have t13 := h13.size
  rw [← HR.out] at o13
  clear o12
  go_wp2_with fail
  refine (eqIntS _ _ R R (by omega) _ o13.read o2.read).mono ?_
  rintro e x14 ⟨rfl, h14⟩
  replace o2 := o2.keep h14
  replace o4 := o4.keep h14
  replace o13 := o13.keep h14
  have b14 := below_trans b13 h14
  have t14 := h14.size
  simp only [eqI_refl]
  go_wp2_with fail
  refine (heldI _ _ 1 R.length _ o4.read ?_ ?_).mono ?_
  · omega
  · omega
  rintro e x15 ⟨rfl, h15⟩
  replace o2 := o2.keep h15
  replace o4 := o4.keep h15
  replace o13 := o13.keep h15
  have b15 := below_trans b14 h15
  have t15 := h15.size
  go_wp2_with fail
  go_ret
  exact ⟨rfl, b15⟩

theorem own : ownKnob Tryd.prog.godebug = none := by kernel_rfl
theorem laidOut : laidOutB Tryd.prog = true := by kernel_rfl
set_option maxRecDepth 100000 in
theorem lifted (os : Os) (started : os.Started) (H : Type) (enc : TypeId × Value → H) :
    ReturnsInHanded {} Tryd.checked os 5 .any (fun w args => (Rows.fnExactParseWeightSpec.pre enc Tryd.prog Tryd.f5 [] false w args ∧ laidMetH Tryd.prog laidD w) ∧ sizedMet enc Tryd.prog Tryd.f5 (OpenSpec.ofChange Rows.fnExactParseWeightSpec) false w args)
      (Rows.fnExactParseWeightSpec.post enc Tryd.prog Tryd.f5 false true false false) := by
  refine changeAndShaped (C := Tryd.checked) (X := fun w _ => laidMetH Tryd.prog laidD w) (fun _ _ _ hh h => h.of_heap hh) own started (by kernel_rfl) Tryd.func5
    (ChangeSpec.witness_shaped (enc := enc) (C := Tryd.checked) (os := os) (X := fun w _ => laidMetH Tryd.prog laidD w) false (World.laidAll Tryd.prog os laidD) #[.slice none 0 0, .string ByteArray.empty] 8 (World.laidAll_os _ _ _) (World.shaped_of_ZipB (by kernel_rfl) (by kernel_rfl)) (by kernel_rfl) (by kernel_rfl) (by kernel_rfl) (by rw [MakeChecks.laidMetH_plain _ _ _ (by kernel_rfl)]; exact laidMet_laidAll _ (by kernel_rfl) (by kernel_rfl))) ?_
  intro W base args ds gs before hval0 hW hL hS
  rw [MakeChecks.laidMetH_plain _ _ _ (by kernel_rfl)] at hL
  have hval : ∀ (j : Nat) t v, Tryd.f5.params[j]? = some t → args[j]? = some v → Value.okWide Tryd.prog W .any base t v := hval0
  have hW' := hW
  obtain ⟨p, q, hA0, hV, rfl, hfz, hnd⟩ := hW
  have hA : DataW.TrodAll enc Tryd.prog W 0 (fun _ => true) true Tryd.f5.params.toList args.toList ds p := hA0
  rw [Tryd.params5] at hA hval
  obtain ⟨v0, vs0, d0, ds0, p0, q0, hargs, rfl, rfl, h0, r0⟩ := trodAll_cons hA
  obtain ⟨v1, vs1, d1, ds1, p1, q1, rfl, rfl, rfl, h1, r1⟩ := trodAll_cons r0
  obtain ⟨rfl, rfl, rfl⟩ := trodAll_nil r1
  obtain rfl : args = #[v0, v1] := by cases args; simp_all
  obtain ⟨rfl, rfl⟩ := trodVars_none hV
  obtain ⟨a0, len0, cap0, rfl⟩ := okWide_slice Tryd.underlying22 (hval 0 22 v0 rfl rfl)
  have k0 := h0
  have lt0 : ∀ x ∈ p0, x.block < W.heap.size := by obtain ⟨m, hm⟩ := k0; exact DataW.trod_lt m _ _ _ hm
  obtain ⟨z0, rfl, w0⟩ : ∃ zs : List (List Int), len0 = zs.length ∧ ArgII W a0 cap0 zs := by
    obtain ⟨fuel, hf⟩ := h0
    rcases Go.Deep.open_int_rows Tryd.underlying22 Tryd.underlying31 Tryd.underlying3 (by kernel_rfl) (by kernel_rfl) hf with ⟨hcs, _⟩ | ⟨x, l, c, A, L, C, Z, hcs, _, hl, hm, _, hcell⟩
    · simp [Value.cells] at hcs
      obtain ⟨rfl, rfl, rfl⟩ := hcs
      exact ⟨[], rfl, argII_nil W⟩
    · simp [Value.cells] at hcs
      obtain ⟨rfl, rfl, rfl⟩ := hcs
      exact ⟨_, argII_some hl hm hcell⟩
  obtain ⟨a1, rfl, rfl, rfl, w1⟩ := open_string Tryd.underlying9 (hval 1 9 v1 rfl rfl) h1
  clear hA0 hval0
  refine (walk W a0 cap0 z0 w0 a1 w1 hL hS).mono fun e W' ⟨he, bel⟩ => ?_
  subst he
  exact ⟨_, rfl, _, _, _, [], _, [], hW', trodAll_mk1 (shut_bool Tryd.underlying4 _), (trodAll_cons_mk (Below.trod laidOut (by kernel_rfl) (of_decide_eq_true (by kernel_rfl)) k0 bel lt0) (trodAll_cons_mk (shut_string Tryd.underlying9 w1) trodAll_mk0)), rfl, bel.frame _, fun h => by cases h⟩

theorem over : Rows.fnExactParseWeightRow.holds Tryd.pinned (OpenSpec.ofChange Rows.fnExactParseWeightSpec) :=
  OpenClaim.holds_of_wide 5 Tryd.f5 rfl rfl rfl rfl rfl rfl rfl ⟨rfl, rfl, rfl, rfl, rfl⟩ rfl rfl rfl rfl rfl (by kernel_rfl) Tryd.func5 (by kernel_rfl)
    (of_decide_eq_true (by kernel_rfl)) (by unfold Func.isWrapper; first | (rw [if_pos (by decide +kernel)]; kernel_rfl) | (rw [if_neg (by decide +kernel)]; exact ⟨rfl, rfl⟩))
    (fun os started H enc _ => lifted os started H enc)

theorem proved : Rows.FnExactParseWeightCardSaid :=
  Claim7.holds_tied_plain_at .later [] [.data, .data, .data, .data, .sentinel, .sentinel, .pinned] true (true, "c4b5a3f6e429bfbaa743d187ac8b3ae4bbf10607d93e040873e619fa00fa463c") true
    over (fun _ h => by cases h) (by kernel_rfl) (fun _ h => by cases h) fnExactParseWeight_row_tie rfl ⟨rfl, rfl⟩ (by kernel_rfl) rfl
    (fun f fn hf hfn => by
      obtain rfl : f = 5 := Option.some.inj ((show Tryd.prog.funcNamed "loop.example/g02076/laws.FnExactParseWeight" = some 5 by kernel_rfl).symm.trans hf) |>.symm
      obtain rfl : fn = Tryd.f5 := (Option.some.inj (Tryd.func5.symm.trans hfn)).symm
      exact ⟨by kernel_rfl, fun j t ht => by
        rw [Tryd.params5] at ht
        have hm : t ∈ [22, 9] := by simpa using Array.mem_of_getElem? ht
        have hall : ([22, 9].all fun u => !Tryd.prog.wantsStandIn u) = true := by kernel_rfl
        exact (show Tryd.prog.wantsStandIn t = false by simpa using List.all_eq_true.1 hall t hm)⟩)
    (by kernel_rfl)
#print axioms proved
end Go.Proofs.YtaikjkcbgniplaaDoor.lawParseWeight
