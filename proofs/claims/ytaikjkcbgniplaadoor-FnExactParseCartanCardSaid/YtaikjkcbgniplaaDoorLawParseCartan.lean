/- The law FnExactParseCartan: the program's ParseCartan returns what the reference's returns, for all arguments. -/
import Derived.Test.YtaikjkcbgniplaaDoorPCar
import Derived.Test.YtaikjkcbgniplaaDoorShp
import Derived.Test.YtaikjkcbgniplaaDoorTie
import Derived.Test.YtaikjkcbgniplaaDoorCards
import Derived.LaidMore
import Derived.Stop.Joined
import Derived.Stop.LaidErr
import Derived.SevenTiedAt
import Derived.Lib.LaidTab
import Derived.Lay
namespace Go.Proofs.YtaikjkcbgniplaaDoor.lawParseCartan
def laidD : List (String × DataW Unit) := [("math/bits.deBruijn32tab", Rows.laid_math_bits_deBruijn32tab), ("math/bits.deBruijn64tab", Rows.laid_math_bits_deBruijn64tab), ("internal/strconv.uint64pow10", Rows.laid_internal_strconv_uint64pow10), ("unicode/utf8.acceptRanges", Rows.laid_unicode_utf8_acceptRanges), ("strconv.ErrRange", Rows.laid_strconv_ErrRange), ("strconv.ErrSyntax", Rows.laid_strconv_ErrSyntax), ("unicode/utf8.first", Rows.laid_unicode_utf8_first)]
open Go.ChangeShapes Go.WideShapes Go.ChangeAt Go.RowKit
open Go.ChangeMaps (open_string shut_string)
set_option linter.unusedVariables false

theorem gPow : Tryd.prog.globalNamed "internal/strconv.uint64pow10" = some 5 := by kernel_rfl
theorem factP {W : World} (h : laidMet Tryd.prog laidD W) : Lib.TabIs Tryd.prog W "internal/strconv.uint64pow10" .u64 Lib.pow10Tab :=
  Lib.tabIs_of_head (n := 20) (e := 97) (t := 140) gPow (by kernel_rfl) Tryd.underlying140 Tryd.underlying97 (by kernel_rfl) (by kernel_rfl) h.tail.tail
theorem gErr : Tryd.prog.globalNamed "strconv.ErrSyntax" = some 3 := by kernel_rfl
theorem gErrT : (Tryd.prog.globals[3]?).map (·.type) = some 69 := by kernel_rfl
theorem star : "*" ++ "errors.errorString" = "*errors.errorString" := by decide
theorem rowE (u : TypeId) (h : Tryd.prog.typeName? 3 u = some "*errors.errorString") : u = 136 :=
  typeName_ptr_named (nm := "errors.errorString") (by rw [star]; kernel_rfl) (by kernel_rfl) (by decide) u (by rw [star]; exact h)
theorem cellsE : Tryd.prog.cellsOf 138 = 1 := by kernel_rfl
theorem cellsS : Tryd.prog.cellsOf 9 = 1 := by kernel_rfl
theorem factE {W : World} (h : laidMet Tryd.prog laidD W) : ∃ tp p, W.var? Tryd.prog "strconv.ErrSyntax" = some #[.iface tp p] := by
  obtain ⟨a1, s1, hv1, _⟩ := laid_sentinel h.tail.tail.tail.tail.tail gErr gErrT Tryd.underlying69 rowE Tryd.underlying136 Tryd.underlying138 rfl rfl Tryd.underlying9 cellsE cellsS
  exact ⟨_, _, hv1⟩
theorem facts {W : World} (h : laidMet Tryd.prog laidD W) (hS : W.ShapedOpen Tryd.prog) : LaidAll W := ⟨factP h, factE h, maxIs hS⟩
set_option maxHeartbeats 1000000 in
theorem walk (W : World) (z0 : ByteArray) (w0 : z0.size ≤ maxLen) (hL : laidMet Tryd.prog laidD W) (hS : W.ShapedOpen Tryd.prog) :
    Calls Tryd.prog 3 #[.string z0] W fun e w' => e = .returned (.bool true) ∧ Below W.heap.size W w' := by
  have HT := Lib.hid (facts hL hS)
  clear hL hS
  unfold maxLen at w0
  have b0 : Below W.heap.size W W := Below.refl _ _
  by_cases s0 : z0.size ≤ 1048576
  rotate_left
  · go_enter Tryd.func3, Tryd.ntmps3
    go_wp2_with fail
    go_ret
    exact ⟨rfl, b0⟩
  go_enter Tryd.func3, Tryd.ntmps3
  have RB : total (pcL z0.data.toList) ≤ 1099511000000 := by have := pcL_total z0.data.toList; omega
  obtain ⟨R, hR⟩ : ∃ R, R = pcL z0.data.toList := ⟨_, rfl⟩
  have HR := Lib.hid hR
  rw [← hR] at RB
  clear hR
  have RI : ints R ≤ 1099511000000 := by unfold total at RB; omega
  obtain ⟨B, hB⟩ : ∃ B, B = pcOk z0.data.toList := ⟨_, rfl⟩
  have HB := Lib.hid hB
  clear hB
  go_wp2_with fail
  refine (specParseCartan z0 (by omega) _).mono ?_
  intro e x1 r1
  rw [← HB.out] at r1
  obtain ⟨v1, rfl, o1, h1⟩ := r1.out
  clear r1
  have b1 := below_trans b0 h1
  have t1 := h1.size
  rw [← HR.out] at o1
  go_wp2_with fail
  refine (implParseCartan z0 (by omega) _ (HT.out.keep b1)).mono ?_
  intro e x2 r2
  rw [← HB.out] at r2
  obtain ⟨v2, rfl, o2, h2⟩ := r2.out
  clear r2
  replace o1 := o1.keep h2
  have b2 := below_trans b1 h2
  have t2 := h2.size
  rw [← HR.out] at o2
  go_wp2_with fail
  refine (eqIntSS _ _ R R (by omega) _ o2.read o1.read).mono ?_
  rintro e x3 ⟨rfl, h3⟩
  replace o1 := o1.keep h3
  replace o2 := o2.keep h3
  have b3 := below_trans b2 h3
  have t3 := h3.size
  simp only [eqII_refl]
  go_wp2_with fail
  refine (markII _ _ _ _ _ (1) _ o2 ?_ ?_).mono ?_
  · omega
  · omega
  rintro e x4 ⟨rfl, o2', c4, t4⟩
  replace o2 := o2'
  clear o2'
  replace o1 := o1.chg c4 (by omega)
  have b4 := below_chg2 b3 c4 (by have := b1.size; omega)
  go_wp2_with fail
  refine (heldII _ _ 1 R _ o2.read ?_ ?_).mono ?_
  · omega
  · omega
  rintro e x5 ⟨rfl, h5⟩
  replace o1 := o1.keep h5
  replace o2 := o2.keep h5
  have b5 := below_trans b4 h5
  have t5 := h5.size
  go_wp2_with fail
  refine (implParseCartan z0 (by omega) _ (HT.out.keep b5)).mono ?_
  intro e x6 r6
  rw [← HB.out] at r6
  obtain ⟨v6, rfl, o6, h6⟩ := r6.out
  clear r6
  replace o1 := o1.keep h6
  replace o2 := o2.keep h6
  have b6 := below_trans b5 h6
  have t6 := h6.size
  rw [← HR.out] at o6
  go_wp2_with fail
  refine (eqIntSS _ _ R R (by omega) _ o6.read o1.read).mono ?_
  rintro e x7 ⟨rfl, h7⟩
  replace o1 := o1.keep h7
  replace o2 := o2.keep h7
  replace o6 := o6.keep h7
  have b7 := below_trans b6 h7
  have t7 := h7.size
  simp only [eqII_refl]
  go_wp2_with fail
  refine (heldII _ _ 1 R _ o2.read ?_ ?_).mono ?_
  · omega
  · omega
  rintro e x8 ⟨rfl, h8⟩
  replace o1 := o1.keep h8
  replace o2 := o2.keep h8
  replace o6 := o6.keep h8
  have b8 := below_trans b7 h8
  have t8 := h8.size
  go_wp2_with fail
  go_ret
  exact ⟨rfl, b8⟩

theorem own : ownKnob Tryd.prog.godebug = none := by kernel_rfl
set_option maxRecDepth 100000 in
theorem lifted (os : Os) (started : os.Started) (H : Type) (enc : TypeId × Value → H) :
    ReturnsInHanded {} Tryd.checked os 3 .any (fun w args => (Rows.fnExactParseCartanSpec.pre enc Tryd.prog Tryd.f3 [] false w args ∧ laidMetH Tryd.prog laidD w) ∧ sizedMet enc Tryd.prog Tryd.f3 (OpenSpec.ofChange Rows.fnExactParseCartanSpec) false w args)
      (Rows.fnExactParseCartanSpec.post enc Tryd.prog Tryd.f3 false true false false) := by
  refine changeAndShaped (C := Tryd.checked) (X := fun w _ => laidMetH Tryd.prog laidD w) (fun _ _ _ hh h => h.of_heap hh) own started (by kernel_rfl) Tryd.func3
    (ChangeSpec.witness_shaped (enc := enc) (C := Tryd.checked) (os := os) (X := fun w _ => laidMetH Tryd.prog laidD w) false (World.laidAll Tryd.prog os laidD) #[.string ByteArray.empty] 8 (World.laidAll_os _ _ _) (World.shaped_of_ZipB (by kernel_rfl) (by kernel_rfl)) (by kernel_rfl) (by kernel_rfl) (by kernel_rfl) (by rw [MakeChecks.laidMetH_plain _ _ _ (by kernel_rfl)]; exact laidMet_laidAll _ (by kernel_rfl) (by kernel_rfl))) ?_
  intro W base args ds gs before hval0 hW hL hS
  rw [MakeChecks.laidMetH_plain _ _ _ (by kernel_rfl)] at hL
  have hval : ∀ (j : Nat) t v, Tryd.f3.params[j]? = some t → args[j]? = some v → Value.okWide Tryd.prog W .any base t v := hval0
  have hW' := hW
  obtain ⟨p, q, hA0, hV, rfl, hfz, hnd⟩ := hW
  have hA : DataW.TrodAll enc Tryd.prog W 0 (fun _ => true) true Tryd.f3.params.toList args.toList ds p := hA0
  rw [Tryd.params3] at hA hval
  obtain ⟨v0, vs0, d0, ds0, p0, q0, hargs, rfl, rfl, h0, r0⟩ := trodAll_cons hA
  obtain ⟨rfl, rfl, rfl⟩ := trodAll_nil r0
  obtain rfl : args = #[v0] := by cases args; simp_all
  obtain ⟨rfl, rfl⟩ := trodVars_none hV
  obtain ⟨a0, rfl, rfl, rfl, w0⟩ := open_string Tryd.underlying9 (hval 0 9 v0 rfl rfl) h0
  clear hA0 hval0
  refine (walk W a0 w0 hL hS).mono fun e W' ⟨he, bel⟩ => ?_
  subst he
  exact ⟨_, rfl, _, _, _, [], _, [], hW', trodAll_mk1 (shut_bool Tryd.underlying4 _), (trodAll_cons_mk (shut_string Tryd.underlying9 w0) trodAll_mk0), rfl, bel.frame _, fun h => by cases h⟩

theorem over : Rows.fnExactParseCartanRow.holds Tryd.pinned (OpenSpec.ofChange Rows.fnExactParseCartanSpec) :=
  OpenClaim.holds_of_wide 3 Tryd.f3 rfl rfl rfl rfl rfl rfl rfl ⟨rfl, rfl, rfl, rfl, rfl⟩ rfl rfl rfl rfl rfl (by kernel_rfl) Tryd.func3 (by kernel_rfl)
    (of_decide_eq_true (by kernel_rfl)) (by unfold Func.isWrapper; first | (rw [if_pos (by decide +kernel)]; kernel_rfl) | (rw [if_neg (by decide +kernel)]; exact ⟨rfl, rfl⟩))
    (fun os started H enc _ => lifted os started H enc)

theorem proved : Rows.FnExactParseCartanCardSaid :=
  Claim7.holds_tied_plain_at .later [] [.data, .data, .data, .data, .sentinel, .sentinel, .pinned] true (true, "c4b5a3f6e429bfbaa743d187ac8b3ae4bbf10607d93e040873e619fa00fa463c") true
    over (fun _ h => by cases h) (by kernel_rfl) (fun _ h => by cases h) fnExactParseCartan_row_tie rfl ⟨rfl, rfl⟩ (by kernel_rfl) rfl
    (fun f fn hf hfn => by
      obtain rfl : f = 3 := Option.some.inj ((show Tryd.prog.funcNamed "loop.example/g02076/laws.FnExactParseCartan" = some 3 by kernel_rfl).symm.trans hf) |>.symm
      obtain rfl : fn = Tryd.f3 := (Option.some.inj (Tryd.func3.symm.trans hfn)).symm
      exact ⟨by kernel_rfl, fun j t ht => by
        rw [Tryd.params3] at ht
        have hm : t ∈ [9] := by simpa using Array.mem_of_getElem? ht
        have hall : ([9].all fun u => !Tryd.prog.wantsStandIn u) = true := by kernel_rfl
        exact (show Tryd.prog.wantsStandIn t = false by simpa using List.all_eq_true.1 hall t hm)⟩)
    (by kernel_rfl)
#print axioms proved
end Go.Proofs.YtaikjkcbgniplaaDoor.lawParseCartan
