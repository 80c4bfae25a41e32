/- The law FnExactNameOf: the program's NameOf returns what the reference's returns, for all arguments. -/
import Derived.Test.YtaikjkcbgniplaaDoorMat
import Derived.Test.YtaikjkcbgniplaaDoorNameOf
import Derived.Test.YtaikjkcbgniplaaDoorShp
import Derived.Test.YtaikjkcbgniplaaDoorTie
import Derived.Test.YtaikjkcbgniplaaDoorCards
import Derived.LaidMore
import Derived.Stop.Joined
import Derived.Stop.LaidErr
import Derived.SevenTiedAt
import Derived.Lib.LaidTab
import Derived.Lay
namespace Go.Proofs.YtaikjkcbgniplaaDoor.lawNameOf
def laidD : List (String × DataW Unit) := [("unicode/utf8.acceptRanges", Rows.laid_unicode_utf8_acceptRanges), ("unicode/utf8.first", Rows.laid_unicode_utf8_first)]
open Go.ChangeShapes Go.WideShapes Go.ChangeAt Go.RowKit
open Go.ChangeMaps (open_string shut_string)
set_option linter.unusedVariables false

theorem facts {W : World} (h : laidMet Tryd.prog laidD W) (hS : W.ShapedOpen Tryd.prog) : MaxIs W := maxIs hS
set_option maxHeartbeats 1000000 in
theorem walk (W : World) (a0 : Option Addr) (c0 : Nat) (z0 : List (List Int)) (w0 : ArgII W a0 c0 z0) (hL : laidMet Tryd.prog laidD W) (hS : W.ShapedOpen Tryd.prog) :
    Calls Tryd.prog 6 #[.slice a0 z0.length c0] W fun e w' => e = .returned (.bool true) ∧ Below W.heap.size W w' := by
  have HT := Lib.hid (facts hL hS)
  clear hL hS
  obtain ⟨m0, m0'⟩ := w0.caps
  unfold maxLen at m0'
  have b0 : Below W.heap.size W W := Below.refl _ _
  by_cases s0 : (0) + total z0 ≤ 1048576
  rotate_left
  · have s0' := Nat.lt_of_not_le s0
    go_enter Tryd.func6, Tryd.ntmps6
    go_wp2_with fail
    refine (szIntSSNo a0 c0 z0 _ (1048576 - (0)) _ (w0) ?_ ?_ (by omega)).mono ?_
    · omega
    · omega
    rintro e w1 ⟨rfl, rfl⟩
    go_wp2_with fail
    go_ret
    exact ⟨rfl, b0⟩
  go_enter Tryd.func6, Tryd.ntmps6
  go_wp2_with fail
  refine (szIntSS a0 c0 z0 _ (1048576 - (0)) _ (w0) ?_ ?_ (by omega)).mono ?_
  · omega
  · omega
  rintro e w1 ⟨rfl, rfl⟩
  go_wp2_with fail
  refine (toIntSS a0 c0 z0 (by omega) _ (w0.keep b0)).mono ?_
  intro e x1 r1
  obtain ⟨v1, rfl, o1, h1⟩ := r1.out
  clear r1
  have b1 := below_trans b0 h1
  have t1 := h1.size
  go_wp2_with fail
  refine (specNameOf _ z0 (by unfold total at s0; omega) _ (o1.read)).mono ?_
  rintro e x2 ⟨rfl, h2⟩
  replace o1 := o1.keep h2
  have b2 := below_trans b1 h2
  have t2 := h2.size
  clear o1
  go_wp2_with fail
  refine (toIntSS a0 c0 z0 (by omega) _ (w0.keep b2)).mono ?_
  intro e x3 r3
  obtain ⟨v3, rfl, o3, h3⟩ := r3.out
  clear r3
  have b3 := below_trans b2 h3
  have t3 := h3.size
  go_wp2_with fail
  refine (implNameOf _ z0 (by unfold total at s0; omega) _ (o3.read) (HT.out.keep b3)).mono ?_
  rintro e x4 ⟨rfl, h4⟩
  replace o3 := o3.keep h4
  have b4 := below_trans b3 h4
  have t4 := h4.size
  go_wp2_with fail
  refine (toIntSS a0 c0 z0 (by omega) _ (w0.keep b4)).mono ?_
  intro e x5 r5
  obtain ⟨v5, rfl, o5, h5⟩ := r5.out
  clear r5
  replace o3 := o3.keep h5
  have b5 := below_trans b4 h5
  have t5 := h5.size
  go_wp2_with fail
  refine (eqIntSS _ _ z0 z0 (by omega) _ o3.read o5.read).mono ?_
  rintro e x6 ⟨rfl, h6⟩
  replace o3 := o3.keep h6
  replace o5 := o5.keep h6
  have b6 := below_trans b5 h6
  have t6 := h6.size
  simp only [eqII_refl]
  clear o5
  go_wp2_with fail
  go_ret
  exact ⟨rfl, b6⟩

theorem own : ownKnob Tryd.prog.godebug = none := by kernel_rfl
theorem laidOut : laidOutB Tryd.prog = true := by kernel_rfl
set_option maxRecDepth 100000 in
theorem lifted (os : Os) (started : os.Started) (H : Type) (enc : TypeId × Value → H) :
    ReturnsInHanded {} Tryd.checked os 6 .any (fun w args => (Rows.fnExactNameOfSpec.pre enc Tryd.prog Tryd.f6 [] false w args ∧ laidMetH Tryd.prog laidD w) ∧ sizedMet enc Tryd.prog Tryd.f6 (OpenSpec.ofChange Rows.fnExactNameOfSpec) false w args)
      (Rows.fnExactNameOfSpec.post enc Tryd.prog Tryd.f6 false true false false) := by
  refine changeAndShaped (C := Tryd.checked) (X := fun w _ => laidMetH Tryd.prog laidD w) (fun _ _ _ hh h => h.of_heap hh) own started (by kernel_rfl) Tryd.func6
    (ChangeSpec.witness_shaped (enc := enc) (C := Tryd.checked) (os := os) (X := fun w _ => laidMetH Tryd.prog laidD w) false (World.laidAll Tryd.prog os laidD) #[.slice none 0 0] 8 (World.laidAll_os _ _ _) (World.shaped_of_ZipB (by kernel_rfl) (by kernel_rfl)) (by kernel_rfl) (by kernel_rfl) (by kernel_rfl) (by rw [MakeChecks.laidMetH_plain _ _ _ (by kernel_rfl)]; exact laidMet_laidAll _ (by kernel_rfl) (by kernel_rfl))) ?_
  intro W base args ds gs before hval0 hW hL hS
  rw [MakeChecks.laidMetH_plain _ _ _ (by kernel_rfl)] at hL
  have hval : ∀ (j : Nat) t v, Tryd.f6.params[j]? = some t → args[j]? = some v → Value.okWide Tryd.prog W .any base t v := hval0
  have hW' := hW
  obtain ⟨p, q, hA0, hV, rfl, hfz, hnd⟩ := hW
  have hA : DataW.TrodAll enc Tryd.prog W 0 (fun _ => true) true Tryd.f6.params.toList args.toList ds p := hA0
  rw [Tryd.params6] at hA hval
  obtain ⟨v0, vs0, d0, ds0, p0, q0, hargs, rfl, rfl, h0, r0⟩ := trodAll_cons hA
  obtain ⟨rfl, rfl, rfl⟩ := trodAll_nil r0
  obtain rfl : args = #[v0] := by cases args; simp_all
  obtain ⟨rfl, rfl⟩ := trodVars_none hV
  obtain ⟨a0, len0, cap0, rfl⟩ := okWide_slice Tryd.underlying22 (hval 0 22 v0 rfl rfl)
  have k0 := h0
  have lt0 : ∀ x ∈ p0, x.block < W.heap.size := by obtain ⟨m, hm⟩ := k0; exact DataW.trod_lt m _ _ _ hm
  obtain ⟨z0, rfl, w0⟩ : ∃ zs : List (List Int), len0 = zs.length ∧ ArgII W a0 cap0 zs := by
    obtain ⟨fuel, hf⟩ := h0
    rcases Go.Deep.open_int_rows Tryd.underlying22 Tryd.underlying31 Tryd.underlying3 (by kernel_rfl) (by kernel_rfl) hf with ⟨hcs, _⟩ | ⟨x, l, c, A, L, C, Z, hcs, _, hl, hm, _, hcell⟩
    · simp [Value.cells] at hcs
      obtain ⟨rfl, rfl, rfl⟩ := hcs
      exact ⟨[], rfl, argII_nil W⟩
    · simp [Value.cells] at hcs
      obtain ⟨rfl, rfl, rfl⟩ := hcs
      exact ⟨_, argII_some hl hm hcell⟩
  clear hA0 hval0
  refine (walk W a0 cap0 z0 w0 hL hS).mono fun e W' ⟨he, bel⟩ => ?_
  subst he
  exact ⟨_, rfl, _, _, _, [], _, [], hW', trodAll_mk1 (shut_bool Tryd.underlying4 _), (trodAll_cons_mk (Below.trod laidOut (by kernel_rfl) (of_decide_eq_true (by kernel_rfl)) k0 bel lt0) trodAll_mk0), rfl, bel.frame _, fun h => by cases h⟩

theorem over : Rows.fnExactNameOfRow.holds Tryd.pinned (OpenSpec.ofChange Rows.fnExactNameOfSpec) :=
  OpenClaim.holds_of_wide 6 Tryd.f6 rfl rfl rfl rfl rfl rfl rfl ⟨rfl, rfl, rfl, rfl, rfl⟩ rfl rfl rfl rfl rfl (by kernel_rfl) Tryd.func6 (by kernel_rfl)
    (of_decide_eq_true (by kernel_rfl)) (by unfold Func.isWrapper; first | (rw [if_pos (by decide +kernel)]; kernel_rfl) | (rw [if_neg (by decide +kernel)]; exact ⟨rfl, rfl⟩))
    (fun os started H enc _ => lifted os started H enc)

theorem proved : Rows.FnExactNameOfCardSaid :=
  Claim7.holds_tied_plain_at .later [] [.data, .pinned] true (true, "c4b5a3f6e429bfbaa743d187ac8b3ae4bbf10607d93e040873e619fa00fa463c") true
    over (fun _ h => by cases h) (by kernel_rfl) (fun _ h => by cases h) fnExactNameOf_row_tie rfl ⟨rfl, rfl⟩ (by kernel_rfl) rfl
    (fun f fn hf hfn => by
      obtain rfl : f = 6 := Option.some.inj ((show Tryd.prog.funcNamed "loop.example/g02076/laws.FnExactNameOf" = some 6 by kernel_rfl).symm.trans hf) |>.symm
      obtain rfl : fn = Tryd.f6 := (Option.some.inj (Tryd.func6.symm.trans hfn)).symm
      exact ⟨by kernel_rfl, fun j t ht => by
        rw [Tryd.params6] at ht
        have hm : t ∈ [22] := by simpa using Array.mem_of_getElem? ht
        have hall : ([22].all fun u => !Tryd.prog.wantsStandIn u) = true := by kernel_rfl
        exact (show Tryd.prog.wantsStandIn t = false by simpa using List.all_eq_true.1 hall t hm)⟩)
    (by kernel_rfl)
#print axioms proved
end Go.Proofs.YtaikjkcbgniplaaDoor.lawNameOf
