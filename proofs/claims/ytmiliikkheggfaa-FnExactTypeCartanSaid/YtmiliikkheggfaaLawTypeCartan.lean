/- The law FnExactTypeCartan: the program's TypeCartan returns what the reference's returns, for all arguments. -/
import Derived.Test.YtmiliikkheggfaaMat
import Derived.Test.YtmiliikkheggfaaType
namespace Go.Proofs.Ytmiliikkheggfaa.lawTypeCartan
open Go.ChangeShapes Go.WideShapes Go.ChangeAt Go.RowKit
open Go.ChangeMaps (open_string shut_string)
set_option linter.unusedVariables false

set_option maxHeartbeats 1000000 in
theorem walk (W : World) (z0 : ByteArray) (w0 : z0.size ≤ maxLen) :
    Calls Try.prog 5 #[.string z0] W fun e w' => e = .returned (.bool true) ∧ Below W.heap.size W w' := by
  unfold maxLen at w0
  have b0 : Below W.heap.size W W := Below.refl _ _
  by_cases s0 : z0.size ≤ 1048576
  rotate_left
  · go_enter Try.func5, Try.ntmps5
    go_wp2_with fail
    go_ret
    exact ⟨rfl, b0⟩
  go_enter Try.func5, Try.ntmps5
  have RB : total (typL z0) ≤ 1099511000000 := by have := typ_total z0; omega
  obtain ⟨R, hR⟩ : ∃ R, R = typL z0 := ⟨_, rfl⟩
  have HR := Lib.hid hR
  rw [← hR] at RB
  clear hR
  have RI : ints R ≤ 1099511000000 := by unfold total at RB; omega
  obtain ⟨B, hB⟩ : ∃ B, B = typOk z0 := ⟨_, rfl⟩
  have HB := Lib.hid hB
  clear hB
  go_wp2_with fail
  refine (specTypeCartan z0 _).mono ?_
  intro e x1 r1
  rw [← HB.out] at r1
  obtain ⟨v1, rfl, o1, h1⟩ := r1.out
  clear r1
  have b1 := below_trans b0 h1
  have t1 := h1.size
  rw [← HR.out] at o1
  go_wp2_with fail
  refine (implTypeCartan z0 _).mono ?_
  intro e x2 r2
  rw [← HB.out] at r2
  obtain ⟨v2, rfl, o2, h2⟩ := r2.out
  clear r2
  replace o1 := o1.keep h2
  have b2 := below_trans b1 h2
  have t2 := h2.size
  rw [← HR.out] at o2
  go_wp2_with fail
  refine (eqIntSS _ _ R R (by omega) _ o2.read o1.read).mono ?_
  rintro e x3 ⟨rfl, h3⟩
  replace o1 := o1.keep h3
  replace o2 := o2.keep h3
  have b3 := below_trans b2 h3
  have t3 := h3.size
  simp only [eqII_refl]
  go_wp2_with fail
  refine (markII _ _ _ _ _ (1) _ o2 ?_ ?_).mono ?_
  · omega
  · omega
  rintro e x4 ⟨rfl, o2', c4, t4⟩
  replace o2 := o2'
  clear o2'
  replace o1 := o1.chg c4 (by omega)
  have b4 := below_chg2 b3 c4 (by have := b1.size; omega)
  go_wp2_with fail
  refine (heldII _ _ 1 R _ o2.read ?_ ?_).mono ?_
  · omega
  · omega
  rintro e x5 ⟨rfl, h5⟩
  replace o1 := o1.keep h5
  replace o2 := o2.keep h5
  have b5 := below_trans b4 h5
  have t5 := h5.size
  go_wp2_with fail
  refine (implTypeCartan z0 _).mono ?_
  intro e x6 r6
  rw [← HB.out] at r6
  obtain ⟨v6, rfl, o6, h6⟩ := r6.out
  clear r6
  replace o1 := o1.keep h6
  replace o2 := o2.keep h6
  have b6 := below_trans b5 h6
  have t6 := h6.size
  rw [← HR.out] at o6
  go_wp2_with fail
  refine (eqIntSS _ _ R R (by omega) _ o6.read o1.read).mono ?_
  rintro e x7 ⟨rfl, h7⟩
  replace o1 := o1.keep h7
  replace o2 := o2.keep h7
  replace o6 := o6.keep h7
  have b7 := below_trans b6 h7
  have t7 := h7.size
  simp only [eqII_refl]
  go_wp2_with fail
  refine (heldII _ _ 1 R _ o2.read ?_ ?_).mono ?_
  · omega
  · omega
  rintro e x8 ⟨rfl, h8⟩
  replace o1 := o1.keep h8
  replace o2 := o2.keep h8
  replace o6 := o6.keep h8
  have b8 := below_trans b7 h8
  have t8 := h8.size
  go_wp2_with fail
  go_ret
  exact ⟨rfl, b8⟩

theorem own : ownKnob Try.prog.godebug = none := by kernel_rfl
set_option maxRecDepth 100000 in
theorem lifted (os : Os) (started : os.Started) (H : Type) (enc : TypeId × Value → H) :
    ReturnsInHanded {} Try.checked os 5 .any (Rows.fnExactTypeCartanSpec.pre6 enc Try.prog Try.f5 Rows.fnExactTypeCartanRow.domain false) (Rows.fnExactTypeCartanSpec.post enc Try.prog Try.f5 false true false false) := by
  refine returnsInHanded_of_change (C := Try.checked) own started (by kernel_rfl) Try.func5
    (ChangeSpec.witness6 (enc := enc) (C := Try.checked) false ⟨#[], #[.string ByteArray.empty], []⟩ 8 (by kernel_rfl) (by kernel_rfl) (by kernel_rfl) (by kernel_rfl)) ?_
  intro W base args ds gs before hval0 hW hcnd _
  have hval : ∀ (j : Nat) t v, Try.f5.params[j]? = some t → args[j]? = some v → Value.okWide Try.prog W .any base t v := hval0
  have hW' := hW
  obtain ⟨p, q, hA0, hV, rfl, hfz, hnd⟩ := hW
  have hA : DataW.TrodAll enc Try.prog W 0 (fun _ => true) true Try.f5.params.toList args.toList ds p := hA0
  rw [Try.params5] at hA hval
  obtain ⟨v0, vs0, d0, ds0, p0, q0, hargs, rfl, rfl, h0, r0⟩ := trodAll_cons hA
  obtain ⟨rfl, rfl, rfl⟩ := trodAll_nil r0
  obtain rfl : args = #[v0] := by cases args; simp_all
  obtain ⟨rfl, rfl⟩ := trodVars_none hV
  obtain ⟨a0, rfl, rfl, rfl, w0⟩ := open_string Try.underlying9 (hval 0 9 v0 rfl rfl) h0
  clear hA0 hval0
  refine (walk W a0 w0).mono fun e W' ⟨he, bel⟩ => ?_
  subst he
  exact ⟨_, rfl, _, _, _, [], _, [], hW', trodAll_mk1 (shut_bool Try.underlying4 _), (trodAll_cons_mk (shut_string Try.underlying9 w0) trodAll_mk0), rfl, bel.frame _, fun h => by cases h⟩

theorem over : Rows.fnExactTypeCartanRow.holds Try.pinned (OpenSpec.ofChange Rows.fnExactTypeCartanSpec) :=
  OpenClaim.holds_of_wide 5 Try.f5 rfl rfl rfl rfl rfl rfl rfl ⟨rfl, rfl, rfl, rfl, rfl⟩ rfl rfl rfl rfl rfl (by kernel_rfl) Try.func5 (by kernel_rfl)
    (of_decide_eq_true (by kernel_rfl)) (by unfold Func.isWrapper; first | (rw [if_pos (by decide +kernel)]; kernel_rfl) | (rw [if_neg (by decide +kernel)]; exact ⟨rfl, rfl⟩))
    (fun os started H enc _ => lifted os started H enc)

theorem proved : Rows.FnExactTypeCartanSaid := over
#print axioms proved
end Go.Proofs.Ytmiliikkheggfaa.lawTypeCartan
