/- The law FnExactAlternatingWord: the program's AlternatingWord returns what the reference's returns, for all arguments. -/
import Derived.Test.YtddoonefajnndaaAlt
namespace Go.Proofs.Ytddoonefajnndaa.lawAlternatingWord
open Go.ChangeShapes Go.WideShapes Go.ChangeAt Go.RowKit
open Go.ChangeMaps (open_string shut_string)
set_option linter.unusedVariables false

set_option maxHeartbeats 1000000 in
theorem walk (W : World) (z0 : Int) (w0 : (Lit.int .i64 z0).wf = true) (z1 : Int) (w1 : (Lit.int .i64 z1).wf = true) (z2 : Int) (w2 : (Lit.int .i64 z2).wf = true) :
    Calls Try.prog 11 #[.int .i64 z0, .int .i64 z1, .int .i64 z2] W fun e w' => e = .returned (.bool true) ∧ Below W.heap.size W w' := by
  have b0 : Below W.heap.size W W := Below.refl _ _
  go_enter Try.func11, Try.ntmps11
  have RB : (altL z0 z1 z2).length ≤ 1099511000000 := by have := altL_length z0 z1 z2; omega
  obtain ⟨R, hR⟩ : ∃ R, R = altL z0 z1 z2 := ⟨_, rfl⟩
  have HR := Lib.hid hR
  rw [← hR] at RB
  clear hR
  go_wp2_with fail
  refine (specAlternatingWord z0 z1 z2 _).mono ?_
  intro e x1 r1
  obtain ⟨v1, rfl, o1, h1⟩ := r1.out
  clear r1
  have b1 := below_trans b0 h1
  have t1 := h1.size
  rw [← HR.out] at o1
  go_wp2_with fail
  refine (implAlternatingWord z0 z1 z2 _).mono ?_
  intro e x2 r2
  obtain ⟨v2, rfl, o2, h2⟩ := r2.out
  clear r2
  replace o1 := o1.keep h2
  have b2 := below_trans b1 h2
  have t2 := h2.size
  rw [← HR.out] at o2
  go_wp2_with fail
  refine (eqIntS _ _ R R (by omega) _ o2.read o1.read).mono ?_
  rintro e x3 ⟨rfl, h3⟩
  replace o1 := o1.keep h3
  replace o2 := o2.keep h3
  have b3 := below_trans b2 h3
  have t3 := h3.size
  simp only [eqI_refl]
  go_wp2_with fail
  refine (markI _ _ _ _ _ (1) _ o2 ?_ ?_).mono ?_
  · omega
  · omega
  rintro e x4 ⟨rfl, o2', c4, t4⟩
  replace o2 := o2'
  clear o2'
  replace o1 := o1.chg c4 (by omega)
  have b4 := below_chg2 b3 c4 (by have := b1.size; omega)
  go_wp2_with fail
  refine (heldI _ _ 1 R.length _ o2.read ?_ ?_).mono ?_
  · omega
  · omega
  rintro e x5 ⟨rfl, h5⟩
  replace o1 := o1.keep h5
  replace o2 := o2.keep h5
  have b5 := below_trans b4 h5
  have t5 := h5.size
  go_wp2_with fail
  refine (implAlternatingWord z0 z1 z2 _).mono ?_
  intro e x6 r6
  obtain ⟨v6, rfl, o6, h6⟩ := r6.out
  clear r6
  replace o1 := o1.keep h6
  replace o2 := o2.keep h6
  have b6 := below_trans b5 h6
  have t6 := h6.size
  rw [← HR.out] at o6
  go_wp2_with fail
  refine (eqIntS _ _ R R (by omega) _ o6.read o1.read).mono ?_
  rintro e x7 ⟨rfl, h7⟩
  replace o1 := o1.keep h7
  replace o2 := o2.keep h7
  replace o6 := o6.keep h7
  have b7 := below_trans b6 h7
  have t7 := h7.size
  simp only [eqI_refl]
  go_wp2_with fail
  refine (heldI _ _ 1 R.length _ o2.read ?_ ?_).mono ?_
  · omega
  · omega
  rintro e x8 ⟨rfl, h8⟩
  replace o1 := o1.keep h8
  replace o2 := o2.keep h8
  replace o6 := o6.keep h8
  have b8 := below_trans b7 h8
  have t8 := h8.size
  go_wp2_with fail
  go_ret
  exact ⟨rfl, b8⟩

theorem own : ownKnob Try.prog.godebug = none := by kernel_rfl
set_option maxRecDepth 100000 in
theorem lifted (os : Os) (started : os.Started) (H : Type) (enc : TypeId × Value → H) :
    ReturnsInHanded {} Try.checked os 11 .any (Rows.fnExactAlternatingWordSpec.pre6 enc Try.prog Try.f11 Rows.fnExactAlternatingWordRow.domain false) (Rows.fnExactAlternatingWordSpec.post enc Try.prog Try.f11 false true false false) := by
  refine returnsInHanded_of_change (C := Try.checked) own started (by kernel_rfl) Try.func11
    (ChangeSpec.witness6 (enc := enc) (C := Try.checked) false ⟨#[], #[.int .i64 0, .int .i64 0, .int .i64 0], []⟩ 8 (by kernel_rfl) (by kernel_rfl) (by kernel_rfl) (by kernel_rfl)) ?_
  intro W base args ds gs before hval0 hW hcnd _
  have hval : ∀ (j : Nat) t v, Try.f11.params[j]? = some t → args[j]? = some v → Value.okWide Try.prog W .any base t v := hval0
  have hW' := hW
  obtain ⟨p, q, hA0, hV, rfl, hfz, hnd⟩ := hW
  have hA : DataW.TrodAll enc Try.prog W 0 (fun _ => true) true Try.f11.params.toList args.toList ds p := hA0
  rw [Try.params11] at hA hval
  obtain ⟨v0, vs0, d0, ds0, p0, q0, hargs, rfl, rfl, h0, r0⟩ := trodAll_cons hA
  obtain ⟨v1, vs1, d1, ds1, p1, q1, rfl, rfl, rfl, h1, r1⟩ := trodAll_cons r0
  obtain ⟨v2, vs2, d2, ds2, p2, q2, rfl, rfl, rfl, h2, r2⟩ := trodAll_cons r1
  obtain ⟨rfl, rfl, rfl⟩ := trodAll_nil r2
  obtain rfl : args = #[v0, v1, v2] := by cases args; simp_all
  obtain ⟨rfl, rfl⟩ := trodVars_none hV
  obtain ⟨a0, rfl, rfl, rfl, w0⟩ := open_int Try.underlying3 (hval 0 3 v0 rfl rfl) h0
  obtain ⟨a1, rfl, rfl, rfl, w1⟩ := open_int Try.underlying3 (hval 1 3 v1 rfl rfl) h1
  obtain ⟨a2, rfl, rfl, rfl, w2⟩ := open_int Try.underlying3 (hval 2 3 v2 rfl rfl) h2
  clear hA0 hval0
  refine (walk W a0 w0 a1 w1 a2 w2).mono fun e W' ⟨he, bel⟩ => ?_
  subst he
  exact ⟨_, rfl, _, _, _, [], _, [], hW', trodAll_mk1 (shut_bool Try.underlying4 _), (trodAll_cons_mk (shut_int Try.underlying3 w0) (trodAll_cons_mk (shut_int Try.underlying3 w1) (trodAll_cons_mk (shut_int Try.underlying3 w2) trodAll_mk0))), rfl, bel.frame _, fun h => by cases h⟩

theorem over : Rows.fnExactAlternatingWordRow.holds Try.pinned (OpenSpec.ofChange Rows.fnExactAlternatingWordSpec) :=
  OpenClaim.holds_of_wide 11 Try.f11 rfl rfl rfl rfl rfl rfl rfl ⟨rfl, rfl, rfl, rfl, rfl⟩ rfl rfl rfl rfl rfl (by kernel_rfl) Try.func11 (by kernel_rfl)
    (of_decide_eq_true (by kernel_rfl)) (by unfold Func.isWrapper; first | (rw [if_pos (by decide +kernel)]; kernel_rfl) | (rw [if_neg (by decide +kernel)]; exact ⟨rfl, rfl⟩))
    (fun os started H enc _ => lifted os started H enc)

theorem proved : Rows.FnExactAlternatingWordSaid := over
#print axioms proved
end Go.Proofs.Ytddoonefajnndaa.lawAlternatingWord
