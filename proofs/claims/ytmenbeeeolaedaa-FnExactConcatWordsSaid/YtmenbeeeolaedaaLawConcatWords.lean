/- The law FnExactConcatWords: the program's ConcatWords returns what the reference's returns, for all arguments. -/
import Derived.Test.YtmenbeeeolaedaaCat
namespace Go.Proofs.Ytmenbeeeolaedaa.lawConcatWords
open Go.ChangeShapes Go.WideShapes Go.ChangeAt Go.RowKit
open Go.ChangeMaps (open_string shut_string)
set_option linter.unusedVariables false

set_option maxHeartbeats 1000000 in
theorem walk (W : World) (a0 : Option Addr) (c0 : Nat) (z0 : List Int) (w0 : ArgI W a0 c0 z0) (a1 : Option Addr) (c1 : Nat) (z1 : List Int) (w1 : ArgI W a1 c1 z1) :
    Calls Try.prog 3 #[.slice a0 z0.length c0, .slice a1 z1.length c1] W fun e w' => e = .returned (.bool true) ∧ Below W.heap.size W w' := by
  obtain ⟨m0, m0'⟩ := w0.caps
  unfold maxLen at m0'
  obtain ⟨m1, m1'⟩ := w1.caps
  unfold maxLen at m1'
  have b0 : Below W.heap.size W W := Below.refl _ _
  by_cases s0 : z0.length ≤ 1048576
  rotate_left
  · go_enter Try.func3, Try.ntmps3
    go_wp2_with fail
    go_ret
    exact ⟨rfl, b0⟩
  by_cases s1 : z1.length ≤ 1048576
  rotate_left
  · go_enter Try.func3, Try.ntmps3
    go_wp2_with fail
    go_ret
    exact ⟨rfl, b0⟩
  go_enter Try.func3, Try.ntmps3
  have RB : (z0 ++ z1).length ≤ 1099511000000 := by simp; omega
  obtain ⟨R, hR⟩ : ∃ R, R = z0 ++ z1 := ⟨_, rfl⟩
  have HR := Lib.hid hR
  rw [← hR] at RB
  clear hR
  go_wp2_with fail
  refine (toIntS a0 c0 z0 s0 _ (w0.keep b0)).mono ?_
  intro e x1 r1
  obtain ⟨v1, rfl, o1, h1⟩ := r1.out
  clear r1
  have b1 := below_trans b0 h1
  have t1 := h1.size
  go_wp2_with fail
  refine (toIntS a1 c1 z1 s1 _ (w1.keep b1)).mono ?_
  intro e x2 r2
  obtain ⟨v2, rfl, o2, h2⟩ := r2.out
  clear r2
  replace o1 := o1.keep h2
  have b2 := below_trans b1 h2
  have t2 := h2.size
  go_wp2_with fail
  refine (specConcatWords _ _ z0 z1 (by omega) (by omega) _ (o1.read) (o2.read)).mono ?_
  intro e x3 r3
  obtain ⟨v3, rfl, o3, h3⟩ := r3.out
  clear r3
  replace o1 := o1.keep h3
  replace o2 := o2.keep h3
  have b3 := below_trans b2 h3
  have t3 := h3.size
  rw [← HR.out] at o3
  clear o1 o2
  go_wp2_with fail
  refine (toIntS a0 c0 z0 s0 _ (w0.keep b3)).mono ?_
  intro e x4 r4
  obtain ⟨v4, rfl, o4, h4⟩ := r4.out
  clear r4
  replace o3 := o3.keep h4
  have b4 := below_trans b3 h4
  have t4 := h4.size
  go_wp2_with fail
  refine (toIntS a1 c1 z1 s1 _ (w1.keep b4)).mono ?_
  intro e x5 r5
  obtain ⟨v5, rfl, o5, h5⟩ := r5.out
  clear r5
  replace o3 := o3.keep h5
  replace o4 := o4.keep h5
  have b5 := below_trans b4 h5
  have t5 := h5.size
  go_wp2_with fail
  refine (implConcatWords _ _ z0 z1 (by omega) (by omega) _ (o4.read) (o5.read)).mono ?_
  intro e x6 r6
  obtain ⟨v6, rfl, o6, h6⟩ := r6.out
  clear r6
  replace o3 := o3.keep h6
  replace o4 := o4.keep h6
  replace o5 := o5.keep h6
  have b6 := below_trans b5 h6
  have t6 := h6.size
  rw [← HR.out] at o6
  go_wp2_with fail
  refine (eqIntSN _ _ R R (by omega) _ o6.read o3.read).mono ?_
  rintro e x7 ⟨rfl, h7⟩
  replace o3 := o3.keep h7
  replace o4 := o4.keep h7
  replace o5 := o5.keep h7
  replace o6 := o6.keep h7
  have b7 := below_trans b6 h7
  have t7 := h7.size
  simp only [eqI_refl]
  go_wp2_with fail
  refine (toIntS a0 c0 z0 s0 _ (w0.keep b7)).mono ?_
  intro e x8 r8
  obtain ⟨v8, rfl, o8, h8⟩ := r8.out
  clear r8
  replace o3 := o3.keep h8
  replace o4 := o4.keep h8
  replace o5 := o5.keep h8
  replace o6 := o6.keep h8
  have b8 := below_trans b7 h8
  have t8 := h8.size
  go_wp2_with fail
  refine (eqIntS _ _ z0 z0 (by omega) _ o4.read o8.read).mono ?_
  rintro e x9 ⟨rfl, h9⟩
  replace o3 := o3.keep h9
  replace o4 := o4.keep h9
  replace o5 := o5.keep h9
  replace o6 := o6.keep h9
  replace o8 := o8.keep h9
  have b9 := below_trans b8 h9
  have t9 := h9.size
  simp only [eqI_refl]
  clear o8
  go_wp2_with fail
  refine (toIntS a1 c1 z1 s1 _ (w1.keep b9)).mono ?_
  intro e x10 r10
  obtain ⟨v10, rfl, o10, h10⟩ := r10.out
  clear r10
  replace o3 := o3.keep h10
  replace o4 := o4.keep h10
  replace o5 := o5.keep h10
  replace o6 := o6.keep h10
  have b10 := below_trans b9 h10
  have t10 := h10.size
  go_wp2_with fail
  refine (eqIntS _ _ z1 z1 (by omega) _ o5.read o10.read).mono ?_
  rintro e x11 ⟨rfl, h11⟩
  replace o3 := o3.keep h11
  replace o4 := o4.keep h11
  replace o5 := o5.keep h11
  replace o6 := o6.keep h11
  replace o10 := o10.keep h11
  have b11 := below_trans b10 h11
  have t11 := h11.size
  simp only [eqI_refl]
  clear o10
  go_wp2_with fail
  refine (markI _ _ _ _ _ (1) _ o4 ?_ ?_).mono ?_
  · omega
  · omega
  rintro e x12 ⟨rfl, o4', c12, t12⟩
  replace o4 := o4'
  clear o4'
  replace o3 := o3.chg c12 (by omega)
  replace o5 := o5.chg c12 (by omega)
  replace o6 := o6.chg c12 (by omega)
  have b12 := below_chg2 b11 c12 (by have := b3.size; omega)
  clear o4
  go_wp2_with fail
  refine (markI _ _ _ _ _ (1 + z0.length) _ o5 ?_ ?_).mono ?_
  · omega
  · omega
  rintro e x13 ⟨rfl, o5', c13, t13⟩
  replace o5 := o5'
  clear o5'
  replace o3 := o3.chg c13 (by omega)
  replace o6 := o6.chg c13 (by omega)
  have b13 := below_chg2 b12 c13 (by have := b4.size; omega)
  clear o5
  go_wp2_with fail
  refine (eqIntSN _ _ R R (by omega) _ o6.read o3.read).mono ?_
  rintro e x14 ⟨rfl, h14⟩
  replace o3 := o3.keep h14
  replace o6 := o6.keep h14
  have b14 := below_trans b13 h14
  have t14 := h14.size
  simp only [eqI_refl]
  go_wp2_with fail
  refine (markIN _ _ _ _ _ (1) _ o6 ?_ ?_).mono ?_
  · omega
  · omega
  rintro e x15 ⟨rfl, o6', c15, t15⟩
  replace o6 := o6'
  clear o6'
  replace o3 := o3.chg c15 (by omega)
  have b15 := below_chg2 b14 c15 (by have := b5.size; omega)
  go_wp2_with fail
  refine (heldIN _ _ 1 R.length _ o6.read ?_ ?_).mono ?_
  · omega
  · omega
  rintro e x16 ⟨rfl, h16⟩
  replace o3 := o3.keep h16
  replace o6 := o6.keep h16
  have b16 := below_trans b15 h16
  have t16 := h16.size
  go_wp2_with fail
  refine (toIntS a0 c0 z0 s0 _ (w0.keep b16)).mono ?_
  intro e x17 r17
  obtain ⟨v17, rfl, o17, h17⟩ := r17.out
  clear r17
  replace o3 := o3.keep h17
  replace o6 := o6.keep h17
  have b17 := below_trans b16 h17
  have t17 := h17.size
  go_wp2_with fail
  refine (toIntS a1 c1 z1 s1 _ (w1.keep b17)).mono ?_
  intro e x18 r18
  obtain ⟨v18, rfl, o18, h18⟩ := r18.out
  clear r18
  replace o3 := o3.keep h18
  replace o6 := o6.keep h18
  replace o17 := o17.keep h18
  have b18 := below_trans b17 h18
  have t18 := h18.size
  go_wp2_with fail
  refine (implConcatWords _ _ z0 z1 (by omega) (by omega) _ (o17.read) (o18.read)).mono ?_
  intro e x19 r19
  obtain ⟨v19, rfl, o19, h19⟩ := r19.out
  clear r19
  replace o3 := o3.keep h19
  replace o6 := o6.keep h19
  replace o17 := o17.keep h19
  replace o18 := o18.keep h19
  have b19 := below_trans b18 h19
  have t19 := h19.size
  rw [← HR.out] at o19
  clear o17 o18
  go_wp2_with fail
  refine (eqIntSN _ _ R R (by omega) _ o19.read o3.read).mono ?_
  rintro e x20 ⟨rfl, h20⟩
  replace o3 := o3.keep h20
  replace o6 := o6.keep h20
  replace o19 := o19.keep h20
  have b20 := below_trans b19 h20
  have t20 := h20.size
  simp only [eqI_refl]
  go_wp2_with fail
  refine (heldIN _ _ 1 R.length _ o6.read ?_ ?_).mono ?_
  · omega
  · omega
  rintro e x21 ⟨rfl, h21⟩
  replace o3 := o3.keep h21
  replace o6 := o6.keep h21
  replace o19 := o19.keep h21
  have b21 := below_trans b20 h21
  have t21 := h21.size
  go_wp2_with fail
  go_ret
  exact ⟨rfl, b21⟩

theorem own : ownKnob Try.prog.godebug = none := by kernel_rfl
theorem laidOut : laidOutB Try.prog = true := by kernel_rfl
set_option maxRecDepth 100000 in
theorem lifted (os : Os) (started : os.Started) (H : Type) (enc : TypeId × Value → H) :
    ReturnsInHanded {} Try.checked os 3 .any (Rows.fnExactConcatWordsSpec.pre6 enc Try.prog Try.f3 Rows.fnExactConcatWordsRow.domain false) (Rows.fnExactConcatWordsSpec.post enc Try.prog Try.f3 false true false false) := by
  refine returnsInHanded_of_change (C := Try.checked) own started (by kernel_rfl) Try.func3
    (ChangeSpec.witness6 (enc := enc) (C := Try.checked) false ⟨#[], #[.slice none 0 0, .slice none 0 0], []⟩ 8 (by kernel_rfl) (by kernel_rfl) (by kernel_rfl) (by kernel_rfl)) ?_
  intro W base args ds gs before hval0 hW hcnd _
  have hval : ∀ (j : Nat) t v, Try.f3.params[j]? = some t → args[j]? = some v → Value.okWide Try.prog W .any base t v := hval0
  have hW' := hW
  obtain ⟨p, q, hA0, hV, rfl, hfz, hnd⟩ := hW
  have hA : DataW.TrodAll enc Try.prog W 0 (fun _ => true) true Try.f3.params.toList args.toList ds p := hA0
  rw [Try.params3] at hA hval
  obtain ⟨v0, vs0, d0, ds0, p0, q0, hargs, rfl, rfl, h0, r0⟩ := trodAll_cons hA
  obtain ⟨v1, vs1, d1, ds1, p1, q1, rfl, rfl, rfl, h1, r1⟩ := trodAll_cons r0
  obtain ⟨rfl, rfl, rfl⟩ := trodAll_nil r1
  obtain rfl : args = #[v0, v1] := by cases args; simp_all
  obtain ⟨rfl, rfl⟩ := trodVars_none hV
  obtain ⟨a0, len0, cap0, rfl⟩ := okWide_slice Try.underlying22 (hval 0 22 v0 rfl rfl)
  have k0 := h0
  have lt0 : ∀ x ∈ p0, x.block < W.heap.size := by obtain ⟨m, hm⟩ := k0; exact DataW.trod_lt m _ _ _ hm
  obtain ⟨z0, rfl, w0⟩ : ∃ zs : List Int, len0 = zs.length ∧ ArgI W a0 cap0 zs := by
    obtain ⟨fuel, hf⟩ := h0
    rcases open_ints Try.underlying22 Try.underlying3 (by kernel_rfl) hf with ⟨hcs, _⟩ | ⟨x, l, c, zs, hcs, _, hl, hm, hz, _, hcell, hwz⟩
    · simp [Value.cells] at hcs
      obtain ⟨rfl, rfl, rfl⟩ := hcs
      exact ⟨[], rfl, argI_nil W⟩
    · simp [Value.cells] at hcs
      obtain ⟨rfl, rfl, rfl⟩ := hcs
      exact ⟨_, argI_some hl hm (by simpa using hz) hcell hwz⟩
  obtain ⟨a1, len1, cap1, rfl⟩ := okWide_slice Try.underlying22 (hval 1 22 v1 rfl rfl)
  have k1 := h1
  have lt1 : ∀ x ∈ p1, x.block < W.heap.size := by obtain ⟨m, hm⟩ := k1; exact DataW.trod_lt m _ _ _ hm
  obtain ⟨z1, rfl, w1⟩ : ∃ zs : List Int, len1 = zs.length ∧ ArgI W a1 cap1 zs := by
    obtain ⟨fuel, hf⟩ := h1
    rcases open_ints Try.underlying22 Try.underlying3 (by kernel_rfl) hf with ⟨hcs, _⟩ | ⟨x, l, c, zs, hcs, _, hl, hm, hz, _, hcell, hwz⟩
    · simp [Value.cells] at hcs
      obtain ⟨rfl, rfl, rfl⟩ := hcs
      exact ⟨[], rfl, argI_nil W⟩
    · simp [Value.cells] at hcs
      obtain ⟨rfl, rfl, rfl⟩ := hcs
      exact ⟨_, argI_some hl hm (by simpa using hz) hcell hwz⟩
  clear hA0 hval0
  refine (walk W a0 cap0 z0 w0 a1 cap1 z1 w1).mono fun e W' ⟨he, bel⟩ => ?_
  subst he
  exact ⟨_, rfl, _, _, _, [], _, [], hW', trodAll_mk1 (shut_bool Try.underlying4 _), (trodAll_cons_mk (Below.trod laidOut (by kernel_rfl) (of_decide_eq_true (by kernel_rfl)) k0 bel lt0) (trodAll_cons_mk (Below.trod laidOut (by kernel_rfl) (of_decide_eq_true (by kernel_rfl)) k1 bel lt1) trodAll_mk0)), rfl, bel.frame _, fun h => by cases h⟩

theorem over : Rows.fnExactConcatWordsRow.holds Try.pinned (OpenSpec.ofChange Rows.fnExactConcatWordsSpec) :=
  OpenClaim.holds_of_wide 3 Try.f3 rfl rfl rfl rfl rfl rfl rfl ⟨rfl, rfl, rfl, rfl, rfl⟩ rfl rfl rfl rfl rfl (by kernel_rfl) Try.func3 (by kernel_rfl)
    (of_decide_eq_true (by kernel_rfl)) (by unfold Func.isWrapper; first | (rw [if_pos (by decide +kernel)]; kernel_rfl) | (rw [if_neg (by decide +kernel)]; exact ⟨rfl, rfl⟩))
    (fun os started H enc _ => lifted os started H enc)

theorem proved : Rows.FnExactConcatWordsSaid := over
#print axioms proved
end Go.Proofs.Ytmenbeeeolaedaa.lawConcatWords
