/- The law FnExactActOnWeight: the program's ActOnWeight returns what the reference's returns, for all arguments. -/
import Derived.Test.YtmiliikkheggfaaMat
import Derived.Test.YtmiliikkheggfaaAct
namespace Go.Proofs.Ytmiliikkheggfaa.lawActOnWeight
open Go.ChangeShapes Go.WideShapes Go.ChangeAt Go.RowKit
open Go.ChangeMaps (open_string shut_string)
set_option linter.unusedVariables false

set_option maxHeartbeats 1000000 in
theorem walk (W : World) (a0 : Option Addr) (c0 : Nat) (z0 : List (List Int)) (w0 : ArgII W a0 c0 z0) (a1 : Option Addr) (c1 : Nat) (z1 : List Int) (w1 : ArgI W a1 c1 z1) (a2 : Option Addr) (c2 : Nat) (z2 : List Int) (w2 : ArgI W a2 c2 z2) :
    Calls Try.prog 6 #[.slice a0 z0.length c0, .slice a1 z1.length c1, .slice a2 z2.length c2] W fun e w' => e = .returned (.bool true) ∧ Below W.heap.size W w' := by
  obtain ⟨m0, m0'⟩ := w0.caps
  unfold maxLen at m0'
  obtain ⟨m1, m1'⟩ := w1.caps
  unfold maxLen at m1'
  obtain ⟨m2, m2'⟩ := w2.caps
  unfold maxLen at m2'
  have b0 : Below W.heap.size W W := Below.refl _ _
  by_cases s1 : z1.length ≤ 1048576
  rotate_left
  · go_enter Try.func6, Try.ntmps6
    go_wp2_with fail
    go_ret
    exact ⟨rfl, b0⟩
  by_cases s2 : z2.length ≤ 1048576
  rotate_left
  · go_enter Try.func6, Try.ntmps6
    go_wp2_with fail
    go_ret
    exact ⟨rfl, b0⟩
  by_cases s0 : (0) + total z0 ≤ 1048576
  rotate_left
  · have s0' := Nat.lt_of_not_le s0
    go_enter Try.func6, Try.ntmps6
    go_wp2_with fail
    refine (szIntSSNo a0 c0 z0 _ (1048576 - (0)) _ (w0) ?_ ?_ (by omega)).mono ?_
    · omega
    · omega
    rintro e w1 ⟨rfl, rfl⟩
    go_wp2_with fail
    go_ret
    exact ⟨rfl, b0⟩
  have q0 : ints z0 ≤ 1048576 := by unfold total at s0; omega
  go_enter Try.func6, Try.ntmps6
  go_wp2_with fail
  refine (szIntSS a0 c0 z0 _ (1048576 - (0)) _ (w0) ?_ ?_ (by omega)).mono ?_
  · omega
  · omega
  rintro e w1 ⟨rfl, rfl⟩
  have RB : (actL z0 z1 z2).length ≤ 1099511000000 := by rw [actL, actK_length]; omega
  obtain ⟨R, hR⟩ : ∃ R, R = actL z0 z1 z2 := ⟨_, rfl⟩
  have HR := Lib.hid hR
  rw [← hR] at RB
  clear hR
  go_wp2_with fail
  refine (toIntSS a0 c0 z0 (by omega) _ (w0.keep b0)).mono ?_
  intro e x1 r1
  obtain ⟨v1, rfl, o1, h1⟩ := r1.out
  clear r1
  have b1 := below_trans b0 h1
  have t1 := h1.size
  go_wp2_with fail
  refine (toIntS a1 c1 z1 s1 _ (w1.keep b1)).mono ?_
  intro e x2 r2
  obtain ⟨v2, rfl, o2, h2⟩ := r2.out
  clear r2
  replace o1 := o1.keep h2
  have b2 := below_trans b1 h2
  have t2 := h2.size
  go_wp2_with fail
  refine (toIntS a2 c2 z2 s2 _ (w2.keep b2)).mono ?_
  intro e x3 r3
  obtain ⟨v3, rfl, o3, h3⟩ := r3.out
  clear r3
  replace o1 := o1.keep h3
  replace o2 := o2.keep h3
  have b3 := below_trans b2 h3
  have t3 := h3.size
  go_wp2_with fail
  refine (specActOnWeight _ _ _ z0 z1 z2 (by unfold total at s0; omega) (by omega) (by omega) _ (o1.read) (o2.read) (o3.read)).mono ?_
  intro e x4 r4
  obtain ⟨v4, rfl, o4, h4⟩ := r4.out
  clear r4
  replace o1 := o1.keep h4
  replace o2 := o2.keep h4
  replace o3 := o3.keep h4
  have b4 := below_trans b3 h4
  have t4 := h4.size
  rw [← HR.out] at o4
  clear o1 o2 o3
  go_wp2_with fail
  refine (toIntSS a0 c0 z0 (by omega) _ (w0.keep b4)).mono ?_
  intro e x5 r5
  obtain ⟨v5, rfl, o5, h5⟩ := r5.out
  clear r5
  replace o4 := o4.keep h5
  have b5 := below_trans b4 h5
  have t5 := h5.size
  go_wp2_with fail
  refine (toIntS a1 c1 z1 s1 _ (w1.keep b5)).mono ?_
  intro e x6 r6
  obtain ⟨v6, rfl, o6, h6⟩ := r6.out
  clear r6
  replace o4 := o4.keep h6
  replace o5 := o5.keep h6
  have b6 := below_trans b5 h6
  have t6 := h6.size
  go_wp2_with fail
  refine (toIntS a2 c2 z2 s2 _ (w2.keep b6)).mono ?_
  intro e x7 r7
  obtain ⟨v7, rfl, o7, h7⟩ := r7.out
  clear r7
  replace o4 := o4.keep h7
  replace o5 := o5.keep h7
  replace o6 := o6.keep h7
  have b7 := below_trans b6 h7
  have t7 := h7.size
  go_wp2_with fail
  refine (implActOnWeight _ _ _ z0 z1 z2 (by unfold total at s0; omega) (by omega) (by omega) _ (o5.read) (o6.read) (o7.read)).mono ?_
  intro e x8 r8
  obtain ⟨v8, rfl, o8, h8⟩ := r8.out
  clear r8
  replace o4 := o4.keep h8
  replace o5 := o5.keep h8
  replace o6 := o6.keep h8
  replace o7 := o7.keep h8
  have b8 := below_trans b7 h8
  have t8 := h8.size
  rw [← HR.out] at o8
  go_wp2_with fail
  refine (eqIntS _ _ R R (by omega) _ o8.read o4.read).mono ?_
  rintro e x9 ⟨rfl, h9⟩
  replace o4 := o4.keep h9
  replace o5 := o5.keep h9
  replace o6 := o6.keep h9
  replace o7 := o7.keep h9
  replace o8 := o8.keep h9
  have b9 := below_trans b8 h9
  have t9 := h9.size
  simp only [eqI_refl]
  go_wp2_with fail
  refine (toIntSS a0 c0 z0 (by omega) _ (w0.keep b9)).mono ?_
  intro e x10 r10
  obtain ⟨v10, rfl, o10, h10⟩ := r10.out
  clear r10
  replace o4 := o4.keep h10
  replace o5 := o5.keep h10
  replace o6 := o6.keep h10
  replace o7 := o7.keep h10
  replace o8 := o8.keep h10
  have b10 := below_trans b9 h10
  have t10 := h10.size
  go_wp2_with fail
  refine (eqIntSS _ _ z0 z0 (by omega) _ o5.read o10.read).mono ?_
  rintro e x11 ⟨rfl, h11⟩
  replace o4 := o4.keep h11
  replace o5 := o5.keep h11
  replace o6 := o6.keep h11
  replace o7 := o7.keep h11
  replace o8 := o8.keep h11
  replace o10 := o10.keep h11
  have b11 := below_trans b10 h11
  have t11 := h11.size
  simp only [eqII_refl]
  clear o10
  go_wp2_with fail
  refine (toIntS a1 c1 z1 s1 _ (w1.keep b11)).mono ?_
  intro e x12 r12
  obtain ⟨v12, rfl, o12, h12⟩ := r12.out
  clear r12
  replace o4 := o4.keep h12
  replace o5 := o5.keep h12
  replace o6 := o6.keep h12
  replace o7 := o7.keep h12
  replace o8 := o8.keep h12
  have b12 := below_trans b11 h12
  have t12 := h12.size
  go_wp2_with fail
  refine (eqIntS _ _ z1 z1 (by omega) _ o6.read o12.read).mono ?_
  rintro e x13 ⟨rfl, h13⟩
  replace o4 := o4.keep h13
  replace o5 := o5.keep h13
  replace o6 := o6.keep h13
  replace o7 := o7.keep h13
  replace o8 := o8.keep h13
  replace o12 := o12.keep h13
  have b13 := below_trans b12 h13
  have t13 := h13.size
  simp only [eqI_refl]
  clear o12
  go_wp2_with fail
  refine (toIntS a2 c2 z2 s2 _ (w2.keep b13)).mono ?_
  intro e x14 r14
  obtain ⟨v14, rfl, o14, h14⟩ := r14.out
  clear r14
  replace o4 := o4.keep h14
  replace o5 := o5.keep h14
  replace o6 := o6.keep h14
  replace o7 := o7.keep h14
  replace o8 := o8.keep h14
  have b14 := below_trans b13 h14
  have t14 := h14.size
  go_wp2_with fail
  refine (eqIntS _ _ z2 z2 (by omega) _ o7.read o14.read).mono ?_
  rintro e x15 ⟨rfl, h15⟩
  replace o4 := o4.keep h15
  replace o5 := o5.keep h15
  replace o6 := o6.keep h15
  replace o7 := o7.keep h15
  replace o8 := o8.keep h15
  replace o14 := o14.keep h15
  have b15 := below_trans b14 h15
  have t15 := h15.size
  simp only [eqI_refl]
  clear o14
  go_wp2_with fail
  refine (markII _ _ _ _ _ (1) _ o5 ?_ ?_).mono ?_
  · omega
  · omega
  rintro e x16 ⟨rfl, o5', c16, t16⟩
  replace o5 := o5'
  clear o5'
  replace o4 := o4.chg c16 (by omega)
  replace o6 := o6.chg c16 (by omega)
  replace o7 := o7.chg c16 (by omega)
  replace o8 := o8.chg c16 (by omega)
  have b16 := below_chg2 b15 c16 (by have := b4.size; omega)
  clear o5
  go_wp2_with fail
  refine (markI _ _ _ _ _ (1 + ints z0) _ o6 ?_ ?_).mono ?_
  · omega
  · omega
  rintro e x17 ⟨rfl, o6', c17, t17⟩
  replace o6 := o6'
  clear o6'
  replace o4 := o4.chg c17 (by omega)
  replace o7 := o7.chg c17 (by omega)
  replace o8 := o8.chg c17 (by omega)
  have b17 := below_chg2 b16 c17 (by have := b5.size; omega)
  clear o6
  go_wp2_with fail
  refine (markI _ _ _ _ _ (1 + ints z0 + z1.length) _ o7 ?_ ?_).mono ?_
  · omega
  · omega
  rintro e x18 ⟨rfl, o7', c18, t18⟩
  replace o7 := o7'
  clear o7'
  replace o4 := o4.chg c18 (by omega)
  replace o8 := o8.chg c18 (by omega)
  have b18 := below_chg2 b17 c18 (by have := b6.size; omega)
  clear o7
  go_wp2_with fail
  refine (eqIntS _ _ R R (by omega) _ o8.read o4.read).mono ?_
  rintro e x19 ⟨rfl, h19⟩
  replace o4 := o4.keep h19
  replace o8 := o8.keep h19
  have b19 := below_trans b18 h19
  have t19 := h19.size
  simp only [eqI_refl]
  go_wp2_with fail
  refine (markI _ _ _ _ _ (1) _ o8 ?_ ?_).mono ?_
  · omega
  · omega
  rintro e x20 ⟨rfl, o8', c20, t20⟩
  replace o8 := o8'
  clear o8'
  replace o4 := o4.chg c20 (by omega)
  have b20 := below_chg2 b19 c20 (by have := b7.size; omega)
  go_wp2_with fail
  refine (heldI _ _ 1 R.length _ o8.read ?_ ?_).mono ?_
  · omega
  · omega
  rintro e x21 ⟨rfl, h21⟩
  replace o4 := o4.keep h21
  replace o8 := o8.keep h21
  have b21 := below_trans b20 h21
  have t21 := h21.size
  go_wp2_with fail
  refine (toIntSS a0 c0 z0 (by omega) _ (w0.keep b21)).mono ?_
  intro e x22 r22
  obtain ⟨v22, rfl, o22, h22⟩ := r22.out
  clear r22
  replace o4 := o4.keep h22
  replace o8 := o8.keep h22
  have b22 := below_trans b21 h22
  have t22 := h22.size
  go_wp2_with fail
  refine (toIntS a1 c1 z1 s1 _ (w1.keep b22)).mono ?_
  intro e x23 r23
  obtain ⟨v23, rfl, o23, h23⟩ := r23.out
  clear r23
  replace o4 := o4.keep h23
  replace o8 := o8.keep h23
  replace o22 := o22.keep h23
  have b23 := below_trans b22 h23
  have t23 := h23.size
  go_wp2_with fail
  refine (toIntS a2 c2 z2 s2 _ (w2.keep b23)).mono ?_
  intro e x24 r24
  obtain ⟨v24, rfl, o24, h24⟩ := r24.out
  clear r24
  replace o4 := o4.keep h24
  replace o8 := o8.keep h24
  replace o22 := o22.keep h24
  replace o23 := o23.keep h24
  have b24 := below_trans b23 h24
  have t24 := h24.size
  go_wp2_with fail
  refine (implActOnWeight _ _ _ z0 z1 z2 (by unfold total at s0; omega) (by omega) (by omega) _ (o22.read) (o23.read) (o24.read)).mono ?_
  intro e x25 r25
  obtain ⟨v25, rfl, o25, h25⟩ := r25.out
  clear r25
  replace o4 := o4.keep h25
  replace o8 := o8.keep h25
  replace o22 := o22.keep h25
  replace o23 := o23.keep h25
  replace o24 := o24.keep h25
  have b25 := below_trans b24 h25
  have t25 := h25.size
  rw [← HR.out] at o25
  clear o22 o23 o24
  go_wp2_with fail
  refine (eqIntS _ _ R R (by omega) _ o25.read o4.read).mono ?_
  rintro e x26 ⟨rfl, h26⟩
  replace o4 := o4.keep h26
  replace o8 := o8.keep h26
  replace o25 := o25.keep h26
  have b26 := below_trans b25 h26
  have t26 := h26.size
  simp only [eqI_refl]
  go_wp2_with fail
  refine (heldI _ _ 1 R.length _ o8.read ?_ ?_).mono ?_
  · omega
  · omega
  rintro e x27 ⟨rfl, h27⟩
  replace o4 := o4.keep h27
  replace o8 := o8.keep h27
  replace o25 := o25.keep h27
  have b27 := below_trans b26 h27
  have t27 := h27.size
  go_wp2_with fail
  go_ret
  exact ⟨rfl, b27⟩

theorem own : ownKnob Try.prog.godebug = none := by kernel_rfl
theorem laidOut : laidOutB Try.prog = true := by kernel_rfl
set_option maxRecDepth 100000 in
theorem lifted (os : Os) (started : os.Started) (H : Type) (enc : TypeId × Value → H) :
    ReturnsInHanded {} Try.checked os 6 .any (Rows.fnExactActOnWeightSpec.pre6 enc Try.prog Try.f6 Rows.fnExactActOnWeightRow.domain false) (Rows.fnExactActOnWeightSpec.post enc Try.prog Try.f6 false true false false) := by
  refine returnsInHanded_of_change (C := Try.checked) own started (by kernel_rfl) Try.func6
    (ChangeSpec.witness6 (enc := enc) (C := Try.checked) false ⟨#[], #[.slice none 0 0, .slice none 0 0, .slice none 0 0], []⟩ 8 (by kernel_rfl) (by kernel_rfl) (by kernel_rfl) (by kernel_rfl)) ?_
  intro W base args ds gs before hval0 hW hcnd _
  have hval : ∀ (j : Nat) t v, Try.f6.params[j]? = some t → args[j]? = some v → Value.okWide Try.prog W .any base t v := hval0
  have hW' := hW
  obtain ⟨p, q, hA0, hV, rfl, hfz, hnd⟩ := hW
  have hA : DataW.TrodAll enc Try.prog W 0 (fun _ => true) true Try.f6.params.toList args.toList ds p := hA0
  rw [Try.params6] at hA hval
  obtain ⟨v0, vs0, d0, ds0, p0, q0, hargs, rfl, rfl, h0, r0⟩ := trodAll_cons hA
  obtain ⟨v1, vs1, d1, ds1, p1, q1, rfl, rfl, rfl, h1, r1⟩ := trodAll_cons r0
  obtain ⟨v2, vs2, d2, ds2, p2, q2, rfl, rfl, rfl, h2, r2⟩ := trodAll_cons r1
  obtain ⟨rfl, rfl, rfl⟩ := trodAll_nil r2
  obtain rfl : args = #[v0, v1, v2] := by cases args; simp_all
  obtain ⟨rfl, rfl⟩ := trodVars_none hV
  obtain ⟨a0, len0, cap0, rfl⟩ := okWide_slice Try.underlying22 (hval 0 22 v0 rfl rfl)
  have k0 := h0
  have lt0 : ∀ x ∈ p0, x.block < W.heap.size := by obtain ⟨m, hm⟩ := k0; exact DataW.trod_lt m _ _ _ hm
  obtain ⟨z0, rfl, w0⟩ : ∃ zs : List (List Int), len0 = zs.length ∧ ArgII W a0 cap0 zs := by
    obtain ⟨fuel, hf⟩ := h0
    rcases Go.Deep.open_int_rows Try.underlying22 Try.underlying31 Try.underlying3 (by kernel_rfl) (by kernel_rfl) hf with ⟨hcs, _⟩ | ⟨x, l, c, A, L, C, Z, hcs, _, hl, hm, _, hcell⟩
    · simp [Value.cells] at hcs
      obtain ⟨rfl, rfl, rfl⟩ := hcs
      exact ⟨[], rfl, argII_nil W⟩
    · simp [Value.cells] at hcs
      obtain ⟨rfl, rfl, rfl⟩ := hcs
      exact ⟨_, argII_some hl hm hcell⟩
  obtain ⟨a1, len1, cap1, rfl⟩ := okWide_slice Try.underlying31 (hval 1 31 v1 rfl rfl)
  have k1 := h1
  have lt1 : ∀ x ∈ p1, x.block < W.heap.size := by obtain ⟨m, hm⟩ := k1; exact DataW.trod_lt m _ _ _ hm
  obtain ⟨z1, rfl, w1⟩ : ∃ zs : List Int, len1 = zs.length ∧ ArgI W a1 cap1 zs := by
    obtain ⟨fuel, hf⟩ := h1
    rcases open_ints Try.underlying31 Try.underlying3 (by kernel_rfl) hf with ⟨hcs, _⟩ | ⟨x, l, c, zs, hcs, _, hl, hm, hz, _, hcell, hwz⟩
    · simp [Value.cells] at hcs
      obtain ⟨rfl, rfl, rfl⟩ := hcs
      exact ⟨[], rfl, argI_nil W⟩
    · simp [Value.cells] at hcs
      obtain ⟨rfl, rfl, rfl⟩ := hcs
      exact ⟨_, argI_some hl hm (by simpa using hz) hcell hwz⟩
  obtain ⟨a2, len2, cap2, rfl⟩ := okWide_slice Try.underlying31 (hval 2 31 v2 rfl rfl)
  have k2 := h2
  have lt2 : ∀ x ∈ p2, x.block < W.heap.size := by obtain ⟨m, hm⟩ := k2; exact DataW.trod_lt m _ _ _ hm
  obtain ⟨z2, rfl, w2⟩ : ∃ zs : List Int, len2 = zs.length ∧ ArgI W a2 cap2 zs := by
    obtain ⟨fuel, hf⟩ := h2
    rcases open_ints Try.underlying31 Try.underlying3 (by kernel_rfl) hf with ⟨hcs, _⟩ | ⟨x, l, c, zs, hcs, _, hl, hm, hz, _, hcell, hwz⟩
    · simp [Value.cells] at hcs
      obtain ⟨rfl, rfl, rfl⟩ := hcs
      exact ⟨[], rfl, argI_nil W⟩
    · simp [Value.cells] at hcs
      obtain ⟨rfl, rfl, rfl⟩ := hcs
      exact ⟨_, argI_some hl hm (by simpa using hz) hcell hwz⟩
  clear hA0 hval0
  refine (walk W a0 cap0 z0 w0 a1 cap1 z1 w1 a2 cap2 z2 w2).mono fun e W' ⟨he, bel⟩ => ?_
  subst he
  exact ⟨_, rfl, _, _, _, [], _, [], hW', trodAll_mk1 (shut_bool Try.underlying4 _), (trodAll_cons_mk (Below.trod laidOut (by kernel_rfl) (of_decide_eq_true (by kernel_rfl)) k0 bel lt0) (trodAll_cons_mk (Below.trod laidOut (by kernel_rfl) (of_decide_eq_true (by kernel_rfl)) k1 bel lt1) (trodAll_cons_mk (Below.trod laidOut (by kernel_rfl) (of_decide_eq_true (by kernel_rfl)) k2 bel lt2) trodAll_mk0))), rfl, bel.frame _, fun h => by cases h⟩

theorem over : Rows.fnExactActOnWeightRow.holds Try.pinned (OpenSpec.ofChange Rows.fnExactActOnWeightSpec) :=
  OpenClaim.holds_of_wide 6 Try.f6 rfl rfl rfl rfl rfl rfl rfl ⟨rfl, rfl, rfl, rfl, rfl⟩ rfl rfl rfl rfl rfl (by kernel_rfl) Try.func6 (by kernel_rfl)
    (of_decide_eq_true (by kernel_rfl)) (by unfold Func.isWrapper; first | (rw [if_pos (by decide +kernel)]; kernel_rfl) | (rw [if_neg (by decide +kernel)]; exact ⟨rfl, rfl⟩))
    (fun os started H enc _ => lifted os started H enc)

theorem proved : Rows.FnExactActOnWeightSaid := over
#print axioms proved
end Go.Proofs.Ytmiliikkheggfaa.lawActOnWeight
