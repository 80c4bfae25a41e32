/- The law FnExactEncodeFixed: the program's EncodeFixed returns what the reference's returns, for every number and every width. -/
import Derived.Test.YtddoonefajnndaaFixed
namespace Go.Proofs.Ytddoonefajnndaa.lawEncodeFixed
open Go.ChangeShapes Go.WideShapes Go.ChangeAt Go.RowKit
open Go.ChangeMaps (open_string shut_string)
set_option linter.unusedVariables false

set_option maxHeartbeats 400000 in
theorem walk (W : World) (n : Int) (w0 : (Lit.int .i64 n).wf = true) (m : Int) (w1 : (Lit.int .i64 m).wf = true) :
    Calls Try.prog 7 #[.int .i64 n, .int .i64 m] W fun e w' => e = .returned (.bool true) ∧ Below W.heap.size W w' := by
  clear w1
  by_cases h : m < 1 ∨ 7 < m ∨ n < 0
  · clear w0
    go_enter Try.func7, Try.ntmps7
    go_wp2_with fail
    refine (specEncodeFixedNo n m h _).mono ?_
    rintro e w1 ⟨rfl, rfl⟩
    go_wp2_with fail
    refine (implEncodeFixedNo n m h _).mono ?_
    rintro e w2 ⟨rfl, rfl⟩
    go_wp2_with fail
    go_ret
    exact ⟨rfl, Below.refl _ _⟩
  · obtain ⟨a, rfl⟩ := Int.eq_ofNat_of_zero_le (show 0 ≤ n by omega)
    obtain ⟨b, rfl⟩ := Int.eq_ofNat_of_zero_le (show 0 ≤ m by omega)
    have HA : Hid (a < 9223372036854775808) := by have := bounds_i64 w0; unfold Hid; omega
    have h1 : 1 ≤ b := by omega
    have h7 : b ≤ 7 := by omega
    clear w0 h
    by_cases hab : a < 256 ^ b
    · have e1 : fixR b a = fixL b a := by rw [fixR, if_pos (Nat.div_eq_of_lt hab)]
      have E1 := Lib.hid e1
      clear e1
      go_enter Try.func7, Try.ntmps7
      go_wp2_with fail
      refine (specEncodeFixed a b h1 h7 HA.out _).mono ?_
      rintro e w1 ⟨rfl, hb1⟩
      rw [E1.out]
      go_wp2_with fail
      refine (implEncodeFixed a b h1 h7 hab _).mono ?_
      rintro e w2 ⟨rfl, hb2⟩
      go_wp2_with fail
      go_ret
      exact ⟨rfl, below_trans hb1 hb2⟩
    · have e1 : fixR b a = [] := by rw [fixR, if_neg (by have := Nat.div_pos (show 256 ^ b ≤ a by omega) (Nat.pow_pos (by omega)); omega)]
      have E1 := Lib.hid e1
      clear e1
      go_enter Try.func7, Try.ntmps7
      go_wp2_with fail
      refine (specEncodeFixed a b h1 h7 HA.out _).mono ?_
      rintro e w1 ⟨rfl, hb1⟩
      rw [E1.out]
      go_wp2_with fail
      refine (implEncodeFixedBig a b h1 h7 (by omega) _).mono ?_
      rintro e w2 ⟨rfl, rfl⟩
      go_wp2_with fail
      go_ret
      exact ⟨rfl, hb1⟩

theorem own : ownKnob Try.prog.godebug = none := by kernel_rfl
set_option maxRecDepth 100000 in
theorem lifted (os : Os) (started : os.Started) (H : Type) (enc : TypeId × Value → H) :
    ReturnsInHanded {} Try.checked os 7 .any (Rows.fnExactEncodeFixedSpec.pre6 enc Try.prog Try.f7 Rows.fnExactEncodeFixedRow.domain false) (Rows.fnExactEncodeFixedSpec.post enc Try.prog Try.f7 false true false false) := by
  refine returnsInHanded_of_change (C := Try.checked) own started (by kernel_rfl) Try.func7
    (ChangeSpec.witness6 (enc := enc) (C := Try.checked) false ⟨#[], #[.int .i64 0, .int .i64 0], []⟩ 8 (by kernel_rfl) (by kernel_rfl) (by kernel_rfl) (by kernel_rfl)) ?_
  intro W base args ds gs before hval0 hW hcnd _
  have hval : ∀ (j : Nat) t v, Try.f7.params[j]? = some t → args[j]? = some v → Value.okWide Try.prog W .any base t v := hval0
  have hW' := hW
  obtain ⟨p, q, hA0, hV, rfl, hfz, hnd⟩ := hW
  have hA : DataW.TrodAll enc Try.prog W 0 (fun _ => true) true Try.f7.params.toList args.toList ds p := hA0
  rw [Try.params7] at hA hval
  obtain ⟨v0, vs0, d0, ds0, p0, q0, hargs, rfl, rfl, h0, r0⟩ := trodAll_cons hA
  obtain ⟨v1, vs1, d1, ds1, p1, q1, rfl, rfl, rfl, h1, r1⟩ := trodAll_cons r0
  obtain ⟨rfl, rfl, rfl⟩ := trodAll_nil r1
  obtain rfl : args = #[v0, v1] := by cases args; simp_all
  obtain ⟨rfl, rfl⟩ := trodVars_none hV
  obtain ⟨a0, rfl, rfl, rfl, w0⟩ := open_int Try.underlying3 (hval 0 3 v0 rfl rfl) h0
  obtain ⟨a1, rfl, rfl, rfl, w1⟩ := open_int Try.underlying3 (hval 1 3 v1 rfl rfl) h1
  clear hA0 hval0
  refine (walk W a0 w0 a1 w1).mono fun e W' ⟨he, bel⟩ => ?_
  subst he
  exact ⟨_, rfl, _, _, _, [], _, [], hW', trodAll_mk1 (shut_bool Try.underlying4 _), (trodAll_cons_mk (shut_int Try.underlying3 w0) (trodAll_cons_mk (shut_int Try.underlying3 w1) trodAll_mk0)), rfl, bel.frame _, fun h => by cases h⟩

theorem over : Rows.fnExactEncodeFixedRow.holds Try.pinned (OpenSpec.ofChange Rows.fnExactEncodeFixedSpec) :=
  OpenClaim.holds_of_wide 7 Try.f7 rfl rfl rfl rfl rfl rfl rfl ⟨rfl, rfl, rfl, rfl, rfl⟩ rfl rfl rfl rfl rfl (by kernel_rfl) Try.func7 (by kernel_rfl)
    (of_decide_eq_true (by kernel_rfl)) (by unfold Func.isWrapper; first | (rw [if_pos (by decide +kernel)]; kernel_rfl) | (rw [if_neg (by decide +kernel)]; exact ⟨rfl, rfl⟩))
    (fun os started H enc _ => lifted os started H enc)

theorem proved : Rows.FnExactEncodeFixedSaid := over
#print axioms proved
end Go.Proofs.Ytddoonefajnndaa.lawEncodeFixed
