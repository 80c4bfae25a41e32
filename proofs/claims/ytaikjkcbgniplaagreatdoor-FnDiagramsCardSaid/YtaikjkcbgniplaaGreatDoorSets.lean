/- The sets of points of a diagram in their order: what l4Sets answers. (Under way.) -/
import Derived.Test.YtaikjkcbgniplaaGreatDoorMask
namespace Go.Proofs.YtaikjkcbgniplaaGreatDoor
open Go.RowKit
set_option linter.unusedVariables false

def setL (n : Nat) : List (List Int) := (List.range (2 ^ n - 1)).map (fun p => setT (p + 1) n)
theorem setL_length (n : Nat) : (setL n).length = 2 ^ n - 1 := by simp [setL]
theorem setL_snoc (n p : Nat) (h : p + 1 < 2 ^ n) : (setL n).take (p + 1) = (setL n).take p ++ [setT (p + 1) n] := by
  rw [List.take_succ_eq_append_getElem (by rw [setL_length]; omega)]
  simp [setL]
theorem setL_end (n p : Nat) (h : p + 1 = 2 ^ n) : (setL n).take p = setL n := List.take_of_length_le (by rw [setL_length]; omega)
set_option maxHeartbeats 1000000 in
theorem specSets (n : Nat) (hn : n ≤ 4) (w : World) : Calls Tryz.prog 92 #[.int .i64 n] w (RetRows w (setL n)) := by
  obtain ⟨M, hM⟩ : ∃ M : Nat, M = 2 ^ n := ⟨_, rfl⟩
  have hM16 : M ≤ 16 := by subst hM; exact Nat.le_trans (Nat.pow_le_pow_right (by omega) hn) (by decide)
  have hM1 : 1 ≤ M := by subst hM; exact Nat.one_le_two_pow
  have hw : wrap64 ((2 : Int) ^ n) = (M : Int) := by rw [hM, Int.natCast_pow]; have : ((2 : Nat) : Int) = 2 := rfl; rw [this]; have h0 : (2 : Int) ^ n = (M : Int) := by rw [hM, Int.natCast_pow]; rfl
                                                     rw [h0]; unfold wrap64; omega
  have HM := Lib.hid hM
  have HW := Lib.hid hw
  clear hM hw
  go_enter Tryz.func92, Tryz.ntmps92
  go_wp2_with fail
  go_loopw [3, 4] (fun x i wr => ∃ p : Nat, p + 1 ≤ M ∧ i = .int .i64 ((p + 1 : Nat) : Int) ∧ RowsV wr w.heap.size wr.heap.size x ((setL n).take p) ∧ Below w.heap.size w wr) (fun _ i _ => M - (intOf i).toNat)
  case atStart =>
    obtain ⟨gs, vs, q1, q2, q3, q4⟩ := rowsV_empty w
    exact ⟨0, by omega, rfl, ⟨gs, vs, q1, q2, fun g hg => by have := q3 g hg; omega, q4⟩, (Below.refl _ _).alloc (Nat.le_refl _) _⟩
  case round =>
    obtain ⟨p, hp, rfl, hR, hbel⟩ := hrel
    obtain ⟨q, hq⟩ : ∃ q : Nat, p + 1 = q := ⟨_, rfl⟩
    rw [hq]
    have HQ := Lib.hid hq
    clear hq
    by_cases hlt' : q < M
    · have dq : decide ((q : Int) < wrap64 ((2 : Int) ^ n)) = true := by rw [HW.out, decide_eq_true_iff]; omega
      have HSS : Hid ((setL n).take (p + 1) = (setL n).take p ++ [setT q n]) := Lib.hid (by rw [setL_snoc n p (by have := HQ.out; have := HM.out; omega), HQ.out])
      have hKK : Hid (((setL n).take p).length = p) := Lib.hid (by rw [List.length_take, setL_length]; have := HM.out; omega)
      have hq16 : q < 16 := by omega
      obtain ⟨wo, rfl⟩ : ∃ wo : World, wo = wr := ⟨_, rfl⟩
      go_wp2_with fail
      go_loopw [5, 6] (fun y i wr => ∃ b : Nat, b ≤ n ∧ i = .int .i64 b ∧ RowV wr wo.heap.size 3 y (setT q b).length (ivs (setT q b)) ∧ Below wo.heap.size wo wr) (fun _ i _ => n - (intOf i).toNat)
      case atStart => exact ⟨0, by omega, rfl, rowV_empty wo _, (Below.refl _ _).alloc (Nat.le_refl _) _⟩
      case round =>
        obtain ⟨b, hb, rfl, hrow, hbi⟩ := hrel
        have hlen := setT_len q b
        by_cases hlb : b < n
        · have e1 := bit_and q hq16 b (by omega)
          cases hB : bitOn q b with
          | false =>
            rw [hB] at e1
            have HT := Lib.hid (setT_off q b hB)
            clear hB
            go_wp2_with fail
            go_roundw
            case rel => exact ⟨b + 1, by omega, by go_num, hrow.cast rfl (by rw [HT.out]) (by rw [HT.out]), hbi⟩
            case measure => simp [intOf]; omega
          | true =>
            rw [hB] at e1
            have HT := Lib.hid (setT_on q b hB)
            clear hB
            go_wp2_with (at_builtin; refine wpList_pushV elemInt _ rfl _ _ rfl wo.heap.size u5 (setT q b).length _ rfl (hrow.alloc _) (.int .i64 b) wr.heap.size rfl (cell_new1 _ _ _) rfl (by omega) (by have := hbi.size; simp; omega) ?_; intro gg cap w2 hrow1 hgrow hb2)
            go_roundw
            case rel =>
              have hr1 : RowV w2 wo.heap.size 3 _ (setT q (b + 1)).length (ivs (setT q (b + 1))) := hrow1.cast rfl (by rw [HT.out, List.length_append]; rfl) (by rw [HT.out, ivs_append]; rfl)
              have hb4 := (hbi.alloc hbi.size _).trans hb2
              clear hrow1 HT e1
              exact ⟨b + 1, by omega, by go_num, hr1, hb4⟩
            case measure => simp [intOf]; omega
        · obtain rfl : b = n := by omega
          obtain ⟨gx, hgx, hown⟩ := hrow.own
          obtain ⟨cy, hy, _, _, _, _⟩ := hown.form
          rw [ivs_length] at hy
          subst hy
          have hR2 := hR.keep hbi
          obtain ⟨gs, vs, q1, q2, q3, q4⟩ := hR2
          have hbel2 := below_trans hbel hbi
          have hs0 := hbel.size
          have hs1 := hbi.size
          have q1' : RowV wr w.heap.size 27 u3 p vs := q1.cast rfl hKK.out rfl
          have HPP := Lib.hid (fun (w2 : World) (x' : Value) hgrow (hrow : RowV w2 w.heap.size 27 x' (p + 1) (vs ++ [_])) => rowsV_push (w1 := w2) (x' := x') q1 q2 q3 q4 hown (by omega) (by omega) hgrow (hrow.cast rfl (by rw [hKK.out]) rfl))
          clear q1 q2 q3 q4 hrow
          go_wp2_with (at_builtin; refine wpList_pushV elemRow _ rfl _ _ rfl w.heap.size u3 p _ rfl (q1'.alloc _) (.slice (some ⟨gx, 0, none⟩) (setT q b).length cy) wr.heap.size rfl (cell_new1 _ _ _) rfl (by omega) (by have := hbel2.size; simp; omega) ?_; intro gg cap w2 hrow1 hgrow hb2)
          go_roundw
          case rel => exact ⟨p + 1, by have := HQ.out; omega, by have := HQ.out; go_num, by rw [HSS.out]; exact HPP.out _ _ hgrow hrow1, (hbel2.alloc hbel2.size _).trans hb2⟩
          case measure => simp [intOf]; omega
    · have dq : decide ((q : Int) < wrap64 ((2 : Int) ^ n)) = false := by rw [HW.out, decide_eq_false_iff_not]; omega
      have HF := Lib.hid (setL_end n p (by have := HQ.out; have := HM.out; omega))
      rw [HF.out] at hR
      have hown := hR.own2 (Nat.le_refl _)
      go_wp2_with fail
      go_ret
      exact ⟨_, rfl, hown, hbel⟩
end Go.Proofs.YtaikjkcbgniplaaGreatDoor
