/- The determinant of the reference (l4Det, DeterminantOf). -/
import Derived.Test.YtaikjkcbgniplaaGreatDoorWo
namespace Go.Proofs.YtaikjkcbgniplaaGreatDoor
open Go.RowKit
set_option linter.unusedVariables false

theorem wrapE2 (n : Int) : IntKind.i64.wrap n = wrap64 n := by rw [IntKind.wrap_i64, wrap64]
set_option maxHeartbeats 4000000 in
theorem specDet : ∀ (n : Nat) (v1 : Value) (c : List (List Int)) (w : World), c.length = n → Sq c → n ≤ 274877906944 → II w v1 c →
    Calls Tryz.prog 93 #[v1] w fun e w' => e = .returned (.int .i64 (det n c)) ∧ Below w.heap.size w w' := by
  intro n
  induction n with
  | zero =>
    intro v1 c w hl hq hn h1
    obtain ⟨g1, o1, c1, hv1, _, _, hc1⟩ := h1.form
    subst hv1
    have d0 : ((c.length : Int) == 0) = true := by rw [beq_iff_eq]; omega
    clear hl hc1 h1
    go_enter Tryz.func93, Tryz.ntmps93
    go_wp2_with fail
    go_ret
    exact ⟨rfl, Below.refl _ _⟩
  | succ n ih =>
    intro v1 c w hl hq hn h1
    obtain ⟨g1, o1, c1, hv1, _, _, hc1⟩ := h1.form
    subst hv1
    have H1 := Lib.hid hc1
    have HQ := Lib.hid hq
    have HL := Lib.hid hl
    have hn1 : 1 ≤ c.length := by omega
    have hcl : c.length ≤ 274877906944 := by omega
    have d0 : ((c.length : Int) == 0) = false := by rw [beq_eq_false_iff_ne]; omega
    obtain ⟨S, hS⟩ : ∃ S, S = detT (fun k => det n (woL c k)) (fun k => ent c 0 k) := ⟨_, rfl⟩
    have HS0 : Hid (S 0 = 0) := Lib.hid (by rw [hS]; rfl)
    have HSn : Hid (∀ k x d, ent c 0 k = x → det n (woL c k) = d → S (k + 1) = wrap64 (S k + detM x d k)) := Lib.hid (by rintro k x d rfl rfl; rw [hS]; rfl)
    have HSe : Hid (det (n + 1) c = S c.length) := Lib.hid (by rw [hS, hl]; rfl)
    have IH := Lib.hid ih
    clear hc1 hq hl hS ih
    go_enter Tryz.func93, Tryz.ntmps93
    go_wp2_with fail
    go_loopw [3, 4] (fun s i wr => ∃ k : Nat, k ≤ c.length ∧ i = .int .i64 k ∧ s = .int .i64 (S k) ∧ Below w.heap.size w wr) (fun _ i _ => c.length - (intOf i).toNat)
    case atStart => exact ⟨0, by omega, rfl, by rw [HS0.out], Below.refl _ _⟩
    case round =>
      obtain ⟨k, hk, rfl, rfl, hbel⟩ := hrel
      by_cases hlt' : k < c.length
      · obtain ⟨gi, oi, ci, x, y1, y2, hx⟩ := II.at H1.out (show 0 < c.length by omega) (show k < c[0].length by rw [HQ.out 0 hn1]; exact hlt')
        rw [Nat.add_zero] at y1
        have x1 := cells_keep hbel y1
        have x2 := cells_keep hbel y2
        have hr0 : Hid (c[0].length = c.length) := Lib.hid (HQ.out 0 hn1)
        have hk0 : (0 : Int) ≤ (k : Int) := by omega
        have hk1 : (k : Int) < (c[0].length : Int) := by rw [hr0.out]; omega
        have hk2 : (0 : Int) < (c.length : Int) := by omega
        have hk2n : 0 < c.length := hn1
        have HPAR : Hid ((((k : Int) % 2 == 1) = true ∧ k % 2 = 1) ∨ (((k : Int) % 2 == 1) = false ∧ k % 2 ≠ 1)) := Lib.hid (by
          by_cases h2 : k % 2 = 1
          · left; refine ⟨?_, h2⟩; rw [beq_iff_eq]; omega
          · right; refine ⟨?_, h2⟩; rw [beq_eq_false_iff_ne]; omega)
        have k1 := h1.keep hbel
        obtain ⟨d, hd⟩ : ∃ d, det n (woL c k) = d := ⟨_, rfl⟩
        have HSk := Lib.hid (HSn.out k x d hx hd)
        have HD := Lib.hid hd
        have hwl : (woL c k).length = n := by rw [woL_length, HL.out]; omega
        have HWL := Lib.hid hwl
        have HWQ := Lib.hid (woL_sq c k HQ.out hlt')
        clear hd hx y1 y2 hwl
        go_wp2_with fail
        go_region_held3 (fun w' => w'.cell? ⟨g1, o1, none⟩ = some (.slice (some ⟨gi, oi, none⟩) c[0].length ci) ∧ w'.cell? ⟨gi, oi + k, none⟩ = some (.int .i64 x)) (first | go_keep | (go_split_ands; exact ⟨cells_keep hbB ‹_›, cells_keep hbB ‹_›⟩) | (go_split_ands; exact ⟨cells_keep hbA ‹_›, cells_keep hbA ‹_›⟩)) ((first | (go_at_call 121; refine (specWithout _ c k HQ.out hn1 hlt' hcl _ (k1.keep (Below.drew (Below.refl _ _)))).mono ?_; rintro e wA ⟨vA, rfl, hownA, hbA⟩) | (go_at_call 93; refine (IH.out _ (woL c k) _ HWL.out HWQ.out (by omega) (hownA.read)).mono ?_; rw [HD.out]; rintro e wB ⟨rfl, hbB⟩)))
        all_goals simp only [wrapE2]
        all_goals (
          have hbel2 := below_trans (below_trans hbel.drew hbA) hbB
          obtain ⟨e1, e2⟩ | ⟨e1, e2⟩ := HPAR.out
          · have HM := Lib.hid (show detM x d k = wrap64 (- wrap64 (x * d)) by rw [detM, if_pos e2])
            clear e2
            go_wp2_with fail
            go_roundw
            case rel => exact ⟨k + 1, by omega, by go_num, by rw [HSk.out, HM.out], hbel2⟩
            case measure => simp [intOf]; omega
          · have HM := Lib.hid (show detM x d k = wrap64 (x * d) by rw [detM, if_neg e2])
            clear e2
            go_wp2_with fail
            go_roundw
            case rel => exact ⟨k + 1, by omega, by go_num, by rw [HSk.out, HM.out], hbel2⟩
            case measure => simp [intOf]; omega)
      · obtain rfl : k = c.length := by omega
        go_wp2_with fail
        go_ret
        exact ⟨ret_int HSe.out.symm, hbel⟩
def detOf (c : List (List Int)) : Int := if isC c then det c.length c else 0
set_option maxHeartbeats 1000000 in
theorem specDeterminantOf (v1 : Value) (c : List (List Int)) (hc : c.length ≤ 274877906944) (w : World) (h1 : II w v1 c) :
    Calls Tryz.prog 40 #[v1] w fun e w' => e = .returned (.int .i64 (detOf c)) ∧ Below w.heap.size w w' := by
  obtain ⟨g1, o1, c1, hv1, _, _, _⟩ := h1.form
  subst hv1
  cases hC : isC c with
  | false =>
    have HF := Lib.hid (show detOf c = 0 by simp [detOf, hC])
    have HC := Lib.hid hC
    clear hC
    go_enter Tryz.func40, Tryz.ntmps40
    go_wp2_with fail
    refine (specIsCartan _ c (by omega) _ h1).mono ?_
    rw [HC.out]
    rintro e w1 ⟨rfl, hb1⟩
    go_wp2_with fail
    go_ret
    exact ⟨ret_int HF.out.symm, hb1⟩
  | true =>
    have HF := Lib.hid (show detOf c = det c.length c by simp [detOf, hC])
    have HQ := Lib.hid (show Sq c from fun k hk => isC_sq hC k hk)
    have HC := Lib.hid hC
    clear hC
    go_enter Tryz.func40, Tryz.ntmps40
    go_wp2_with fail
    refine (specIsCartan _ c (by omega) _ h1).mono ?_
    rw [HC.out]
    rintro e w1 ⟨rfl, hb1⟩
    have k1 := h1.keep hb1
    go_wp2_with fail
    refine (specDet c.length _ c _ rfl HQ.out hc k1).mono ?_
    rintro e w2 ⟨rfl, hb2⟩
    go_wp2_with fail
    go_ret
    exact ⟨ret_int HF.out.symm, below_trans hb1 hb2⟩
end Go.Proofs.YtaikjkcbgniplaaGreatDoor
