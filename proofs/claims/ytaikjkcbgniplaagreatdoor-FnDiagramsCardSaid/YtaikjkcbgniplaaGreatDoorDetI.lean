/- The determinant of the program. -/
import Derived.Test.YtaikjkcbgniplaaGreatDoorDet
namespace Go.Proofs.YtaikjkcbgniplaaGreatDoor
open Go.RowKit
set_option linter.unusedVariables false

def sgn (k : Nat) : Int := if k % 2 = 1 then -1 else 1
theorem sgn_next (k : Nat) : wrap64 (- sgn k) = sgn (k + 1) := by
  unfold sgn wrap64
  by_cases h : k % 2 = 1
  · rw [if_pos h, if_neg (by omega)]; decide
  · rw [if_neg h, if_pos (by omega)]; decide
theorem detM_sgn (x d : Int) (k : Nat) : detM x d k = wrap64 (wrap64 (sgn k * x) * d) := by
  unfold detM sgn
  by_cases h : k % 2 = 1
  · rw [if_pos h, if_pos h, wrap64_neg, wrap64_mull, Int.neg_one_mul, Int.neg_mul]
  · rw [if_neg h, if_neg h, wrap64_mull, Int.one_mul]
theorem detM_zero (d : Int) (k : Nat) : detM 0 d k = 0 := by
  unfold detM
  rw [Int.zero_mul]
  split <;> simp [wrap64]
set_option maxHeartbeats 4000000 in
theorem implDet : ∀ (n : Nat) (v1 : Value) (c : List (List Int)) (w : World), c.length = n → Sq c → n ≤ 274877906944 → II w v1 c →
    Calls Tryz.prog 81 #[v1] w fun e w' => e = .returned (.int .i64 (det n c)) ∧ Below w.heap.size w w' := by
  intro n
  induction n with
  | zero =>
    intro v1 c w hl hq hn h1
    obtain ⟨g1, o1, c1, hv1, _, _, hc1⟩ := h1.form
    subst hv1
    have d0 : ((c.length : Int) == 0) = true := by rw [beq_iff_eq]; omega
    clear hl hc1 h1
    go_enter Tryz.func81, Tryz.ntmps81
    go_wp2_with fail
    go_ret
    exact ⟨rfl, Below.refl _ _⟩
  | succ n ih =>
    intro v1 c w hl hq hn h1
    obtain ⟨g1, o1, c1, hv1, hcc, hcm, hc1⟩ := h1.form
    subst hv1
    have H1 := Lib.hid hc1
    have HQ := Lib.hid hq
    have HL := Lib.hid hl
    have hn1 : 1 ≤ c.length := by omega
    have hcl : c.length ≤ 274877906944 := by omega
    have d0 : ((c.length : Int) == 0) = false := by rw [beq_eq_false_iff_ne]; omega
    obtain ⟨S, hS⟩ : ∃ S, S = detT (fun k => det n (woL c k)) (fun k => ent c 0 k) := ⟨_, rfl⟩
    have HS0 : Hid (S 0 = 0) := Lib.hid (by rw [hS]; rfl)
    have HSz : Hid (∀ k, ent c 0 k = 0 → S (k + 1) = S k) := Lib.hid (by intro k hx; rw [hS]; show wrap64 (detT _ _ k + detM (ent c 0 k) _ k) = _; rw [hx, detM_zero, Int.add_zero, detT_wrap])
    have HSn : Hid (∀ k x d, ent c 0 k = x → det n (woL c k) = d → S (k + 1) = wrap64 (S k + wrap64 (wrap64 (sgn k * x) * d))) := Lib.hid (by rintro k x d rfl rfl; rw [hS, ← detM_sgn]; rfl)
    have HSe : Hid (det (n + 1) c = S c.length) := Lib.hid (by rw [hS, hl]; rfl)
    have IH := Lib.hid ih
    obtain ⟨gi, oi, ci, x0, z1, _, _⟩ := II.at H1.out (show 0 < c.length by omega) (show 0 < c[0].length by rw [HQ.out 0 hn1]; exact hn1)
    rw [Nat.add_zero] at z1
    have hr0 := Lib.hid (HQ.out 0 hn1)
    obtain ⟨L0, hL0⟩ : ∃ L0, c[0].length = L0 := ⟨_, rfl⟩
    rw [hL0] at z1 hr0
    have HL0 := Lib.hid hL0
    have hk2n : 0 < c.length := hn1
    have hk2 : (0 : Int) < (c.length : Int) := by omega
    clear hc1 hq hl hS ih hL0
    go_enter Tryz.func81, Tryz.ntmps81
    go_wp2_with fail
    go_loopw [3, 4, 17] (fun s q i wr => ∃ k : Nat, k ≤ L0 ∧ i = .int .i64 k ∧ s = .int .i64 (S k) ∧ q = .int .i64 (sgn k) ∧ Below w.heap.size w wr) (fun _ _ i _ => L0 - (intOf i).toNat)
    case atStart => exact ⟨0, by omega, rfl, by rw [HS0.out], rfl, Below.refl _ _⟩
    case round =>
      obtain ⟨k, hk, rfl, rfl, rfl, hbel⟩ := hrel
      by_cases hlt0 : k < L0
      · have hlt' : k < c.length := by have := hr0.out; omega
        obtain ⟨gi', oi', ci', x, y1, y2, hx⟩ := II.at H1.out (show 0 < c.length by omega) (show k < c[0].length by rw [HQ.out 0 hn1]; exact hlt')
        rw [Nat.add_zero, z1] at y1
        obtain ⟨rfl, rfl⟩ : gi' = gi ∧ oi' = oi := by cases y1; exact ⟨rfl, rfl⟩
        have x2 := cells_keep hbel y2
        have hk0 : (0 : Int) ≤ (k : Int) := by omega
        have hk1 : (k : Int) < (L0 : Int) := by omega
        have HSG := Lib.hid (sgn_next k)
        obtain ⟨q, hq⟩ : ∃ q, sgn k = q := ⟨_, rfl⟩
        by_cases hxz : x = 0
        · have dx : (x != 0) = false := by rw [bne_eq_false_iff_eq]; exact hxz
          have HS1 := Lib.hid (HSz.out k (by rw [hx, hxz]))
          rw [hq] at HSG
          rw [hq]
          clear hxz hx hq y1 y2
          go_wp2_with fail
          go_roundw
          case rel => exact ⟨k + 1, by omega, by go_num, by rw [HS1.out], by rw [HSG.out], hbel⟩
          case measure => simp [intOf]; omega
        · have dx : (x != 0) = true := by rw [bne_iff_ne]; exact hxz
          obtain ⟨d, hd⟩ : ∃ d, det n (woL c k) = d := ⟨_, rfl⟩
          have HSk := Lib.hid (HSn.out k x d hx hd)
          have HD := Lib.hid hd
          have HWL := Lib.hid (show (woL c k).length = n by rw [woL_length, HL.out]; omega)
          have HWQ := Lib.hid (woL_sq c k HQ.out hlt')
          rw [hq] at HSG HSk
          rw [hq]
          clear hxz hx hq y1 y2 hd
          obtain ⟨wo, rfl⟩ : ∃ wo : World, wo = wr := ⟨_, rfl⟩
          by_cases hc11 : c1 = 1
          · subst hc11
            go_wp2_with fail
            go_loopw [7, 28] (fun y i wr => ∃ p : Nat, p ≤ c.length - 1 ∧ i = .int .i64 p ∧ RowsV wr wo.heap.size wr.heap.size y ((woL c k).take p) ∧ Below wo.heap.size wo wr) (fun _ i _ => c.length - 1 - (intOf i).toNat)
            case atStart =>
              obtain ⟨gs, vs, q1, q2, q3, q4⟩ := rowsV_empty wo
              exact ⟨0, by omega, rfl, ⟨gs, vs, q1, q2, fun g hg => by have := q3 g hg; omega, q4⟩, (Below.refl _ _).alloc (Nat.le_refl _) _⟩
            case round =>
              obtain ⟨p, hp, rfl, hR, hbi⟩ := hrel
              by_cases hlp : p < c.length - 1
              · skip
                exfalso; omega
              · have hpe : p + 1 = c.length := by omega
                have HF := Lib.hid (woL_end c k p hpe)
                rw [HF.out] at hR
                have hown := hR.own2 (Nat.le_refl _)
                clear hpe
                go_wp2_with fail
                refine (IH.out _ (woL c k) _ HWL.out HWQ.out (by omega) hown.read).mono ?_
                rw [HD.out]
                rintro e wB ⟨rfl, hbB⟩
                have hbel2 := below_trans (below_trans hbel hbi) hbB
                go_wp2_with fail
                go_roundw
                case rel => exact ⟨k + 1, by omega, by go_num, by rw [HSk.out], by rw [HSG.out], hbel2⟩
                case measure => simp [intOf]; omega
          · skip
            go_wp2_with fail
            go_loopw [7, 28] (fun y i wr => ∃ p : Nat, p ≤ c.length - 1 ∧ i = .int .i64 p ∧ RowsV wr wo.heap.size wr.heap.size y ((woL c k).take p) ∧ Below wo.heap.size wo wr) (fun _ i _ => c.length - 1 - (intOf i).toNat)
            case atStart =>
              obtain ⟨gs, vs, q1, q2, q3, q4⟩ := rowsV_empty wo
              exact ⟨0, by omega, rfl, ⟨gs, vs, q1, q2, fun g hg => by have := q3 g hg; omega, q4⟩, (Below.refl _ _).alloc (Nat.le_refl _) _⟩
            case round =>
              obtain ⟨p, hp, rfl, hR, hbi⟩ := hrel
              by_cases hlp : p < c.length - 1
              · skip
                obtain ⟨r, y1, i1⟩ := H1.out (p + 1) (by omega)
                obtain ⟨rr, hrr⟩ : ∃ rr, c[p + 1]'(by omega) = rr := ⟨_, rfl⟩
                have HSS : Hid ((woL c k).take (p + 1) = (woL c k).take p ++ [rr.eraseIdx k]) := Lib.hid (by rw [woL_snoc c k p (by omega), hrr])
                have hKK : Hid (((woL c k).take p).length = p) := Lib.hid (by rw [List.length_take, woL_length]; omega)
                have hrl' : Hid (rr.length = c.length) := Lib.hid (by rw [← hrr]; exact HQ.out (p + 1) (by omega))
                rw [hrr] at i1
                obtain ⟨gj, oj, cj, rfl, hjc, hjm, q1⟩ := i1.form
                have Q1 := Lib.hid q1
                have hbel2 := below_trans hbel hbi
                have a1 : wr.cell? ⟨g1, o1 + 1 + p, none⟩ = some (.slice (some ⟨gj, oj, none⟩) rr.length cj) := by rw [show o1 + 1 + p = o1 + (p + 1) by omega]; exact cells_keep hbel2 y1
                have hkr : k < rr.length := by rw [hrl'.out]; exact hlt'
                have hrb : rr.length ≤ 274877906944 := by rw [hrl'.out]; exact hcl
                have HT : Hid (∀ i (hi : i < (rr.take k).length), w.cell? ⟨gj, oj + i, none⟩ = some (.int .i64 (rr.take k)[i])) := Lib.hid (fun i hi => by
                  rw [List.getElem_take]; exact Q1.out i (by simp at hi; omega))
                have HDp : Hid (∀ i (hi : i < (rr.drop (k + 1)).length), w.cell? ⟨gj, oj + (k + 1) + i, none⟩ = some (.int .i64 (rr.drop (k + 1))[i])) := Lib.hid (fun i hi => by
                  rw [List.getElem_drop, show oj + (k + 1) + i = oj + (k + 1 + i) by omega]; exact Q1.out (k + 1 + i) (by simp at hi; omega))
                obtain ⟨gs, vs, q1', q2, q3, q4⟩ := hR
                replace q1' : RowV wr wo.heap.size 27 u7 p vs := q1'.cast rfl hKK.out rfl
                clear i1 q1 hrr y1
                have hk3 : (0 : Int) ≤ (p : Int) := by omega
                have hk4 : (p : Int) < ((c.length - 1 : Nat) : Int) := by omega
                have hk5 : (k : Int) + 1 ≤ (rr.length : Int) := by omega
                have hk6 : (k : Int) ≤ (cj : Int) := by omega
                have hk7 : ((k : Int) + 1).toNat = k + 1 := by omega
                have hk8 : (k : Int) ≤ (rr.length : Int) := by omega
                have hk9 : IntKind.i64.wrap ((k : Int) + 1) = ((k + 1 : Nat) : Int) := by rw [IntKind.wrap_i64]; omega
                go_wp2_with fail
                by_cases hcj : cj = k + 1
                · subst hcj
                  have hle : rr.length ≤ k + 1 := hjc
                  have hG : (k : Int) ≤ (k : Int) + 1 := by omega
                  have hG2 : ¬ ((k : Int) + 1 < (k : Int)) := by omega
                  have hG3 : decide ((k : Int) ≤ (k : Int) + 1) = true := by rw [decide_eq_true_iff]; omega
                  have hlen : rr.length - (k + 1) = 0 := by omega
                  have hkA : k + 1 ≤ rr.length := by omega
                  have hkB : (0 : Int) ≤ (k : Int) + 1 := by omega
                  have hkC : k ≤ k + 1 := by omega
                  have hkD : k + 1 ≤ k + 1 := by omega
                  have hkE : ((k + 1 : Nat) : Int) ≤ (rr.length : Int) := by omega
                  have HE0 := Lib.hid (show rr.eraseIdx k = rr.take k by rw [List.eraseIdx_eq_take_drop_succ, List.drop_of_length_le hle, List.append_nil])
                  go_region_held3 (fun _ => True) (trivial) ((first | (refine step_appendV elemInt _ (by rfl) _ _ (by rfl) wr.heap.size (.slice (some ⟨wr.heap.size, 0, none⟩) 0 0) 0 [] (by rfl) ((rowV_empty wr _).drew) (ivs (rr.take k)) gj oj k (k + 1) (by rfl) (by rw [ivs_length, List.length_take]; omega) (cells_after HT.out ((hbel2.alloc hbel2.size _).drew)) (ivs_one _) (by omega) (by simp) ?_; intro gA capA wA hrowA hgrowA hbA) | (refine step_appendV elemInt _ (by rfl) _ _ (by rfl) wr.heap.size (.slice (some ⟨gA, 0, none⟩) (0 + k) capA) (0 + k) ([] ++ ivs (rr.take k)) (by rfl) hrowA (ivs []) gj oj 0 0 (by rfl) (by rfl) (fun i u h => by simp [ivs] at h) (ivs_one _) (by omega) (by have := hbA.size; simp at this; omega) ?_; intro gB capB wB hrowB hgrowB hbB) | (refine step_pushV elemRow _ (by rfl) _ _ (by rfl) wo.heap.size u7 p vs (by rfl) ((q1'.keep (((((Below.refl wr.heap.size wr).alloc (Nat.le_refl _) _).drew).trans hbA).trans hbB)).alloc _) (.slice (some ⟨gB, 0, none⟩) k capB) wB.heap.size (by rfl) (cell_new1 _ _ _) (by rfl) (by omega) (Nat.le_trans hbi.size (Nat.le_trans (((((Below.refl wr.heap.size wr).alloc (Nat.le_refl _) _).drew).trans hbA).trans hbB).size (below_new wB _).size)) ?_; intro gC capC wC hrowC hgrowC hbC)))
                  all_goals (
                    have hT := ((((Below.refl wr.heap.size wr).alloc (Nat.le_refl _) (.cells #[] 3)).drew).trans hbA).trans hbB
                    have hbiB := below_trans hbi hT
                    have hrowB2 : RowV wB wr.heap.size 3 (.slice (some ⟨gB, 0, none⟩) k capB) _ _ := hrowB.cast (by rw [Nat.zero_add]; rfl) rfl rfl
                    obtain ⟨gx, hgx, hown⟩ := hrowB2.own
                    have hown2 : Own wB gx (.slice (some ⟨gB, 0, none⟩) k capB) (rr.eraseIdx k) := by
                      rw [List.nil_append, show ivs [] = [] from rfl, List.append_nil] at hown
                      rw [HE0.out]
                      exact hown
                    have hs0 := hbi.size
                    have HPP := Lib.hid (rowsV_push (w := wB) (w1 := wC) (B := wo.heap.size) (hi := wr.heap.size) ((q1'.keep hT).cast rfl hKK.out.symm rfl) (q2.keep hT) q3 q4 hown2 hgx (by omega) hgrowC (hrowC.cast rfl (by rw [hKK.out]) rfl))
                    have hbF := (hbiB.alloc hbiB.size _).trans hbC
                    clear hrowA hrowB hrowB2 hown hown2 hrowC hgrowA hgrowB hgrowC q1' q2 q3 q4 hbA hbB hbC
                    go_wp2_with fail
                    go_roundw
                    case rel => exact ⟨p + 1, by omega, by go_num, by rw [HSS.out]; exact HPP.out, hbF⟩
                    case measure => simp [intOf]; omega)
                · have hcj2 : ¬ cj ≤ k + 1 := by omega
                  have hcj3 : ¬ cj - (k + 1) = 0 := by omega
                  have hkA : k + 1 ≤ rr.length := by omega
                  have hkB : (0 : Int) ≤ (k : Int) + 1 := by omega
                  have hkC : k ≤ cj := by omega
                  have hkD : k + 1 ≤ cj := by omega
                  have hkE : ((k + 1 : Nat) : Int) ≤ (rr.length : Int) := by omega
                  have hkF : (rr.length : Int) ≤ (cj : Int) := by omega
                  go_region_held3 (fun _ => True) (trivial) ((first | (refine step_appendV elemInt _ (by rfl) _ _ (by rfl) wr.heap.size (.slice (some ⟨wr.heap.size, 0, none⟩) 0 0) 0 [] (by rfl) ((rowV_empty wr _).drew) (ivs (rr.take k)) gj oj k cj (by rfl) (by rw [ivs_length, List.length_take]; omega) (cells_after HT.out ((hbel2.alloc hbel2.size _).drew)) (ivs_one _) (by omega) (by simp) ?_; intro gA capA wA hrowA hgrowA hbA) | (refine step_appendV elemInt _ (by rfl) _ _ (by rfl) wr.heap.size (.slice (some ⟨gA, 0, none⟩) (0 + k) capA) (0 + k) ([] ++ ivs (rr.take k)) (by rfl) hrowA (ivs (rr.drop (k + 1))) gj (oj + (k + 1)) (rr.length - (k + 1)) (cj - (k + 1)) (by rfl) (by rw [ivs_length, List.length_drop]) (cells_after HDp.out (((hbel2.alloc hbel2.size _).drew).trans (hbA.mono hbel2.size))) (ivs_one _) (by omega) (by have := hbA.size; simp at this; omega) ?_; intro gB capB wB hrowB hgrowB hbB) | (refine step_pushV elemRow _ (by rfl) _ _ (by rfl) wo.heap.size u7 p vs (by rfl) ((q1'.keep (((((Below.refl wr.heap.size wr).alloc (Nat.le_refl _) _).drew).trans hbA).trans hbB)).alloc _) (.slice (some ⟨gB, 0, none⟩) (k + (rr.length - (k + 1))) capB) wB.heap.size (by rfl) (cell_new1 _ _ _) (by rfl) (by omega) (Nat.le_trans hbi.size (Nat.le_trans (((((Below.refl wr.heap.size wr).alloc (Nat.le_refl _) _).drew).trans hbA).trans hbB).size (below_new wB _).size)) ?_; intro gC capC wC hrowC hgrowC hbC)))
                  all_goals (
                    have hT := ((((Below.refl wr.heap.size wr).alloc (Nat.le_refl _) (.cells #[] 3)).drew).trans hbA).trans hbB
                    have hbiB := below_trans hbi hT
                    have hrowB2 : RowV wB wr.heap.size 3 (.slice (some ⟨gB, 0, none⟩) (k + (rr.length - (k + 1))) capB) _ _ := hrowB.cast (by rw [Nat.zero_add]) rfl rfl
                    obtain ⟨gx, hgx, hown⟩ := hrowB2.own
                    have hown2 : Own wB gx (.slice (some ⟨gB, 0, none⟩) (k + (rr.length - (k + 1))) capB) (rr.eraseIdx k) := by
                      rw [List.nil_append, ← ivs_append, ← List.eraseIdx_eq_take_drop_succ] at hown
                      exact hown
                    have hs0 := hbi.size
                    have HPP := Lib.hid (rowsV_push (w := wB) (w1 := wC) (B := wo.heap.size) (hi := wr.heap.size) ((q1'.keep hT).cast rfl hKK.out.symm rfl) (q2.keep hT) q3 q4 hown2 hgx (by omega) hgrowC (hrowC.cast rfl (by rw [hKK.out]) rfl))
                    have hbF := (hbiB.alloc hbiB.size _).trans hbC
                    clear hrowA hrowB hrowB2 hown hown2 hrowC hgrowA hgrowB hgrowC q1' q2 q3 q4 hbA hbB hbC
                    go_wp2_with fail
                    go_roundw
                    case rel => exact ⟨p + 1, by omega, by go_num, by rw [HSS.out]; exact HPP.out, hbF⟩
                    case measure => simp [intOf]; omega)
              · have hpe : p + 1 = c.length := by omega
                have HF := Lib.hid (woL_end c k p hpe)
                rw [HF.out] at hR
                have hown := hR.own2 (Nat.le_refl _)
                clear hpe
                go_wp2_with fail
                refine (IH.out _ (woL c k) _ HWL.out HWQ.out (by omega) hown.read).mono ?_
                rw [HD.out]
                rintro e wB ⟨rfl, hbB⟩
                have hbel2 := below_trans (below_trans hbel hbi) hbB
                go_wp2_with fail
                go_roundw
                case rel => exact ⟨k + 1, by omega, by go_num, by rw [HSk.out], by rw [HSG.out], hbel2⟩
                case measure => simp [intOf]; omega
      · obtain rfl : k = L0 := by omega
        have HF := Lib.hid (show det (n + 1) c = S k by rw [HSe.out, hr0.out])
        go_wp2_with fail
        go_ret
        exact ⟨ret_int HF.out.symm, hbel⟩
set_option maxHeartbeats 1000000 in
theorem implDeterminantOf (v1 : Value) (c : List (List Int)) (hc : c.length ≤ 274877906944) (w : World) (h1 : II w v1 c) :
    Calls Tryz.prog 39 #[v1] w fun e w' => e = .returned (.int .i64 (detOf c)) ∧ Below w.heap.size w w' := by
  obtain ⟨g1, o1, c1, hv1, _, _, _⟩ := h1.form
  subst hv1
  cases hC : isC c with
  | false =>
    have HF := Lib.hid (show detOf c = 0 by simp [detOf, hC])
    have HC := Lib.hid hC
    clear hC
    go_enter Tryz.func39, Tryz.ntmps39
    go_wp2_with fail
    refine (implIsCartan _ c (by omega) _ h1).mono ?_
    rw [HC.out]
    rintro e w1 ⟨rfl, hb1⟩
    go_wp2_with fail
    go_ret
    exact ⟨ret_int HF.out.symm, hb1⟩
  | true =>
    have HF := Lib.hid (show detOf c = det c.length c by simp [detOf, hC])
    have HQ := Lib.hid (show Sq c from fun k hk => isC_sq hC k hk)
    have HC := Lib.hid hC
    clear hC
    go_enter Tryz.func39, Tryz.ntmps39
    go_wp2_with fail
    refine (implIsCartan _ c (by omega) _ h1).mono ?_
    rw [HC.out]
    rintro e w1 ⟨rfl, hb1⟩
    have k1 := h1.keep hb1
    go_wp2_with fail
    refine (implDet c.length _ c _ rfl HQ.out hc k1).mono ?_
    rintro e w2 ⟨rfl, hb2⟩
    go_wp2_with fail
    go_ret
    exact ⟨ret_int HF.out.symm, below_trans hb1 hb2⟩
end Go.Proofs.YtaikjkcbgniplaaGreatDoor
