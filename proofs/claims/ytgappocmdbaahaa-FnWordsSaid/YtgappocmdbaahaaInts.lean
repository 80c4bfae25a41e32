/- The law's own helpers on slices of numbers (copy, compare, mark, look whether the marks are held): what they do, for slices of at most 2^40 elements. -/
import Derived.Test.YtgappocmdbaahaaLib
import Derived.Deep.QuietTactic
import Derived.BigQuiet
namespace Go.Proofs.Ytgappocmdbaahaa
open Go.RowKit

theorem Try.infoInt : (Try.prog.info? 3).map (fun i => (i.zero, i.size, i.bytes)) = some (some (.int .i64 0), 1, 8) := by kernel_rfl

theorem own_of_rowIs {w : World} {b n : Nat} {f : Nat → Value} {xs : List Value} (h : w.rowIs b 3 n f) (hx : xs.length = n) (hm : n ≤ maxLen) (hf : ∀ i (hi : i < xs.length), f i = xs[i]) : OwnV w 3 b (.slice (some ⟨b, 0, none⟩) n n) xs := by
  obtain ⟨c, hb, hn, hc⟩ := h
  subst hx
  refine ⟨c.size, c, by rw [hn], hb, by omega, by omega, rfl, ?_⟩
  apply List.ext_getElem?
  intro i
  by_cases hi : i < xs.length
  · rw [List.getElem?_take, if_pos hi, List.getElem?_eq_getElem hi, ← hf i hi, ← hc i (by omega)]
    simp
  · rw [List.getElem?_eq_none (by simp; omega), List.getElem?_eq_none (by omega)]

set_option maxHeartbeats 400000 in
theorem toIntS (a : Option Addr) (cap : Nat) (zs : List Int) (hz : zs.length ≤ 1048576) (w : World) (h : ArgI w a cap zs) :
    Calls Try.prog 11 #[.slice a zs.length cap] w (RetInts w zs) := by
  obtain ⟨hcap, hmax, _, hcell⟩ := h
  have HC := Lib.hid hcell
  clear hcell
  have hmk := run_make_row' (P := Try.prog) 22 3 (.int .i64 0) 8 Try.underlying22 Try.infoInt rfl .i64 .i64 zs.length (by omega) (by omega)
  go_enter Try.func11, Try.ntmps11
  go_wp2_with fail
  clear hmk
  go_loopw [4] (fun i wr => ∃ k : Nat, k ≤ zs.length ∧ i = .int .i64 k ∧ Hid (wr.rowIs w.heap.size 3 zs.length (fun j => if j < k then .int .i64 (zs.getD j 0) else .int .i64 0)) ∧ Below w.heap.size w wr) (fun i _ => zs.length - (intOf i).toNat)
  case atStart => exact ⟨0, by omega, rfl, (World.rowIs_made w _ _ _).congr (fun i hi => by rw [if_neg (by omega)]), (Below.refl _ _).alloc (Nat.le_refl _) _⟩
  case round =>
    obtain ⟨k, hk, rfl, HR, hbel⟩ := hrel
    by_cases hlt' : k < zs.length
    · obtain ⟨x, rfl, hx⟩ := HC.out k hlt'
      have hx2 : wr.cell? (x.add k) = some (.int .i64 zs[k]) := (hbel.cell (World.block_lt_of_cell? w _ hx)).trans hx
      have hcell := HR.out.cell (i := k) hlt'
      rw [if_neg (by omega)] at hcell
      have hfr := HR.out.frozen k
      clear hx
      go_wp2_with fail
      go_roundw
      case rel =>
        refine ⟨k + 1, by omega, by go_num, (HR.out.set k _).congr ?_, hbel.setCell (Nat.le_refl _) _⟩
        intro j hj
        by_cases e : j = k
        · subst e
          rw [if_pos rfl, if_pos (by omega)]
          simp [hlt']
        · rw [if_neg e]
          by_cases e2 : j < k
          · rw [if_pos e2, if_pos (by omega)]
          · rw [if_neg e2, if_neg (by omega)]
      case measure => simp [intOf]; omega
    · obtain rfl : k = zs.length := by omega
      go_wp2_with fail
      go_ret
      refine ⟨_, w.heap.size, rfl, Nat.le_refl _, own_of_rowIs (xs := ivs zs) HR.out (ivs_length zs) (by unfold maxLen; omega) (fun i hi => ?_), hbel⟩
      rw [ivs_length] at hi
      rw [if_pos hi]
      simp [ivs, hi]
def eqI (a b : List Int) : Bool := a == b
theorem eqI_true {a b : List Int} (h : eqI a b = true) : a = b := by simpa [eqI] using h
theorem eqI_refl (a : List Int) : eqI a a = true := by simp [eqI]

set_option maxHeartbeats 400000 in
theorem eqIntS (v1 v2 : Value) (a b : List Int) (ha : a.length ≤ 1099511627776) (w : World) (h1 : I w v1 a) (h2 : I w v2 b) :
    Calls Try.prog 13 #[v1, v2] w fun e w' => e = .returned (.bool (eqI a b)) ∧ Below w.heap.size w w' := by
  obtain ⟨g1, o1, c1, rfl, _, _, hc1⟩ := h1.form
  obtain ⟨g2, o2, c2, rfl, _, _, hc2⟩ := h2.form
  have H1 := Lib.hid hc1
  have H2 := Lib.hid hc2
  clear hc1 hc2 h1 h2
  by_cases hl : a.length = b.length
  · have hL := Lib.hid hl
    have dl : ((a.length : Int) != (b.length : Int)) = false := by rw [bne_eq_false_iff_eq]; omega
    clear hl
    go_enter Try.func13, Try.ntmps13
    go_wp2_with fail
    go_loopw [5] (fun i wr => ∃ k : Nat, k ≤ a.length ∧ i = .int .i64 k ∧ Below w.heap.size w wr ∧ Hid (∀ j (h1 : j < a.length) (h2 : j < b.length), j < k → a[j] = b[j])) (fun i _ => a.length - (intOf i).toNat)
    case atStart => exact ⟨0, by omega, rfl, Below.refl _ _, fun j _ _ h => absurd h (Nat.not_lt_zero j)⟩
    case round =>
      obtain ⟨k, hk, rfl, hbel, HE⟩ := hrel
      by_cases hlt' : k < a.length
      · have hlt2 : k < b.length := by have := hL.out; omega
        have x1 := (hbel.cell (World.block_lt_of_cell? w _ (H1.out k hlt'))).trans (H1.out k hlt')
        have x2 := (hbel.cell (World.block_lt_of_cell? w _ (H2.out k hlt2))).trans (H2.out k hlt2)
        have hk0 : (0 : Int) ≤ (k : Int) := by omega
        have hk1 : (k : Int) < (a.length : Int) := by omega
        have hk2 : (k : Int) < (b.length : Int) := by omega
        by_cases he : a[k] = b[k]
        · have hb : ((a[k] : Int) != (b[k] : Int)) = false := by rw [bne_eq_false_iff_eq]; exact he
          have HK := Lib.hid he
          clear he
          go_wp2_with fail
          go_region_held3 (fun w' => w'.cell? ⟨g1, o1 + k, none⟩ = some (.int .i64 a[k]) ∧ w'.cell? ⟨g2, o2 + k, none⟩ = some (.int .i64 b[k])) (go_keep) (fail)
          go_wp2_with fail
          go_roundw
          case rel =>
            refine ⟨k + 1, by omega, by go_num, hbel.drew, fun j q1 q2 hj => ?_⟩
            by_cases e : j = k
            · subst e; exact HK.out
            · exact HE.out j q1 q2 (by omega)
          case measure => simp [intOf]; omega
        · have hb : ((a[k] : Int) != (b[k] : Int)) = true := by rw [bne_iff_ne]; exact he
          have HK := Lib.hid he
          clear he
          go_wp2_with fail
          go_region_held3 (fun w' => w'.cell? ⟨g1, o1 + k, none⟩ = some (.int .i64 a[k]) ∧ w'.cell? ⟨g2, o2 + k, none⟩ = some (.int .i64 b[k])) (go_keep) (fail)
          go_wp2_with fail
          go_ret
          refine ⟨ret_bool ?_, hbel.drew⟩
          symm
          rw [eqI, beq_eq_false_iff_ne]
          intro e
          subst e
          exact HK.out rfl
      · obtain rfl : k = a.length := by omega
        go_wp2_with fail
        go_ret
        refine ⟨ret_bool ?_, hbel⟩
        symm
        rw [eqI, beq_iff_eq]
        exact List.ext_getElem hL.out (fun j q1 q2 => HE.out j q1 q2 q1)
  · have dl : ((a.length : Int) != (b.length : Int)) = true := by rw [bne_iff_ne]; omega
    have hL := Lib.hid hl
    clear hl
    go_enter Try.func13, Try.ntmps13
    go_wp2_with fail
    go_ret
    refine ⟨ret_bool ?_, Below.refl _ _⟩
    symm
    rw [eqI, beq_eq_false_iff_ne]
    intro e
    subst e
    exact hL.out rfl
/-- k, k + 1, .. -/
def seqI (k n : Nat) : List Int := (List.range n).map fun i => ((k + i : Nat) : Int)
theorem seqI_length (k n : Nat) : (seqI k n).length = n := by simp [seqI]
theorem seqI_get (k n i : Nat) (h : i < (seqI k n).length) : (seqI k n)[i] = ((k + i : Nat) : Int) := by simp [seqI]
theorem seqI_zero (k : Nat) : seqI k 0 = [] := rfl
theorem seqI_succ (k n : Nat) : seqI k (n + 1) = seqI k n ++ [((k + n : Nat) : Int)] := by simp [seqI, List.range_succ]
theorem mark_step (k j : Nat) (zs : List Int) (h : j < zs.length) : (ivs (seqI k j ++ zs.drop j)).set j (.int .i64 ((k + j : Nat) : Int)) = ivs (seqI k (j + 1) ++ zs.drop (j + 1)) := by
  have e : ∀ (l : List Int) (i : Nat) (x : Int), (ivs l).set i (.int .i64 x) = ivs (l.set i x) := by
    intro l i x; rw [ivs, ivs, List.map_set]
  rw [e, seqI_succ, List.append_assoc, List.set_append_right _ _ (by rw [seqI_length]; omega), seqI_length, Nat.sub_self]
  rw [List.drop_eq_getElem_cons h, List.set_cons_zero]
  rfl

set_option maxHeartbeats 400000 in
theorem markIntS (v : Value) (g : Nat) (zs : List Int) (k : Nat) (hk : k + zs.length ≤ 1099511627776) (w : World) (h : Own w g v zs) :
    Calls Try.prog 14 #[v, .int .i64 k] w fun e w' => e = .returned (.int .i64 ((k + zs.length : Nat) : Int)) ∧ Own w' g v (seqI k zs.length) ∧ Chg (· = g) w w' := by
  obtain ⟨cap, rfl, _⟩ := OwnV.form h
  rw [ivs_length] at h ⊢
  have H0 := Lib.hid h
  clear h
  go_enter Try.func14, Try.ntmps14
  go_wp2_with fail
  go_loopw [1, 5] (fun x i wr => ∃ j : Nat, j ≤ zs.length ∧ i = .int .i64 j ∧ x = .int .i64 ((k : Int) + j) ∧ Hid (Own wr g (.slice (some ⟨g, 0, none⟩) zs.length cap) (seqI k j ++ zs.drop j)) ∧ Chg (· = g) w wr) (fun _ i _ => zs.length - (intOf i).toNat)
  case atStart => exact ⟨0, by omega, rfl, by simp, H0.out, Chg.refl _ _⟩
  case round =>
    obtain ⟨j, hj, rfl, rfl, HO, hchg⟩ := hrel
    by_cases hlt' : j < zs.length
    · have hl : (seqI k j ++ zs.drop j).length = zs.length := by simp [seqI_length]; omega
      obtain ⟨⟨u, hcell⟩, hfr⟩ := OwnV.slot HO.out (i := j) (by rw [ivs_length, hl]; exact hlt')
      clear hl
      go_wp2_with fail
      go_roundw
      case rel =>
        refine ⟨j + 1, by omega, by go_num, by go_num, ?_, hchg.trans (chg_set _ _ _ _)⟩
        have hs := OwnV.set HO.out j (.int .i64 ((k + j : Nat) : Int))
        rw [mark_step k j zs hlt'] at hs
        exact hs
      case measure => simp [intOf]; omega
    · obtain rfl : j = zs.length := by omega
      rw [List.drop_length, List.append_nil] at HO
      go_wp2_with fail
      go_ret
      exact ⟨ret_int (by omega), HO.out, hchg⟩
set_option maxHeartbeats 400000 in
theorem heldIntS (v : Value) (k n : Nat) (hk : k + n ≤ 1099511627776) (w : World) (h : I w v (seqI k n)) :
    Calls Try.prog 15 #[v, .int .i64 k] w fun e w' => e = .returned (.int .i64 ((k + n : Nat) : Int)) ∧ w = w' := by
  obtain ⟨g, o, cap, rfl, _, _, hc⟩ := h.form
  have H := Lib.hid hc
  clear hc h
  rw [seqI_length]
  go_enter Try.func15, Try.ntmps15
  go_wp2_with fail
  go_loop [1, 5] (fun x i => ∃ j : Nat, j ≤ n ∧ i = .int .i64 j ∧ x = .int .i64 ((k : Int) + j)) (fun _ i => n - (intOf i).toNat)
  case atStart => exact ⟨0, by omega, rfl, by simp⟩
  case round =>
    obtain ⟨j, hj, rfl, rfl⟩ := hrel
    by_cases hlt' : j < n
    · have hcell := H.out j (by rw [seqI_length]; exact hlt')
      rw [seqI_get] at hcell
      have hcell' : w.cell? ⟨g, o + j, none⟩ = some (.int .i64 ((k : Int) + j)) := by rw [hcell]; go_num
      clear hcell
      go_wp2_with fail
      go_round
      case rel => exact ⟨j + 1, by omega, by go_num, by go_num⟩
      case measure => simp [intOf]; omega
    · obtain rfl : j = n := by omega
      go_wp2_with fail
      go_ret
      exact ⟨ret_int (by omega), rfl⟩
theorem markI (v : Value) (lo hi : Nat) (zs : List Int) (q : Int) (k : Nat) (w : World) (h : Own1 w lo hi v zs) (hq : q = k) (hk : k + zs.length ≤ 1099511627776) :
    Calls Try.prog 14 #[v, .int .i64 q] w fun e w' => e = .returned (.int .i64 (q + zs.length)) ∧ Own1 w' lo hi v (seqI k zs.length) ∧ Chg (fun k => lo ≤ k ∧ k < hi) w w' ∧ w.heap.size ≤ w'.heap.size := by
  subst hq
  obtain ⟨g, h1, h2, ho⟩ := h
  exact (markIntS v g zs k hk w ho).mono fun e w' ⟨q1, q2, q3⟩ => ⟨by rw [q1]; exact ret_int (by omega), ⟨g, h1, h2, q2⟩, q3.mono (fun k hk => by omega), q3.size⟩
theorem heldI (v : Value) (q : Int) (k n : Nat) (w : World) (h : I w v (seqI k n)) (hq : q = k) (hk : k + n ≤ 1099511627776) :
    Calls Try.prog 15 #[v, .int .i64 q] w fun e w' => e = .returned (.int .i64 (q + n)) ∧ Below w.heap.size w w' := by
  subst hq
  exact calls_still ((heldIntS v k n hk w h).mono fun e w' ⟨h1, h2⟩ => ⟨by rw [h1]; exact ret_int (by omega), h2⟩)
end Go.Proofs.Ytgappocmdbaahaa
