/- The law's own helpers on slices of slices of numbers (size, copy, compare, mark, look whether the marks are held): what they do. -/
import Derived.Test.YtgappocmdbaahaaInts
namespace Go.Proofs.Ytgappocmdbaahaa
open Go.RowKit
set_option linter.unusedVariables false

theorem elemRow : Elem Try.prog 27 22 24 := elem_of (.slice none 0 0) Try.underlying27 (by kernel_rfl) rfl (by omega)
theorem Try.infoRow : (Try.prog.info? 22).map (fun i => (i.zero, i.size, i.bytes)) = some (some (.slice none 0 0), 1, 24) := by kernel_rfl

/-- The values vs own the rows zss, each in its block. -/
def Inner (w : World) (gs : List Nat) (vs : List Value) (zss : List (List Int)) : Prop :=
  vs.length = zss.length ∧ gs.length = zss.length ∧ ∀ (i : Nat) (g : Nat) (r : Value) (zs : List Int), gs[i]? = some g → vs[i]? = some r → zss[i]? = some zs → Own w g r zs
theorem Inner.nil (w : World) : Inner w [] [] [] := ⟨rfl, rfl, fun i g r zs h _ _ => by simp at h⟩
theorem Inner.keep {w w' : World} {gs : List Nat} {vs : List Value} {zss : List (List Int)} (h : Inner w gs vs zss) (hb : Below w.heap.size w w') : Inner w' gs vs zss :=
  ⟨h.1, h.2.1, fun i g r zs h1 h2 h3 => (h.2.2 i g r zs h1 h2 h3).keep hb⟩
theorem Inner.chg {w w' : World} {S : Nat → Prop} {gs : List Nat} {vs : List Value} {zss : List (List Int)} (h : Inner w gs vs zss) (hb : Chg S w w') (hn : ∀ g ∈ gs, ¬ S g) : Inner w' gs vs zss :=
  ⟨h.1, h.2.1, fun i g r zs h1 h2 h3 => (h.2.2 i g r zs h1 h2 h3).chg hb (hn g (List.mem_of_getElem? h1))⟩
theorem Inner.snoc {w : World} {gs : List Nat} {vs : List Value} {zss : List (List Int)} {g : Nat} {r : Value} {zs : List Int} (h : Inner w gs vs zss) (ho : Own w g r zs) : Inner w (gs ++ [g]) (vs ++ [r]) (zss ++ [zs]) := by
  obtain ⟨h1, h2, h3⟩ := h
  refine ⟨by simp [h1], by simp [h2], fun i g' r' zs' e1 e2 e3 => ?_⟩
  by_cases hi : i < zss.length
  · rw [List.getElem?_append_left (by omega)] at e1 e2 e3
    exact h3 i g' r' zs' e1 e2 e3
  · rw [List.getElem?_append_right (by omega)] at e1 e2 e3
    have hz : i - zss.length = 0 := by
      have := (List.getElem?_eq_some_iff.1 e3).1
      simp at this
      omega
    rw [show i - gs.length = 0 by omega] at e1
    rw [show i - vs.length = 0 by omega] at e2
    rw [hz] at e3
    simp at e1 e2 e3
    subst e1 e2 e3
    exact ho
theorem Inner.rows {w : World} {gs : List Nat} {vs : List Value} {zss : List (List Int)} (h : Inner w gs vs zss) {v : Value} (hv : ReadV w v vs) : II w v zss := by
  obtain ⟨h1, h2, h3⟩ := h
  refine ⟨vs, hv, h1, fun i r zs e1 e2 => ?_⟩
  have hi : i < gs.length := by have := (List.getElem?_eq_some_iff.1 e2).1; omega
  exact (h3 i gs[i] r zs (List.getElem?_eq_getElem hi) e1 e2).read

/-- v owns the rows zss, in blocks from lo on and below hi. -/
def Own2 (w : World) (lo hi : Nat) (v : Value) (zss : List (List Int)) : Prop :=
  ∃ G gs vs, lo ≤ G ∧ G < hi ∧ (∀ g ∈ gs, lo ≤ g ∧ g < hi) ∧ OwnV w 22 G v vs ∧ Inner w gs vs zss ∧ G ∉ gs ∧ gs.Nodup
theorem Own2.keep {w w' : World} {lo hi : Nat} {v : Value} {zss : List (List Int)} (h : Own2 w lo hi v zss) (hb : Below w.heap.size w w') : Own2 w' lo hi v zss := by
  obtain ⟨G, gs, vs, h1, h2, h3, h4, h5, h6⟩ := h
  exact ⟨G, gs, vs, h1, h2, h3, h4.keep hb, h5.keep hb, h6⟩
theorem Own2.chg {w w' : World} {lo hi l2 h2 : Nat} {v : Value} {zss : List (List Int)} (h : Own2 w lo hi v zss) (hb : Chg (fun k => l2 ≤ k ∧ k < h2) w w') (hd : hi ≤ l2 ∨ h2 ≤ lo) : Own2 w' lo hi v zss := by
  obtain ⟨G, gs, vs, q1, q2, q3, q4, q5, q6⟩ := h
  exact ⟨G, gs, vs, q1, q2, q3, q4.chg hb (by omega), q5.chg hb (fun g hg => by have := q3 g hg; omega), q6⟩
theorem Own2.read {w : World} {lo hi : Nat} {v : Value} {zss : List (List Int)} (h : Own2 w lo hi v zss) : II w v zss := by
  obtain ⟨G, gs, vs, h1, h2, h3, h4, h5, h6⟩ := h
  exact h5.rows h4.read

theorem own_of_rowIsV {w : World} {b n : Nat} {e : TypeId} {f : Nat → Value} {xs : List Value} (h : w.rowIs b e n f) (hx : xs.length = n) (hm : n ≤ maxLen) (hf : ∀ i (hi : i < xs.length), f i = xs[i]) : OwnV w e b (.slice (some ⟨b, 0, none⟩) n n) xs := by
  obtain ⟨c, hb, hn, hc⟩ := h
  subst hx
  refine ⟨c.size, c, by rw [hn], hb, by omega, by omega, rfl, ?_⟩
  apply List.ext_getElem?
  intro i
  by_cases hi : i < xs.length
  · rw [List.getElem?_take, if_pos hi, List.getElem?_eq_getElem hi, ← hf i hi, ← hc i (by omega)]
    simp
  · rw [List.getElem?_eq_none (by simp; omega), List.getElem?_eq_none (by omega)]

/-- What a call answers that makes rows of its own. -/
def RetRows (w : World) (zss : List (List Int)) (e : Ending) (w' : World) : Prop := ∃ v, e = .returned v ∧ Own2 w' w.heap.size w'.heap.size v zss ∧ Below w.heap.size w w'
def RetRowsB (w : World) (zss : List (List Int)) (b : Bool) (e : Ending) (w' : World) : Prop := ∃ v, e = .returned (.tuple #[v, .bool b]) ∧ Own2 w' w.heap.size w'.heap.size v zss ∧ Below w.heap.size w w'
theorem RetRows.out {w w' : World} {zss : List (List Int)} {e : Ending} (h : RetRows w zss e w') : ∃ v, e = .returned v ∧ Own2 w' w.heap.size w'.heap.size v zss ∧ Below w.heap.size w w' := h
theorem RetRowsB.out {w w' : World} {zss : List (List Int)} {b : Bool} {e : Ending} (h : RetRowsB w zss b e w') : ∃ v, e = .returned (.tuple #[v, .bool b]) ∧ Own2 w' w.heap.size w'.heap.size v zss ∧ Below w.heap.size w w' := h

theorem ints_cons (z : List Int) (zss : List (List Int)) : ints (z :: zss) = z.length + ints zss := by simp [ints]
theorem ints_append (a b : List (List Int)) : ints (a ++ b) = ints a + ints b := by simp [ints]
theorem ints_take_succ (zss : List (List Int)) (k : Nat) (h : k < zss.length) : ints (zss.take (k + 1)) = ints (zss.take k) + zss[k].length := by
  rw [List.take_succ_eq_append_getElem h, ints_append]; simp [ints]
theorem ints_row (zss : List (List Int)) (k : Nat) (h : k < zss.length) : ints (zss.take k) + zss[k].length ≤ ints zss := by
  have h1 : ints zss = ints (zss.take (k + 1)) + ints (zss.drop (k + 1)) := by rw [← ints_append, List.take_append_drop]
  rw [ints_take_succ zss k h] at h1
  omega

set_option maxHeartbeats 400000 in
theorem szIntS (a : Option Addr) (c : Nat) (zs : List Int) (q : Int) (k : Nat) (w : World) (h : ArgI w a c zs) (hq : q = k) (hz : zs.length ≤ k) (hk : k ≤ 1099511627776) :
    Calls Try.prog 53 #[.slice a zs.length c, .int .i64 q] w fun e w' => e = .returned (.int .i64 (q - (zs.length : Int))) ∧ w = w' := by
  subst hq
  obtain ⟨h1, h2⟩ := h.caps
  unfold maxLen at h2
  clear h
  go_enter Try.func53, Try.ntmps53
  go_wp2_with fail
  go_ret
  exact ⟨rfl, rfl⟩
set_option maxHeartbeats 400000 in
theorem szIntSNo (a : Option Addr) (c : Nat) (zs : List Int) (q : Int) (k : Nat) (w : World) (h : ArgI w a c zs) (hq : q = k) (hz : k < zs.length) (hk : k ≤ 1099511627776) :
    Calls Try.prog 53 #[.slice a zs.length c, .int .i64 q] w fun e w' => e = .returned (.int .i64 (-1)) ∧ w = w' := by
  subst hq
  obtain ⟨h1, h2⟩ := h.caps
  unfold maxLen at h2
  clear h
  go_enter Try.func53, Try.ntmps53
  go_wp2_with fail
  go_ret
  exact ⟨rfl, rfl⟩

set_option maxHeartbeats 1000000 in
theorem szIntSS (a : Option Addr) (c : Nat) (zss : List (List Int)) (q : Int) (k : Nat) (w : World) (h : ArgII w a c zss) (hq : q = k) (hz : total zss ≤ k) (hk : k ≤ 1099511627776) :
    Calls Try.prog 16 #[.slice a zss.length c, .int .i64 q] w fun e w' => e = .returned (.int .i64 (q - (total zss : Int))) ∧ w = w' := by
  subst hq
  obtain ⟨h1, h2, hc⟩ := h
  unfold maxLen at h2
  have HC := Lib.hid hc
  have hT : zss.length ≤ k := by unfold total at hz; omega
  have HT : Hid (zss.length + ints zss ≤ k) := hz
  clear hz hc
  go_enter Try.func16, Try.ntmps16
  go_wp2_with fail
  go_loop [1, 5] (fun x i => ∃ j m : Nat, j ≤ zss.length ∧ i = .int .i64 j ∧ x = .int .i64 m ∧ m ≤ k ∧ Hid (m + zss.length + ints (zss.take j) = k)) (fun _ i => zss.length - (intOf i).toNat)
  case atStart => exact ⟨0, k - zss.length, by omega, rfl, by go_num, by omega, by simp [ints, Hid]; omega⟩
  case round =>
    obtain ⟨j, m, hj, rfl, rfl, hm, HM⟩ := hrel
    by_cases hlt' : j < zss.length
    · obtain ⟨x, r, c', rfl, hcell, hrow⟩ := HC.out j hlt'
      have hr := ints_row zss j hlt'
      have hle : zss[j].length ≤ m := by have := HM.out; have := HT.out; omega
      clear hr
      go_wp2_with (go_at_call 53; refine (szIntS _ _ _ _ m _ hrow rfl hle (by omega)).mono ?_; rintro e w1 ⟨rfl, rfl⟩)
      go_round
      case rel => exact ⟨j + 1, m - zss[j].length, by omega, by go_num, by go_num, by omega, by have := HM.out; have h2 := ints_take_succ zss j hlt'; unfold Hid; omega⟩
      case measure => simp [intOf]; omega
    · obtain rfl : j = zss.length := by omega
      go_wp2_with fail
      go_ret
      exact ⟨ret_int (by have := HM.out; rw [List.take_length] at this; unfold total; omega), rfl⟩

set_option maxHeartbeats 1000000 in
theorem szIntSSNo (a : Option Addr) (c : Nat) (zss : List (List Int)) (q : Int) (k : Nat) (w : World) (h : ArgII w a c zss) (hq : q = k) (hz : k < total zss) (hk : k ≤ 1099511627776) :
    Calls Try.prog 16 #[.slice a zss.length c, .int .i64 q] w fun e w' => e = .returned (.int .i64 (-1)) ∧ w = w' := by
  subst hq
  obtain ⟨h1, h2, hc⟩ := h
  unfold maxLen at h2
  have HC := Lib.hid hc
  have HT : Hid (k < zss.length + ints zss) := hz
  clear hz hc
  by_cases hT : zss.length ≤ k
  · go_enter Try.func16, Try.ntmps16
    go_wp2_with fail
    go_loop [1, 5] (fun x i => ∃ j m : Nat, j ≤ zss.length ∧ i = .int .i64 j ∧ x = .int .i64 m ∧ m ≤ k ∧ Hid (m + zss.length + ints (zss.take j) = k)) (fun _ i => zss.length - (intOf i).toNat)
    case atStart => exact ⟨0, k - zss.length, by omega, rfl, by go_num, by omega, by simp [ints, Hid]; omega⟩
    case round =>
      obtain ⟨j, m, hj, rfl, rfl, hm, HM⟩ := hrel
      by_cases hlt' : j < zss.length
      · obtain ⟨x, r, c', rfl, hcell, hrow⟩ := HC.out j hlt'
        by_cases hle : zss[j].length ≤ m
        · go_wp2_with (go_at_call 53; refine (szIntS _ _ _ _ m _ hrow rfl hle (by omega)).mono ?_; rintro e w1 ⟨rfl, rfl⟩)
          go_round
          case rel => exact ⟨j + 1, m - zss[j].length, by omega, by go_num, by go_num, by omega, by have := HM.out; have h2 := ints_take_succ zss j hlt'; unfold Hid; omega⟩
          case measure => simp [intOf]; omega
        · go_wp2_with (go_at_call 53; refine (szIntSNo _ _ _ _ m _ hrow rfl (by omega) (by omega)).mono ?_; rintro e w1 ⟨rfl, rfl⟩)
          go_ret
          exact ⟨rfl, rfl⟩
      · exfalso
        obtain rfl : j = zss.length := by omega
        have h3 := HM.out
        have h4 := HT.out
        rw [List.take_length] at h3
        omega
  · go_enter Try.func16, Try.ntmps16
    go_wp2_with fail
    go_ret
    exact ⟨rfl, rfl⟩
set_option maxHeartbeats 1000000 in
theorem toIntSS (a : Option Addr) (c : Nat) (zss : List (List Int)) (hz : total zss ≤ 1048576) (w : World) (h : ArgII w a c zss) :
    Calls Try.prog 18 #[.slice a zss.length c] w (RetRows w zss) := by
  obtain ⟨h1, h2, hc⟩ := h
  unfold maxLen at h2
  have HC := Lib.hid hc
  have hT : zss.length ≤ 1048576 := by unfold total at hz; omega
  have HT : Hid (zss.length + ints zss ≤ 1048576) := hz
  clear hz hc
  have hmk := run_make_row' (P := Try.prog) 27 22 (.slice none 0 0) 24 Try.underlying27 Try.infoRow rfl .i64 .i64 zss.length (by omega) (by omega)
  go_enter Try.func18, Try.ntmps18
  go_wp2_with fail
  clear hmk
  go_loopw [4] (fun i wr => ∃ (k : Nat) (gs : List Nat) (vs : List Value), k ≤ zss.length ∧ i = .int .i64 k ∧ Below w.heap.size w wr ∧ w.heap.size < wr.heap.size ∧
      Hid (vs.length = k ∧ wr.rowIs w.heap.size 22 zss.length (fun j => vs.getD j (.slice none 0 0)) ∧ Inner wr gs vs (zss.take k) ∧ (∀ g ∈ gs, w.heap.size < g ∧ g < wr.heap.size) ∧ gs.Nodup)) (fun i _ => zss.length - (intOf i).toNat)
  case atStart => exact ⟨0, [], [], by omega, rfl, below_new w _, by simp, rfl, World.rowIs_made w _ _ _, Inner.nil _, by simp, List.nodup_nil⟩
  case round =>
    obtain ⟨k, gs, vs, hk, rfl, hbel, hsz, HR⟩ := hrel
    by_cases hlt' : k < zss.length
    · obtain ⟨x, r, c', rfl, hcell0, hrow0⟩ := HC.out k hlt'
      have hcell : wr.cell? (x.add k) = some (.slice r zss[k].length c') := (hbel.cell (World.block_lt_of_cell? w _ hcell0)).trans hcell0
      have hrow := hrow0.keep hbel
      have hle : zss[k].length ≤ 1048576 := by have := ints_row zss k hlt'; have := HT.out; omega
      clear hcell0 hrow0
      go_wp2_with fail
      refine (toIntS _ _ zss[k] hle _ hrow).mono ?_
      rintro e w1 ⟨v1, g1, rfl, hg1, ho1, hb1⟩
      obtain ⟨hvl, hrw, hin, hgs, hnd⟩ := HR.out
      have hrw1 : w1.rowIs w.heap.size 22 zss.length (fun j => vs.getD j (.slice none 0 0)) := hrw.of_block (hb1.block _ hsz)
      have hin1 := hin.keep hb1
      have hs1 := hb1.size
      have hcg := hrw1.cell hlt'
      have hfg := hrw1.frozen k
      obtain ⟨cap1, hv1, _, _⟩ := ho1.form
      have HX : Hid (vs.length = k ∧ w1.rowIs w.heap.size 22 zss.length (fun j => vs.getD j (.slice none 0 0)) ∧ Inner w1 gs vs (zss.take k) ∧ (∀ g ∈ gs, w.heap.size < g ∧ g < wr.heap.size) ∧ gs.Nodup ∧ Own w1 g1 v1 zss[k]) := ⟨hvl, hrw1, hin1, hgs, hnd, ho1⟩
      clear hvl hrw hin hgs hnd hrw1 hin1 ho1
      subst hv1
      go_wp2_with fail
      go_roundw
      case rel =>
        obtain ⟨hvl, hrw1, hin1, hgs, hnd, ho1⟩ := HX.out
        have hlt1 := ho1.lt
        have hch := chg_set w1 w.heap.size k (.slice (some ⟨g1, 0, none⟩) zss[k].length cap1)
        refine ⟨k + 1, gs ++ [g1], vs ++ [.slice (some ⟨g1, 0, none⟩) zss[k].length cap1], by omega, by go_num, ?_, ?_, by simp [hvl], ?_, ?_, ?_, ?_⟩
        · exact (hbel.trans (hb1.mono (by omega))).setCell (Nat.le_refl _) _
        · simp [World.setCell]; omega
        · refine (hrw1.set k _).congr (fun j hj => ?_)
          by_cases e : j = k
          · subst e
            rw [if_pos rfl, List.getD_eq_getElem?_getD, List.getElem?_append_right (by omega), hvl]
            simp
          · rw [if_neg e, List.getD_eq_getElem?_getD, List.getD_eq_getElem?_getD]
            by_cases e2 : j < k
            · rw [List.getElem?_append_left (by omega)]
            · rw [List.getElem?_eq_none (by omega), List.getElem?_eq_none (by simp; omega)]
        · rw [List.take_succ_eq_append_getElem hlt']
          exact (hin1.chg hch (fun g hg => by have := hgs g hg; omega)).snoc (ho1.chg hch (by omega))
        · intro g hg
          have hsz2 : (w1.setCell ⟨w.heap.size, k, none⟩ (.slice (some ⟨g1, 0, none⟩) zss[k].length cap1)).heap.size = w1.heap.size := by simp [World.setCell]
          rcases List.mem_append.1 hg with hg | hg
          · have := hgs g hg; omega
          · simp at hg; omega
        · refine List.nodup_append.2 ⟨hnd, by simp, fun g hg g' hg' => ?_⟩
          simp at hg'
          have := hgs g hg
          omega
      case measure => simp [intOf]; omega
    · obtain rfl : k = zss.length := by omega
      go_wp2_with fail
      go_ret
      obtain ⟨hvl, hrw, hin, hgs, hnd⟩ := HR.out
      rw [List.take_length] at hin
      refine ⟨_, rfl, ⟨w.heap.size, gs, vs, Nat.le_refl _, hsz, fun g hg => by have := hgs g hg; omega, ?_, hin, fun hg => by have := hgs _ hg; omega, hnd⟩, hbel⟩
      refine own_of_rowIsV hrw hvl (by unfold maxLen; omega) (fun i hi => ?_)
      simp [hi]
def eqII (a b : List (List Int)) : Bool := a == b
theorem eqII_refl (a : List (List Int)) : eqII a a = true := by simp [eqII]
theorem eqII_true {a b : List (List Int)} (h : eqII a b = true) : a = b := by simpa [eqII] using h
set_option maxHeartbeats 1000000 in
theorem eqIntSS (v1 v2 : Value) (a b : List (List Int)) (ha : total a ≤ 1099511627776) (w : World) (h1 : II w v1 a) (h2 : II w v2 b) :
    Calls Try.prog 20 #[v1, v2] w fun e w' => e = .returned (.bool (eqII a b)) ∧ Below w.heap.size w w' := by
  obtain ⟨g1, o1, c1, rfl, _, _, hc1⟩ := h1.form
  obtain ⟨g2, o2, c2, rfl, _, _, hc2⟩ := h2.form
  have H1 := Lib.hid hc1
  have H2 := Lib.hid hc2
  have hT : a.length ≤ 1099511627776 := by unfold total at ha; omega
  have HT : Hid (a.length + ints a ≤ 1099511627776) := ha
  clear hc1 hc2 h1 h2 ha
  by_cases hl : a.length = b.length
  · have hL := Lib.hid hl
    have dl : ((a.length : Int) != (b.length : Int)) = false := by rw [bne_eq_false_iff_eq]; omega
    clear hl
    go_enter Try.func20, Try.ntmps20
    go_wp2_with fail
    go_loopw [5] (fun i wr => ∃ k : Nat, k ≤ a.length ∧ i = .int .i64 k ∧ Below w.heap.size w wr ∧ Hid (∀ j (h1 : j < a.length) (h2 : j < b.length), j < k → a[j] = b[j])) (fun i _ => a.length - (intOf i).toNat)
    case atStart => exact ⟨0, by omega, rfl, Below.refl _ _, fun j _ _ h => absurd h (Nat.not_lt_zero j)⟩
    case round =>
      obtain ⟨k, hk, rfl, hbel, HE⟩ := hrel
      by_cases hlt' : k < a.length
      · have hlt2 : k < b.length := by have := hL.out; omega
        obtain ⟨r1, y1, i1⟩ := H1.out k hlt'
        obtain ⟨r2, y2, i2⟩ := H2.out k hlt2
        have x1 := (hbel.cell (World.block_lt_of_cell? w _ y1)).trans y1
        have x2 := (hbel.cell (World.block_lt_of_cell? w _ y2)).trans y2
        have hl1 := World.block_lt_of_cell? wr _ x1
        have hl2 := World.block_lt_of_cell? wr _ x2
        have j1 := i1.keep hbel
        have j2 := i2.keep hbel
        have hle : a[k].length ≤ 1099511627776 := by have := ints_row a k hlt'; have := HT.out; omega
        clear y1 y2 i1 i2
        have hk0 : (0 : Int) ≤ (k : Int) := by omega
        have hk1 : (k : Int) < (a.length : Int) := by omega
        have hk2 : (k : Int) < (b.length : Int) := by omega
        cases he : eqI a[k] b[k] with
        | true =>
          have HK := Lib.hid he
          go_wp2_with fail
          go_region_held3 (fun w' => w'.cell? ⟨g1, o1 + k, none⟩ = some r1 ∧ w'.cell? ⟨g2, o2 + k, none⟩ = some r2) (first | go_keep | (go_split_ands; exact ⟨(hb1.cell hl1).trans ‹_›, (hb1.cell hl2).trans ‹_›⟩)) ((go_at_call 13; refine (eqIntS _ _ a[k] b[k] hle _ (j1.keep (Below.drew (Below.refl _ _))) (j2.keep (Below.drew (Below.refl _ _)))).mono ?_; rw [he]; rintro e w1 ⟨rfl, hb1⟩))
          go_wp2_with fail
          go_roundw
          case rel =>
            refine ⟨k + 1, by omega, by go_num, below_trans hbel.drew hb1, fun j q1 q2 hj => ?_⟩
            by_cases e : j = k
            · subst e; exact eqI_true HK.out
            · exact HE.out j q1 q2 (by omega)
          case measure => simp [intOf]; omega
        | false =>
          have HK := Lib.hid he
          go_wp2_with fail
          go_region_held3 (fun w' => w'.cell? ⟨g1, o1 + k, none⟩ = some r1 ∧ w'.cell? ⟨g2, o2 + k, none⟩ = some r2) (first | go_keep | (go_split_ands; exact ⟨(hb1.cell hl1).trans ‹_›, (hb1.cell hl2).trans ‹_›⟩)) ((go_at_call 13; refine (eqIntS _ _ a[k] b[k] hle _ (j1.keep (Below.drew (Below.refl _ _))) (j2.keep (Below.drew (Below.refl _ _)))).mono ?_; rw [he]; rintro e w1 ⟨rfl, hb1⟩))
          go_wp2_with fail
          go_ret
          refine ⟨ret_bool ?_, below_trans hbel.drew hb1⟩
          symm
          rw [eqII, beq_eq_false_iff_ne]
          intro e
          subst e
          have := HK.out
          rw [eqI_refl] at this
          cases this
      · obtain rfl : k = a.length := by omega
        go_wp2_with fail
        go_ret
        refine ⟨ret_bool ?_, hbel⟩
        symm
        rw [eqII, beq_iff_eq]
        exact List.ext_getElem hL.out (fun j q1 q2 => HE.out j q1 q2 q1)
  · have dl : ((a.length : Int) != (b.length : Int)) = true := by rw [bne_iff_ne]; omega
    have hL := Lib.hid hl
    clear hl
    go_enter Try.func20, Try.ntmps20
    go_wp2_with fail
    go_ret
    refine ⟨ret_bool ?_, Below.refl _ _⟩
    symm
    rw [eqII, beq_eq_false_iff_ne]
    intro e
    subst e
    exact hL.out rfl
/-- The marks of all rows: q, q + 1, .. -/
def mk (q : Nat) : List (List Int) → List (List Int)
  | [] => []
  | z :: zss => seqI q z.length :: mk (q + z.length) zss
theorem mk_length : ∀ (zss : List (List Int)) (q : Nat), (mk q zss).length = zss.length
  | [], _ => rfl
  | z :: zss, q => by rw [mk, List.length_cons, mk_length zss, List.length_cons]
theorem mk_get : ∀ (zss : List (List Int)) (q k : Nat) (h : k < zss.length) (h' : k < (mk q zss).length), (mk q zss)[k] = seqI (q + ints (zss.take k)) zss[k].length
  | z :: zss, q, 0, _, _ => by simp [mk, ints]
  | z :: zss, q, k + 1, h, h' => by
    simp only [mk, List.getElem_cons_succ, List.take_succ_cons, ints_cons]
    rw [mk_get zss (q + z.length) k (by simpa using h), Nat.add_assoc]
theorem mk_step (q k : Nat) (zss : List (List Int)) (h : k < zss.length) :
    ((mk q zss).take k ++ zss.drop k).set k (seqI (q + ints (zss.take k)) zss[k].length) = (mk q zss).take (k + 1) ++ zss.drop (k + 1) := by
  have hl : ((mk q zss).take k).length = k := by rw [List.length_take, mk_length]; omega
  rw [List.set_append_right _ _ (by omega), hl, Nat.sub_self, List.drop_eq_getElem_cons h, List.set_cons_zero, List.take_succ_eq_append_getElem (by rw [mk_length]; exact h), mk_get zss q k h, List.append_assoc]
  rfl
theorem Inner.set {w : World} {gs : List Nat} {vs : List Value} {zss : List (List Int)} {k g : Nat} {r : Value} {zs : List Int} (h : Inner w gs vs zss) (hg : gs[k]? = some g) (hr : vs[k]? = some r) (ho : Own w g r zs) : Inner w gs vs (zss.set k zs) := by
  obtain ⟨h1, h2, h3⟩ := h
  refine ⟨by simpa using h1, by simpa using h2, fun i g' r' zs' e1 e2 e3 => ?_⟩
  by_cases hi : k = i
  · subst hi
    rw [List.getElem?_set_self (by have := (List.getElem?_eq_some_iff.1 hg).1; omega)] at e3
    rw [hg] at e1
    rw [hr] at e2
    cases e1; cases e2; cases e3
    exact ho
  · rw [List.getElem?_set_ne hi] at e3
    exact h3 i g' r' zs' e1 e2 e3
/-- Row k turns, the others stay. -/
theorem Inner.turn {w w' : World} {gs : List Nat} {vs : List Value} {zss : List (List Int)} {k g : Nat} {r : Value} {zs : List Int} (h : Inner w gs vs zss) (hnd : gs.Nodup) (hg : gs[k]? = some g) (hr : vs[k]? = some r) (hc : Chg (· = g) w w') (ho : Own w' g r zs) : Inner w' gs vs (zss.set k zs) := by
  obtain ⟨h1, h2, h3⟩ := h
  refine ⟨by simpa using h1, by simpa using h2, fun i g' r' zs' e1 e2 e3 => ?_⟩
  by_cases hi : k = i
  · subst hi
    rw [List.getElem?_set_self (by have := (List.getElem?_eq_some_iff.1 hg).1; omega)] at e3
    rw [hg] at e1
    rw [hr] at e2
    cases e1; cases e2; cases e3
    exact ho
  · rw [List.getElem?_set_ne hi] at e3
    refine (h3 i g' r' zs' e1 e2 e3).chg hc (fun e => hi ?_)
    subst e
    obtain ⟨l1, x1⟩ := List.getElem?_eq_some_iff.1 hg
    obtain ⟨l2, x2⟩ := List.getElem?_eq_some_iff.1 e1
    exact (List.getElem_inj hnd).1 (x1.trans x2.symm)

set_option maxHeartbeats 1000000 in
theorem markII (v : Value) (lo hi : Nat) (zss : List (List Int)) (q : Int) (k : Nat) (w : World) (h : Own2 w lo hi v zss) (hq : q = k) (hk : k + ints zss ≤ 1099511627776) :
    Calls Try.prog 25 #[v, .int .i64 q] w fun e w' => e = .returned (.int .i64 (q + (ints zss : Nat))) ∧ Own2 w' lo hi v (mk k zss) ∧ Chg (fun k => lo ≤ k ∧ k < hi) w w' ∧ w.heap.size ≤ w'.heap.size := by
  subst hq
  obtain ⟨G, gs, vs, hG1, hG2, hgs, hown, hin, hGn, hnd⟩ := h
  obtain ⟨cap, hv, hcap, hcm, hcells, _⟩ := hown.form
  have hvl : vs.length = zss.length := hin.1
  rw [hvl] at hv hcap
  subst hv
  unfold maxLen at hcm
  have HC := Lib.hid hcells
  have H0 : Hid (OwnV w 22 G (.slice (some ⟨G, 0, none⟩) zss.length cap) vs ∧ Inner w gs vs zss ∧ vs.length = zss.length ∧ (∀ g ∈ gs, lo ≤ g ∧ g < hi) ∧ G ∉ gs ∧ gs.Nodup) := ⟨hown, hin, hvl, hgs, hGn, hnd⟩
  have hsz : zss.length ≤ 9223372036854775807 := by omega
  clear hcells hown hin hvl hgs hGn hnd
  go_enter Try.func25, Try.ntmps25
  go_wp2_with fail
  go_loopw [1, 5] (fun x i wr => ∃ j : Nat, j ≤ zss.length ∧ i = .int .i64 j ∧ x = .int .i64 ((k : Int) + (ints (zss.take j) : Nat)) ∧ Hid (Inner wr gs vs ((mk k zss).take j ++ zss.drop j) ∧ Chg (· ∈ gs) w wr)) (fun _ i _ => zss.length - (intOf i).toNat)
  case atStart => exact ⟨0, by omega, rfl, by simp [ints], by simpa using H0.out.2.1, Chg.refl _ _⟩
  case round =>
    obtain ⟨j, hj, rfl, rfl, HI⟩ := hrel
    by_cases hlt' : j < zss.length
    · obtain ⟨hin, hch⟩ := HI.out
      obtain ⟨hown0, _, hvl, hgs, hGn, hnd⟩ := H0.out
      have hjv : j < vs.length := by omega
      have hjg : j < gs.length := by have := H0.out.2.1.2.1; omega
      have hzj : ((mk k zss).take j ++ zss.drop j)[j]? = some zss[j] := by
        rw [List.getElem?_append_right (by rw [List.length_take, mk_length]; omega), List.length_take, mk_length, show j - min j zss.length = 0 by omega, List.getElem?_drop]
        simp [hlt']
      have ho := hin.2.2 j gs[j] vs[j] zss[j] (List.getElem?_eq_getElem hjg) (List.getElem?_eq_getElem hjv) hzj
      have hcell0 := HC.out j vs[j] (List.getElem?_eq_getElem hjv)
      have hcell : wr.cell? ⟨G, j, none⟩ = some vs[j] := by
        rw [World.cell?_of_block (hch.block G hown0.lt hGn)]
        exact hcell0
      have hbd : k + ints (zss.take j) + zss[j].length ≤ 1099511627776 := by have := ints_row zss j hlt'; omega
      obtain ⟨vj, evj⟩ : ∃ u, u = vs[j] := ⟨_, rfl⟩
      obtain ⟨gj, egj⟩ : ∃ u, u = gs[j] := ⟨_, rfl⟩
      rw [← evj] at hcell ho
      rw [← egj] at ho
      have EV := Lib.hid evj
      have EG := Lib.hid egj
      have HB := Lib.hid hbd
      clear hin hch hown0 hvl hgs hGn hnd hzj hcell0 evj egj hbd
      go_wp2_with fail
      refine (markIntS vj gj zss[j] (k + ints (zss.take j)) HB.out _ ho).mono ?_
      rintro e w1 ⟨rfl, ho1, hc1⟩
      go_wp2_with fail
      go_roundw
      case rel =>
        obtain ⟨hin, hch⟩ := HI.out
        obtain ⟨_, _, _, _, _, hnd⟩ := H0.out
        refine ⟨j + 1, by omega, by go_num, by rw [ints_take_succ zss j hlt']; go_num, ?_, hch.trans (hc1.mono (fun q hq => by subst hq; rw [EG.out]; exact List.getElem_mem _))⟩
        rw [← mk_step k j zss hlt']
        exact hin.turn hnd (by rw [EG.out]; exact List.getElem?_eq_getElem hjg) (by rw [EV.out]; exact List.getElem?_eq_getElem hjv) hc1 ho1
      case measure => simp [intOf]; omega
    · obtain rfl : j = zss.length := by omega
      go_wp2_with fail
      go_ret
      obtain ⟨hin, hch⟩ := HI.out
      obtain ⟨hown0, _, hvl, hgs, hGn, hnd⟩ := H0.out
      have hmk : (mk k zss).take zss.length = mk k zss := List.take_of_length_le (by rw [mk_length]; omega)
      rw [hmk, List.drop_length, List.append_nil] at hin
      exact ⟨ret_int (by rw [List.take_length]), ⟨G, gs, vs, hG1, hG2, hgs, hown0.chg hch hGn, hin, hGn, hnd⟩, hch.mono (fun g hg => hgs g hg), hch.size⟩
set_option maxHeartbeats 1000000 in
theorem heldII (v : Value) (q : Int) (k : Nat) (zss : List (List Int)) (w : World) (h : II w v (mk k zss)) (hq : q = k) (hk : k + ints zss ≤ 1099511627776) :
    Calls Try.prog 26 #[v, .int .i64 q] w fun e w' => e = .returned (.int .i64 (q + (ints zss : Nat))) ∧ Below w.heap.size w w' := by
  subst hq
  obtain ⟨g, o, cap, rfl, h1, h2, hc⟩ := h.form
  rw [mk_length] at h1 ⊢
  unfold maxLen at h2
  have HC := Lib.hid hc
  have hsz : zss.length ≤ 9223372036854775807 := by omega
  clear hc h
  go_enter Try.func26, Try.ntmps26
  go_wp2_with fail
  go_loopw [1, 5] (fun x i wr => ∃ j : Nat, j ≤ zss.length ∧ i = .int .i64 j ∧ x = .int .i64 ((k : Int) + (ints (zss.take j) : Nat)) ∧ Below w.heap.size w wr) (fun _ i _ => zss.length - (intOf i).toNat)
  case atStart => exact ⟨0, by omega, rfl, by simp [ints], Below.refl _ _⟩
  case round =>
    obtain ⟨j, hj, rfl, rfl, hbel⟩ := hrel
    by_cases hlt' : j < zss.length
    · obtain ⟨r, hcell0, hr⟩ := HC.out j (by rw [mk_length]; exact hlt')
      rw [mk_get zss k j hlt'] at hr
      have hcell : wr.cell? ⟨g, o + j, none⟩ = some r := (hbel.cell (World.block_lt_of_cell? w _ hcell0)).trans hcell0
      have hrr := hr.keep hbel
      have hbd : k + ints (zss.take j) + zss[j].length ≤ 1099511627776 := by have := ints_row zss j hlt'; omega
      have HB := Lib.hid hbd
      clear hcell0 hr hbd
      go_wp2_with fail
      refine (heldI r _ (k + ints (zss.take j)) zss[j].length _ hrr ?_ HB.out).mono ?_
      · omega
      rintro e w1 ⟨rfl, hb1⟩
      go_wp2_with fail
      go_roundw
      case rel => exact ⟨j + 1, by omega, by go_num, by rw [ints_take_succ zss j hlt']; go_num, below_trans hbel hb1⟩
      case measure => simp [intOf]; omega
    · obtain rfl : j = zss.length := by omega
      go_wp2_with fail
      go_ret
      exact ⟨ret_int (by rw [List.take_length]), hbel⟩
end Go.Proofs.Ytgappocmdbaahaa
