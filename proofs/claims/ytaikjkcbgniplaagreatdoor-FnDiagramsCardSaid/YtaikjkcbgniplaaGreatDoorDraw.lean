/- The reference's drawing functions: they return, and change their own cursor alone. Condition: a code of at most 2^20 bytes. -/
import Derived.Test.YtaikjkcbgniplaaGreatDoorLib
import Derived.Laws.Bits128
import Derived.Deep.DeepMust
import Derived.Deep.QuietTactic
namespace Go.Proofs.YtaikjkcbgniplaaGreatDoor
open Go.RowKit
set_option linter.unusedVariables false

theorem and_low (n : Int) (k : Nat) (hk : k ≤ 62) : bits .and .i64 n ((2 ^ k - 1 : Nat) : Int) = n % ((2 ^ k : Nat) : Int) := by
  have hp : (2 : Nat) ^ k ≤ 2 ^ 62 := Nat.pow_le_pow_right (by omega) hk
  have hpos : 0 < (2 : Nat) ^ k := Nat.two_pow_pos k
  have h : (BitVec.ofInt 64 ((2 ^ k - 1 : Nat) : Int)).toNat = 2 ^ k - 1 := by
    rw [BitVec.toNat_ofInt]; omega
  have key : (BitVec.ofInt 64 n &&& BitVec.ofInt 64 ((2 ^ k - 1 : Nat) : Int)).toNat = (n % ((2 ^ 64 : Nat) : Int)).toNat % 2 ^ k := by
    rw [BitVec.toNat_and, BitVec.toNat_ofInt, h, Nat.and_two_pow_sub_one_eq_mod]
  show IntKind.i64.wrap ((BitVec.ofInt 64 n &&& BitVec.ofInt 64 ((2 ^ k - 1 : Nat) : Int)).toNat : Nat) = n % ((2 ^ k : Nat) : Int)
  rw [key, IntKind.wrap_i64]
  have e : (((n % ((2 ^ 64 : Nat) : Int)).toNat % 2 ^ k : Nat) : Int) = n % ((2 ^ k : Nat) : Int) := by
    rw [Int.natCast_emod, Int.toNat_of_nonneg (Int.emod_nonneg _ (by decide))]
    exact Int.emod_emod_of_dvd _ (by exact_mod_cast Nat.pow_dvd_pow 2 (by omega))
  rw [e]
  have h0 : 0 ≤ n % ((2 ^ k : Nat) : Int) := Int.emod_nonneg _ (by omega)
  have h1 : n % ((2 ^ k : Nat) : Int) < ((2 ^ k : Nat) : Int) := Int.emod_lt_of_pos _ (by omega)
  omega
theorem and255 (n : Int) : bits .and .i64 n 255 = n % 256 := and_low n 8 (by omega)
theorem and30 (n : Int) : bits .and .i64 n 1073741823 = n % 1073741824 := and_low n 30 (by omega)
theorem chg_below {S : Nat → Prop} {a b c : World} (h : Chg S a b) (k : Below a.heap.size b c) : Chg S a c :=
  ⟨k.os.trans h.os, k.tape.trans h.tape, k.output.trans h.output, Nat.le_trans h.size k.size, fun i hi hs => (k.block i hi).trans (h.block i hi hs)⟩
/-- The cursor at block g: the code (L bytes at a), the next place i. -/
structure Cur (w : World) (g : Nat) (a : Option Addr) (L c : Nat) : Prop where
  code : w.cell? ⟨g, 0, none⟩ = some (.slice a L c)
  place : ∃ i : Nat, i ≤ L ∧ w.cell? ⟨g, 1, none⟩ = some (.int .i64 i)
  hash : ∃ h : Int, (Lit.int .i64 h).wf = true ∧ w.cell? ⟨g, 2, none⟩ = some (.int .i64 h)
  soft1 : w.frozen? ⟨g, 1, none⟩ = false
  soft2 : w.frozen? ⟨g, 2, none⟩ = false
  bytes : ∀ j, j < L → ∃ x n, a = some x ∧ x.block < g ∧ n < 256 ∧ w.cell? (x.add j) = some (.int .u8 (n : Nat))
  small : L ≤ 1048576
theorem Cur.lt {w : World} {g : Nat} {a : Option Addr} {L c : Nat} (h : Cur w g a L c) : g < w.heap.size := World.block_lt_of_cell? w _ h.code
theorem add_block (x : Addr) (j : Nat) : (x.add j).block = x.block := by unfold Addr.add; split <;> rfl
theorem Cur.keep {w w' : World} {g B : Nat} {a : Option Addr} {L c : Nat} (h : Cur w g a L c) (hb : Below B w w') (hB : g < B) : Cur w' g a L c := by
  obtain ⟨h0, ⟨i, hi, h1⟩, ⟨k, hk, h2⟩, f1, f2, hx, hs⟩ := h
  refine ⟨(hb.cell hB).trans h0, ⟨i, hi, (hb.cell hB).trans h1⟩, ⟨k, hk, (hb.cell hB).trans h2⟩, (hb.frozen hB).trans f1, (hb.frozen hB).trans f2, fun j hj => ?_, hs⟩
  obtain ⟨x, n, rfl, hl, hn, hc⟩ := hx j hj
  exact ⟨x, n, rfl, hl, hn, (hb.cell (by rw [add_block]; omega)).trans hc⟩
theorem cells_keepD {w w' : World} (hb : Below w.heap.size w w') {a : Addr} {u : Value} (h : w.cell? a = some u) : w'.cell? a = some u := (hb.cell (World.block_lt_of_cell? w _ h)).trans h
theorem wrap64_wf (n : Int) : (Lit.int .i64 (wrap64 n)).wf = true := WalkArith.wf_i64 (by unfold wrap64; omega)
set_option maxHeartbeats 1000000 in
theorem drawByte (g : Nat) (a : Option Addr) (L c : Nat) (w : World) (h : Cur w g a L c) :
    Calls Tryz.prog 123 #[.pointer (some ⟨g, 0, none⟩)] w fun e w' => ∃ x : Nat, x < 256 ∧ e = .returned (.int .i64 x) ∧ Cur w' g a L c ∧ Chg (· = g) w w' := by
  obtain ⟨h0, ⟨i, hi, h1⟩, ⟨hh, hwf, h2⟩, f1, f2, hb, hL⟩ := h
  have HB := Lib.hid hb
  have hbd := bounds_i64 hwf
  clear hb hwf
  by_cases hlt : i < L
  · obtain ⟨x, n, rfl, hga, hn, hc⟩ := HB.out i hlt
    go_enter Tryz.func123, Tryz.ntmps123
    go_wp2_with fail
    obtain ⟨H, hH⟩ : ∃ H, wrap64 (wrap64 (hh * 6364136223846793005) + 1442695040888963407) = H := ⟨_, rfl⟩
    have HWF := Lib.hid (show (Lit.int .i64 H).wf = true by rw [← hH]; exact wrap64_wf _)
    rw [hH]
    have hne : (⟨g, 2, none⟩ : Addr).block ≠ (x.add i).block := by rw [add_block]; show g ≠ x.block; omega
    have HNE := Lib.hid (fun j => show (⟨g, 2, none⟩ : Addr).block ≠ (x.add j).block by rw [add_block]; show g ≠ x.block; omega)
    have HNE1 := Lib.hid (fun j => show (⟨g, 1, none⟩ : Addr).block ≠ (x.add j).block by rw [add_block]; show g ≠ x.block; omega)
    have y2 : (w.setCell ⟨g, 2, none⟩ (.int .i64 H)).cell? ⟨g, 2, none⟩ = some (.int .i64 H) := World.cell?_setCell_same _ _ _ h2
    have y1 : (w.setCell ⟨g, 2, none⟩ (.int .i64 H)).cell? ⟨g, 1, none⟩ = some (.int .i64 i) := (World.cell?_setCell_other _ _ _ _ (by simp)).trans h1
    have y0 : (w.setCell ⟨g, 2, none⟩ (.int .i64 H)).cell? ⟨g, 0, none⟩ = some (.slice (some x) L c) := (World.cell?_setCell_other _ _ _ _ (by simp)).trans h0
    have yc : (w.setCell ⟨g, 2, none⟩ (.int .i64 H)).cell? (x.add i) = some (.int .u8 (n : Nat)) := (World.cell?_setCell_other _ _ _ _ (fun e => hne (by rw [e]))).trans hc
    have YB := Lib.hid (fun j (hj : j < L) => show ∃ y m, (some x : Option Addr) = some y ∧ y.block < g ∧ m < 256 ∧ (w.setCell ⟨g, 2, none⟩ (.int .i64 H)).cell? (y.add j) = some (.int .u8 (m : Nat)) from by
      obtain ⟨y, m, e1, e2, e3, e4⟩ := HB.out j hj
      obtain rfl := Option.some.inj e1
      exact ⟨x, m, rfl, e2, e3, (World.cell?_setCell_other _ _ _ _ (fun e => HNE.out j (by rw [e]))).trans e4⟩)
    have yf : (w.setCell ⟨g, 2, none⟩ (.int .i64 H)).frozen? ⟨g, 1, none⟩ = false := by rw [World.frozen?_setCell]; exact f1
    have yf2 : (w.setCell ⟨g, 2, none⟩ (.int .i64 H)).frozen? ⟨g, 2, none⟩ = false := by rw [World.frozen?_setCell]; exact f2
    have HW := Lib.hid (chg_set w g 2 (.int .i64 H))
    obtain ⟨w1, hW⟩ : ∃ w1, w.setCell ⟨g, 2, none⟩ (.int .i64 H) = w1 := ⟨_, rfl⟩
    rw [hW] at y0 y1 y2 yc yf yf2 HW YB
    rw [hW]
    clear hW h0 h1 h2 hc hH hne HNE
    go_quiet (fail)
    go_wp2_with fail
    go_quiet (fail)
    go_wp2_with fail
    go_quiet (fail)
    go_wp2_with fail
    go_ret
    rw [and255]
    refine ⟨((IntKind.i64.wrap (bits .and .i64 (bits .xor .i64 (H / 8589934592) (H / 35184372088832)) 255 + IntKind.i64.wrap (n : Int))) % 256).toNat, by omega, ?_, ?_, ?_⟩
    · rw [Int.toNat_of_nonneg (by omega)]; rfl
    · refine ⟨(World.cell?_setCell_other _ _ _ _ (by simp)).trans y0, ⟨i + 1, by omega, World.cell?_setCell_same _ _ _ y1⟩, ⟨H, HWF.out, (World.cell?_setCell_other _ _ _ _ (by simp)).trans y2⟩, ?_, ?_, ?_, hL⟩
      · rw [World.frozen?_setCell]; exact yf
      · rw [World.frozen?_setCell]; exact yf2
      · intro j hj
        obtain ⟨y, m, e1, e2, e3, e4⟩ := YB.out j hj
        obtain rfl := Option.some.inj e1
        exact ⟨x, m, rfl, e2, e3, (World.cell?_setCell_other _ _ _ _ (fun e => HNE1.out j (congrArg Addr.block e))).trans e4⟩
    · exact HW.out.trans ((Chg.of_below (below_drewN (Below.refl _ _) _)).trans (chg_set _ g 1 _))
  · go_enter Tryz.func123, Tryz.ntmps123
    go_wp2_with fail
    obtain ⟨H, hH⟩ : ∃ H, wrap64 (wrap64 (hh * 6364136223846793005) + 1442695040888963407) = H := ⟨_, rfl⟩
    have HWF := Lib.hid (show (Lit.int .i64 H).wf = true by rw [← hH]; exact wrap64_wf _)
    rw [hH]
    have y2 : (w.setCell ⟨g, 2, none⟩ (.int .i64 H)).cell? ⟨g, 2, none⟩ = some (.int .i64 H) := World.cell?_setCell_same _ _ _ h2
    have y1 : (w.setCell ⟨g, 2, none⟩ (.int .i64 H)).cell? ⟨g, 1, none⟩ = some (.int .i64 i) := (World.cell?_setCell_other _ _ _ _ (by simp)).trans h1
    have y0 : (w.setCell ⟨g, 2, none⟩ (.int .i64 H)).cell? ⟨g, 0, none⟩ = some (.slice a L c) := (World.cell?_setCell_other _ _ _ _ (by simp)).trans h0
    have YB := Lib.hid (fun j (hj : j < L) => show ∃ y m, a = some y ∧ y.block < g ∧ m < 256 ∧ (w.setCell ⟨g, 2, none⟩ (.int .i64 H)).cell? (y.add j) = some (.int .u8 (m : Nat)) from by
      obtain ⟨y, m, e1, e2, e3, e4⟩ := HB.out j hj
      exact ⟨y, m, e1, e2, e3, (World.cell?_setCell_other _ _ _ _ (fun e => by have : g = y.block := by rw [← add_block y j, ← e]
                                                                               omega)).trans e4⟩)
    have yf : (w.setCell ⟨g, 2, none⟩ (.int .i64 H)).frozen? ⟨g, 1, none⟩ = false := by rw [World.frozen?_setCell]; exact f1
    have yf2 : (w.setCell ⟨g, 2, none⟩ (.int .i64 H)).frozen? ⟨g, 2, none⟩ = false := by rw [World.frozen?_setCell]; exact f2
    have HW := Lib.hid (chg_set w g 2 (.int .i64 H))
    obtain ⟨w1, hW⟩ : ∃ w1, w.setCell ⟨g, 2, none⟩ (.int .i64 H) = w1 := ⟨_, rfl⟩
    rw [hW] at y0 y1 y2 yf yf2 HW YB
    rw [hW]
    clear hW h0 h1 h2 hH
    go_quiet (fail)
    go_wp2_with fail
    go_quiet (fail)
    go_wp2_with fail
    go_ret
    rw [and255]
    refine ⟨((bits .xor .i64 (H / 8589934592) (H / 35184372088832)) % 256).toNat, by omega, ?_, ?_, ?_⟩
    · rw [Int.toNat_of_nonneg (by omega)]; rfl
    · exact ⟨y0, ⟨i, by omega, y1⟩, ⟨H, HWF.out, y2⟩, yf, yf2, YB.out, hL⟩
    · exact HW.out.trans (Chg.of_below (below_drewN (below_drewN (Below.refl _ _) _) _))
/-- What a drawing function answers: a number, a world in which the cursor still stands. -/
def Drew (w : World) (g : Nat) (a : Option Addr) (L c : Nat) (R : Ending → World → Prop) (e : Ending) (w' : World) : Prop := R e w' ∧ Cur w' g a L c ∧ Chg (· = g) w w'
theorem emod_is {x n : Int} (hn : 0 < n) : 0 ≤ x % n ∧ x % n < n := ⟨Int.emod_nonneg _ (by omega), Int.emod_lt_of_pos _ hn⟩
set_option maxHeartbeats 1000000 in
theorem drawBelow (g : Nat) (a : Option Addr) (L c : Nat) (n : Int) (hn : -1000 ≤ n) (hn2 : n ≤ 1000000000) (w : World) (h : Cur w g a L c) :
    Calls Tryz.prog 97 #[.pointer (some ⟨g, 0, none⟩), .int .i64 n] w fun e w' => ∃ r : Int, e = .returned (.int .i64 r) ∧ 0 ≤ r ∧ (0 < n → r < n) ∧ r ≤ 1000000000 ∧ Cur w' g a L c ∧ Chg (· = g) w w' := by
  by_cases h0 : n ≤ 0
  · go_enter Tryz.func97, Tryz.ntmps97
    go_wp2_with fail
    go_ret
    exact ⟨0, rfl, by omega, by omega, by omega, h, Chg.refl _ _⟩
  · have hnz : n ≠ 0 := by omega
    by_cases h1 : n ≤ 256
    · go_enter Tryz.func97, Tryz.ntmps97
      go_wp2_with fail
      refine (drawByte g a L c w h).mono ?_
      rintro e w1 ⟨x, hx, rfl, hc, hg⟩
      go_wp2_with fail
      go_ret
      have := emod_is (x := (x : Int)) (n := n) (by omega)
      exact ⟨_, rfl, this.1, fun _ => this.2, by omega, hc, hg⟩
    · go_enter Tryz.func97, Tryz.ntmps97
      go_wp2_with fail
      refine (drawByte g a L c w h).mono ?_
      rintro e w1 ⟨x, hx, rfl, hc, hg⟩
      go_wp2_with fail
      refine (drawByte g a L c w1 hc).mono ?_
      rintro e w2 ⟨y, hy, rfl, hc2, hg2⟩
      go_wp2_with fail
      refine (drawByte g a L c w2 hc2).mono ?_
      rintro e w3 ⟨z, hz, rfl, hc3, hg3⟩
      go_wp2_with fail
      refine (drawByte g a L c w3 hc3).mono ?_
      rintro e w4 ⟨u, hu, rfl, hc4, hg4⟩
      go_wp2_with fail
      go_ret
      have := emod_is (x := (x : Int) * 16777216 + (y : Int) * 65536 + (z : Int) * 256 + (u : Int)) (n := n) (by omega)
      exact ⟨_, rfl, this.1, fun _ => this.2, by omega, hc4, ((hg.trans hg2).trans hg3).trans hg4⟩
/-- A code that came in: its bytes lie where it says. -/
def ArgB (w : World) (a : Option Addr) (cap : Nat) (zs : List Int) : Prop :=
  zs.length ≤ cap ∧ cap ≤ maxLen ∧ (∀ n ∈ zs, (Lit.int .u8 n).wf = true) ∧ ∀ i (hi : i < zs.length), ∃ x, a = some x ∧ w.cell? (x.add i) = some (.int .u8 zs[i])
theorem argB_nil (w : World) : ArgB w none 0 [] := ⟨Nat.le_refl _, Nat.zero_le _, by simp, fun i hi => absurd hi (Nat.not_lt_zero i)⟩
theorem argB_some {w : World} {x : Addr} {len cap : Nat} {zs : List Int} (h1 : len ≤ cap) (h2 : cap ≤ maxLen) (hz : zs.length = cap) (hc : ∀ i, i < zs.length → w.cell? (x.add i) = some (.int .u8 (zs.getD i 0))) (hw : ∀ n ∈ zs, (Lit.int .u8 n).wf = true) :
    len = (zs.take len).length ∧ ArgB w (some x) cap (zs.take len) := by
  have hl : (zs.take len).length = len := by rw [List.length_take]; omega
  refine ⟨hl.symm, by omega, h2, fun n hn => hw n (List.mem_of_mem_take hn), fun i hi => ⟨x, rfl, ?_⟩⟩
  rw [hl] at hi
  rw [hc i (by omega)]
  have hi2 : i < zs.length := by omega
  simp [List.getD, hi2]
theorem ArgB.keep {w w' : World} {a : Option Addr} {cap : Nat} {zs : List Int} (h : ArgB w a cap zs) (hb : Below w.heap.size w w') : ArgB w' a cap zs := by
  obtain ⟨h1, h2, h3, hc⟩ := h
  refine ⟨h1, h2, h3, fun i hi => ?_⟩
  obtain ⟨x, hx, h⟩ := hc i hi
  exact ⟨x, hx, (hb.cell (World.block_lt_of_cell? w _ h)).trans h⟩
theorem cur_new {w wr : World} (t : TypeId) (a : Option Addr) (cap : Nat) (zs : List Int) (H : Int) (hz : zs.length ≤ 1048576) (hb : Below w.heap.size w wr) (hw : (Lit.int .i64 H).wf = true) (H3 : ∀ n ∈ zs, (Lit.int .u8 n).wf = true)
    (HC : ∀ i (hi : i < zs.length), ∃ x, a = some x ∧ w.cell? (x.add i) = some (.int .u8 zs[i])) :
    Cur (wr.alloc (.cells #[.slice a zs.length cap, .int .i64 0, .int .i64 H] t)) wr.heap.size a zs.length cap := by
  have hh := heap_alloc_new wr (.cells #[.slice a zs.length cap, .int .i64 0, .int .i64 H] t)
  have hold := (hb.trans ((below_new wr (.cells #[.slice a zs.length cap, .int .i64 0, .int .i64 H] t)).mono hb.size))
  generalize wr.alloc (.cells #[.slice a zs.length cap, .int .i64 0, .int .i64 H] t) = w' at hh hold ⊢
  refine ⟨by simp [World.cell?, hh], ⟨0, by omega, by simp [World.cell?, hh]⟩, ⟨H, hw, by simp [World.cell?, hh]⟩, by simp [World.frozen?, hh], by simp [World.frozen?, hh], fun j hj => ?_, hz⟩
  obtain ⟨x, rfl, hx⟩ := HC j hj
  have hlt : x.block < w.heap.size := by have := World.block_lt_of_cell? w _ hx; rwa [add_block] at this
  have hb2 := bounds_u8 (H3 _ (List.getElem_mem hj))
  have hsz := hb.size
  refine ⟨x, zs[j].toNat, rfl, by omega, by omega, ?_⟩
  rw [cells_keepD hold hx, Int.toNat_of_nonneg hb2.1]
set_option maxHeartbeats 1000000 in
set_option maxRecDepth 100000 in
theorem drawNew (a : Option Addr) (cap : Nat) (zs : List Int) (hz : zs.length ≤ 1048576) (w : World) (h : ArgB w a cap zs) :
    Calls Tryz.prog 72 #[.slice a zs.length cap] w fun e w' => ∃ g, e = .returned (.pointer (some ⟨g, 0, none⟩)) ∧ w.heap.size ≤ g ∧ Cur w' g a zs.length cap ∧ Below w.heap.size w w' := by
  obtain ⟨h1, h2, h3, hc⟩ := h
  have HC := Lib.hid hc
  have H3 := Lib.hid h3
  clear h3 hc
  go_enter Tryz.func72, Tryz.ntmps72
  go_wp2_with fail
  go_loopw [3, 4] (fun hh i wr => ∃ k : Nat, k ≤ zs.length ∧ k ≤ 4000 ∧ i = .int .i64 k ∧ ∃ H : Int, hh = .int .i64 H ∧ 0 ≤ H ∧ H < 1073741824 ∧ Below w.heap.size w wr) (fun _ i _ => 4000 - (intOf i).toNat)
  case atStart => exact ⟨0, by omega, by omega, rfl, _, rfl, by omega, by omega, Below.refl _ _⟩
  case round =>
    obtain ⟨k, hk, hk2, rfl, H, rfl, hH1, hH2, hbel⟩ := hrel
    by_cases hlt : k < zs.length
    · by_cases hlt2 : k < 4000
      · obtain ⟨x, rfl, hx⟩ := HC.out k hlt
        have hb := bounds_u8 (H3.out _ (List.getElem_mem hlt))
        have hx2 := cells_keepD hbel hx
        obtain ⟨b, hB⟩ : ∃ b, zs[k] = b := ⟨_, rfl⟩
        rw [hB] at hx2 hb
        clear hx hB
        go_wp2_with fail
        have hm := emod_is (x := H * 131 + b + 7) (n := 1073741824) (by decide)
        refine ⟨⟨k + 1, by omega, by omega, by go_num, _, rfl, ?_, ?_, hbel⟩, by simp [intOf]; omega⟩
        · rw [and30]; exact hm.1
        · rw [and30]; exact hm.2
      · go_wp2_with fail
        go_ret
        have hsz := hbel.size
        exact ⟨_, rfl, hsz, cur_new _ a cap zs H hz hbel (WalkArith.wf_i64 (by omega)) H3.out HC.out, hbel.alloc hsz _⟩
    · go_wp2_with fail
      go_ret
      have hsz := hbel.size
      exact ⟨_, rfl, hsz, cur_new _ a cap zs H hz hbel (WalkArith.wf_i64 (by omega)) H3.out HC.out, hbel.alloc hsz _⟩
set_option maxHeartbeats 1000000 in
theorem drawPickInt (g : Nat) (a : Option Addr) (L c : Nat) (gl : Nat) (v : Value) (zs : List Int) (h0 : 0 < zs.length) (hn : zs.length ≤ 256) (w : World) (h : Cur w g a L c) (hv : Own w gl v zs) (hg : g ≠ gl) :
    Calls Tryz.prog 114 #[.pointer (some ⟨g, 0, none⟩), v] w fun e w' => ∃ r : Int, e = .returned (.int .i64 r) ∧ r ∈ zs ∧ Cur w' g a L c ∧ Chg (· = g) w w' := by
  obtain ⟨cap, rfl, hc1, hc2⟩ := hv.form
  go_enter Tryz.func114, Tryz.ntmps114
  have HV := Lib.hid hv
  have HG := Lib.hid hg
  clear hv hg
  go_wp2_with fail
  refine (drawBelow g a L c _ (by omega) (by omega) w h).mono ?_
  rintro e w1 ⟨r, rfl, hr0, hr1, -, hc, hg2⟩
  obtain ⟨q, rfl⟩ := Int.eq_ofNat_of_zero_le hr0
  have hq : q < zs.length := by have := hr1 (by omega); omega
  have hx := (HV.out.chg hg2 (fun e => HG.out e.symm)).cell hq
  have HM := Lib.hid (List.getElem_mem hq)
  obtain ⟨x, ex⟩ : ∃ x, zs[q] = x := ⟨_, rfl⟩
  rw [ex] at hx HM
  clear ex hr1
  go_wp2_with fail
  go_ret
  exact ⟨_, rfl, HM.out, hc, hg2⟩
theorem elemU8d : Elem Tryz.prog 22 5 1 := elem_of (.int .u8 0) Tryz.underlying22 (by kernel_rfl) rfl (by omega)
theorem chg_push {w0 w w' : World} {g : Nat} (h : Chg (· = g) w0 w) (hb : Below w0.heap.size w w') : Chg (· = g) w0 w' := chg_below h hb
theorem RowV.chgB {w w' : World} {B g : Nat} {e : TypeId} {v : Value} {n : Nat} {xs : List Value} (h : RowV w B e v n xs) (hb : Chg (· = g) w w') (hg : g < B) : RowV w' B e v n xs := by
  obtain ⟨⟨hl, h⟩, hn⟩ := h
  refine ⟨⟨hl, ?_⟩, hn⟩
  rcases h with h | ⟨g', cap, cur, rfl, hbg, hh, r⟩
  · exact .inl h
  · exact .inr ⟨g', cap, cur, rfl, hbg, (hb.block g' (Array.getElem?_eq_some_iff.1 hh).1 (by omega)).trans hh, r⟩
set_option maxHeartbeats 2000000 in
set_option maxRecDepth 100000 in
theorem drawText (g : Nat) (a : Option Addr) (L c : Nat) (most : Nat) (hm : most ≤ 1000) (w : World) (h : Cur w g a L c) :
    Calls Tryz.prog 126 #[.pointer (some ⟨g, 0, none⟩), .int .i64 most] w fun e w' => ∃ s : ByteArray, e = .returned (.string s) ∧ s.size ≤ most ∧ Cur w' g a L c ∧ Chg (· = g) w w' := by
  have hgB := h.lt
  go_enter Tryz.func126, Tryz.ntmps126
  go_wp2_with fail
  refine (drawBelow g a L c 4 (by omega) (by omega) _ (h.keep (below_new w _) h.lt)).mono ?_
  rintro e w1 ⟨st, rfl, hs0, hs1, -, hc1, hg1⟩
  have hrow1 := (rowV_empty w 5).chgB hg1 hgB
  go_wp2_with fail
  refine (drawBelow g a L c _ (by omega) (by omega) _ hc1).mono ?_
  rintro e w2 ⟨nn, rfl, hn0, hn1, -, hc2, hg2⟩
  replace hrow1 := hrow1.chgB hg2 hgB
  have hch : Chg (· = g) w w2 := ((Chg.of_below (below_new w _)).trans hg1).trans hg2
  obtain ⟨N, rfl⟩ := Int.eq_ofNat_of_zero_le hn0
  have hN : N ≤ most := by have := hn1 (by omega); omega
  clear hn1 hn0 hg1 hg2 hc1 h
  go_wp2_with fail
  go_loopw [5, 7, 8] (fun v i b wr => ∃ (m : Nat) (l : List UInt8), l.length + m ≤ most ∧ i = .int .i64 m ∧ RowV wr w.heap.size 5 v l.length (l.map bv) ∧ Cur wr g a L c ∧ Chg (· = g) w wr) (fun _ i _ _ => (intOf i).toNat)
  case atStart => exact ⟨N, [], by simp; omega, rfl, hrow1, hc2, hch⟩
  case round =>
    obtain ⟨m, l, hm2, rfl, hrow, hcur, hcg⟩ := hrel
    by_cases hlt : 0 < m
    · go_wp2_with fail
      refine (drawByte g a L c _ hcur).mono ?_
      rintro e w3 ⟨x, hx, rfl, hc3, hg3⟩
      replace hrow := hrow.chgB hg3 hgB
      have hcg3 := hcg.trans hg3
      clear hcur hg3 hcg
      cases e1 : (st == 1) with
      | true =>
        go_wp2_with (at_builtin; refine wpList_pushV elemU8d _ rfl _ _ rfl w.heap.size u5 l.length _ rfl (hrow.alloc _) _ w3.heap.size rfl (cell_new1 _ _ _) rfl (by omega) (by have := hcg3.size; simp; omega) ?_; intro gg cap w4 hrow4 hgrow hb4)
        go_roundw
        case rel =>
          have hB := ((Below.refl w.heap.size w3).alloc hcg3.size _).trans hb4
          refine ⟨m - 1, l ++ [UInt8.ofNat (x % 2)], by simp; omega, by go_num, ?_, hc3.keep hB hgB, chg_below hcg3 hB⟩
          have e := bv_ofNat (x % 2) (by omega)
          rw [Int.natCast_emod] at e
          exact hrow4.cast rfl (by simp) (by rw [List.map_append]; exact congrArg _ (congrArg (fun u => [u]) e))
        case measure => simp [intOf]; omega
      | false =>
        cases e2 : (st == 2) with
        | true =>
          go_wp2_with (at_builtin; refine wpList_pushV elemU8d _ rfl _ _ rfl w.heap.size u5 l.length _ rfl (hrow.alloc _) _ w3.heap.size rfl (cell_new1 _ _ _) rfl (by omega) (by have := hcg3.size; simp; omega) ?_; intro gg cap w4 hrow4 hgrow hb4)
          go_roundw
          case rel =>
            have hB := ((Below.refl w.heap.size w3).alloc hcg3.size _).trans hb4
            refine ⟨m - 1, l ++ [UInt8.ofNat (97 + x % 4)], by simp; omega, by go_num, ?_, hc3.keep hB hgB, chg_below hcg3 hB⟩
            have e := bv_ofNat (97 + x % 4) (by omega)
            rw [Int.natCast_add, Int.natCast_emod] at e
            exact hrow4.cast rfl (by simp) (by rw [List.map_append]; exact congrArg _ (congrArg (fun u => [u]) e))
          case measure => simp [intOf]; omega
        | false =>
          go_wp2_with (at_builtin; refine wpList_pushV elemU8d _ rfl _ _ rfl w.heap.size u5 l.length _ rfl (hrow.alloc _) _ w3.heap.size rfl (cell_new1 _ _ _) rfl (by omega) (by have := hcg3.size; simp; omega) ?_; intro gg cap w4 hrow4 hgrow hb4)
          go_roundw
          case rel =>
            have hB := ((Below.refl w.heap.size w3).alloc hcg3.size _).trans hb4
            refine ⟨m - 1, l ++ [UInt8.ofNat x], by simp; omega, by go_num, ?_, hc3.keep hB hgB, chg_below hcg3 hB⟩
            exact hrow4.cast rfl (by simp) (by rw [List.map_append]; exact congrArg _ (congrArg (fun u => [u]) (bv_ofNat x hx)))
          case measure => simp [intOf]; omega
    · obtain rfl : m = 0 := by omega
      have hcv := run_string_row (P := Tryz.prog) (src := 22) (dst := 9) Tryz.underlying22 Tryz.underlying5 Tryz.underlying9 hrow.1
      go_wp2_with fail
      go_ret
      exact ⟨_, rfl, (show l.length ≤ most by omega), hcur, hcg⟩
theorem own_litD (w : World) (arr : Array Value) (zs : List Int) (h : arr.toList = ivs zs) (hm : zs.length ≤ 64) : Own (w.alloc (.cells arr 3)) w.heap.size (.slice (some ⟨w.heap.size, 0, none⟩) zs.length zs.length) zs := by
  have hs : arr.size = zs.length := by rw [← Array.length_toList, h, ivs_length]
  refine ⟨zs.length, arr, by rw [ivs_length], heap_alloc_new w _, by rw [ivs_length]; exact Nat.le_refl _, by unfold maxLen; omega, hs, ?_⟩
  rw [h, List.take_length]
def numTab : List Int := [-1, 0, 127, 128, 255, 256, 16383, 16384, 65535, 65536, 562949953421311, 562949953421312, 999999999, 1000000000, -999999999, 9223372036854775807, -9223372036854775808]
theorem numTab_wf : ∀ x ∈ numTab, (Lit.int .i64 x).wf = true := by
  have h : (numTab.all fun x => (Lit.int .i64 x).wf) = true := by decide
  exact fun x hx => List.all_eq_true.1 h x hx
theorem chg_base {W w w' : World} {g : Nat} (h : Below W.heap.size W w) (hg : W.heap.size ≤ g) (k : Chg (· = g) w w') : Below W.heap.size W w' := below_chg h k (fun q hq => by omega)
/-- The statements' test of size. -/
theorem lawBig (a : Option Addr) (cap : Nat) (zs : List Int) (b : Bool) (hb : decide ((1048576 : Int) < (zs.length : Int)) = b) (w : World) :
    Calls Tryz.prog 6 #[.slice a zs.length cap] w fun e w' => e = .returned (.bool b) ∧ w = w' := by
  subst hb
  go_enter Tryz.func6, Tryz.ntmps6
  go_wp2_with fail
  go_ret
  exact ⟨rfl, rfl⟩
end Go.Proofs.YtaikjkcbgniplaaGreatDoor
