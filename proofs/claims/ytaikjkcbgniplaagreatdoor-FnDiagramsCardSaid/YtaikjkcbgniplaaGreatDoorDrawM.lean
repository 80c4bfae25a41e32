/- The reference's drawing functions of matrices: what they return is read, and they change their own cursor alone. -/
import Derived.Test.YtaikjkcbgniplaaGreatDoorDraw
import Derived.Test.YtaikjkcbgniplaaGreatDoorType
import Derived.Test.YtaikjkcbgniplaaGreatDoorJoin
import Derived.Test.YtaikjkcbgniplaaGreatDoorFmtWt
namespace Go.Proofs.YtaikjkcbgniplaaGreatDoor
open Go.RowKit
set_option linter.unusedVariables false

/-- Rows that are read, in blocks from lo on. -/
def ReadB (lo : Nat) (w : World) (v : Value) (xs : List Value) : Prop :=
  ∃ g o cap, v = .slice (some ⟨g, o, none⟩) xs.length cap ∧ lo ≤ g ∧ xs.length ≤ cap ∧ cap ≤ maxLen ∧ ∀ i u, xs[i]? = some u → w.cell? ⟨g, o + i, none⟩ = some u
theorem ReadB.read {lo : Nat} {w : World} {v : Value} {xs : List Value} (h : ReadB lo w v xs) : ReadV w v xs := by
  obtain ⟨g, o, cap, h1, _, h2, h3, h4⟩ := h
  exact ⟨g, o, cap, h1, h2, h3, h4⟩
theorem ReadB.chg {S : Nat → Prop} {lo : Nat} {w w' : World} {v : Value} {xs : List Value} (h : ReadB lo w v xs) (hb : Chg S w w') (hS : ∀ k, lo ≤ k → ¬ S k) : ReadB lo w' v xs := by
  obtain ⟨g, o, cap, h1, hg, h2, h3, h4⟩ := h
  exact ⟨g, o, cap, h1, hg, h2, h3, fun i u hu => by
    have hc := h4 i u hu
    rw [World.cell?_of_block (w := w) (hb.block g (World.block_lt_of_cell? w _ hc) (hS g hg))]; exact hc⟩
def IB (lo : Nat) (w : World) (v : Value) (zs : List Int) : Prop := ReadB lo w v (ivs zs)
def IIB (lo : Nat) (w : World) (v : Value) (zss : List (List Int)) : Prop := ∃ vs : List Value, ReadB lo w v vs ∧ vs.length = zss.length ∧ ∀ (i : Nat) (r : Value) (zs : List Int), vs[i]? = some r → zss[i]? = some zs → IB lo w r zs
theorem IB.chg {S : Nat → Prop} {lo : Nat} {w w' : World} {v : Value} {zs : List Int} (h : IB lo w v zs) (hb : Chg S w w') (hS : ∀ k, lo ≤ k → ¬ S k) : IB lo w' v zs := ReadB.chg h hb hS
theorem IB.read {lo : Nat} {w : World} {v : Value} {zs : List Int} (h : IB lo w v zs) : I w v zs := ReadB.read h
theorem IIB.chg {S : Nat → Prop} {lo : Nat} {w w' : World} {v : Value} {zss : List (List Int)} (h : IIB lo w v zss) (hb : Chg S w w') (hS : ∀ k, lo ≤ k → ¬ S k) : IIB lo w' v zss := by
  obtain ⟨vs, h1, h2, h3⟩ := h
  exact ⟨vs, h1.chg hb hS, h2, fun i r zs e1 e2 => (h3 i r zs e1 e2).chg hb hS⟩
theorem IIB.cur {g lo : Nat} {w w' : World} {v : Value} {zss : List (List Int)} (h : IIB lo w v zss) (hb : Chg (· = g) w w') (hg : g < lo) : IIB lo w' v zss := h.chg hb (fun k hk => by omega)
theorem IIB.keep {lo : Nat} {w w' : World} {v : Value} {zss : List (List Int)} (h : IIB lo w v zss) (hb : Below w.heap.size w w') : IIB lo w' v zss := h.chg (S := fun _ => False) (Chg.of_below hb) (fun _ _ x => x)
theorem IB.cur {g lo : Nat} {w w' : World} {v : Value} {zs : List Int} (h : IB lo w v zs) (hb : Chg (· = g) w w') (hg : g < lo) : IB lo w' v zs := h.chg hb (fun k hk => by omega)
theorem IB.keep {lo : Nat} {w w' : World} {v : Value} {zs : List Int} (h : IB lo w v zs) (hb : Below w.heap.size w w') : IB lo w' v zs := h.chg (S := fun _ => False) (Chg.of_below hb) (fun _ _ x => x)
theorem IIB.read {lo : Nat} {w : World} {v : Value} {zss : List (List Int)} (h : IIB lo w v zss) : II w v zss := by
  obtain ⟨vs, h1, h2, h3⟩ := h
  exact ⟨vs, h1.read, h2, fun i r zs e1 e2 => (h3 i r zs e1 e2).read⟩
theorem OwnV.readB {w : World} {e : TypeId} {g lo : Nat} {v : Value} {xs : List Value} (h : OwnV w e g v xs) (hl : lo ≤ g) : ReadB lo w v xs := by
  obtain ⟨cap, hv, h1, h2, hc, _⟩ := h.form
  exact ⟨g, 0, cap, hv, hl, h1, h2, fun i u hu => by rw [Nat.zero_add]; exact hc i u hu⟩
theorem Own.iB {w : World} {g lo : Nat} {v : Value} {zs : List Int} (h : Own w g v zs) (hl : lo ≤ g) : IB lo w v zs := OwnV.readB h hl
theorem Own2.iiB {w : World} {lo hi : Nat} {v : Value} {zss : List (List Int)} (h : Own2 w lo hi v zss) : IIB lo w v zss := by
  obtain ⟨G, gs, vs, h1, h2, h3, h4, ⟨h5, h6, h7⟩, _⟩ := h
  refine ⟨vs, h4.readB h1, h5, fun i r zs e1 e2 => ?_⟩
  have hi : i < gs.length := by have := (List.getElem?_eq_some_iff.1 e2).1; omega
  exact (h7 i gs[i] r zs (List.getElem?_eq_getElem hi) e1 e2).iB (h3 _ (List.getElem_mem hi)).1
/-- What is drawn as a matrix. -/
def shB (zss : List (List Int)) : Bool := decide (1 ≤ zss.length) && decide (zss.length ≤ 4) && zss.all fun r => decide (r.length = zss.length)
theorem shB_iff {zss : List (List Int)} (h : shB zss = true) : 1 ≤ zss.length ∧ zss.length ≤ 4 ∧ Sq zss := by
  rw [shB, Bool.and_eq_true, Bool.and_eq_true, decide_eq_true_iff, decide_eq_true_iff, List.all_eq_true] at h
  exact ⟨h.1.1, h.1.2, fun k hk => of_decide_eq_true (h.2 _ (List.getElem_mem hk))⟩
def Sh (zss : List (List Int)) : Prop := 1 ≤ zss.length ∧ zss.length ≤ 5 ∧ ∀ r ∈ zss, r.length ≤ 4
def DrawnO (g : Nat) (a : Option Addr) (L c : Nat) (w : World) (e : Ending) (w' : World) : Prop :=
  ∃ v zss lo, e = .returned v ∧ g < lo ∧ w.heap.size ≤ lo ∧ Own2 w' lo w'.heap.size v zss ∧ Sq zss ∧ 1 ≤ zss.length ∧ zss.length ≤ 4 ∧ Cur w' g a L c ∧ Chg (· = g) w w'
def DrawnM (g : Nat) (a : Option Addr) (L c : Nat) (w : World) (e : Ending) (w' : World) : Prop :=
  ∃ v zss lo, e = .returned v ∧ g < lo ∧ IIB lo w' v zss ∧ Sh zss ∧ Cur w' g a L c ∧ Chg (· = g) w w'
theorem drawOnce (g : Nat) (a : Option Addr) (L c : Nat) (n : Int) (hn : -1000 ≤ n) (hn2 : n ≤ 1000000000) (w : World) (h : Cur w g a L c) :
    Calls Tryz.prog 74 #[.pointer (some ⟨g, 0, none⟩), .int .i64 n] w fun e w' => ∃ b : Bool, e = .returned (.bool b) ∧ Cur w' g a L c ∧ Chg (· = g) w w' := by
  go_enter Tryz.func74, Tryz.ntmps74
  go_wp2_with fail
  refine (drawBelow g a L c n hn hn2 w h).mono ?_
  rintro e w1 ⟨r, rfl, hr0, hr1, -, hc, hg2⟩
  go_wp2_with fail
  go_ret
  exact ⟨_, rfl, hc, hg2⟩
set_option maxHeartbeats 1000000 in
theorem drawPick (g : Nat) (a : Option Addr) (L c : Nat) (gl : Nat) (v : Value) (xs : List (List UInt8)) (h0 : 0 < xs.length) (hn : xs.length ≤ 256) (w : World) (h : Cur w g a L c) (hv : OwnV w 9 gl v (strs xs)) (hg : g ≠ gl) :
    Calls Tryz.prog 96 #[.pointer (some ⟨g, 0, none⟩), v] w fun e w' => ∃ x, e = .returned (.string ⟨x.toArray⟩) ∧ x ∈ xs ∧ Cur w' g a L c ∧ Chg (· = g) w w' := by
  have hlen : (strs xs).length = xs.length := by simp [strs]
  obtain ⟨cap, rfl, hc1, hc2, _, _⟩ := hv.form
  rw [hlen] at hv hc1 ⊢
  have HV := Lib.hid hv
  have HG := Lib.hid hg
  clear hv hg hlen
  go_enter Tryz.func96, Tryz.ntmps96
  go_wp2_with fail
  refine (drawBelow g a L c _ (by omega) (by omega) w h).mono ?_
  rintro e w1 ⟨r, rfl, hr0, hr1, -, hc, hg2⟩
  obtain ⟨q, rfl⟩ := Int.eq_ofNat_of_zero_le hr0
  have hq : q < xs.length := by have := hr1 (by omega); omega
  have hx : w1.cell? ⟨gl, q, none⟩ = some (.string ⟨(xs[q]).toArray⟩) := by
    obtain ⟨_, _, _, _, hx0, _⟩ := (HV.out.chg hg2 (fun e => HG.out e.symm)).form
    exact hx0 q _ (by simp [strs, str, hq])
  have HM := Lib.hid (List.getElem_mem hq)
  obtain ⟨x, ex⟩ : ∃ x, xs[q] = x := ⟨_, rfl⟩
  rw [ex] at hx HM
  clear ex hr1
  go_wp2_with fail
  go_ret
  exact ⟨_, rfl, HM.out, hc, hg2⟩
theorem own_litS (w : World) (arr : Array Value) (xs : List (List UInt8)) (h : arr.toList = strs xs) (hm : xs.length ≤ 64) : OwnV (w.alloc (.cells arr 9)) 9 w.heap.size (.slice (some ⟨w.heap.size, 0, none⟩) xs.length xs.length) (strs xs) := by
  have hl : (strs xs).length = xs.length := by simp [strs]
  have hs : arr.size = xs.length := by rw [← Array.length_toList, h, hl]
  refine ⟨xs.length, arr, by rw [hl], heap_alloc_new w _, by rw [hl]; exact Nat.le_refl _, by unfold maxLen; omega, hs, ?_⟩
  rw [h, List.take_length]
def finT : List (List UInt8) := [[65, 49], [65, 50], [65, 50], [65, 51], [65, 51], [66, 50], [66, 50], [66, 51], [67, 51], [71, 50]]
def infT : List (List UInt8) := [[65, 49, 126], [65, 50, 126], [67, 50, 126], [71, 50, 126], [65, 51, 126], [68, 52], [65, 52]]
theorem finT_sh : (finT.all fun x => shB (typL ⟨x.toArray⟩)) = true := by decide +kernel
theorem finT_join : (finT.all fun x => !decide ((typL ⟨x.toArray⟩).length < 3) || shB (joinL (typL ⟨x.toArray⟩) (typL ⟨#[65, 49]⟩))) = true := by decide +kernel
theorem infT_sh : (infT.all fun x => shB (typL ⟨x.toArray⟩)) = true := by decide +kernel
set_option maxHeartbeats 2000000 in
set_option maxRecDepth 100000 in
theorem drawFinite (g : Nat) (a : Option Addr) (L c : Nat) (w : World) (h : Cur w g a L c) : Calls Tryz.prog 129 #[.pointer (some ⟨g, 0, none⟩)] w (DrawnO g a L c w) := by
  have hlt := h.lt
  have HT := Lib.hid (own_litS w (finT.map str).toArray finT (by simp [strs]) (by decide))
  go_enter Tryz.func129, Tryz.ntmps129
  go_wp2_with fail
  refine (drawPick g a L c w.heap.size _ finT (by decide) (by decide) _ (h.keep (below_new w _) h.lt) HT.out (by omega)).mono ?_
  rintro e w1 ⟨x, rfl, hx, hc1, hg1⟩
  have c1 : Chg (· = g) w w1 := (Chg.of_below (below_new w _)).trans hg1
  have l1 := hc1.lt
  have HS := Lib.hid (List.all_eq_true.1 finT_sh x hx)
  have HJ := Lib.hid (List.all_eq_true.1 finT_join x hx)
  clear hg1 hx h
  go_wp2_with fail
  refine (specTypeCartan ⟨x.toArray⟩ w1).mono ?_
  intro e w2 r2
  obtain ⟨v2, rfl, o2, b2⟩ := r2.out
  clear r2
  obtain ⟨T, hT⟩ : ∃ T, typL ⟨x.toArray⟩ = T := ⟨_, rfl⟩
  have HJ2 := Lib.hid (show (!decide (T.length < 3) || shB (joinL T (typL ⟨#[65, 49]⟩))) = true by rw [← hT]; exact HJ.out)
  have HS2 := Lib.hid (show shB T = true by rw [← hT]; exact HS.out)
  rw [hT] at o2
  clear HJ HS
  have hT' := hT
  clear hT hT'
  obtain ⟨G2, cp2, rfl, hcp, hcp2, _, _⟩ := o2.form0
  have hc2 := hc1.keep b2 l1
  have l2 := hc2.lt
  have c2 := c1.trans (Chg.of_below b2)
  have s2 := b2.size
  have hsh := shB_iff HS2.out
  by_cases h3 : T.length < 3
  · go_wp2_with fail
    refine (drawOnce g a L c 4 (by omega) (by omega) w2 hc2).mono ?_
    rintro e w3 ⟨b, rfl, hc3, hg3⟩
    have o3 : Own2 w3 w1.heap.size w2.heap.size _ T := o2.chg (hg3.mono (S' := fun k => g ≤ k ∧ k < g + 1) (fun k hk => by omega)) (by omega)
    have c3 := c2.trans hg3
    have l3 := hc3.lt
    have s3 := hg3.size
    cases b with
    | true =>
      go_wp2_with fail
      refine (specTypeCartan ⟨#[65, 49]⟩ w3).mono ?_
      intro e w4 r4
      obtain ⟨v4, rfl, o4, b4⟩ := r4.out
      clear r4
      have o3' := o3.keep b4
      have hc4 := hc3.keep b4 l3
      have s4 := b4.size
      go_wp2_with fail
      refine (specJoinCartans _ _ T _ (by omega) (by have := typ_total ⟨#[65, 49]⟩; unfold total at this; omega) _ o3'.read o4.read).mono ?_
      intro e w5 r5
      obtain ⟨v5, rfl, o5, b5⟩ := r5.out
      clear r5
      have hsh2 := shB_iff (by have := HJ2.out; rw [decide_eq_true h3] at this; simpa using this)
      go_wp2_with fail
      go_ret
      exact ⟨_, _, w4.heap.size, rfl, by have := hc4.lt; omega, by have := c3.size; omega, o5, hsh2.2.2, hsh2.1, hsh2.2.1, hc4.keep b5 hc4.lt, (c3.trans (Chg.of_below b4)).trans (Chg.of_below b5)⟩
    | false =>
      go_wp2_with fail
      go_ret
      exact ⟨_, _, w1.heap.size, rfl, l1, c1.size, o3.mono (Nat.le_refl _) s3, hsh.2.2, hsh.1, hsh.2.1, hc3, c3⟩
  · go_wp2_with fail
    go_ret
    exact ⟨_, _, w1.heap.size, rfl, l1, c1.size, o2, hsh.2.2, hsh.1, hsh.2.1, hc2, c2⟩
theorem setL2_sq {c : List (List Int)} (h : Sq c) (i j : Nat) (a b : Int) : Sq (setL2 c i j a b) := setAt_sq (setAt_sq h i j a) j i b
theorem setL2_len (c : List (List Int)) (i j : Nat) (a b : Int) : (setL2 c i j a b).length = c.length := by rw [setL2, setAt_length, setAt_length]
set_option maxHeartbeats 2000000 in
set_option maxRecDepth 100000 in
theorem drawInfinite (g : Nat) (a : Option Addr) (L c : Nat) (w : World) (h : Cur w g a L c) : Calls Tryz.prog 128 #[.pointer (some ⟨g, 0, none⟩)] w (DrawnO g a L c w) := by
  have hlt := h.lt
  have HT := Lib.hid (own_litS w (infT.map str).toArray infT (by simp [strs]) (by decide))
  go_enter Tryz.func128, Tryz.ntmps128
  go_wp2_with fail
  refine (drawPick g a L c w.heap.size _ infT (by decide) (by decide) _ (h.keep (below_new w _) h.lt) HT.out (by omega)).mono ?_
  rintro e w1 ⟨x, rfl, hx, hc1, hg1⟩
  have c1 : Chg (· = g) w w1 := (Chg.of_below (below_new w _)).trans hg1
  have l1 := hc1.lt
  have HS := Lib.hid (List.all_eq_true.1 infT_sh x hx)
  clear hg1 hx h
  go_wp2_with fail
  refine (specTypeCartan ⟨x.toArray⟩ w1).mono ?_
  intro e w2 r2
  obtain ⟨v2, rfl, o2, b2⟩ := r2.out
  clear r2
  obtain ⟨T, hT⟩ : ∃ T, typL ⟨x.toArray⟩ = T := ⟨_, rfl⟩
  have HS2 := Lib.hid (show shB T = true by rw [← hT]; exact HS.out)
  rw [hT] at o2
  clear HS
  have hT' := hT
  clear hT hT'
  obtain ⟨G2, cp2, rfl, hcp, hcp2, _, _⟩ := o2.form0
  have hc2 := hc1.keep b2 l1
  have c2 := c1.trans (Chg.of_below b2)
  have s2 := b2.size
  obtain ⟨sh1, sh2, sh3⟩ := shB_iff HS2.out
  have HQ := Lib.hid sh3
  clear sh3
  go_wp2_with fail
  refine (drawOnce g a L c 3 (by omega) (by omega) w2 hc2).mono ?_
  rintro e w3 ⟨b, rfl, hc3, hg3⟩
  have o3 : Own2 w3 w1.heap.size w2.heap.size _ T := o2.chg (hg3.mono (S' := fun k => g ≤ k ∧ k < g + 1) (fun k hk => by omega)) (by omega)
  have c3 := c2.trans hg3
  have s3 := hg3.size
  cases b with
  | true =>
    go_wp2_with fail
    refine (drawBelow g a L c _ (by omega) (by omega) w3 hc3).mono ?_
    rintro e w4 ⟨i, rfl, hi0, hi1, -, hc4, hg4⟩
    have o4 : Own2 w4 w1.heap.size w2.heap.size _ T := o3.chg (hg4.mono (S' := fun k => g ≤ k ∧ k < g + 1) (fun k hk => by omega)) (by omega)
    have c4 := c3.trans hg4
    have s4 := hg4.size
    obtain ⟨p, rfl⟩ := Int.eq_ofNat_of_zero_le hi0
    have hp : p < T.length := by have := hi1 (by omega); omega
    clear hi0 hi1
    go_wp2_with fail
    refine (drawBelow g a L c _ (by omega) (by omega) w4 hc4).mono ?_
    rintro e w5 ⟨j, rfl, hj0, hj1, -, hc5, hg5⟩
    have o5 : Own2 w5 w1.heap.size w2.heap.size _ T := o4.chg (hg5.mono (S' := fun k => g ≤ k ∧ k < g + 1) (fun k hk => by omega)) (by omega)
    have c5 := c4.trans hg5
    have s5 := hg5.size
    obtain ⟨q, rfl⟩ := Int.eq_ofNat_of_zero_le hj0
    have hq : q < T.length := by have := hj1 (by omega); omega
    clear hj0 hj1 o2 o3 o4
    by_cases hpq : p = q
    · have e1 : ((p : Int) != (q : Int)) = false := by rw [bne_eq_false_iff_eq]; omega
      clear hpq
      go_wp2_with fail
      go_ret
      exact ⟨_, _, w1.heap.size, rfl, l1, c1.size, o5.mono (Nat.le_refl _) (by omega), HQ.out, sh1, sh2, hc5, c5⟩
    · have e1 : ((p : Int) != (q : Int)) = true := by rw [bne_iff_ne]; omega
      clear hpq
      go_wp2_with fail
      refine (drawBelow g a L c 3 (by omega) (by omega) w5 hc5).mono ?_
      rintro e w6 ⟨y, rfl, hy0, hy1, -, hc6, hg6⟩
      have o6 : Own2 w6 w1.heap.size w2.heap.size _ T := o5.chg (hg6.mono (S' := fun k => g ≤ k ∧ k < g + 1) (fun k hk => by omega)) (by omega)
      have hy := hy1 (by omega)
      clear hy1
      go_wp2_with fail
      refine (drawBelow g a L c 3 (by omega) (by omega) w6 hc6).mono ?_
      rintro e w7 ⟨z, rfl, hz0, hz1, -, hc7, hg7⟩
      have o7 : Own2 w7 w1.heap.size w2.heap.size _ T := o6.chg (hg7.mono (S' := fun k => g ≤ k ∧ k < g + 1) (fun k hk => by omega)) (by omega)
      have hz := hz1 (by omega)
      clear hz1 o5 o6
      go_wp2_with fail
      refine (specSet2 _ T p q _ _ HQ.out (by omega) hp hq w7 o7.read).mono ?_
      intro e w8 r8
      obtain ⟨v8, rfl, o8, b8⟩ := r8.out
      clear r8
      go_wp2_with fail
      go_ret
      exact ⟨_, _, w7.heap.size, rfl, hc7.lt, by have := ((c5.trans hg6).trans hg7).size; omega, o8, setL2_sq HQ.out _ _ _ _, by rw [setL2_len]; exact sh1, by rw [setL2_len]; exact sh2, hc7.keep b8 hc7.lt, ((c5.trans hg6).trans hg7).trans (Chg.of_below b8)⟩
  | false =>
    go_wp2_with fail
    go_ret
    exact ⟨_, _, w1.heap.size, rfl, l1, c1.size, o3.mono (Nat.le_refl _) s3, HQ.out, sh1, sh2, hc3, c3⟩
theorem drawDrawn (g : Nat) (a : Option Addr) (L c : Nat) (w : World) (h : Cur w g a L c) : Calls Tryz.prog 113 #[.pointer (some ⟨g, 0, none⟩)] w (DrawnO g a L c w) := by
  go_enter Tryz.func113, Tryz.ntmps113
  go_wp2_with fail
  refine (drawOnce g a L c 3 (by omega) (by omega) w h).mono ?_
  rintro e w1 ⟨b, rfl, hc1, hg1⟩
  cases b with
  | true =>
    go_wp2_with fail
    refine (drawInfinite g a L c w1 hc1).mono ?_
    rintro e w2 ⟨v, zss, lo, rfl, hlo, hlo2, hO, q1, q2, q3, hc2, hg2⟩
    obtain ⟨G2, cp2, rfl, _, _, _, _⟩ := hO.form0
    go_wp2_with fail
    go_ret
    exact ⟨_, zss, lo, rfl, hlo, by have := hg1.size; omega, hO, q1, q2, q3, hc2, hg1.trans hg2⟩
  | false =>
    go_wp2_with fail
    refine (drawFinite g a L c w1 hc1).mono ?_
    rintro e w2 ⟨v, zss, lo, rfl, hlo, hlo2, hO, q1, q2, q3, hc2, hg2⟩
    obtain ⟨G2, cp2, rfl, _, _, _, _⟩ := hO.form0
    go_wp2_with fail
    go_ret
    exact ⟨_, zss, lo, rfl, hlo, by have := hg1.size; omega, hO, q1, q2, q3, hc2, hg1.trans hg2⟩
theorem own2_parts {w : World} {lo hi g : Nat} {v : Value} {zss : List (List Int)} (h : Own2 w lo hi v zss) (hg : g < lo) :
    ∃ G vs, lo ≤ G ∧ G < hi ∧ OwnV w 27 G v vs ∧ vs.length = zss.length ∧
      (∀ (i : Nat) (r : Value) (zs : List Int), vs[i]? = some r → zss[i]? = some zs → ∀ w', Chg (fun k => k = g ∨ k = G) w w' → IB lo w' r zs) ∧
      (∀ (i : Nat) (hi : i < zss.length), ∃ gr cr, vs[i]? = some (.slice (some ⟨gr, 0, none⟩) zss[i].length cr) ∧ gr ≠ G ∧ lo ≤ gr ∧ zss[i].length ≤ cr ∧ cr ≤ maxLen ∧ ∀ j (hj : j < zss[i].length), w.cell? ⟨gr, j, none⟩ = some (.int .i64 zss[i][j])) := by
  obtain ⟨G, gs, vs, h1, h2, h3, h4, ⟨h5, h6, h7⟩, h8, h9⟩ := h
  refine ⟨G, vs, h1, h2, h4, h5, fun i r zs e1 e2 w' hc => ?_, fun i hi => ?_⟩
  · have hi : i < gs.length := by have := (List.getElem?_eq_some_iff.1 e2).1; omega
    have hm := List.getElem_mem hi
    have ho := h7 i gs[i] r zs (List.getElem?_eq_getElem hi) e1 e2
    have := h3 _ hm
    exact (ho.chg hc (by rintro (e | e); · omega
                         · exact h8 (e ▸ hm))).iB this.1
  · have hi1 : i < gs.length := by omega
    have hi2 : i < vs.length := by omega
    have hm := List.getElem_mem hi1
    have ho := h7 i gs[i] vs[i] zss[i] (List.getElem?_eq_getElem hi1) (List.getElem?_eq_getElem hi2) (List.getElem?_eq_getElem hi)
    obtain ⟨cr, e, q1, q2⟩ := ho.form
    refine ⟨gs[i], cr, by rw [List.getElem?_eq_getElem hi2, e], fun e => h8 (e ▸ hm), (h3 _ hm).1, q1, q2, fun j hj => ho.cell hj⟩
theorem rows_set {w1 w' : World} {lo g G p : Nat} {r' : Value} {zs' : List Int} {vs : List Value} {zss : List (List Int)}
    (HR : ∀ (i : Nat) (r : Value) (zs : List Int), vs[i]? = some r → zss[i]? = some zs → ∀ w', Chg (fun k => k = g ∨ k = G) w1 w' → IB lo w' r zs) (hc : Chg (fun k => k = g ∨ k = G) w1 w')
    (hr : IB lo w' r' zs') : ∀ (i : Nat) (r : Value) (zs : List Int), (vs.set p r')[i]? = some r → (zss.set p zs')[i]? = some zs → IB lo w' r zs := by
  intro i r zs e1 e2
  by_cases hip : p = i
  · subst hip
    rw [List.getElem?_set_self' ] at e1 e2
    cases hv : vs[p]? with
    | none => rw [hv] at e1; simp at e1
    | some y =>
      cases hz : zss[p]? with
      | none => rw [hz] at e2; simp at e2
      | some z =>
        rw [hv] at e1; rw [hz] at e2
        simp at e1 e2
        subst e1 e2
        exact hr
  · rw [List.getElem?_set_ne hip] at e1 e2
    exact HR i r zs e1 e2 w' hc
/-- A matrix of which one row is another. -/
theorem iib_set {w1 w' : World} {lo g G p : Nat} {v' r' : Value} {zs' : List Int} {vs : List Value} {zss : List (List Int)} (hl : vs.length = zss.length)
    (HR : ∀ (i : Nat) (r : Value) (zs : List Int), vs[i]? = some r → zss[i]? = some zs → ∀ w', Chg (fun k => k = g ∨ k = G) w1 w' → IB lo w' r zs) (hc : Chg (fun k => k = g ∨ k = G) w1 w')
    (ho : ReadB lo w' v' (vs.set p r')) (hr : IB lo w' r' zs') : IIB lo w' v' (zss.set p zs') :=
  ⟨vs.set p r', ho, by simp [hl], rows_set HR hc hr⟩
theorem iib_snoc {w' : World} {lo : Nat} {v' r2 : Value} {z2 : List Int} {vs : List Value} {zss : List (List Int)} (hl : vs.length = zss.length)
    (HR : ∀ (i : Nat) (r : Value) (zs : List Int), vs[i]? = some r → zss[i]? = some zs → IB lo w' r zs)
    (ho : ReadB lo w' v' (vs ++ [r2])) (hr : IB lo w' r2 z2) : IIB lo w' v' (zss ++ [z2]) := by
  refine ⟨vs ++ [r2], ho, by simp [hl], fun i r zs e1 e2 => ?_⟩
  by_cases hi : i < zss.length
  · rw [List.getElem?_append_left (by omega)] at e1 e2
    exact HR i r zs e1 e2
  · rw [List.getElem?_append_right (by omega)] at e1 e2
    have hz : i - zss.length = 0 := by
      have := (List.getElem?_eq_some_iff.1 e2).1
      simp at this; omega
    rw [show i - vs.length = 0 by omega] at e1
    rw [hz] at e2
    simp at e1 e2
    subst e1 e2
    exact hr
theorem row_drop {w : World} {lo gA capA : Nat} {z : List Int} (h : Own w gA (.slice (some ⟨gA, 0, none⟩) z.length capA) z) (hl : lo ≤ gA) (hz : 0 < z.length) (hc : z.length ≤ capA ∧ capA ≤ maxLen) : IB lo w (.slice (some ⟨gA, 1, none⟩) (z.length - 1) (capA - 1)) (z.drop 1) := by
  refine ⟨gA, 1, capA - 1, by simp [ivs], hl, by simp [ivs]; omega, by omega, fun i u hu => ?_⟩
  have hi : i < z.length - 1 := by have := (List.getElem?_eq_some_iff.1 hu).1; simpa [ivs] using this
  rw [h.cell (i := 1 + i) (by omega)]
  simp only [ivs, List.getElem?_map, List.getElem?_drop] at hu
  rw [List.getElem?_eq_getElem (by omega)] at hu
  simpa using hu
theorem row_nil {w : World} {lo gA : Nat} {z : List Int} (hl : lo ≤ gA) (hz : z.length ≤ 1) : IB lo w (.slice (some ⟨gA, 0, none⟩) (z.length - 1) 0) (z.drop 1) := by
  have e : z.drop 1 = [] := List.drop_eq_nil_of_le hz
  rw [e]
  refine ⟨gA, 0, 0, by simp [ivs]; omega, hl, by simp [ivs], Nat.zero_le _, fun i u hu => by simp [ivs] at hu⟩
theorem sh_set {zss : List (List Int)} (h : Sh zss) (p : Nat) {z : List Int} (hz : z.length ≤ 4) : Sh (zss.set p z) := by
  refine ⟨by simpa using h.1, by simpa using h.2.1, fun r hr => ?_⟩
  rcases List.mem_or_eq_of_mem_set hr with hr | rfl
  · exact h.2.2 r hr
  · exact hz
def anyT : List Int := [-4, 1, 0, 2]
theorem cell_cur {w w' : World} {g : Nat} {ad : Addr} {u : Value} (h : Chg (· = g) w w') (hg : ad.block ≠ g) (hc : w.cell? ad = some u) : w'.cell? ad = some u := by
  rw [World.cell?_of_block (w := w) (h.block ad.block (World.block_lt_of_cell? w _ hc) hg)]; exact hc
theorem froz_cur {w w' : World} {g : Nat} {ad : Addr} (h : Chg (· = g) w w') (hg : ad.block ≠ g) (hl : ad.block < w.heap.size) (hc : w.frozen? ad = false) : w'.frozen? ad = false := by
  rw [World.frozen?_of_block (w := w) (h.block ad.block hl hg)]; exact hc
theorem chg_two {w w1 w4 : World} {g G : Nat} (h1 : Chg (· = g) w w1) (h4 : Chg (fun k => k = g ∨ k = G) w1 w4) (hG : w.heap.size ≤ G) : Chg (· = g) w w4 := by
  refine ⟨h4.os.trans h1.os, h4.tape.trans h1.tape, h4.output.trans h1.output, Nat.le_trans h1.size h4.size, fun k hk hn => ?_⟩
  have hn' : ¬ (k = g ∨ k = G) := by
    rintro (e | e)
    · exact hn e
    · omega
  exact (h4.block k (Nat.lt_of_lt_of_le hk h1.size) hn').trans (h1.block k hk hn)
set_option maxHeartbeats 4000000 in
set_option maxRecDepth 100000 in
theorem drawAny (g : Nat) (a : Option Addr) (L c : Nat) (w : World) (h : Cur w g a L c) : Calls Tryz.prog 73 #[.pointer (some ⟨g, 0, none⟩)] w (DrawnM g a L c w) := by
  go_enter Tryz.func73, Tryz.ntmps73
  go_wp2_with fail
  refine (drawDrawn g a L c w h).mono ?_
  rintro e w1 ⟨v, zss, lo, rfl, hlo, hlo2, hO, q1, q2, q3, hc1, hg1⟩
  clear h
  have hI := hO.iiB
  have sh : Sh zss := ⟨q2, by omega, fun r hr => by obtain ⟨k, hk, rfl⟩ := List.mem_iff_getElem.1 hr; rw [q1 k hk]; omega⟩
  have HQ := Lib.hid q1
  obtain ⟨G, vs, hG1, hG2, hOv, hvl, HR0, HP0⟩ := own2_parts hO hlo
  obtain ⟨cv, rfl, hcv1, hcv2, hcells, hfr⟩ := hOv.form
  rw [hvl] at hI hO hOv hcv1 ⊢
  have HR := Lib.hid HR0
  have HP := Lib.hid HP0
  have HOV := Lib.hid hOv
  have HC := Lib.hid hcells
  have HF := Lib.hid hfr
  have HL := Lib.hid hvl
  have HI := Lib.hid hI
  have HSH := Lib.hid sh
  clear HR0 HP0 hOv hcells hfr hvl hI sh hO q1
  go_wp2_with fail
  refine (drawOnce g a L c 12 (by omega) (by omega) w1 hc1).mono ?_
  rintro e w2 ⟨b, rfl, hc2, hg2⟩
  cases b with
  | false =>
    go_wp2_with fail
    go_ret
    exact ⟨_, zss, lo, rfl, hlo, HI.out.cur hg2 hlo, HSH.out, hc2, hg1.trans hg2⟩
  | true =>
    go_wp2_with fail
    refine (drawBelow g a L c _ (by omega) (by omega) w2 hc2).mono ?_
    rintro e w3 ⟨p0, rfl, hp0, hp1, -, hc3, hg3⟩
    obtain ⟨p, rfl⟩ := Int.eq_ofNat_of_zero_le hp0
    have hp : p < zss.length := by have := hp1 (by omega); omega
    clear hp0 hp1 hc2
    have cg3 := hg2.trans hg3
    obtain ⟨gp, cp, hvp, hne, hlp, hcp1, hcp2, hcl⟩ := HP.out p hp
    obtain ⟨z, hz⟩ : ∃ z, zss[p] = z := ⟨_, rfl⟩
    have hz4 : z.length ≤ 4 := by rw [← hz, HQ.out p hp]; omega
    have hz1 : 0 < z.length := by rw [← hz, HQ.out p hp]; omega
    have HZ := Lib.hid hz
    simp only [hz] at hvp hcp1 hcl
    have y1 : w3.cell? ⟨G, p, none⟩ = some (.slice (some ⟨gp, 0, none⟩) z.length cp) := by
      have := HC.out p _ hvp
      rw [World.cell?_of_block (w := w1) (cg3.block G (World.block_lt_of_cell? w1 _ this) (by omega))]; exact this
    have yf : w3.frozen? ⟨G, p, none⟩ = false := by
      have := HC.out p _ hvp
      rw [World.frozen?_of_block (w := w1) (cg3.block G (World.block_lt_of_cell? w1 _ this) (by omega))]; exact HF.out p
    have yz : ∀ j (hj : j < z.length), w3.cell? ⟨gp, 0 + j, none⟩ = some (.int .i64 z[j]) := by
      intro j hj
      have := hcl j hj
      rw [Nat.zero_add, World.cell?_of_block (w := w1) (cg3.block gp (World.block_lt_of_cell? w1 _ this) (by omega))]; exact this
    have HYZ := Lib.hid yz
    have hGl : G < w3.heap.size := World.block_lt_of_cell? w3 _ y1
    have hbn := below_new w3 (.cells #[] 3)
    clear hz yz hcl hvp
    have hp2 : (0 : Int) ≤ (p : Int) := by omega
    have hp3 : (p : Int) < (zss.length : Int) := by omega
    go_wp2_with (at_builtin; refine wpList_appendV elemInt _ rfl _ _ rfl w3.heap.size (.slice (some ⟨w3.heap.size, 0, none⟩) 0 0) 0 [] rfl (rowV_empty w3 _) (ivs z) gp 0 z.length cp rfl (ivs_length z) (cells_after HYZ.out hbn) (ivs_one z) (by omega) hbn.size ?_; intro gA capA wA hrowA hgrowA hbA; have y2 := cells_keep (hbn.trans hbA) y1; have yf2 := (((hbn.trans hbA).frozen (p := ⟨G, p, none⟩) hGl).trans yf))
    have hT := hbn.trans hbA
    have hrA : RowV wA w3.heap.size 3 (.slice (some ⟨gA, 0, none⟩) z.length capA) z.length (ivs z) := hrowA.cast (by rw [Nat.zero_add]) (Nat.zero_add _) (List.nil_append _)
    obtain ⟨gx, hgx, hownA⟩ := hrA.own
    have hgA : gx = gA := by have := OwnV.block hownA; simpa [Value.ownBlock] using this.symm
    rw [hgA] at hgx hownA
    have hneA : gA ≠ G := by omega
    have hloA : lo ≤ gA := by have := cg3.size; omega
    have hgA1 : w1.heap.size ≤ gA := by have := cg3.size; omega
    clear hgA
    have hcA : z.length ≤ capA ∧ capA ≤ maxLen := by
      obtain ⟨cap', he, k1, k2⟩ := Own.form (w := wA) (zs := z) hownA
      simp at he; subst he; exact ⟨k1, k2⟩
    obtain ⟨w4, hw4⟩ : ∃ w4, wA.setCell ⟨G, p, none⟩ (.slice (some ⟨gA, 0, none⟩) z.length capA) = w4 := ⟨_, rfl⟩
    have ho4 : Own w4 gA (.slice (some ⟨gA, 0, none⟩) z.length capA) z := by rw [← hw4]; exact Own.chg hownA (chg_set wA G p _) (fun e => hneA e)
    have hov4 : OwnV w4 27 G (.slice (some ⟨G, 0, none⟩) zss.length cv) (vs.set p (.slice (some ⟨gA, 0, none⟩) z.length capA)) := by
      rw [← hw4]; exact ((HOV.out.chg cg3 (fun e => by omega)).keep hT).set p _
    have hc4 : Cur w4 g a L c := by rw [← hw4]; exact (hc3.keep hT hc3.lt).keep ((Below.refl lo wA).setCell hG1 _) hlo
    have hg4 : Chg (fun k => k = g ∨ k = G) w1 w4 := by
      rw [← hw4]; exact ((cg3.mono (fun k hk => .inl hk)).trans (Chg.of_below hT)).trans ((chg_set wA G p _).mono (fun k hk => .inr hk))
    have hgw4 : Chg (· = g) w w4 := chg_two hg1 hg4 (by omega)
    rw [hw4]
    have HO4 := Lib.hid ho4
    have HOV4 := Lib.hid hov4
    have HG4 := Lib.hid hg4
    have HGW4 := Lib.hid hgw4
    clear ho4 hov4 hg4 hgw4 hw4 hownA hrA hrowA hgrowA hbA y1 yf y2 yf2 hbn cg3 hc3 hT HYZ hp2 hp3
    refine (drawBelow g a L c 3 (by omega) (by omega) w4 hc4).mono ?_
    rintro e w5 ⟨k, rfl, hk0, hk1, -, hc5, hg5⟩
    have hk3 := hk1 (by omega)
    clear hk1 hc4
    have HO5 := Lib.hid (HO4.out.chg hg5 (fun e => by omega))
    have HOV5 := Lib.hid (HOV4.out.chg hg5 (fun e => by omega))
    have HG5 := Lib.hid (HG4.out.trans (hg5.mono (fun k hk => .inl hk)))
    have HGW5 := Lib.hid (HGW4.out.trans hg5)
    clear HO4 HOV4 HG4 HGW4 hg5
    have hsetv : (vs.set p (.slice (some ⟨gA, 0, none⟩) z.length capA))[p]? = some (.slice (some ⟨gA, 0, none⟩) z.length capA) := by
      rw [List.getElem?_set_self (by rw [HL.out]; exact hp)]
    have y1 : w5.cell? ⟨G, p, none⟩ = some (.slice (some ⟨gA, 0, none⟩) z.length capA) := by
      obtain ⟨_, _, _, _, hx0, _⟩ := HOV5.out.form
      exact hx0 p _ hsetv
    have yf : w5.frozen? ⟨G, p, none⟩ = false := by
      obtain ⟨_, _, _, _, _, hx0⟩ := HOV5.out.form
      exact hx0 p
    have yz : w5.cell? ⟨gA, 0, none⟩ = some (.int .i64 z[0]) := HO5.out.cell hz1
    have yzf : w5.frozen? ⟨gA, 0, none⟩ = false := HO5.out.frozen 0
    clear hsetv
    have hp2 : (0 : Int) ≤ (p : Int) := by omega
    have hp3 : (p : Int) < (zss.length : Int) := by omega
    have hsh := sh_set HSH.out p (z := z.drop 1) (by simp; omega)
    cases e0 : (k == 0) with
    | true =>
      have HT := Lib.hid (own_litD w5 (anyT.map (Value.int .i64)).toArray anyT (by simp [ivs]) (by decide))
      have hlt5 := hc5.lt
      have hAlt : gA < w5.heap.size := World.block_lt_of_cell? w5 _ yz
      have hGne : G ≠ g := by omega
      have hAne : gA ≠ g := by omega
      obtain ⟨z0, hz0⟩ : ∃ z0, z[0] = z0 := ⟨_, rfl⟩
      rw [hz0] at yz
      clear hz0
      go_wp2_with fail
      go_region_held3 (fun w' => w'.cell? ⟨G, p, none⟩ = some (.slice (some ⟨gA, 0, none⟩) z.length capA)) (first | go_keep | exact cell_cur hgB hGne ‹_› | exact (World.cell?_setCell_other _ _ _ _ (by simp [hneA])).trans ‹_›) ((go_at_call 114; refine (drawPickInt g a L c w5.heap.size _ anyT (by decide) (by decide) _ (hc5.keep ((below_new w5 _).drew) hc5.lt) HT.out (by omega)).mono ?_; rintro e wB ⟨x, rfl, hx, hcB, hgB⟩; have yfB := froz_cur hgB hAne (Nat.lt_of_lt_of_le hAlt ((below_new w5 _).drew).size) ((((below_new w5 _).drew).frozen (p := ⟨gA, 0, none⟩) hAlt).trans yzf); have yzB := cell_cur hgB hAne ((((below_new w5 _).drew).cell (p := ⟨gA, 0, none⟩) hAlt).trans yz)))
      have hwB : Chg (· = g) w5 wB := (Chg.of_below ((below_new w5 _).drew)).trans hgB
      have HOB := Lib.hid (HO5.out.chg hwB hAne)
      have HOVB := Lib.hid (HOV5.out.chg hwB hGne)
      have HGB := Lib.hid (HG5.out.trans (hwB.mono (fun k hk => .inl hk)))
      have HGWB := Lib.hid (HGW5.out.trans hwB)
      clear HT hgB hwB
      go_wp2_with fail
      go_ret
      exact ⟨_, zss.set p (z.set 0 x), lo, rfl, hlo, iib_set (r' := .slice (some ⟨gA, 0, none⟩) z.length capA) HL.out HR.out (chg_below HGB.out ((Below.refl _ wB).setCell hgA1 _)) ((HOVB.out.chg (chg_set wB gA 0 _) (fun e => hneA e.symm)).readB hG1) (Own.iB (HOB.out.set 0 x) hloA), sh_set HSH.out p (by simp; omega), hcB.keep ((Below.refl lo wB).setCell hloA _) hlo, chg_below HGWB.out ((Below.refl _ wB).setCell (show w.heap.size ≤ gA by omega) _)⟩
    | false =>
      cases e1 : (k == 1) with
      | true =>
        by_cases hcap : capA = 1
        · go_wp2_with fail
          go_ret
          have hzl : z.length ≤ 1 := by omega
          refine ⟨_, zss.set p (z.drop 1), lo, rfl, hlo, iib_set (r' := .slice (some ⟨gA, 0, none⟩) (z.length - 1) 0) HL.out HR.out (HG5.out.trans ((chg_set w5 G p _).mono (fun k hk => .inr hk))) ?_ (row_nil hloA hzl), hsh, hc5.keep ((Below.refl lo w5).setCell hG1 _) hlo, chg_two HGW5.out ((chg_set w5 G p _).mono (fun k hk => .inr hk)) (by omega)⟩
          have := OwnV.readB (HOV5.out.set p (.slice (some ⟨gA, 0, none⟩) (z.length - 1) 0)) hG1
          rwa [List.set_set] at this
        · go_wp2_with fail
          go_ret
          refine ⟨_, zss.set p (z.drop 1), lo, rfl, hlo, iib_set (r' := .slice (some ⟨gA, 1, none⟩) (z.length - 1) (capA - 1)) HL.out HR.out (HG5.out.trans ((chg_set w5 G p _).mono (fun k hk => .inr hk))) ?_ (row_drop (Own.chg HO5.out (chg_set w5 G p _) hneA) hloA hz1 hcA), hsh, hc5.keep ((Below.refl lo w5).setCell hG1 _) hlo, chg_two HGW5.out ((chg_set w5 G p _).mono (fun k hk => .inr hk)) (by omega)⟩
          have := OwnV.readB (HOV5.out.set p (.slice (some ⟨gA, 1, none⟩) (z.length - 1) (capA - 1))) hG1
          rwa [List.set_set] at this
      | false =>
        have e2 : (k == 2) = true := by
          rw [beq_iff_eq]
          rw [beq_eq_false_iff_ne] at e0 e1
          omega
        have hG5 : G < w5.heap.size := OwnV.lt HOV5.out
        have HO6 := Lib.hid (own_litD w5 #[.int .i64 2] [2] rfl (by decide))
        have hrow6 : RowV (w5.alloc (.cells #[.int .i64 2] 3)) lo 27 (.slice (some ⟨G, 0, none⟩) zss.length cv) zss.length (vs.set p (.slice (some ⟨gA, 0, none⟩) z.length capA)) := ((HOV5.out.keep (below_new w5 _)).rowV hG1).cast rfl (by rw [List.length_set]; exact HL.out) rfl
        go_wp2_with (at_builtin; refine wpList_pushV elemRow _ rfl _ _ rfl lo _ zss.length _ rfl (hrow6.alloc _) (.slice (some ⟨w5.heap.size, 0, none⟩) 1 1) (w5.heap.size + 1) rfl (cell_new2 _ _ _ _) rfl (by omega) (by simp; omega) ?_; intro gB capB wB hrowB hgrowB hbB)
        go_ret
        obtain ⟨gx, hgxl, hoB⟩ := hrowB.own
        have hgB : gx = gB := by have := hoB.block; simpa [Value.ownBlock] using this.symm
        rw [hgB] at hgxl hoB
        clear hgB
        have hb2 := (below_new w5 (.cells #[.int .i64 2] 3)).trans ((below_new (w5.alloc (.cells #[.int .i64 2] 3)) (.cells #[.slice (some ⟨w5.heap.size, 0, none⟩) 1 1] 27)).mono (below_new w5 _).size)
        have hb5 : Below lo w5 wB := (hb2.mono (by omega)).trans hbB
        have hch : Chg (· = G) _ wB := chg_grown hgrowB
        have hoA : Own wB gA (.slice (some ⟨gA, 0, none⟩) z.length capA) z := (HO5.out.keep hb2).chg hch hneA
        have ho2 : Own wB w5.heap.size (.slice (some ⟨w5.heap.size, 0, none⟩) 1 1) [2] := (HO6.out.keep (below_new _ _)).chg hch (by omega)
        have hcc : Chg (fun k => k = g ∨ k = G) w1 wB := (HG5.out.trans (Chg.of_below hb2)).trans (hch.mono (fun k hk => .inr hk))
        have hzz : zss.set p z = zss := by rw [← HZ.out]; simp
        have hrows := rows_set (p := p) HR.out hcc (hoA.iB hloA)
        rw [hzz] at hrows
        have hshA : Sh (zss ++ [[2]]) := ⟨by simp, by simp; omega, fun r hr => by
          rcases List.mem_append.1 hr with hr | hr
          · exact HSH.out.2.2 r hr
          · simp at hr; subst hr; simp⟩
        have hro : ReadB lo wB (.slice (some ⟨gB, 0, none⟩) (zss.length + 1) capB) (vs.set p (.slice (some ⟨gA, 0, none⟩) z.length capA) ++ [.slice (some ⟨w5.heap.size, 0, none⟩) 1 1]) := hoB.readB hgxl
        exact ⟨_, zss ++ [[2]], lo, rfl, hlo, iib_snoc (by rw [List.length_set]; exact HL.out) hrows hro (ho2.iB (by omega)), hshA, hc5.keep hb5 hlo, chg_below HGW5.out (hb5.mono hlo2)⟩
end Go.Proofs.YtaikjkcbgniplaaGreatDoor
