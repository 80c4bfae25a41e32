/- The reference's drawing functions of texts: what they return is short. -/
import Derived.Test.YtgappocmdbaahaaDrawM
import Derived.Deep.RegionHeldLaw
namespace Go.Proofs.Ytgappocmdbaahaa
open Go.RowKit
set_option linter.unusedVariables false

theorem wrap_u8_bd (n : Int) : 0 ≤ IntKind.u8.wrap n ∧ IntKind.u8.wrap n < 256 := by
  have h : IntKind.u8.wrap n = n % 256 := by rw [IntKind.wrap_u8]
  rw [h]; omega
theorem conv_byte (w : World) (n : Int) : ∃ b : UInt8, (convert 35 9 (.slice (some ⟨w.heap.size, 0, none⟩) 1 1)).run Try.prog (w.alloc (.cells #[.int .u8 (IntKind.u8.wrap n)] 5)) = .ok (.string ⟨#[b]⟩) (w.alloc (.cells #[.int .u8 (IntKind.u8.wrap n)] 5)) := by
  obtain ⟨h1, h2⟩ := wrap_u8_bd n
  obtain ⟨m, hm⟩ := Int.eq_ofNat_of_zero_le h1
  rw [hm] at h2 ⊢
  refine ⟨UInt8.ofNat m, ?_⟩
  have := run_convert_bytes_back (P := Try.prog) (w.alloc (.cells #[.int .u8 (m : Int)] 5)) 35 9 5 ⟨w.heap.size, 0, none⟩ 1 [UInt8.ofNat m] Try.underlying35 Try.underlying5 Try.underlying9 (fun j hj => by
    obtain rfl : j = 0 := by simpa using hj
    have h3 := bv_ofNat m (by omega)
    unfold bv at h3
    rw [addr_add, cell_new1, List.getElem_singleton, ← h3])
  simpa using this
set_option maxHeartbeats 2000000 in
set_option maxRecDepth 100000 in
theorem drawSpoil (g : Nat) (a : Option Addr) (L c : Nat) (s : ByteArray) (hs : s.size ≤ 1000) (w : World) (h : Cur w g a L c) : Calls Try.prog 74 #[.pointer (some ⟨g, 0, none⟩), .string s] w fun e w' =>
    ∃ s' : ByteArray, e = .returned (.string s') ∧ s'.size ≤ 10000 ∧ Cur w' g a L c ∧ Chg (· = g) w w' := by
  have hlt := h.lt
  by_cases h0 : s.size = 0
  · have e0 : ((s.size : Int) == 0) = true := by rw [beq_iff_eq]; omega
    clear h0
    go_enter Try.func74, Try.ntmps74
    go_wp2_with fail
    refine (drawText g a L c 3 (by omega) w h).mono ?_
    rintro e w1 ⟨t, rfl, ht, hc1, hg1⟩
    go_wp2_with fail
    go_ret
    exact ⟨_, rfl, by omega, hc1, hg1⟩
  · have e0 : ((s.size : Int) == 0) = false := by rw [beq_eq_false_iff_ne]; omega
    go_enter Try.func74, Try.ntmps74
    go_wp2_with fail
    refine (drawBelow g a L c _ (by omega) (by omega) w h).mono ?_
    rintro e w1 ⟨k0, rfl, hk0, hk1, -, hc1, hg1⟩
    obtain ⟨k, rfl⟩ := Int.eq_ofNat_of_zero_le hk0
    have hk : k < s.size := by have := hk1 (by omega); omega
    clear hk0 hk1 h
    go_wp2_with fail
    refine (drawBelow g a L c 4 (by omega) (by omega) w1 hc1).mono ?_
    rintro e w2 ⟨st, rfl, hs0, hs1, -, hc2, hg2⟩
    have hcg := hg1.trans hg2
    have q0 : (0 : Int) ≤ (k : Int) := by omega
    have q1 : (k : Int) ≤ (s.size : Int) := by omega
    have q2 : (k : Int) < (s.size : Int) := by omega
    have q3 : (k : Int) + 1 ≤ (s.size : Int) := by omega
    have q4 : (0 : Int) ≤ (k : Int) + 1 := by omega
    have q5 : IntKind.i64.wrap ((k : Int) + 1) = (k : Int) + 1 := by rw [IntKind.wrap_i64]; omega
    have z1 : (s.extract 0 k).size ≤ 1000 := by simp [ByteArray.size_extract]; omega
    have z2 : (s.extract (k + 1) s.size).size ≤ 1000 := by simp [ByteArray.size_extract]; omega
    have z3 : (s.extract k s.size).size ≤ 1000 := by simp [ByteArray.size_extract]; omega
    have hc2l := hc2.lt
    clear hg1 hg2 hc1
    cases b0 : (st == 0) with
    | true =>
      go_wp2_with fail
      go_quiet (fail)
      go_wp2_with fail
      go_ret
      have z12 : (s.extract 0 k ++ s.extract (k + 1) s.size).size ≤ 10000 := by rw [ByteArray.size_append]; omega
      exact ⟨_, rfl, z12, hc2.keep (below_drewN (Below.refl _ _) _) hc2l, hcg.trans (Chg.of_below (below_drewN (Below.refl _ _) _))⟩
    | false =>
      cases b1 : (st == 1) with
      | true =>
        go_wp2_with fail
        go_region_held_law (fun _ => True) (trivial) ((go_at_call 96; refine (drawByte g a L c _ (hc2.keep ((Below.refl _ _).drew) hc2l)).mono ?_; rintro e wB ⟨x, hx, rfl, hcB, hgB⟩; obtain ⟨b, hcv⟩ := conv_byte wB x))
        all_goals
          go_wp2_with fail
          go_ret
          refine ⟨_, rfl, ?_, hcB.keep (below_new wB _) hcB.lt, (hcg.trans ((Chg.of_below ((Below.refl _ _).drew)).trans hgB)).trans (Chg.of_below (below_new wB _))⟩
          rw [ByteArray.size_append, ByteArray.size_append]
          have hb1 : (⟨#[b]⟩ : ByteArray).size = 1 := rfl
          omega
      | false =>
        cases b2 : (st == 2) with
        | true =>
          go_wp2_with fail
          go_ret
          exact ⟨_, rfl, by omega, hc2, hcg⟩
        | false =>
          have z4 := hk
          go_wp2_with fail
          go_region_held_law (fun _ => True) (trivial) ((go_at_call 73; refine (drawBelow g a L c 255 (by omega) (by omega) _ (hc2.keep ((Below.refl _ _).drew) hc2l)).mono ?_; rintro e wB ⟨x, rfl, hx0, hx1, -, hcB, hgB⟩; obtain ⟨b, hcv⟩ := conv_byte wB (bits BinOp.xor IntKind.i64 (IntKind.i64.wrap ↑s[k].toNat) (IntKind.i64.wrap (1 + x)))))
          all_goals
            go_wp2_with fail
            go_ret
            refine ⟨_, rfl, ?_, hcB.keep (below_new wB _) hcB.lt, (hcg.trans ((Chg.of_below ((Below.refl _ _).drew)).trans hgB)).trans (Chg.of_below (below_new wB _))⟩
            rw [ByteArray.size_append, ByteArray.size_append]
            have hb1 : (⟨#[b]⟩ : ByteArray).size = 1 := rfl
            omega
set_option maxHeartbeats 2000000 in
set_option maxRecDepth 100000 in
theorem drawWord (g : Nat) (a : Option Addr) (L c : Nat) (most : Nat) (hm : most ≤ 20) (v : Value) (zss : List (List Int)) (w : World) (h : Cur w g a L c) (hI : II w v zss) (hz1 : 1 ≤ zss.length) (hz : zss.length ≤ 5) : Calls Try.prog 92 #[.pointer (some ⟨g, 0, none⟩), v, .int .i64 most] w fun e w' =>
    ∃ u o lo G, e = .returned u ∧ g < lo ∧ lo ≤ G ∧ w.heap.size ≤ lo ∧ Own w' G u o ∧ o.length ≤ most ∧ Cur w' g a L c ∧ Chg (· = g) w w' := by
  have hgB := h.lt
  obtain ⟨g1, o1, c1, rfl, _, _, _⟩ := hI.form
  have e1 : max (1 : Int) (zss.length : Int) = (zss.length : Int) := by omega
  clear hI
  go_enter Try.func92, Try.ntmps92
  go_wp2_with fail
  refine (drawBelow g a L c _ (by omega) (by omega) _ (h.keep (below_new w _) hgB)).mono ?_
  rintro e w1 ⟨nn, rfl, hn0, hn1, -, hc1, hg1⟩
  have hrow1 := (rowV_empty w 3).chgB hg1 hgB
  have hch : Chg (· = g) w w1 := (Chg.of_below (below_new w _)).trans hg1
  obtain ⟨N, rfl⟩ := Int.eq_ofNat_of_zero_le hn0
  have hN : N ≤ most := by have := hn1 (by omega); omega
  clear hn1 hn0 hg1 h
  go_wp2_with fail
  go_loopw [7, 8] (fun v i wr => ∃ (m : Nat) (l : List Int), l.length + m ≤ most ∧ i = .int .i64 m ∧ RowV wr w.heap.size 3 v l.length (ivs l) ∧ Cur wr g a L c ∧ Chg (· = g) w wr) (fun _ i _ => (intOf i).toNat)
  case atStart => exact ⟨N, [], by simp; omega, rfl, hrow1, hc1, hch⟩
  case round =>
    obtain ⟨m, l, hm2, rfl, hrow, hcur, hcg⟩ := hrel
    by_cases hlt : 0 < m
    · rcases Nat.lt_or_ge 1 zss.length with hl1 | hl1
      all_goals
        go_wp2_with fail
        refine (drawBelow g a L c _ (by omega) (by omega) _ hcur).mono ?_
        rintro e w2 ⟨y, rfl, hy0, hy1, -, hc2, hg2⟩
        replace hrow := hrow.chgB hg2 hgB
        have hcg2 := hcg.trans hg2
        clear hy1 hg2 hcg hcur
        go_wp2_with (at_builtin; refine wpList_pushV elemInt _ rfl _ _ rfl w.heap.size u7 l.length _ rfl (hrow.alloc _) (.int .i64 y) w2.heap.size rfl (cell_new1 _ _ _) rfl (by omega) (by have := hcg2.size; simp; omega) ?_; intro gg cap w4 hrow4 hgrow hb4)
        go_roundw
        case rel =>
          have hB := ((Below.refl w.heap.size w2).alloc hcg2.size _).trans hb4
          exact ⟨m - 1, l ++ [y], by simp; omega, by go_num, hrow4.cast rfl (by simp) (by rw [ivs_append]; rfl), hc2.keep hB hgB, chg_below hcg2 hB⟩
        case measure => simp [intOf]; omega
    · obtain rfl : m = 0 := by omega
      obtain ⟨gx, hgx, hown⟩ := hrow.own
      obtain ⟨cx, rfl, _, _, _, _⟩ := hown.form
      go_wp2_with fail
      go_ret
      exact ⟨_, l, w.heap.size, gx, rfl, hgB, hgx, Nat.le_refl _, hown, by omega, hcur, hcg⟩
def MatW (w : World) (k : Nat) (e : Ending) (w' : World) : Prop := ∃ v zss u o lo, e = .returned (.tuple #[v, u]) ∧ w.heap.size ≤ lo ∧ IIB lo w' v zss ∧ Sh zss ∧ I w' u o ∧ o.length ≤ k ∧ Below w.heap.size w w'
set_option maxHeartbeats 2000000 in
theorem drawL5Any (a : Option Addr) (cap : Nat) (zs : List Int) (hz : zs.length ≤ 1048576) (w : World) (h : ArgB w a cap zs) : Calls Try.prog 65 #[.slice a zs.length cap] w (MatW w 10) := by
  go_enter Try.func65, Try.ntmps65
  go_wp2_with fail
  refine (drawNew a cap zs hz w h).mono ?_
  rintro e w1 ⟨g, rfl, hg, hc1, b1⟩
  go_wp2_with fail
  refine (drawAny g a _ _ w1 hc1).mono ?_
  rintro e w2 ⟨v, zss, lo, rfl, hlo, hI2, hsh, hc2, hg2⟩
  have hII := hI2.read
  obtain ⟨g2, o2, c2, rfl, _, _, _⟩ := hI2.read.form
  have b2 := chg_base b1 hg hg2
  have HSH := Lib.hid hsh
  have hs1 := hsh.1
  have hs2 := hsh.2.1
  clear hsh h
  go_wp2_with fail
  refine (drawWord g a _ _ 9 (by omega) _ zss w2 hc2 hII hs1 hs2).mono ?_
  rintro e w3 ⟨u3, o, lo3, G3, rfl, hlo3, hlG3, hlw3, hO3, ho4, hc3, hg3⟩
  have hI3 := hI2.cur hg3 hlo
  have b3 := chg_base b2 hg hg3
  have s2 := hc2.lt
  obtain ⟨c3, rfl, _, _⟩ := hO3.form
  go_wp2_with fail
  refine (drawOnce g a _ _ 12 (by omega) (by omega) w3 hc3).mono ?_
  rintro e w4 ⟨b, rfl, hc4, hg4⟩
  have hO4 := hO3.chg hg4 (fun e => by omega)
  have hI4 := hI3.cur hg4 hlo
  have b4 := chg_base b3 hg hg4
  cases b with
  | true =>
    have HT := Lib.hid (own_litD w4 #[.int .i64 (-1), .int .i64 4] [-1, 4] (by simp [ivs]) (by decide))
    have hlt4 : g < w4.heap.size := hc4.lt
    have hG4' : G3 < w4.heap.size := hO4.lt
    go_wp2_with fail
    refine (drawPickInt g a _ _ w4.heap.size _ [-1, 4] (by decide) (by decide) _ (hc4.keep (below_new w4 _) hc4.lt) HT.out (by omega)).mono ?_
    rintro e w5 ⟨x, rfl, hx, hc5, hg5⟩
    have hg45 : Chg (· = g) w4 w5 := (Chg.of_below (below_new w4 _)).trans hg5
    have hO5 := hO4.chg hg45 (fun e => by omega)
    have b5 := chg_base b4 hg hg45
    have hrow5 : RowV w5 G3 3 (.slice (some ⟨G3, 0, none⟩) o.length c3) o.length (ivs o) := (OwnV.rowV hO5 (Nat.le_refl _)).cast rfl (ivs_length o) rfl
    have hG5 : G3 < w5.heap.size := hO5.lt
    clear HT hx
    go_wp2_with (at_builtin; refine wpList_pushV elemInt _ rfl _ _ rfl G3 _ o.length _ rfl (hrow5.alloc _) (.int .i64 x) w5.heap.size rfl (cell_new1 _ _ _) rfl (by omega) (by simp; omega) ?_; intro gg cp w6 hrow6 hgrow hb6)
    go_ret2
    have hr : RowV w6 G3 3 (.slice (some ⟨gg, 0, none⟩) (o.length + 1) cp) (o ++ [x]).length (ivs (o ++ [x])) := hrow6.cast rfl (by simp) (by rw [ivs_append]; rfl)
    obtain ⟨gx, hgx, hown⟩ := hr.own
    have hb56 : Below G3 w5 w6 := ((Below.refl G3 w5).alloc (by omega) _).trans hb6
    have hGw : w2.heap.size ≤ G3 := by omega
    have s1 := b2.size
    have hI2' := hI2.cur (chg_below ((hg3.trans hg4).trans hg45) (hb56.mono hGw)) hlo
    exact ⟨_, _, _, _, lo, rfl, by omega, hI2', HSH.out, OwnV.read hown, by simp; omega, b5.trans (hb56.mono (by omega))⟩
  | false =>
    go_wp2_with fail
    go_ret2
    exact ⟨_, _, _, _, lo, rfl, by omega, hI4, HSH.out, hO4.read, by omega, b4⟩
theorem drawIsWord (a : Option Addr) (cap : Nat) (zs : List Int) (hz : zs.length ≤ 1048576) (w : World) (h : ArgB w a cap zs) : Calls Try.prog 32 #[.slice a zs.length cap] w (MatW w 10) := by
  go_enter Try.func32, Try.ntmps32
  go_wp2_with fail
  refine (drawL5Any a cap zs hz w h).mono ?_
  rintro e w1 ⟨v, zss, u, o, lo, rfl, hlo, hI, hsh, hU, ho, hb⟩
  obtain ⟨g2, o2, c2, rfl, _, _, _⟩ := hI.read.form
  obtain ⟨g3, o3, c3, rfl, _, _, _⟩ := hU.form
  go_wp2_with fail
  go_ret2
  exact ⟨_, _, _, _, lo, rfl, hlo, hI, hsh, hU, ho, hb⟩
def TwoW (w : World) (e : Ending) (w' : World) : Prop := ∃ v z u o, e = .returned (.tuple #[v, u]) ∧ I w' v z ∧ z.length ≤ 7 ∧ I w' u o ∧ o.length ≤ 7 ∧ Below w.heap.size w w'
set_option maxHeartbeats 2000000 in
theorem drawL5Two (a : Option Addr) (cap : Nat) (zs : List Int) (hz : zs.length ≤ 1048576) (w : World) (h : ArgB w a cap zs) : Calls Try.prog 68 #[.slice a zs.length cap] w (TwoW w) := by
  go_enter Try.func68, Try.ntmps68
  go_wp2_with fail
  refine (drawNew a cap zs hz w h).mono ?_
  rintro e w1 ⟨g, rfl, hg, hc1, b1⟩
  go_wp2_with fail
  refine (drawDrawn g a _ _ w1 hc1).mono ?_
  rintro e w2 ⟨v, zss, lo, rfl, hlo, hlo2, hO2, -, hs1, hs2, hc2, hg2⟩
  have hI2 := hO2.iiB
  have hII := hI2.read
  obtain ⟨g2, o2, c2, rfl, _, _, _⟩ := hI2.read.form
  have b2 := chg_base b1 hg hg2
  clear h hO2
  go_wp2_with fail
  refine (drawWord g a _ _ 7 (by omega) _ zss w2 hc2 hII hs1 (by omega)).mono ?_
  rintro e w3 ⟨u3, o, lo3, G3, rfl, hlo3, hlG3, hlw3, hO3, ho4, hc3, hg3⟩
  have hI3 := hI2.cur hg3 hlo
  have b3 := chg_base b2 hg hg3
  obtain ⟨c3, rfl, _, _⟩ := hO3.form
  go_wp2_with fail
  refine (drawOnce g a _ _ 4 (by omega) (by omega) w3 hc3).mono ?_
  rintro e w4 ⟨b, rfl, hc4, hg4⟩
  have hO4 := hO3.chg hg4 (fun e => by omega)
  have hI4 := hI3.cur hg4 hlo
  have b4 := chg_base b3 hg hg4
  cases b with
  | true =>
    have HO4 := Lib.hid hO4
    have hG4 : G3 < w4.heap.size := hO4.lt
    have hbn := below_new w4 (.cells #[] 3)
    have HYZ := Lib.hid (fun i (hi : i < o.length) => show w4.cell? ⟨G3, 0 + i, none⟩ = some (.int .i64 o[i]) by rw [Nat.zero_add]; exact hO4.cell hi)
    clear hO4
    go_wp2_with (at_builtin; refine wpList_appendV elemInt _ rfl _ _ rfl w4.heap.size (.slice (some ⟨w4.heap.size, 0, none⟩) 0 0) 0 [] rfl (rowV_empty w4 _) (ivs o) G3 0 o.length c3 rfl (ivs_length o) (cells_after HYZ.out hbn) (ivs_one o) (by omega) hbn.size ?_; intro gA capA wA hrowA hgrowA hbA)
    go_ret2
    have hT := hbn.trans hbA
    have hrA : RowV wA w4.heap.size 3 (.slice (some ⟨gA, 0, none⟩) o.length capA) o.length (ivs o) := hrowA.cast (by rw [Nat.zero_add]) (Nat.zero_add _) (List.nil_append _)
    obtain ⟨gx, hgx, hown⟩ := hrA.own
    exact ⟨_, _, _, _, rfl, (HO4.out.keep hT).read, ho4, OwnV.read hown, ho4, below_trans b4 hT⟩
  | false =>
    go_wp2_with fail
    refine (drawWord g a _ _ 7 (by omega) _ zss w4 hc4 hI4.read hs1 (by omega)).mono ?_
    rintro e w5 ⟨u5, p, lo5, G5, rfl, hlo5, hlG5, hlw5, hO5, hp4, hc5, hg5⟩
    obtain ⟨c5, rfl, _, _⟩ := hO5.form
    have hO45 := hO4.chg hg5 (fun e => by omega)
    go_wp2_with fail
    go_ret2
    exact ⟨_, _, _, _, rfl, hO45.read, ho4, hO5.read, hp4, chg_base b4 hg hg5⟩
theorem drawCompareWords (a : Option Addr) (cap : Nat) (zs : List Int) (hz : zs.length ≤ 1048576) (w : World) (h : ArgB w a cap zs) : Calls Try.prog 39 #[.slice a zs.length cap] w (TwoW w) := by
  go_enter Try.func39, Try.ntmps39
  go_wp2_with fail
  refine (drawL5Two a cap zs hz w h).mono ?_
  rintro e w1 ⟨v, zss, u, o, rfl, hI, hsh, hU, ho, hb⟩
  obtain ⟨g2, o2, c2, rfl, _, _, _⟩ := hI.form
  obtain ⟨g3, o3, c3, rfl, _, _, _⟩ := hU.form
  go_wp2_with fail
  go_ret2
  exact ⟨_, _, _, _, rfl, hI, hsh, hU, ho, hb⟩
end Go.Proofs.Ytgappocmdbaahaa
