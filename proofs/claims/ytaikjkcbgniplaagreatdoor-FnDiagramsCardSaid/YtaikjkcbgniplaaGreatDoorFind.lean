/- The program's search (matches), AreIsomorphic and SymmetriesOf: what they answer, for at most 2^38 rows. -/
import Derived.Test.YtaikjkcbgniplaaGreatDoorIso
namespace Go.Proofs.YtaikjkcbgniplaaGreatDoor
open Go.RowKit
set_option linter.unusedVariables false

section
variable {P : Program} {T e : TypeId} {bytes : Nat}
/-- One value appended to nil. -/
theorem wpList_pushN (E : Elem P T e bytes) {ops : Array Oper} {rest : List Oper} {o : Oper} {a : Act} {Q : Exit → Act → World → Prop} (w : World) (hgd : o.guard = none) (s x : Operand)
    (ho : o.op = .call { callee := .builtin .append, args := #[s, x], argTypes := #[T, T] }) (hs : a.eval s = .slice none 0 0)
    (u : Value) (g0 : Nat) (hx : a.eval x = .slice (some ⟨g0, 0, none⟩) 1 1) (hu : w.cell? ⟨g0, 0, none⟩ = some u) (h1 : u.oneCell' = true)
    (h : ∀ g cap w', OwnV w' e g (.slice (some ⟨g, 0, none⟩) 1 cap) [u] → w.heap.size ≤ g → Below w.heap.size w w' → wpList P ops Q rest (a.put o.dst (.slice (some ⟨g, 0, none⟩) 1 cap)) w') : wpList P ops Q (o :: rest) a w := by
  refine wpList_plain hgd fun _ hK => ?_
  obtain ⟨i, z, hi, hz, h2, h3, hzc⟩ := E.info
  have hsm := E.small
  refine wp_append_lies w s x T ho w.heap.size e i z 1 bytes E.slice hi hz h2 h3 hzc (by omega) (.slice none 0 0) 0 [] hs ⟨by simp, .inl ⟨rfl, rfl⟩⟩ ⟨g0, 0, none⟩ 1 1 [u] hx rfl (fun j y hj => ?_) (by simpa using h1) (by omega) (by unfold maxLen; omega) (by omega) (Nat.le_refl _) _ rfl (fun g cap w' hrow hgrow hor _ => ?_)
  · rw [addr_add]
    match j, hj with
    | 0, hj => simp at hj; subst hj; exact hu
  · have hr := own_of_row hrow
    exact hK _ _ (h g cap w' hr.1 hr.2 ((Below.refl _ w).grown hgrow (Nat.le_refl _) (fun k hk => by cases hk)))
end
/-- The rows of one table behind those of another. -/
theorem rowsV_app {w w1 : World} {B hi m : Nat} {x x' : Value} {zss zss2 : List (List Int)} {gs gs2 : List Nat} {vs vs2 : List Value}
    (h1 : RowV w B 27 x zss.length vs) (h2 : Inner w gs vs zss) (h3 : ∀ g ∈ gs, B ≤ g ∧ g < hi) (h4 : gs.Nodup) (k2 : Inner w gs2 vs2 zss2) (k3 : ∀ g ∈ gs2, hi ≤ g ∧ B ≤ g) (k4 : gs2.Nodup) (hm : m = zss2.length)
    (hgrow : w.grownBy w1 x.ownBlock) (hrow : RowV w1 B 27 x' (zss.length + m) (vs ++ vs2)) : RowsV w1 B w1.heap.size x' (zss ++ zss2) := by
  obtain ⟨G, hG, hO⟩ := h1.own
  rw [hO.block] at hgrow
  have hch := chg_grown hgrow
  have hs := hch.size
  have hne : ∀ (gs : List Nat) (vs : List Value) (zss : List (List Int)), Inner w gs vs zss → ∀ g ∈ gs, ¬ g = G := by
    rintro gs vs zss h g hmem rfl
    obtain ⟨i, hi, rfl⟩ := List.mem_iff_getElem.1 hmem
    have hv : i < vs.length := by rw [h.1, ← h.2.1]; exact hi
    have hz : i < zss.length := by rw [← h.2.1]; exact hi
    exact own_ne hO (h.2.2 i _ _ _ (List.getElem?_eq_getElem hi) (List.getElem?_eq_getElem hv) (List.getElem?_eq_getElem hz)) (by decide) rfl
  have hlt : ∀ (gs : List Nat) (vs : List Value) (zss : List (List Int)), Inner w gs vs zss → ∀ g ∈ gs, g < w.heap.size := by
    intro gs vs zss h g hmem
    obtain ⟨i, hi, rfl⟩ := List.mem_iff_getElem.1 hmem
    have hv : i < vs.length := by rw [h.1, ← h.2.1]; exact hi
    have hz : i < zss.length := by rw [← h.2.1]; exact hi
    exact (h.2.2 i _ _ _ (List.getElem?_eq_getElem hi) (List.getElem?_eq_getElem hv) (List.getElem?_eq_getElem hz)).lt
  refine ⟨gs ++ gs2, vs ++ vs2, hrow.cast rfl (by simp [hm]) rfl, ?_, ?_, ?_⟩
  · have i1 := h2.chg hch (fun g hg => hne _ _ _ h2 g hg)
    have i2 := k2.chg hch (fun g hg => hne _ _ _ k2 g hg)
    refine ⟨by simp [i1.1, i2.1], by simp [i1.2.1, i2.2.1], fun i g r zs e1 e2 e3 => ?_⟩
    by_cases hi : i < zss.length
    · rw [List.getElem?_append_left (by have := i1.2.1; omega)] at e1
      rw [List.getElem?_append_left (by have := i1.1; omega)] at e2
      rw [List.getElem?_append_left (by omega)] at e3
      exact i1.2.2 i g r zs e1 e2 e3
    · rw [List.getElem?_append_right (by have := i1.2.1; omega), i1.2.1] at e1
      rw [List.getElem?_append_right (by have := i1.1; omega), i1.1] at e2
      rw [List.getElem?_append_right (by omega)] at e3
      exact i2.2.2 _ g r zs e1 e2 e3
  · intro g hg
    rcases List.mem_append.1 hg with hg | hg
    · have q := h3 g hg; have := hlt _ _ _ h2 g hg; omega
    · have q := k3 g hg; have := hlt _ _ _ k2 g hg; omega
  · refine List.nodup_append.2 ⟨h4, k4, fun g hg g' hg' => ?_⟩
    have := h3 g hg
    have := k3 g' hg'
    omega
theorem ordP_snoc {n : Nat} {o : List Int} {m : Nat} (h : OrdP n o) (hh : hasL o (m : Int) = false) (hm : m < n) : OrdP n (o ++ [(m : Int)]) := by
  refine ⟨fun x hx => ?_, List.nodup_append.2 ⟨h.2, by simp, fun x hx y hy => ?_⟩⟩
  · rcases List.mem_append.1 hx with hx | hx
    · exact h.1 x hx
    · simp at hx; exact ⟨m, hx, hm⟩
  · simp at hy; subst hy
    rintro rfl
    rw [hasL, List.contains_iff_mem.2 hx] at hh; cases hh
theorem inner_one {w : World} {gs : List Nat} {vs : List Value} {zss : List (List Int)} (h : Inner w gs vs zss) : ∀ u ∈ vs, u.oneCell' = true := by
  intro u hu
  obtain ⟨i, hi, rfl⟩ := List.mem_iff_getElem.1 hu
  have hz : i < zss.length := by rw [← h.1]; exact hi
  have hg : i < gs.length := by rw [h.2.1]; exact hz
  obtain ⟨cap, e, _, _⟩ := (h.2.2 i _ _ _ (List.getElem?_eq_getElem hg) (List.getElem?_eq_getElem hi) (List.getElem?_eq_getElem hz)).form
  rw [e]; rfl
def fitT (a b : List (List Int)) (o : List Int) (m j : Nat) : Bool := (List.range j).all (fun q => (ent a m (o.getD q 0).toNat == ent b o.length q) && (ent a (o.getD q 0).toNat m == ent b q o.length))
theorem fitT_zero (a b : List (List Int)) (o : List Int) (m : Nat) : fitT a b o m 0 = true := rfl
theorem fitT_succ {a b : List (List Int)} {o : List Int} {m j : Nat} {p : Nat} {x1 y1 x2 y2 : Int} (hj : j < o.length) (hp : o[j] = (p : Int)) (h1 : ent a m p = x1) (h2 : ent b o.length j = y1) (h3 : ent a p m = x2) (h4 : ent b j o.length = y2) :
    fitT a b o m (j + 1) = (fitT a b o m j && ((x1 == y1) && (x2 == y2))) := by
  subst h1 h2 h3 h4
  rw [fitT, fitT, List.range_succ, List.all_append]
  simp only [List.all_cons, List.all_nil, Bool.and_true, getD_get o j hj, hp, Int.toNat_natCast]
theorem fitT_ok {a b : List (List Int)} {o : List Int} {m : Nat} (h : ordOk a b o = true) (hd : ent a m m = ent b o.length o.length) : ordOk a b (o ++ [(m : Int)]) = fitT a b o m o.length := by
  have hi := ordOk_snoc h hd
  rw [Bool.eq_iff_iff, hi, fitT, List.all_eq_true]
  simp only [List.mem_range, Bool.and_eq_true, beq_iff_eq]
theorem isC_diag {c : List (List Int)} (h : isC c = true) (i : Nat) (hi : i < c.length) : ent c i i = 2 := by
  have := ((isC_iff c).1 h).2.2.2 i hi i hi
  simpa [OkE] using this
theorem found_len (a b : List (List Int)) (n d : Nat) (o : List Int) (k : Nat) : ((found a b n d o).take k).length ≤ k := by rw [List.length_take]; omega
set_option maxRecDepth 100000 in
set_option maxHeartbeats 8000000 in
theorem implMatches (a b : List (List Int)) (hA : isC a = true) (hB : isC b = true) (hL : a.length = b.length) : ∀ (d : Nat) (o : List Int) (most : Nat) (q : Int) (v1 v2 v3 : Value) (w : World), o.length + d = a.length → OrdP a.length o → ordOk a b o = true → q = (most : Int) → 1 ≤ most → most ≤ 24 → II w v1 a → II w v2 b → N0 w v3 o →
    Calls Tryz.prog 76 #[v1, v2, v3, .int .i64 q] w (RetRows w ((found a b a.length d o).take most)) := by
  intro d
  induction d with
  | zero =>
    intro o most q v1 v2 v3 w hd hO hok hq h1 h24 k1 k2 k3
    have hn1 : 1 ≤ a.length := ((isC_iff a).1 hA).1
    have hn4 : a.length ≤ 4 := ((isC_iff a).1 hA).2.1
    have HF := Lib.hid (show (found a b a.length 0 o).take most = [o] by rw [found_zero hok, List.take_of_length_le (by simpa using h1)])
    have d0 : ((o.length : Int) == (b.length : Int)) = true := by rw [beq_iff_eq]; omega
    obtain ⟨g2, o2, c2, hv2, _, _, _⟩ := k2.form
    subst hv2
    have k3' : I w v3 o := by
      rcases k3 with ⟨_, rfl⟩ | h
      · simp at hd; omega
      · exact h
    obtain ⟨g3, o3, c3, hv3, _, _, _⟩ := k3'.form
    subst hv3
    subst hq
    have hol : o.length ≤ 4 := by omega
    clear hd hok hL
    go_enter Tryz.func76, Tryz.ntmps76
    go_wp2_with fail
    refine (slicesClone _ o (by omega) _ (.inr k3')).mono ?_
    rintro e w1 ⟨u, rfl, hu, hb1⟩
    obtain ⟨g, hg, hown⟩ : ∃ g, w.heap.size ≤ g ∧ Own w1 g u o := by
      rcases hu with ⟨h, _⟩ | h
      · cases h
      · exact h
    clear hu
    obtain ⟨cu, hu, _, _⟩ := hown.form
    subst hu
    have hs1 := hb1.size
    go_wp2_with fail
    go_ret
    have hR : RowsV (w1.alloc (.cells #[.slice (some ⟨g, 0, none⟩) o.length cu] 27)) w.heap.size (w1.alloc (.cells #[.slice (some ⟨g, 0, none⟩) o.length cu] 27)).heap.size (.slice (some ⟨w1.heap.size, 0, none⟩) 1 1) [o] :=
      ⟨[g], [_], (own_single w1 27 _).mono' hs1, (Inner.nil _).snoc (hown.keep (below_new w1 _)), fun g' hg' => by simp at hg'; subst hg'; have := hown.lt; simp; omega, by simp⟩
    exact ⟨_, rfl, by rw [HF.out]; exact hR.own2 (Nat.le_refl _), hb1.alloc hs1 _⟩
  | succ d ih =>
    intro o most q v1 v2 v3 w hd hO hok hq h1 h24 k1 k2 k3
    have IH := Lib.hid ih
    have hn1 : 1 ≤ a.length := ((isC_iff a).1 hA).1
    have hn4 : a.length ≤ 4 := ((isC_iff a).1 hA).2.1
    have d0 : ((o.length : Int) == (b.length : Int)) = false := by rw [beq_eq_false_iff_ne]; omega
    obtain ⟨g1, o1, c1, hv1, _, _, hc1⟩ := k1.form
    obtain ⟨g2, o2, c2, hv2, _, _, hc2⟩ := k2.form
    subst hv1 hv2
    obtain ⟨a3, c3, hv3, hc3⟩ := k3.form
    subst hv3
    have H1 := Lib.hid hc1
    have H2 := Lib.hid hc2
    have H3 := Lib.hid hc3
    have HL := Lib.hid hL
    have HA := Lib.hid hA
    have HB := Lib.hid hB
    have HD := Lib.hid hd
    have HO := Lib.hid hO
    have HK := Lib.hid hok
    have HN := Lib.hid (fun m (hm : m < a.length) => fitT_ok (m := m) hok (by rw [isC_diag hA m hm, isC_diag hB o.length (by omega)]))
    have hkb : o.length < b.length := by omega
    subst hq
    have hol : o.length ≤ 4 := by omega
    clear ih hc1 hc2 hc3 hL hA hB hd hO hok
    go_enter Tryz.func76, Tryz.ntmps76
    go_wp2_with fail
    go_loopw [10, 27] (fun x i wr => ∃ m : Nat, m ≤ a.length ∧ i = .int .i64 m ∧ RowsV wr w.heap.size wr.heap.size x (foundT a b a.length d o m) ∧ (foundT a b a.length d o m).length < most ∧ Below w.heap.size w wr) (fun _ i _ => a.length - (intOf i).toNat)
    case atStart =>
      obtain ⟨gs, vs, q1, q2, q3, q4⟩ := rowsV_empty w
      exact ⟨0, by omega, rfl, ⟨gs, vs, q1, q2, fun g hg => by have := q3 g hg; omega, q4⟩, h1, (Below.refl _ _).alloc (Nat.le_refl _) _⟩
    case round =>
      obtain ⟨m, hm, rfl, hR, hlen, hbel⟩ := hrel
      by_cases hlt' : m < a.length
      · cases hH : hasL o (m : Int) with
        | true =>
          have HT := Lib.hid (foundT_skip a b a.length d o m hH)
          have HH := Lib.hid hH
          clear hH
          go_wp2_with fail
          refine (slicesContains _ o _ (by omega) _ (k3.keep hbel)).mono ?_
          rw [HH.out]
          rintro e w2 ⟨rfl, rfl⟩
          go_wp2_with fail
          go_roundw
          case rel => exact ⟨m + 1, by omega, by go_num, by rw [HT.out]; exact hR, by rw [HT.out]; exact hlen, hbel⟩
          case measure => simp [intOf]; omega
        | false =>
          have HH := Lib.hid hH
          have HMR := Lib.hid (found_more (a := a) (b := b) (n := a.length) (d := d) (o := o) (m := m) (most := most) hH hlen)
          have HNO := Lib.hid (foundT_none a b a.length d o m hH)
          have HTA := Lib.hid (foundT_add a b a.length d o m hH)
          clear hH
          obtain ⟨wo, rfl⟩ : ∃ wo : World, wo = wr := ⟨_, rfl⟩
          go_wp2_with fail
          refine (slicesContains _ o _ (by omega) _ (k3.keep hbel)).mono ?_
          rw [HH.out]
          rintro e w2 ⟨rfl, rfl⟩
          go_wp2_with fail
          have H9 := Lib.hid (fun j (hj : j < o.length) => HO.out.1 o[j] (List.getElem_mem hj))
          go_loopw [12, 35] (fun f i wr => ∃ j : Nat, j ≤ o.length ∧ i = .int .i64 j ∧ f = .bool (fitT a b o m j) ∧ Below wo.heap.size wo wr) (fun _ i _ => o.length - (intOf i).toNat)
          case atStart => exact ⟨0, by omega, rfl, rfl, Below.refl _ _⟩
          case round =>
            obtain ⟨j, hj, rfl, rfl, hbi⟩ := hrel
            by_cases hlj : j < o.length
            · have hbel2 := below_trans hbel hbi
              obtain ⟨x3, rfl, y3⟩ := H3.out j hlj
              obtain ⟨p, hp, hpn⟩ := H9.out j hlj
              rw [hp] at y3
              obtain ⟨gi, oi, ci, x1, ya1, ya2, hx1⟩ := II.at H1.out hlt' (show p < a[m].length by rw [isC_sq HA.out m hlt']; exact hpn)
              obtain ⟨gj, oj, cj, x2, yb1, yb2, hx2⟩ := II.at H2.out hkb (show j < b[o.length].length by rw [isC_sq HB.out o.length hkb]; omega)
              obtain ⟨gk, ok, ck, x4, yc1, yc2, hx4⟩ := II.at H1.out hpn (show m < a[p].length by rw [isC_sq HA.out p hpn]; exact hlt')
              obtain ⟨gl, ol, cl, x5, yd1, yd2, hx5⟩ := II.at H2.out (show j < b.length by omega) (show o.length < b[j].length by rw [isC_sq HB.out j (by omega)]; exact hkb)
              have HS := Lib.hid (fitT_succ hlj hp hx1 hx2 hx4 hx5)
              obtain ⟨l1, hl1⟩ : ∃ l1, a[m].length = l1 := ⟨_, rfl⟩
              obtain ⟨l2, hl2⟩ : ∃ l2, b[o.length].length = l2 := ⟨_, rfl⟩
              obtain ⟨l4, hl4⟩ : ∃ l4, a[p].length = l4 := ⟨_, rfl⟩
              obtain ⟨l5, hl5⟩ : ∃ l5, (b[j]'(by omega)).length = l5 := ⟨_, rfl⟩
              rw [hl1] at ya1
              rw [hl2] at yb1
              rw [hl4] at yc1
              rw [hl5] at yd1
              have b1 : (p : Int) < (l1 : Int) := by rw [← hl1, isC_sq HA.out m hlt']; omega
              have b2 : (j : Int) < (l2 : Int) := by rw [← hl2, isC_sq HB.out o.length hkb]; omega
              have b4 : (m : Int) < (l4 : Int) := by rw [← hl4, isC_sq HA.out p hpn]; omega
              have b5 : (o.length : Int) < (l5 : Int) := by rw [← hl5, isC_sq HB.out j (by omega)]; omega
              replace ya1 := cells_keep hbel2 ya1
              replace ya2 := cells_keep hbel2 ya2
              replace yb1 := cells_keep hbel2 yb1
              replace yb2 := cells_keep hbel2 yb2
              replace yc1 := cells_keep hbel2 yc1
              replace yc2 := cells_keep hbel2 yc2
              replace yd1 := cells_keep hbel2 yd1
              replace yd2 := cells_keep hbel2 yd2
              replace y3 := cells_keep hbel2 y3
              have hk0 : (0 : Int) ≤ (m : Int) := by omega
              have hk1 : (m : Int) < (a.length : Int) := by omega
              have hk2 : (0 : Int) ≤ (p : Int) := by omega
              have hk3 : (p : Int) < (a.length : Int) := by omega
              have hk4 : (0 : Int) ≤ (j : Int) := by omega
              have hk5 : (j : Int) < (b.length : Int) := by omega
              have hk6 : (0 : Int) ≤ (o.length : Int) := by omega
              have hk7 : (o.length : Int) < (b.length : Int) := by omega
              have hk8 : (j : Int) < (o.length : Int) := by omega
              clear hx1 hx2 hx4 hx5 hp hl1 hl2 hl4 hl5
              cases hf : fitT a b o m j with
              | false =>
                rw [hf] at HS
                clear hf
                go_wp2_with fail
                go_quiet (fail)
                go_wp2_with fail
                go_roundw
                case rel => exact ⟨j + 1, by omega, by go_num, by rw [HS.out]; rfl, below_drewN hbi nq⟩
                case measure => simp [intOf]; omega
              | true =>
                rw [hf] at HS
                clear hf
                cases e1 : (x1 == x2) with
                | false =>
                  rw [e1] at HS
                  go_wp2_with fail
                  go_quiet (fail)
                  go_wp2_with fail
                  go_roundw
                  case rel => exact ⟨j + 1, by omega, by go_num, by rw [HS.out]; rfl, below_drewN hbi nq⟩
                  case measure => simp [intOf]; omega
                | true =>
                  rw [e1] at HS
                  cases e2 : (x4 == x5) with
                  | false =>
                    rw [e2] at HS
                    go_wp2_with fail
                    go_quiet (fail)
                    go_wp2_with fail
                    go_roundw
                    case rel => exact ⟨j + 1, by omega, by go_num, by rw [HS.out]; rfl, below_drewN hbi nq⟩
                    case measure => simp [intOf]; omega
                  | true =>
                    rw [e2] at HS
                    go_wp2_with fail
                    go_quiet (fail)
                    go_wp2_with fail
                    go_roundw
                    case rel => exact ⟨j + 1, by omega, by go_num, by rw [HS.out]; rfl, below_drewN hbi nq⟩
                    case measure => simp [intOf]; omega
            · obtain rfl : j = o.length := by omega
              have HN' := Lib.hid (HN.out m hlt')
              have hR' := hR.keep hbi
              have hbel2 := below_trans hbel hbi
              have hsz := hbi.size
              have hszw := hbel2.size
              cases hf : fitT a b o m o.length with
              | false =>
                rw [hf] at HN'
                have HT := Lib.hid (HNO.out HN'.out)
                have dg : decide ((most : Int) ≤ ((foundT a b a.length d o m).length : Int)) = false := by rw [decide_eq_false_iff_not]; omega
                obtain ⟨F, hF⟩ : ∃ F, foundT a b a.length d o m = F := ⟨_, rfl⟩
                rw [hF] at hR' dg hlen HT
                obtain ⟨g5, o5, c5, hv5, _, _, _⟩ := (hR'.own2 (Nat.le_trans (Nat.le_refl _) hsz)).read.form
                subst hv5
                clear hf hF
                go_wp2_with fail
                go_roundw
                case rel =>
                  obtain ⟨gs, vs, q1, q2, q3, q4⟩ := hR'
                  exact ⟨m + 1, by omega, by go_num, by rw [HT.out]; exact ⟨gs, vs, q1, q2, fun g hg => by have := q3 g hg; omega, q4⟩, by rw [HT.out]; exact hlen, hbel2⟩
                case measure => simp [intOf]; omega
              | true =>
                rw [hf] at HN'
                clear hf
                have HOm := Lib.hid (ordP_snoc HO.out HH.out hlt')
                have HBR := Lib.hid (fun (h : most ≤ (foundT a b a.length d o (m + 1)).length) => found_break (a := a) (b := b) (n := a.length) (d := d) (o := o) (m := m + 1) (most := most) (by omega) h)
                obtain ⟨F, hF⟩ : ∃ F, foundT a b a.length d o m = F := ⟨_, rfl⟩
                rw [hF] at hR' hlen HMR HTA
                clear hF hR
                obtain ⟨g5, o5, c5, hv5, _, _, _⟩ := (hR'.own2 (Nat.le_trans (Nat.le_refl _) hsz)).read.form
                subst hv5
                obtain ⟨gs, vs, q1, q2, q3, q4⟩ := hR'
                have hvF := Lib.hid q2.1
                have kA := k1.keep hbel2
                have kB := k2.keep hbel2
                have kO := k3.keep hbel2
                have hF24 : F.length < 24 := by omega
                have hdif : (most : Int) - (F.length : Int) = ((most - F.length : Nat) : Int) := by omega
                have HDF := Lib.hid hdif
                have hm1 : 1 ≤ most - F.length := by omega
                have hm2 : most - F.length ≤ 24 := by omega
                clear hdif
                go_wp2_with fail
                refine (slicesClone _ o (by omega) _ kO).mono ?_
                rintro e w2 ⟨u, rfl, hu, hb2⟩
                have hbn := below_new w2 (.cells #[.int .i64 (m : Int)] 3)
                have hs2 := hb2.size
                have hsn := hbn.size
                have HLn := Lib.hid (show (o ++ [(m : Int)]).length + d = a.length by have := HD.out; simp; omega)
                rcases hu with ⟨hv, rfl⟩ | ⟨g6, hg6, hown6⟩
                · have HE := Lib.hid (show o = [] by injection hv with h1 h2 h3; exact List.eq_nil_of_length_eq_zero h2)
                  clear hv
                  go_wp2_with (at_builtin; refine wpList_pushN elemInt _ rfl _ _ rfl rfl (.int .i64 (m : Int)) w2.heap.size rfl (cell_new1 _ _ _) rfl ?_; intro gA capA wA hownA hgA hbA)
                  have hA1 : Own wA gA (.slice (some ⟨gA, 0, none⟩) 1 capA) (o ++ [(m : Int)]) := by rw [HE.out]; exact hownA
                  have HBN := below_trans hbn hbA
                  clear hownA
                  have hbA2 := HBN
                  have hsA := hbA2.size
                  have hT := below_trans hb2 hbA2
                  refine (IH.out (o ++ [(m : Int)]) (most - F.length) _ _ _ _ _ HLn.out HOm.out HN'.out HDF.out hm1 hm2 (kA.keep hT) (kB.keep hT) (.inr hA1.read)).mono ?_
                  rintro e w4 ⟨v4, rfl, hown4, hb4⟩
                  obtain ⟨R, hRR⟩ : ∃ R, (found a b a.length d (o ++ [(m : Int)])).take (most - F.length) = R := ⟨_, rfl⟩
                  have hRl := found_len a b a.length d (o ++ [(m : Int)]) (most - F.length)
                  rw [hRR] at hown4 hRl HMR
                  obtain ⟨G2, gs2, vs2, r1, r2, r3, r4, r5, r6, r7⟩ := hown4
                  obtain ⟨cap4, hv4, _, _, hc4, _⟩ := r4.form
                  subst hv4
                  have hone := inner_one r5
                  have hvR : vs2.length = R.length := r5.1
                  have HVR := Lib.hid hvR
                  have hv24 : vs2.length ≤ 24 := by omega
                  have hs4 := hb4.size
                  have hT4 := below_trans hT hb4
                  have hbel4 := below_trans hbel2 hT4
                  have hB4 := hbel4.size
                  have HC4 := Lib.hid (fun i u (h : vs2[i]? = some u) => (show w4.cell? ⟨G2, 0 + i, none⟩ = some u by rw [Nat.zero_add]; exact hc4 i u h))
                  have HONE := Lib.hid hone
                  have HQ1 := Lib.hid (q1.keep hT4)
                  have HQ2 := Lib.hid (q2.keep hT4)
                  have HR3 := Lib.hid (fun g (hg : g ∈ gs2) => (show wo.heap.size ≤ g ∧ w.heap.size ≤ g from by have := r3 g hg; omega))
                  have HAPP := Lib.hid (fun (w1 : World) (x' : Value) hg (hrow : RowV w1 w.heap.size 27 x' (F.length + vs2.length) (vs ++ vs2)) => rowsV_app (w := w4) (w1 := w1) (B := w.heap.size) (hi := wo.heap.size) (x := (.slice (some ⟨g5, o5, none⟩) F.length c5)) HQ1.out HQ2.out q3 q4 r5 (fun g hg => HR3.out g hg) r7 hvR hg hrow)
                  clear hRR hc4 hone hvR r1 r2 r3 r4 r5 r6 r7 q1 q2 q3 q4 hA1
                  by_cases hge : most ≤ F.length + vs2.length
                  · have hdg : decide ((most : Int) ≤ ((F.length + vs2.length : Nat) : Int)) = true := by rw [decide_eq_true_iff]; omega
                    have HEND := Lib.hid (show (found a b a.length (d + 1) o).take most = F ++ R by
                      rw [HBR.out (by
                        have h5 := congrArg List.length HMR.out
                        rw [List.length_take, List.length_append] at h5
                        have := HVR.out; omega), HMR.out])
                    go_wp2_with (at_builtin; refine wpList_appendV elemRow _ rfl _ _ rfl w.heap.size (.slice (some ⟨g5, o5, none⟩) F.length c5) F.length vs rfl HQ1.out vs2 G2 0 vs2.length cap4 rfl rfl HC4.out HONE.out (by omega) hB4 ?_; intro gC capC wC hrowC hgrowC hbC)
                    have HO2 := (HAPP.out _ _ hgrowC hrowC).own2 (Nat.le_refl _)
                    have hbF := hbel4.trans hbC
                    clear hrowC hgrowC hbC
                    go_wp2_with fail
                    go_ret
                    exact ⟨_, rfl, by rw [HEND.out]; exact HO2, hbF⟩
                  · have hdg : decide ((most : Int) ≤ ((F.length + vs2.length : Nat) : Int)) = false := by rw [decide_eq_false_iff_not]; omega
                    have HEND := Lib.hid (show foundT a b a.length d o (m + 1) = F ++ R by
                      have h5 := congrArg List.length HMR.out
                      rw [List.length_take, List.length_append] at h5
                      have := HVR.out
                      rw [← HMR.out, List.take_of_length_le (by omega)])
                    have HEL := Lib.hid (show (F ++ R).length < most by rw [List.length_append]; have := HVR.out; omega)
                    go_wp2_with (at_builtin; refine wpList_appendV elemRow _ rfl _ _ rfl w.heap.size (.slice (some ⟨g5, o5, none⟩) F.length c5) F.length vs rfl HQ1.out vs2 G2 0 vs2.length cap4 rfl rfl HC4.out HONE.out (by omega) hB4 ?_; intro gC capC wC hrowC hgrowC hbC)
                    have HO2 := Lib.hid (HAPP.out _ _ hgrowC hrowC)
                    have hbF := hbel4.trans hbC
                    clear hrowC hgrowC hbC
                    go_wp2_with fail
                    go_roundw
                    case rel => exact ⟨m + 1, by omega, by go_num, by rw [HEND.out]; exact HO2.out, by rw [HEND.out]; exact HEL.out, hbF⟩
                    case measure => simp [intOf]; omega
                · obtain ⟨c6, hu6, _, _⟩ := hown6.form
                  subst hu6
                  have hB6 : w2.heap.size ≤ (w2.alloc (.cells #[.int .i64 (m : Int)] 3)).heap.size := hsn
                  have hr6 := (hown6.keep hbn)
                  have HR6 := Lib.hid (show RowV (w2.alloc (.cells #[.int .i64 (m : Int)] 3)) wr.heap.size 3 (.slice (some ⟨g6, 0, none⟩) o.length c6) o.length (ivs o) from (OwnV.rowV hr6 hg6).cast rfl (ivs_length o) rfl)
                  clear hr6 hown6
                  go_wp2_with (at_builtin; refine wpList_pushV elemInt _ rfl _ _ rfl wr.heap.size (.slice (some ⟨g6, 0, none⟩) o.length c6) o.length (ivs o) rfl HR6.out (.int .i64 (m : Int)) w2.heap.size rfl (cell_new1 _ _ _) rfl (by omega) (Nat.le_trans hs2 hsn) ?_; intro gA capA wA hrowA hgrowA hbA)
                  obtain ⟨gx, hgx, hA1⟩ : ∃ gx, wr.heap.size ≤ gx ∧ Own wA gx (.slice (some ⟨gA, 0, none⟩) (o.length + 1) capA) (o ++ [(m : Int)]) := by
                    obtain ⟨gx, hgx, h⟩ := hrowA.own
                    exact ⟨gx, hgx, by unfold Own; rw [ivs_append]; exact h⟩
                  have hT := below_trans hb2 hbn
                  have hT : Below wr.heap.size wr wA := hT.trans hbA
                  have hsA := hT.size
                  clear hrowA hgrowA
                  refine (IH.out (o ++ [(m : Int)]) (most - F.length) _ _ _ _ _ HLn.out HOm.out HN'.out HDF.out hm1 hm2 (kA.keep hT) (kB.keep hT) (.inr hA1.read)).mono ?_
                  rintro e w4 ⟨v4, rfl, hown4, hb4⟩
                  obtain ⟨R, hRR⟩ : ∃ R, (found a b a.length d (o ++ [(m : Int)])).take (most - F.length) = R := ⟨_, rfl⟩
                  have hRl := found_len a b a.length d (o ++ [(m : Int)]) (most - F.length)
                  rw [hRR] at hown4 hRl HMR
                  obtain ⟨G2, gs2, vs2, r1, r2, r3, r4, r5, r6, r7⟩ := hown4
                  obtain ⟨cap4, hv4, _, _, hc4, _⟩ := r4.form
                  subst hv4
                  have hone := inner_one r5
                  have hvR : vs2.length = R.length := r5.1
                  have HVR := Lib.hid hvR
                  have hv24 : vs2.length ≤ 24 := by omega
                  have hs4 := hb4.size
                  have hT4 := below_trans hT hb4
                  have hbel4 := below_trans hbel2 hT4
                  have hB4 := hbel4.size
                  have HC4 := Lib.hid (fun i u (h : vs2[i]? = some u) => (show w4.cell? ⟨G2, 0 + i, none⟩ = some u by rw [Nat.zero_add]; exact hc4 i u h))
                  have HONE := Lib.hid hone
                  have HQ1 := Lib.hid (q1.keep hT4)
                  have HQ2 := Lib.hid (q2.keep hT4)
                  have HR3 := Lib.hid (fun g (hg : g ∈ gs2) => (show wo.heap.size ≤ g ∧ w.heap.size ≤ g from by have := r3 g hg; omega))
                  have HAPP := Lib.hid (fun (w1 : World) (x' : Value) hg (hrow : RowV w1 w.heap.size 27 x' (F.length + vs2.length) (vs ++ vs2)) => rowsV_app (w := w4) (w1 := w1) (B := w.heap.size) (hi := wo.heap.size) (x := (.slice (some ⟨g5, o5, none⟩) F.length c5)) HQ1.out HQ2.out q3 q4 r5 (fun g hg => HR3.out g hg) r7 hvR hg hrow)
                  clear hRR hc4 hone hvR r1 r2 r3 r4 r5 r6 r7 q1 q2 q3 q4 hA1
                  by_cases hge : most ≤ F.length + vs2.length
                  · have hdg : decide ((most : Int) ≤ ((F.length + vs2.length : Nat) : Int)) = true := by rw [decide_eq_true_iff]; omega
                    have HEND := Lib.hid (show (found a b a.length (d + 1) o).take most = F ++ R by
                      rw [HBR.out (by
                        have h5 := congrArg List.length HMR.out
                        rw [List.length_take, List.length_append] at h5
                        have := HVR.out; omega), HMR.out])
                    go_wp2_with (at_builtin; refine wpList_appendV elemRow _ rfl _ _ rfl w.heap.size (.slice (some ⟨g5, o5, none⟩) F.length c5) F.length vs rfl HQ1.out vs2 G2 0 vs2.length cap4 rfl rfl HC4.out HONE.out (by omega) hB4 ?_; intro gC capC wC hrowC hgrowC hbC)
                    have HO2 := (HAPP.out _ _ hgrowC hrowC).own2 (Nat.le_refl _)
                    have hbF := hbel4.trans hbC
                    clear hrowC hgrowC hbC
                    go_wp2_with fail
                    go_ret
                    exact ⟨_, rfl, by rw [HEND.out]; exact HO2, hbF⟩
                  · have hdg : decide ((most : Int) ≤ ((F.length + vs2.length : Nat) : Int)) = false := by rw [decide_eq_false_iff_not]; omega
                    have HEND := Lib.hid (show foundT a b a.length d o (m + 1) = F ++ R by
                      have h5 := congrArg List.length HMR.out
                      rw [List.length_take, List.length_append] at h5
                      have := HVR.out
                      rw [← HMR.out, List.take_of_length_le (by omega)])
                    have HEL := Lib.hid (show (F ++ R).length < most by rw [List.length_append]; have := HVR.out; omega)
                    go_wp2_with (at_builtin; refine wpList_appendV elemRow _ rfl _ _ rfl w.heap.size (.slice (some ⟨g5, o5, none⟩) F.length c5) F.length vs rfl HQ1.out vs2 G2 0 vs2.length cap4 rfl rfl HC4.out HONE.out (by omega) hB4 ?_; intro gC capC wC hrowC hgrowC hbC)
                    have HO2 := Lib.hid (HAPP.out _ _ hgrowC hrowC)
                    have hbF := hbel4.trans hbC
                    clear hrowC hgrowC hbC
                    go_wp2_with fail
                    go_roundw
                    case rel => exact ⟨m + 1, by omega, by go_num, by rw [HEND.out]; exact HO2.out, by rw [HEND.out]; exact HEL.out, hbF⟩
                    case measure => simp [intOf]; omega
      · obtain rfl : m = a.length := by omega
        have HE := Lib.hid (show (found a b a.length (d + 1) o).take most = foundT a b a.length d o a.length by rw [← foundT_all, List.take_of_length_le (by omega)])
        have hO2 := hR.own2 (Nat.le_refl _)
        go_wp2_with fail
        go_ret
        exact ⟨_, rfl, by rw [HE.out]; exact hO2, hbel⟩
theorem found_sym (a b : List (List Int)) (n : Nat) : found a b n n [] = symS a b n := by rw [found, ← lvl_all, symS]
theorem filter_take1 {α : Type} (l : List α) (p : α → Bool) : (l.filter p).take 1 = (match l.find? p with | none => [] | some o => [o]) := by
  induction l with
  | nil => rfl
  | cons a l ih =>
    cases h : p a with
    | true => simp [h]
    | false => simp [h, ih]
theorem sym_len (a b : List (List Int)) (n : Nat) (hn : n ≤ 4) : (symS a b n).length ≤ 24 :=
  Nat.le_trans (List.length_filter_le _ _) (lvl_len n (by omega) n (by omega))
theorem iso_take_none {a b : List (List Int)} (hi : isoIn a b = true) (h : isoF a b = none) : (found a b a.length a.length []).take 1 = [] ∧ isoR a b = [] ∧ isoOk a b = false := by
  refine ⟨?_, by simp [isoR, h], by simp [isoOk, h]⟩
  rw [isoF, if_pos hi] at h
  rw [found_sym, symS, filter_take1, h]
theorem iso_take_some {a b : List (List Int)} (hi : isoIn a b = true) {o : List Int} (h : isoF a b = some o) : (found a b a.length a.length []).take 1 = [o] ∧ isoR a b = o ∧ isoOk a b = true := by
  refine ⟨?_, by simp [isoR, h], by simp [isoOk, h]⟩
  rw [isoF, if_pos hi] at h
  rw [found_sym, symS, filter_take1, h]
set_option maxHeartbeats 2000000 in
theorem implAreIsomorphic (v1 v2 : Value) (a b : List (List Int)) (ha : a.length ≤ 274877906944) (hb : b.length ≤ 274877906944) (w : World) (h1 : II w v1 a) (h2 : II w v2 b) :
    Calls Tryz.prog 8 #[v1, v2] w (RetIntsB w (isoR a b) (isoOk a b)) := by
  obtain ⟨g1, o1, c1, hv1, _, _, _⟩ := h1.form
  obtain ⟨g2, o2, c2, hv2, _, _, _⟩ := h2.form
  subst hv1 hv2
  cases hA : isC a with
  | false =>
    have HI := Lib.hid (iso_out (isoIn_f1 (b := b) hA))
    have HA := Lib.hid hA
    clear hA
    go_enter Tryz.func8, Tryz.ntmps8
    go_wp2_with fail
    refine (implIsCartan _ a (by omega) _ h1).mono ?_
    rw [HA.out]
    rintro e w1 ⟨rfl, hb1⟩
    go_wp2_with fail
    go_ret2
    exact ⟨_, w1.heap.size, by rw [HI.out.2]; rfl, hb1.size, by rw [HI.out.1]; exact own_empty w1 _, below_trans hb1 (below_new w1 _)⟩
  | true =>
    cases hB : isC b with
    | false =>
      have HI := Lib.hid (iso_out (isoIn_f2 (a := a) hB))
      have HA := Lib.hid hA
      have HB := Lib.hid hB
      clear hA hB
      go_enter Tryz.func8, Tryz.ntmps8
      go_wp2_with fail
      refine (implIsCartan _ a (by omega) _ h1).mono ?_
      rw [HA.out]
      rintro e w1 ⟨rfl, hb1⟩
      go_wp2_with fail
      refine (implIsCartan _ b (by omega) _ (h2.keep hb1)).mono ?_
      rw [HB.out]
      rintro e w2 ⟨rfl, hb2⟩
      replace hb1 := below_trans hb1 hb2
      go_wp2_with fail
      go_ret2
      exact ⟨_, w2.heap.size, by rw [HI.out.2]; rfl, hb1.size, by rw [HI.out.1]; exact own_empty w2 _, below_trans hb1 (below_new w2 _)⟩
    | true =>
      by_cases hL : a.length = b.length
      rotate_left
      · have HI := Lib.hid (iso_out (isoIn_f3 hL))
        have d0 : ((a.length : Int) != (b.length : Int)) = true := by rw [bne_iff_ne]; omega
        have HA := Lib.hid hA
        have HB := Lib.hid hB
        clear hA hB hL
        go_enter Tryz.func8, Tryz.ntmps8
        go_wp2_with fail
        refine (implIsCartan _ a (by omega) _ h1).mono ?_
        rw [HA.out]
        rintro e w1 ⟨rfl, hb1⟩
        go_wp2_with fail
        refine (implIsCartan _ b (by omega) _ (h2.keep hb1)).mono ?_
        rw [HB.out]
        rintro e w2 ⟨rfl, hb2⟩
        replace hb1 := below_trans hb1 hb2
        go_wp2_with fail
        go_ret2
        exact ⟨_, w2.heap.size, by rw [HI.out.2]; rfl, hb1.size, by rw [HI.out.1]; exact own_empty w2 _, below_trans hb1 (below_new w2 _)⟩
      have HIN := Lib.hid (isoIn_t hA hB hL)
      have d0 : ((a.length : Int) != (b.length : Int)) = false := by rw [bne_eq_false_iff_eq]; omega
      have HM := Lib.hid (fun (v1 v2 : Value) (w : World) (k1 : II w v1 a) (k2 : II w v2 b) => implMatches a b hA hB hL a.length [] 1 1 v1 v2 (.slice none 0 0) w (Nat.zero_add _) (ordP_nil _) rfl rfl (by omega) (by omega) k1 k2 (.inl ⟨rfl, rfl⟩))
      have HA := Lib.hid hA
      have HB := Lib.hid hB
      clear hA hB hL
      cases hF : isoF a b with
      | none =>
        have HT := Lib.hid (iso_take_none HIN.out hF)
        clear hF
        go_enter Tryz.func8, Tryz.ntmps8
        go_wp2_with fail
        refine (implIsCartan _ a (by omega) _ h1).mono ?_
        rw [HA.out]
        rintro e w1 ⟨rfl, hb1⟩
        go_wp2_with fail
        refine (implIsCartan _ b (by omega) _ (h2.keep hb1)).mono ?_
        rw [HB.out]
        rintro e w2 ⟨rfl, hb2⟩
        replace hb1 := below_trans hb1 hb2
        clear hb2
        go_wp2_with fail
        refine (HM.out _ _ _ (h1.keep hb1) (h2.keep hb1)).mono ?_
        rw [HT.out.1]
        rintro e w3 ⟨v3, rfl, hown3, hb3⟩
        obtain ⟨g3, o3, c3, hv3, _, _, _⟩ := hown3.read.form
        subst hv3
        replace hb1 := below_trans hb1 hb3
        clear hb3
        go_wp2_with fail
        go_ret2
        exact ⟨_, w3.heap.size, by rw [HT.out.2.2]; rfl, hb1.size, by rw [HT.out.2.1]; exact own_empty w3 _, below_trans hb1 (below_new w3 _)⟩
      | some o =>
        have HT := Lib.hid (iso_take_some HIN.out hF)
        clear hF
        go_enter Tryz.func8, Tryz.ntmps8
        go_wp2_with fail
        refine (implIsCartan _ a (by omega) _ h1).mono ?_
        rw [HA.out]
        rintro e w1 ⟨rfl, hb1⟩
        go_wp2_with fail
        refine (implIsCartan _ b (by omega) _ (h2.keep hb1)).mono ?_
        rw [HB.out]
        rintro e w2 ⟨rfl, hb2⟩
        replace hb1 := below_trans hb1 hb2
        clear hb2
        go_wp2_with fail
        refine (HM.out _ _ _ (h1.keep hb1) (h2.keep hb1)).mono ?_
        rw [HT.out.1]
        rintro e w3 ⟨v3, rfl, hown3, hb3⟩
        obtain ⟨g3, o3, c3, hv3, _, _, hc3⟩ := hown3.read.form
        subst hv3
        obtain ⟨r, x1, j1⟩ := hc3 0 (by simp)
        obtain ⟨gr, hg1, hg2, hownr⟩ := hown3.row (p := 0) (by simp) x1
        rw [Nat.add_zero] at x1
        have hsz := hb1.size
        replace hb1 := below_trans hb1 hb3
        clear hb3 hc3 hown3 j1
        go_wp2_with fail
        go_ret2
        exact ⟨_, gr, by rw [HT.out.2.2]; rfl, by omega, by rw [HT.out.2.1]; exact hownr, hb1⟩
set_option maxHeartbeats 2000000 in
theorem implSymmetriesOf (v1 : Value) (c : List (List Int)) (hc : c.length ≤ 274877906944) (w : World) (h1 : II w v1 c) :
    Calls Tryz.prog 18 #[v1] w (RetRows w (symL c)) := by
  obtain ⟨g1, o1, c1, hv1, _, _, _⟩ := h1.form
  subst hv1
  cases hC : isC c with
  | false =>
    have HF := Lib.hid (show symL c = [] by simp [symL, hC])
    have HC := Lib.hid hC
    clear hC
    go_enter Tryz.func18, Tryz.ntmps18
    go_wp2_with fail
    refine (implIsCartan _ c (by omega) _ h1).mono ?_
    rw [HC.out]
    rintro e w1 ⟨rfl, hb1⟩
    have hsz := hb1.size
    go_wp2_with fail
    go_ret
    exact ⟨_, rfl, by rw [HF.out]; exact own2_none hsz, hb1.alloc hsz _⟩
  | true =>
    have hn4 : c.length ≤ 4 := ((isC_iff c).1 hC).2.1
    have HF := Lib.hid (show (found c c c.length c.length []).take 24 = symL c by rw [found_sym, List.take_of_length_le (sym_len c c c.length hn4)]; simp [symL, hC])
    have HM := Lib.hid (fun (v1 v2 : Value) (w : World) (k1 : II w v1 c) (k2 : II w v2 c) => implMatches c c hC hC rfl c.length [] 24 24 v1 v2 (.slice none 0 0) w (Nat.zero_add _) (ordP_nil _) rfl rfl (by omega) (by omega) k1 k2 (.inl ⟨rfl, rfl⟩))
    have HC := Lib.hid hC
    clear hC
    go_enter Tryz.func18, Tryz.ntmps18
    go_wp2_with fail
    refine (implIsCartan _ c (by omega) _ h1).mono ?_
    rw [HC.out]
    rintro e w1 ⟨rfl, hb1⟩
    go_wp2_with fail
    refine (HM.out _ _ _ (h1.keep hb1) (h1.keep hb1)).mono ?_
    rw [HF.out]
    rintro e w2 ⟨v2, rfl, hown2, hb2⟩
    obtain ⟨G, gs, vs, q1, q2, q3, q4⟩ := hown2
    have hsz := hb1.size
    go_wp2_with fail
    go_ret
    exact ⟨_, rfl, ⟨G, gs, vs, by omega, q2, fun g hg => by have := q3 g hg; omega, q4⟩, below_trans hb1 hb2⟩
end Go.Proofs.YtaikjkcbgniplaaGreatDoor
