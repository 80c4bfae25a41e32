/- ConcatWords of the program and of the reference (and slices.Concat, slices.Grow): what they answer, for at most 2^20 letters each. -/
import Derived.Test.YtgappocmdbaahaaInts
import Derived.Lib.AppendZeros
namespace Go.Proofs.Ytgappocmdbaahaa
open Go.RowKit
set_option linter.unusedVariables false

/-- nil, or a slice of the call's own. -/
def OwnN (w : World) (lo hi : Nat) (v : Value) (zs : List Int) : Prop := (v = .slice none 0 0 ∧ zs = []) ∨ Own1 w lo hi v zs
def NI (w : World) (v : Value) (zs : List Int) : Prop := (v = .slice none 0 0 ∧ zs = []) ∨ I w v zs
theorem OwnN.keep {w w' : World} {lo hi : Nat} {v : Value} {zs : List Int} (h : OwnN w lo hi v zs) (hb : Below w.heap.size w w') : OwnN w' lo hi v zs := h.elim .inl (fun h => .inr (h.keep hb))
theorem OwnN.chg {w w' : World} {lo hi l2 h2 : Nat} {v : Value} {zs : List Int} (h : OwnN w lo hi v zs) (hb : Chg (fun k => l2 ≤ k ∧ k < h2) w w') (hd : hi ≤ l2 ∨ h2 ≤ lo) : OwnN w' lo hi v zs := h.elim .inl (fun h => .inr (h.chg hb hd))
theorem OwnN.read {w : World} {lo hi : Nat} {v : Value} {zs : List Int} (h : OwnN w lo hi v zs) : NI w v zs := h.elim .inl (fun h => .inr h.read)
def RetIntsN (w : World) (zs : List Int) (e : Ending) (w' : World) : Prop := ∃ v, e = .returned v ∧ OwnN w' w.heap.size w'.heap.size v zs ∧ Below w.heap.size w w'
theorem RetIntsN.out {w w' : World} {zs : List Int} {e : Ending} (h : RetIntsN w zs e w') : ∃ v, e = .returned v ∧ OwnN w' w.heap.size w'.heap.size v zs ∧ Below w.heap.size w w' := h
set_option maxHeartbeats 400000 in
theorem eqIntSN (v1 v2 : Value) (a b : List Int) (ha : a.length ≤ 1099511627776) (w : World) (h1 : NI w v1 a) (h2 : I w v2 b) :
    Calls Try.prog 13 #[v1, v2] w fun e w' => e = .returned (.bool (eqI a b)) ∧ Below w.heap.size w w' := by
  rcases h1 with ⟨rfl, rfl⟩ | h1
  · obtain ⟨g2, o2, c2, rfl, _, _, hc2⟩ := h2.form
    by_cases hl : b.length = 0
    · have hb := List.eq_nil_of_length_eq_zero hl
      subst hb
      go_enter Try.func13, Try.ntmps13
      go_wp2_with fail
      go_loopw [5] (fun i wr => i = .int .i64 0 ∧ Below w.heap.size w wr) (fun i _ => 0)
      case atStart => exact ⟨rfl, Below.refl _ _⟩
      case round =>
        obtain ⟨rfl, hb⟩ := hrel
        go_wp2_with fail
        go_ret
        exact ⟨rfl, hb⟩
    · have dl : ((0 : Int) != (b.length : Int)) = true := by rw [bne_iff_ne]; omega
      have HF := Lib.hid (show eqI [] b = false by rw [eqI, beq_eq_false_iff_ne]; intro e; subst e; exact hl rfl)
      clear hl
      go_enter Try.func13, Try.ntmps13
      go_wp2_with fail
      go_ret
      exact ⟨ret_bool HF.out.symm, Below.refl _ _⟩
  · exact eqIntS v1 v2 a b ha w h1 h2
set_option maxHeartbeats 400000 in
theorem markNil (q : Int) (w : World) : Calls Try.prog 14 #[.slice none 0 0, .int .i64 q] w fun e w' => e = .returned (.int .i64 q) ∧ w = w' := by
  go_enter Try.func14, Try.ntmps14
  go_wp2_with fail
  go_loop [1, 5] (fun x i => i = .int .i64 0 ∧ x = .int .i64 q) (fun _ i => 0)
  case atStart => exact ⟨rfl, rfl⟩
  case round =>
    obtain ⟨rfl, rfl⟩ := hrel
    go_wp2_with fail
    go_ret
    exact ⟨rfl, rfl⟩
set_option maxHeartbeats 400000 in
theorem heldNil (q : Int) (w : World) : Calls Try.prog 15 #[.slice none 0 0, .int .i64 q] w fun e w' => e = .returned (.int .i64 q) ∧ w = w' := by
  go_enter Try.func15, Try.ntmps15
  go_wp2_with fail
  go_loop [1, 5] (fun x i => i = .int .i64 0 ∧ x = .int .i64 q) (fun _ i => 0)
  case atStart => exact ⟨rfl, rfl⟩
  case round =>
    obtain ⟨rfl, rfl⟩ := hrel
    go_wp2_with fail
    go_ret
    exact ⟨rfl, rfl⟩
theorem chg_none (w : World) (lo hi : Nat) : Chg (fun k => lo ≤ k ∧ k < hi) w w := Chg.refl _ _
theorem markIN (v : Value) (lo hi : Nat) (zs : List Int) (q : Int) (k : Nat) (w : World) (h : OwnN w lo hi v zs) (hq : q = k) (hk : k + zs.length ≤ 1099511627776) :
    Calls Try.prog 14 #[v, .int .i64 q] w fun e w' => e = .returned (.int .i64 (q + zs.length)) ∧ OwnN w' lo hi v (seqI k zs.length) ∧ Chg (fun k => lo ≤ k ∧ k < hi) w w' ∧ w.heap.size ≤ w'.heap.size := by
  rcases h with ⟨rfl, rfl⟩ | h
  · exact (markNil q w).mono fun e w' ⟨h1, h2⟩ => by subst h2; exact ⟨by rw [h1]; exact ret_int (by simp), .inl ⟨rfl, rfl⟩, Chg.refl _ _, Nat.le_refl _⟩
  · exact (markI v lo hi zs q k w h hq hk).mono fun e w' ⟨h1, h2, h3⟩ => ⟨h1, .inr h2, h3⟩
theorem heldIN (v : Value) (q : Int) (k n : Nat) (w : World) (h : NI w v (seqI k n)) (hq : q = k) (hk : k + n ≤ 1099511627776) :
    Calls Try.prog 15 #[v, .int .i64 q] w fun e w' => e = .returned (.int .i64 (q + n)) ∧ Below w.heap.size w w' := by
  rcases h with ⟨rfl, h⟩ | h
  · have hn : n = 0 := by have := congrArg List.length h; rwa [seqI_length] at this
    subst hn
    exact (heldNil q w).mono fun e w' ⟨h1, h2⟩ => by subst h2; exact ⟨by rw [h1]; exact ret_int (by simp), Below.refl _ _⟩
  · exact heldI v q k n w h hq hk
section
variable {P : Program} {T e : TypeId} {bytes : Nat}
/-- Nothing appended to nil. -/
theorem wpList_appendNil (E : Elem P T e bytes) {ops : Array Oper} {rest : List Oper} {o : Oper} {a : Act} {Q : Exit → Act → World → Prop} (w : World) (hgd : o.guard = none) (s x : Operand)
    (ho : o.op = .call { callee := .builtin .append, args := #[s, x], argTypes := #[T, T] }) (hs : a.eval s = .slice none 0 0) (ad : Addr) (c : Nat) (hx : a.eval x = .slice (some ad) 0 c)
    (h : ∀ w', Below w.heap.size w w' → wpList P ops Q rest (a.put o.dst (.slice none 0 0)) w') : wpList P ops Q (o :: rest) a w := by
  refine wpList_plain hgd fun _ hK => ?_
  obtain ⟨i, z, hi, hz, h2, h3, hzc⟩ := E.info
  refine wp_append_own w s x T ho w.heap.size e i z 1 bytes E.slice hi hz h2 h3 hzc (by omega) (.slice none 0 0) 0 [] hs ⟨by simp, .inl ⟨rfl, rfl⟩⟩ ad 0 c [] hx rfl (fun j u hj => by simp at hj) (by simp) (by unfold maxLen; omega) (by omega) (Nat.le_refl _) (fun v' w' hown hgrow hnil => ?_)
  have hv : v' = .slice none 0 0 := hnil.2 ⟨rfl, rfl⟩
  subst hv
  exact hK _ _ (h w' ((Below.refl _ w).grown hgrow (Nat.le_refl _) (fun k hk => by cases hk)))
end
/-- Room for n numbers, none there. -/
def GrowR (w : World) (n : Nat) (e : Ending) (w' : World) : Prop := ∃ g C, e = .returned (.slice (some ⟨g, 0, none⟩) 0 C) ∧ RowV w' w.heap.size 3 (.slice (some ⟨g, 0, none⟩) 0 C) 0 [] ∧ Below w.heap.size w w'
theorem growNil (w : World) : Calls Try.prog 98 #[.slice none 0 0, .int .i64 0] w fun e w' => e = .returned (.slice none 0 0) ∧ w = w' := by
  go_enter Try.func98, Try.ntmps98
  go_wp2_with fail
  go_ret
  exact ⟨rfl, rfl⟩
set_option maxHeartbeats 1000000 in
theorem growSome (n : Nat) (h0 : 0 < n) (hn : n ≤ 4194304) (w : World) : Calls Try.prog 98 #[.slice none 0 0, .int .i64 n] w (GrowR w n) := by
  obtain ⟨i, hi, hz, hsz, hby⟩ := info_parts Try.infoInt
  have hr := fun (ty : TypeId) => Lib.run_append_nil_zeros (P := Try.prog) w 22 3 ty 3 i (.int .i64 0) .i64 .i64 Try.underlying22 Try.underlying3 hi hz n h0 (by omega) (by omega) (by rw [hby]; omega)
  obtain ⟨C, hC⟩ : ∃ C, grownCap w n 0 3 = C := ⟨_, rfl⟩
  have hge : n ≤ C := by rw [← hC]; exact grownCap_ge w _ _ _
  have hcm : C ≤ maxLen := by rw [← hC]; exact grownCap_le_maxLen w _ _ _ (by unfold maxLen; omega)
  rw [hC] at hr
  have HR := Lib.hid hr
  have d1 : ((n : Int) < 0) = False := by simp; 
  have hn0 : (0 : Int) < (n : Int) := by omega
  clear hr hC hi hz hsz hby d1
  go_enter Try.func98, Try.ntmps98
  go_wp2_with (at_builtin; refine Lib.wpList_append_run _ rfl _ _ _ _ rfl _ _ rfl rfl _ _ (HR.out _) ?_)
  go_ret
  have hzs : (Builtin.zeroCells (Value.int .i64 0).cells n ++ Builtin.zeroCells (Value.int .i64 0).cells (C - n)).size = C := by
    simp only [Array.size_append, size_zeroCells]
    simp [Value.cells]; omega
  have hO : OwnV (w.drew.alloc (.cells (Builtin.zeroCells (Value.int .i64 0).cells n ++ Builtin.zeroCells (Value.int .i64 0).cells (C - n)) 3)) 3 w.heap.size (.slice (some ⟨w.heap.size, 0, none⟩) 0 C) [] :=
    ⟨C, _, rfl, heap_alloc_new w.drew _, Nat.zero_le _, hcm, hzs, rfl⟩
  exact ⟨w.heap.size, C, rfl, hO.rowV (Nat.le_refl _), (Below.refl _ _).drew.alloc (Nat.le_refl _) _⟩
theorem cells3 {x0 x1 x2 : Value} {w : World} {g : Nat} (h0 : w.cell? ⟨g, 0, none⟩ = some x0) (h1 : w.cell? ⟨g, 1, none⟩ = some x1) (h2 : w.cell? ⟨g, 2, none⟩ = some x2) : w.cell? ⟨g, 0, none⟩ = some x0 ∧ w.cell? ⟨g, 1, none⟩ = some x1 ∧ w.cell? ⟨g, 2, none⟩ = some x2 := ⟨h0, h1, h2⟩
def preS (a b : List Int) (k : Nat) : Nat := if k ≤ 1 then 0 else if k = 2 then a.length else a.length + b.length
set_option maxHeartbeats 2000000 in
theorem slicesConcat (g8 g0 : Nat) (x1 x2 : Value) (a b : List Int) (ha : a.length ≤ 1048576) (hb : b.length ≤ 1048576) (w : World) (h0 : w.cell? ⟨g8, 0, none⟩ = some (.slice (some ⟨g0, 0, none⟩) 0 0)) (h1 : w.cell? ⟨g8, 1, none⟩ = some x1) (h2 : w.cell? ⟨g8, 2, none⟩ = some x2) (r1 : I w x1 a) (r2 : I w x2 b) :
    Calls Try.prog 78 #[.slice (some ⟨g8, 0, none⟩) 3 3] w (RetIntsN w (a ++ b)) := by
  obtain ⟨g1, o1, c1, hv1, _, _, hc1⟩ := r1.form
  obtain ⟨g2, o2, c2, hv2, _, _, hc2⟩ := r2.form
  subst hv1 hv2
  have H1 := Lib.hid hc1
  have H2 := Lib.hid hc2
  have HX := Lib.hid (cells3 h0 h1 h2)
  clear hc1 hc2 h0 h1 h2 r1 r2
  go_enter Try.func78, Try.ntmps78
  go_wp2_with fail
  go_loop [3, 11] (fun s i => ∃ k : Nat, k ≤ 3 ∧ i = .int .i64 k ∧ s = .int .i64 (preS a b k : Nat)) (fun _ i => 3 - (intOf i).toNat)
  case atStart => exact ⟨0, by omega, rfl, rfl⟩
  case round =>
    obtain ⟨k, hk, rfl, rfl⟩ := hrel
    by_cases hlt' : k < 3
    · rcases (show k = 0 ∨ k = 1 ∨ k = 2 by omega) with rfl | rfl | rfl
      · have y := HX.out.1
        have HP := Lib.hid (show preS a b 1 = 0 from rfl)
        rw [show preS a b 0 = 0 from rfl]
        go_wp2_with fail
        go_round
        case rel => exact ⟨1, by omega, by go_num, by rw [HP.out] <;> go_num⟩
        case measure => simp [intOf]
      · have y := HX.out.2.1
        have HP := Lib.hid (show preS a b 2 = a.length from rfl)
        rw [show preS a b 1 = 0 from rfl]
        go_wp2_with fail
        go_round
        case rel => exact ⟨2, by omega, by go_num, by rw [HP.out] <;> go_num⟩
        case measure => simp [intOf]
      · have y := HX.out.2.2
        have HP := Lib.hid (show preS a b 3 = a.length + b.length from rfl)
        rw [show preS a b 2 = a.length from rfl]
        go_wp2_with fail
        go_round
        case rel => exact ⟨3, by omega, by go_num, by rw [HP.out] <;> go_num⟩
        case measure => simp [intOf]
    · obtain rfl : k = 3 := by omega
      rw [show preS a b 3 = a.length + b.length from rfl]
      by_cases hz : a.length + b.length = 0
      · have ea : a = [] := List.eq_nil_of_length_eq_zero (by omega)
        have eb : b = [] := List.eq_nil_of_length_eq_zero (by omega)
        subst ea eb
        clear hz
        go_wp2_with fail
        refine (growNil _).mono ?_
        rintro e w' ⟨rfl, rfl⟩
        go_wp2_with fail
        go_loopw [6, 27] (fun v i wr => ∃ k : Nat, k ≤ 3 ∧ i = .int .i64 k ∧ v = .slice none 0 0 ∧ Below w.heap.size w wr) (fun _ i _ => 3 - (intOf i).toNat)
        case atStart => exact ⟨0, by omega, rfl, rfl, Below.refl _ _⟩
        case round =>
          obtain ⟨k, hk, rfl, rfl, hbel⟩ := hrel
          by_cases hlt' : k < 3
          · rcases (show k = 0 ∨ k = 1 ∨ k = 2 by omega) with rfl | rfl | rfl
            · have y := (hbel.cell (World.block_lt_of_cell? w _ HX.out.1)).trans HX.out.1
              go_wp2_with (at_builtin; refine wpList_appendNil elemInt _ rfl _ _ rfl rfl ⟨g0, 0, none⟩ 0 rfl ?_; intro w2 hb2)
              go_roundw
              case rel => exact ⟨1, by omega, by go_num, rfl, below_trans hbel hb2⟩
              case measure => simp [intOf]
            · have y := (hbel.cell (World.block_lt_of_cell? w _ HX.out.2.1)).trans HX.out.2.1
              go_wp2_with (at_builtin; refine wpList_appendNil elemInt _ rfl _ _ rfl rfl ⟨g1, o1, none⟩ c1 rfl ?_; intro w2 hb2)
              go_roundw
              case rel => exact ⟨2, by omega, by go_num, rfl, below_trans hbel hb2⟩
              case measure => simp [intOf]
            · have y := (hbel.cell (World.block_lt_of_cell? w _ HX.out.2.2)).trans HX.out.2.2
              go_wp2_with (at_builtin; refine wpList_appendNil elemInt _ rfl _ _ rfl rfl ⟨g2, o2, none⟩ c2 rfl ?_; intro w2 hb2)
              go_roundw
              case rel => exact ⟨3, by omega, by go_num, rfl, below_trans hbel hb2⟩
              case measure => simp [intOf]
          · obtain rfl : k = 3 := by omega
            go_wp2_with fail
            go_ret
            exact ⟨_, rfl, .inl ⟨rfl, rfl⟩, hbel⟩
      · have hz0 : 0 < a.length + b.length := by omega
        have hzn : a.length + b.length ≤ 4194304 := by omega
        have hsum : ((a.length + b.length : Nat) : Int) = ((a.length + b.length : Nat) : Int) := rfl
        clear hz hsum
        obtain ⟨n, hn⟩ : ∃ n, a.length + b.length = n := ⟨_, rfl⟩
        have HN := Lib.hid hn
        rw [hn] at hz0 hzn ⊢
        clear hn
        go_wp2_with fail
        refine (growSome n hz0 hzn _).mono ?_
        rintro e w1 ⟨gg, C, rfl, hrow0, hb0⟩
        go_wp2_with fail
        go_loopw [6, 27] (fun v i wr => ∃ (k : Nat) (ys : List Int), k ≤ 3 ∧ i = .int .i64 k ∧ RowV wr w.heap.size 3 v ys.length (ivs ys) ∧ Hid (ys = if k ≤ 1 then [] else if k = 2 then a else a ++ b) ∧ Below w.heap.size w wr) (fun _ i _ => 3 - (intOf i).toNat)
        case atStart => exact ⟨0, [], by omega, rfl, hrow0, rfl, hb0⟩
        case round =>
          clear hrow0 hb0
          obtain ⟨k, ys, hk, rfl, hrow, HY, hbel⟩ := hrel
          have hB := hbel.size
          by_cases hlt' : k < 3
          · rcases (show k = 0 ∨ k = 1 ∨ k = 2 by omega) with rfl | rfl | rfl
            · have hy : ys = [] := HY.out
              subst hy
              have y := (hbel.cell (World.block_lt_of_cell? w _ HX.out.1)).trans HX.out.1
              go_wp2_with (at_builtin; refine wpList_appendV elemInt _ rfl _ _ rfl w.heap.size u6 0 [] rfl hrow [] g0 0 0 0 rfl rfl (fun i u h => by simp at h) (by simp) (by omega) hB ?_; intro gA capA wA hrowA hgrowA hbA)
              go_roundw
              case rel => exact ⟨1, [], by omega, by go_num, hrowA.cast rfl rfl rfl, rfl, hbel.trans hbA⟩
              case measure => simp [intOf]
            · have hy : ys = [] := HY.out
              subst hy
              have y := (hbel.cell (World.block_lt_of_cell? w _ HX.out.2.1)).trans HX.out.2.1
              go_wp2_with (at_builtin; refine wpList_appendV elemInt _ rfl _ _ rfl w.heap.size u6 0 [] rfl hrow (ivs a) g1 o1 a.length c1 rfl (ivs_length a) (cells_after H1.out hbel) (ivs_one a) (by omega) hB ?_; intro gA capA wA hrowA hgrowA hbA)
              go_roundw
              case rel => exact ⟨2, a, by omega, by go_num, hrowA.cast (by rw [Nat.zero_add]) (by omega) (by simp), rfl, hbel.trans hbA⟩
              case measure => simp [intOf]
            · have hy : ys = a := HY.out
              subst hy
              have y := (hbel.cell (World.block_lt_of_cell? w _ HX.out.2.2)).trans HX.out.2.2
              go_wp2_with (at_builtin; refine wpList_appendV elemInt _ rfl _ _ rfl w.heap.size u6 ys.length (ivs ys) rfl hrow (ivs b) g2 o2 b.length c2 rfl (ivs_length b) (cells_after H2.out hbel) (ivs_one b) (by omega) hB ?_; intro gA capA wA hrowA hgrowA hbA)
              go_roundw
              case rel => exact ⟨3, ys ++ b, by omega, by go_num, hrowA.cast rfl (by simp) (by rw [ivs_append]), rfl, hbel.trans hbA⟩
              case measure => simp [intOf]
          · obtain rfl : k = 3 := by omega
            have hy : ys = a ++ b := HY.out
            obtain ⟨gx, hgx, hown⟩ := hrow.own
            clear HY
            subst hy
            go_wp2_with fail
            go_ret
            exact ⟨_, rfl, .inr ⟨gx, hgx, hown.lt, hown⟩, hbel⟩
set_option maxHeartbeats 1000000 in
theorem implConcatWords (v1 v2 : Value) (a b : List Int) (ha : a.length ≤ 1048576) (hb : b.length ≤ 1048576) (w : World) (h1 : I w v1 a) (h2 : I w v2 b) :
    Calls Try.prog 46 #[v1, v2] w (RetIntsN w (a ++ b)) := by
  obtain ⟨g1, o1, c1, hv1, _, _, _⟩ := h1.form
  obtain ⟨g2, o2, c2, hv2, _, _, _⟩ := h2.form
  subst hv1 hv2
  go_enter Try.func46, Try.ntmps46
  have hb1 := below_new w (.cells #[] 3)
  have hb2 := below_trans hb1 (below_new (w.alloc (.cells #[] 3)) (.cells #[.slice (some ⟨w.heap.size, 0, none⟩) 0 0, .slice (some ⟨g1, o1, none⟩) a.length c1, .slice (some ⟨g2, o2, none⟩) b.length c2] 22))
  have y0 : ((w.alloc (.cells #[] 3)).alloc (.cells #[.slice (some ⟨w.heap.size, 0, none⟩) 0 0, .slice (some ⟨g1, o1, none⟩) a.length c1, .slice (some ⟨g2, o2, none⟩) b.length c2] 22)).cell? ⟨w.heap.size + 1, 0, none⟩ = some (.slice (some ⟨w.heap.size, 0, none⟩) 0 0) := by simp
  have y1 : ((w.alloc (.cells #[] 3)).alloc (.cells #[.slice (some ⟨w.heap.size, 0, none⟩) 0 0, .slice (some ⟨g1, o1, none⟩) a.length c1, .slice (some ⟨g2, o2, none⟩) b.length c2] 22)).cell? ⟨w.heap.size + 1, 1, none⟩ = some (.slice (some ⟨g1, o1, none⟩) a.length c1) := by simp
  have y2 : ((w.alloc (.cells #[] 3)).alloc (.cells #[.slice (some ⟨w.heap.size, 0, none⟩) 0 0, .slice (some ⟨g1, o1, none⟩) a.length c1, .slice (some ⟨g2, o2, none⟩) b.length c2] 22)).cell? ⟨w.heap.size + 1, 2, none⟩ = some (.slice (some ⟨g2, o2, none⟩) b.length c2) := by simp
  have HC := Lib.hid (slicesConcat (w.heap.size + 1) w.heap.size _ _ a b ha hb _ y0 y1 y2 (h1.keep hb2) (h2.keep hb2))
  have HB := Lib.hid hb2
  clear y0 y1 y2 hb1 hb2
  go_wp2_with fail
  refine HC.out.mono ?_
  rintro e w1 ⟨v, rfl, hO, hb⟩
  have hs := HB.out.size
  go_wp2_with fail
  go_ret
  refine ⟨_, rfl, ?_, below_trans HB.out hb⟩
  rcases hO with h | ⟨g, q1, q2, q3⟩
  · exact .inl h
  · exact .inr ⟨g, by omega, q2, q3⟩
end Go.Proofs.Ytgappocmdbaahaa
