/- NeighboursOf of the program and of the reference: the points that a point is bound to, for at most 2^40 numbers. -/
import Derived.Test.YtaikjkcbgniplaaGreatDoorBond
namespace Go.Proofs.YtaikjkcbgniplaaGreatDoor
open Go.RowKit
set_option linter.unusedVariables false

def nbP (c : List (List Int)) (s : Nat) (i : Nat) : Bool := ((i : Int) != (s : Int)) && (ent c s i != 0)
def nbT (c : List (List Int)) (s : Int) (k : Nat) : List Int := ((List.range k).filter (nbP c s.toNat)).map (fun i : Nat => (i : Int))
def nbL (c : List (List Int)) (s : Int) : List Int := nbT c s (colN c s)
theorem nbT_len (c : List (List Int)) (s : Int) (k : Nat) : (nbT c s k).length ≤ k := by
  have := List.length_filter_le (nbP c s.toNat) (List.range k)
  simpa [nbT] using this
theorem nbT_zero (c : List (List Int)) (s : Int) : nbT c s 0 = [] := rfl
theorem nbT_in (c : List (List Int)) (s : Nat) (k : Nat) (x : Int) (hx : ent c s k = x) (h1 : ((k : Int) != (s : Int)) = true) (h2 : (x != 0) = true) : nbT c s (k + 1) = nbT c s k ++ [(k : Int)] := by
  subst hx
  simp only [nbT, List.range_succ, List.filter_append, List.map_append, Int.toNat_natCast, List.filter_cons, nbP, h1, h2, Bool.and_self, if_true, List.filter_nil, List.map_cons, List.map_nil]
theorem nbT_out (c : List (List Int)) (s : Nat) (k : Nat) (h : nbP c s k = false) : nbT c s (k + 1) = nbT c s k := by
  simp [nbT, List.range_succ, h]
theorem nbT_out1 (c : List (List Int)) (s : Nat) (k : Nat) (h : ((k : Int) != (s : Int)) = false) : nbT c s (k + 1) = nbT c s k := nbT_out c s k (by simp [nbP, h])
theorem nbT_out2 (c : List (List Int)) (s : Nat) (k : Nat) (x : Int) (hx : ent c s k = x) (h : (x != 0) = false) : nbT c s (k + 1) = nbT c s k := nbT_out c s k (by subst hx; simp [nbP, h])
theorem nb_snoc (c : List (List Int)) (s : Nat) (k : Nat) (h : nbT c s (k + 1) = nbT c s k ++ [(k : Int)]) : ivs (nbT c s k) ++ [.int .i64 k] = ivs (nbT c s (k + 1)) ∧ (nbT c s k).length + 1 = (nbT c s (k + 1)).length := by
  rw [h, ivs_append, List.length_append]; exact ⟨rfl, rfl⟩
set_option maxHeartbeats 2000000 in
theorem specNeighboursOf (v1 : Value) (c : List (List Int)) (s : Int) (hc : c.length ≤ 1099511627776) (w : World) (h1 : II w v1 c) :
    Calls Tryz.prog 28 #[v1, .int .i64 s] w (RetInts w (nbL c s)) := by
  obtain ⟨g1, o1, c1, hv1, _, _, hc1⟩ := h1.form
  have H1 := Lib.hid hc1
  clear hc1
  subst hv1
  go_enter Tryz.func28, Tryz.ntmps28
  go_wp2_with fail
  go_loopw [5, 6] (fun v i wr => ∃ k : Nat, k ≤ colN c s ∧ i = .int .i64 k ∧ RowV wr w.heap.size 3 v (nbT c s k).length (ivs (nbT c s k)) ∧ Below w.heap.size w wr) (fun _ i _ => c.length - (intOf i).toNat)
  case atStart => exact ⟨0, by omega, rfl, rowV_empty w _, (Below.refl _ _).alloc (Nat.le_refl _) _⟩
  case round =>
    obtain ⟨k, hk, rfl, hrow, hbel⟩ := hrel
    have hle := colN_le c s
    have k1 := h1.keep hbel
    by_cases hlt' : k < c.length
    · cases hC : isC c with
      | true =>
        cases hp : isPt c.length s with
        | true =>
          have hN := colN_t hC hp
          obtain ⟨ns, rfl, hns⟩ := pt_nat hp
          have hsq := Lib.hid (isC_sq hC ns hns)
          obtain ⟨gi, oi, ci, x, y1, y2, hx⟩ := II.at H1.out hns (show k < c[ns].length by rw [hsq.out]; exact hlt')
          have HC := Lib.hid hC
          have HP := Lib.hid hp
          have HX := Lib.hid hx
          clear hC hp hx
          have hk0 : (0 : Int) ≤ (k : Int) := by omega
          have hk1 : (ns : Int) < (c.length : Int) := by omega
          have hk2 : (0 : Int) ≤ (ns : Int) := by omega
          have hk3 : (k : Int) < (c[ns].length : Int) := by rw [hsq.out]; omega
          have hlen := nbT_len c ns k
          cases d1 : ((k : Int) != (ns : Int)) with
          | false =>
            have HT := Lib.hid (nbT_out1 c ns k d1)
            go_wp2_with fail
            refine (specIsCartan _ c hc _ k1).mono ?_
            rw [HC.out]
            rintro e w1 ⟨rfl, hb1⟩
            replace hrow := hrow.keep hb1
            replace hbel := below_trans hbel hb1
            have x1 := cells_keep hbel y1
            have x2 := cells_keep hbel y2
            go_wp2_with fail
            refine (l1In _ _ _ _).mono ?_
            rw [isPt_le, HP.out]
            rintro e w3 ⟨rfl, rfl⟩
            go_wp2_with fail
            go_roundw
            case rel => exact ⟨k + 1, by omega, by go_num, hrow.cast rfl (by rw [HT.out]) (by rw [HT.out]), hbel⟩
            case measure => simp [intOf]; omega
          | true =>
            cases d2 : (x != 0) with
            | false =>
              have HT := Lib.hid (nbT_out2 c ns k x HX.out d2)
              go_wp2_with fail
              refine (specIsCartan _ c hc _ k1).mono ?_
              rw [HC.out]
              rintro e w1 ⟨rfl, hb1⟩
              replace hrow := hrow.keep hb1
              replace hbel := below_trans hbel hb1
              have x1 := cells_keep hbel y1
              have x2 := cells_keep hbel y2
              go_wp2_with fail
              refine (l1In _ _ _ _).mono ?_
              rw [isPt_le, HP.out]
              rintro e w3 ⟨rfl, rfl⟩
              go_wp2_with fail
              go_roundw
              case rel => exact ⟨k + 1, by omega, by go_num, hrow.cast rfl (by rw [HT.out]) (by rw [HT.out]), hbel⟩
              case measure => simp [intOf]; omega
            | true =>
              have HT := Lib.hid (nb_snoc c ns k (nbT_in c ns k x HX.out d1 d2))
              go_wp2_with fail
              refine (specIsCartan _ c hc _ k1).mono ?_
              rw [HC.out]
              rintro e w1 ⟨rfl, hb1⟩
              replace hrow := hrow.keep hb1
              replace hbel := below_trans hbel hb1
              have x1 := cells_keep hbel y1
              have x2 := cells_keep hbel y2
              go_wp2_with fail
              refine (l1In _ _ _ _).mono ?_
              rw [isPt_le, HP.out]
              rintro e w3 ⟨rfl, rfl⟩
              go_wp2_with (at_builtin; refine wpList_pushV elemInt _ rfl _ _ rfl w.heap.size u5 (nbT c ns k).length _ rfl (hrow.alloc _) (.int .i64 k) w1.heap.size rfl (cell_new1 _ _ _) rfl (by omega) (by have := hbel.size; simp; omega) ?_; intro gg cap w2 hrow1 hgrow hb2)
              go_roundw
              case rel => exact ⟨k + 1, by omega, by go_num, hrow1.cast rfl HT.out.2 HT.out.1, (hbel.alloc hbel.size _).trans hb2⟩
              case measure => simp [intOf]; omega
        | false =>
          have hN := colN_g (c := c) (s := s) hp
          have HC := Lib.hid hC
          have HP := Lib.hid hp
          clear hC hp
          obtain rfl : k = 0 := by omega
          have hfin : nbT c s 0 = nbL c s := by rw [nbL, hN]
          have HF := Lib.hid hfin
          clear hN hfin
          go_wp2_with fail
          refine (specIsCartan _ c hc _ k1).mono ?_
          rw [HC.out]
          rintro e w1 ⟨rfl, hb1⟩
          replace hrow := hrow.keep hb1
          replace hbel := below_trans hbel hb1
          go_wp2_with fail
          refine (l1In _ _ _ _).mono ?_
          rw [isPt_le, HP.out]
          rintro e w3 ⟨rfl, rfl⟩
          rw [HF.out] at hrow
          obtain ⟨g, hg, hown⟩ := hrow.own
          go_wp2_with fail
          go_ret
          exact ⟨_, g, rfl, hg, hown, hbel⟩
      | false =>
        have hN := colN_f (c := c) (s := s) hC
        have HC := Lib.hid hC
        clear hC
        obtain rfl : k = 0 := by omega
        have hfin : nbT c s 0 = nbL c s := by rw [nbL, hN]
        have HF := Lib.hid hfin
        clear hN hfin
        go_wp2_with fail
        refine (specIsCartan _ c hc _ k1).mono ?_
        rw [HC.out]
        rintro e w1 ⟨rfl, hb1⟩
        replace hrow := hrow.keep hb1
        replace hbel := below_trans hbel hb1
        rw [HF.out] at hrow
        obtain ⟨g, hg, hown⟩ := hrow.own
        go_wp2_with fail
        go_ret
        exact ⟨_, g, rfl, hg, hown, hbel⟩
    · have hN : k = colN c s := by omega
      have hfin : nbT c s k = nbL c s := by rw [nbL, hN]
      rw [hfin] at hrow
      obtain ⟨g, hg, hown⟩ := hrow.own
      clear hN hfin hk hle
      go_wp2_with fail
      go_ret
      exact ⟨_, g, rfl, hg, hown, hbel⟩
set_option maxHeartbeats 2000000 in
theorem implNeighboursOf (v1 : Value) (c : List (List Int)) (s : Int) (hc : c.length ≤ 1099511627776) (w : World) (h1 : II w v1 c) :
    Calls Tryz.prog 27 #[v1, .int .i64 s] w (RetInts w (nbL c s)) := by
  obtain ⟨g1, o1, c1, hv1, _, _, hc1⟩ := h1.form
  have H1 := Lib.hid hc1
  clear hc1
  subst hv1
  cases hC : isC c with
  | false =>
    have HF := Lib.hid (show nbL c s = [] by rw [nbL, colN_f hC]; rfl)
    have HC := Lib.hid hC
    clear hC
    go_enter Tryz.func27, Tryz.ntmps27
    go_wp2_with fail
    refine (implIsCartan _ c hc _ (h1.keep (below_new w _))).mono ?_
    rw [HC.out]
    rintro e w1 ⟨rfl, hb1⟩
    have hbw : Below w.heap.size w w1 := below_trans (below_new w _) hb1
    have k1 := h1.keep hbw
    have hrow0 := (rowV_empty w 3).keep hb1
    rw [show ([] : List Value) = ivs (nbL c s) by rw [HF.out]; rfl] at hrow0
    obtain ⟨g, hg, hown⟩ := hrow0.own
    go_wp2_with fail
    go_ret
    exact ⟨_, g, rfl, hg, hown, hbw⟩
  | true =>
    cases hp : isPt c.length s with
    | false =>
      have HF := Lib.hid (show nbL c s = [] by rw [nbL, colN_g hp]; rfl)
      have HC := Lib.hid hC
      have HP := Lib.hid hp
      clear hC hp
      go_enter Tryz.func27, Tryz.ntmps27
      go_wp2_with fail
      refine (implIsCartan _ c hc _ (h1.keep (below_new w _))).mono ?_
      rw [HC.out]
      rintro e w1 ⟨rfl, hb1⟩
      have hbw : Below w.heap.size w w1 := below_trans (below_new w _) hb1
      have k1 := h1.keep hbw
      have hrow0 := (rowV_empty w 3).keep hb1
      go_wp2_with fail
      refine (isPoint _ c _ _ k1).mono ?_
      rw [HP.out]
      rintro e w3 ⟨rfl, rfl⟩
      rw [show ([] : List Value) = ivs (nbL c s) by rw [HF.out]; rfl] at hrow0
      obtain ⟨g, hg, hown⟩ := hrow0.own
      go_wp2_with fail
      go_ret
      exact ⟨_, g, rfl, hg, hown, hbw⟩
    | true =>
      have hN := Lib.hid (colN_t hC hp)
      obtain ⟨ns, rfl, hns⟩ := pt_nat hp
      have hsq := Lib.hid (isC_sq hC ns hns)
      have HC := Lib.hid hC
      have HP := Lib.hid hp
      clear hC hp
      go_enter Tryz.func27, Tryz.ntmps27
      go_wp2_with fail
      refine (implIsCartan _ c hc _ (h1.keep (below_new w _))).mono ?_
      rw [HC.out]
      rintro e w1 ⟨rfl, hb1⟩
      have hbw : Below w.heap.size w w1 := below_trans (below_new w _) hb1
      have k1 := h1.keep hbw
      have hrow0 := (rowV_empty w 3).keep hb1
      go_wp2_with fail
      refine (isPoint _ c _ _ k1).mono ?_
      rw [HP.out]
      rintro e w3 ⟨rfl, rfl⟩
      go_wp2_with fail
      go_loopw [5, 20] (fun v i wr => ∃ k : Nat, k ≤ c.length ∧ i = .int .i64 k ∧ RowV wr w.heap.size 3 v (nbT c ns k).length (ivs (nbT c ns k)) ∧ Below w.heap.size w wr) (fun _ i _ => c.length - (intOf i).toNat)
      case atStart => exact ⟨0, by omega, rfl, hrow0, hbw⟩
      case round =>
        obtain ⟨k, hk, rfl, hrow, hbel⟩ := hrel
        by_cases hlt' : k < c.length
        · obtain ⟨gi, oi, ci, x, y1, y2, hx⟩ := II.at H1.out hns (show k < c[ns].length by rw [hsq.out]; exact hlt')
          have HX := Lib.hid hx
          clear hx
          have hk0 : (0 : Int) ≤ (k : Int) := by omega
          have hk1 : (ns : Int) < (c.length : Int) := by omega
          have hk2 : (0 : Int) ≤ (ns : Int) := by omega
          have hk3 : (k : Int) < (c[ns].length : Int) := by rw [hsq.out]; omega
          have hlen := nbT_len c ns k
          cases d1 : ((k : Int) != (ns : Int)) with
          | false =>
            have HT := Lib.hid (nbT_out1 c ns k d1)
            have x1 := cells_keep hbel y1
            have x2 := cells_keep hbel y2
            clear y1 y2
            go_wp2_with fail
            go_roundw
            case rel => exact ⟨k + 1, by omega, by go_num, hrow.cast rfl (by rw [HT.out]) (by rw [HT.out]), hbel⟩
            case measure => simp [intOf]; omega
          | true =>
            cases d2 : (x != 0) with
            | false =>
              have HT := Lib.hid (nbT_out2 c ns k x HX.out d2)
              have x1 := cells_keep hbel y1
              have x2 := cells_keep hbel y2
              clear y1 y2
              go_wp2_with fail
              go_roundw
              case rel => exact ⟨k + 1, by omega, by go_num, hrow.cast rfl (by rw [HT.out]) (by rw [HT.out]), hbel⟩
              case measure => simp [intOf]; omega
            | true =>
              have HT := Lib.hid (nb_snoc c ns k (nbT_in c ns k x HX.out d1 d2))
              have x1 := cells_keep hbel y1
              have x2 := cells_keep hbel y2
              clear y1 y2
              go_wp2_with (at_builtin; refine wpList_pushV elemInt _ rfl _ _ rfl w.heap.size u5 (nbT c ns k).length _ rfl (hrow.alloc _) (.int .i64 k) wr.heap.size rfl (cell_new1 _ _ _) rfl (by omega) (by have := hbel.size; simp; omega) ?_; intro gg cap w2 hrow1 hgrow hb2)
              go_roundw
              case rel => exact ⟨k + 1, by omega, by go_num, hrow1.cast rfl HT.out.2 HT.out.1, (hbel.alloc hbel.size _).trans hb2⟩
              case measure => simp [intOf]; omega
        · obtain rfl : k = c.length := by omega
          have hfin : nbT c ns c.length = nbL c ns := by rw [nbL, hN.out]
          rw [hfin] at hrow
          obtain ⟨g, hg, hown⟩ := hrow.own
          clear hfin
          go_wp2_with fail
          go_ret
          exact ⟨_, g, rfl, hg, hown, hbel⟩
end Go.Proofs.YtaikjkcbgniplaaGreatDoor
