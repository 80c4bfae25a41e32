/- HasCycle of the program and of the reference: what they answer, for at most 2^38 rows. -/
import Derived.Test.YtaikjkcbgniplaaGreatDoorParts
namespace Go.Proofs.YtaikjkcbgniplaaGreatDoor
open Go.RowKit
set_option linter.unusedVariables false

/-- The ends of bonds at the first k points; the bonds. -/
def endsQ (nb : Int → List Int) : Nat → Nat
  | 0 => 0
  | k + 1 => endsQ nb k + (nb (k : Int)).length
def edgJ (c : List (List Int)) (i m : Nat) : Nat := ((List.range m).filter (fun j => ent c i j != 0)).length
def edgI (c : List (List Int)) : Nat → Nat
  | 0 => 0
  | i + 1 => edgI c i + edgJ c i i
def edgQJ (q i m : Nat) : Nat := ((List.range m).filter (adjQ q i)).length
def edgQ (q : Nat) : Nat → Nat
  | 0 => 0
  | i + 1 => edgQ q i + edgQJ q i i
theorem edgJ_code {c : List (List Int)} (h : isC c = true) (i : Nat) (hi : i < c.length) : edgJ c i i = edgQJ (codeC c) i i := by
  unfold edgJ edgQJ
  congr 1
  apply List.filter_congr
  intro j hj
  have hj' := List.mem_range.1 hj
  rw [adj_ok h i j hi (by omega), nbP]
  have : ((j : Int) != (i : Int)) = true := by rw [bne_iff_ne]; omega
  rw [this, Bool.true_and]
theorem edg_code {c : List (List Int)} (h : isC c = true) : ∀ i, i ≤ c.length → edgI c i = edgQ (codeC c) i
  | 0, _ => rfl
  | i + 1, hi => by rw [edgI, edgQ, edg_code h i (by omega), edgJ_code h i (by omega)]
def cycOk (n q : Nat) : Bool := decide ((n : Int) - ((partsS n (nbQ n q) n).length : Int) < ((endsQ (nbQ n q) n : Nat) : Int) / 2) == decide ((n : Int) - ((partsS n (nbQ n q) n).length : Int) < ((edgQ q n : Nat) : Int))
theorem cyc_all : ∀ n : Nat, n < 5 → ∀ q : Nat, q < 64 → cycOk n q = true := by decide +kernel
def cycB (c : List (List Int)) : Bool := isC c && decide ((c.length : Int) - ((partsL c).length : Int) < ((edgI c c.length : Nat) : Int))
theorem cyc_t {c : List (List Int)} (h : isC c = true) : cycB c = decide ((c.length : Int) - ((partsL c).length : Int) < ((edgI c c.length : Nat) : Int)) := by simp [cycB, h]
theorem cyc_i {c : List (List Int)} (h : isC c = true) : cycB c = decide ((c.length : Int) - ((partsL c).length : Int) < ((endsQ (nbL c) c.length : Nat) : Int) / 2) := by
  have h4 := ((isC_iff c).1 h).2.1
  have := cyc_all c.length (by omega) (codeC c) (code_lt c)
  rw [cycOk, beq_iff_eq] at this
  rw [cyc_t h, partsL_S h, nb_code h, edg_code h _ (Nat.le_refl _)]
  exact this.symm
theorem endsQ_le (c : List (List Int)) : ∀ k, endsQ (nbL c) k ≤ k * c.length
  | 0 => by simp [endsQ]
  | k + 1 => by
    have h := endsQ_le c k
    have h2 := nbT_len c (k : Int) (colN c (k : Int))
    have h3 := colN_le c (k : Int)
    have h4 : (nbL c (k : Int)).length ≤ c.length := by unfold nbL; omega
    rw [endsQ, Nat.succ_mul]
    omega
theorem edgJ_le (c : List (List Int)) (i m : Nat) : edgJ c i m ≤ m := by
  have := List.length_filter_le (fun j => ent c i j != 0) (List.range m)
  simpa [edgJ] using this
theorem edgI_le (c : List (List Int)) : ∀ i, edgI c i ≤ i * i
  | 0 => by simp [edgI]
  | i + 1 => by
    have h := edgI_le c i
    have h2 := edgJ_le c i i
    rw [edgI]
    have : (i + 1) * (i + 1) = i * i + 2 * i + 1 := by rw [Nat.add_mul, Nat.mul_add]; omega
    omega
theorem edgJ_in {c : List (List Int)} {i m : Nat} {x : Int} (hx : ent c i m = x) (h : (x != 0) = true) : edgJ c i (m + 1) = edgJ c i m + 1 := by
  subst hx; rw [edgJ, edgJ, List.range_succ, List.filter_append, List.filter_cons, h]; simp
theorem edgJ_out {c : List (List Int)} {i m : Nat} {x : Int} (hx : ent c i m = x) (h : (x != 0) = false) : edgJ c i (m + 1) = edgJ c i m := by
  subst hx; rw [edgJ, edgJ, List.range_succ, List.filter_append, List.filter_cons, h]; simp
set_option maxHeartbeats 2000000 in
theorem implHasCycle (v1 : Value) (c : List (List Int)) (hc : c.length ≤ 274877906944) (w : World) (h1 : II w v1 c) :
    Calls Tryz.prog 32 #[v1] w fun e w' => e = .returned (.bool (cycB c)) ∧ Below w.heap.size w w' := by
  obtain ⟨g1, o1, c1, hv1, _, _, _⟩ := h1.form
  subst hv1
  cases hC : isC c with
  | false =>
    have HF := Lib.hid (show cycB c = false by simp [cycB, hC])
    have HC := Lib.hid hC
    clear hC
    go_enter Tryz.func32, Tryz.ntmps32
    go_wp2_with fail
    refine (implIsCartan _ c (by omega) _ h1).mono ?_
    rw [HC.out]
    rintro e w1 ⟨rfl, hb1⟩
    go_wp2_with fail
    go_ret
    exact ⟨ret_bool HF.out.symm, hb1⟩
  | true =>
    have HF := Lib.hid (cyc_i hC)
    have hn4 : c.length ≤ 4 := ((isC_iff c).1 hC).2.1
    have HC := Lib.hid hC
    clear hC
    go_enter Tryz.func32, Tryz.ntmps32
    go_wp2_with fail
    refine (implIsCartan _ c (by omega) _ h1).mono ?_
    rw [HC.out]
    rintro e w1 ⟨rfl, hb1⟩
    go_wp2_with fail
    go_loopw [3, 10] (fun s i wr => ∃ k : Nat, k ≤ c.length ∧ i = .int .i64 k ∧ s = .int .i64 (endsQ (nbL c) k : Nat) ∧ Below w.heap.size w wr) (fun _ i _ => c.length - (intOf i).toNat)
    case atStart => exact ⟨0, by omega, rfl, rfl, hb1⟩
    case round =>
      clear hb1
      obtain ⟨k, hk, rfl, rfl, hbel⟩ := hrel
      by_cases hlt' : k < c.length
      · have HS := Lib.hid (show endsQ (nbL c) (k + 1) = endsQ (nbL c) k + (nbL c (k : Int)).length from rfl)
        have hE := endsQ_le c k
        have hE2 : endsQ (nbL c) k ≤ 16 := Nat.le_trans hE (Nat.le_trans (Nat.mul_le_mul hk (Nat.le_refl _)) (Nat.mul_le_mul hn4 hn4))
        have hL4 : (nbL c (k : Int)).length ≤ 4 := by have := nbT_len c (k : Int) (colN c (k : Int)); have := colN_le c (k : Int); unfold nbL; omega
        obtain ⟨E, hEE⟩ : ∃ E, endsQ (nbL c) k = E := ⟨_, rfl⟩
        obtain ⟨L, hL⟩ : ∃ L, nbL c (k : Int) = L := ⟨_, rfl⟩
        have HL := Lib.hid hL
        rw [hEE] at HS hE2
        rw [hL] at HS hL4
        rw [hEE]
        clear hE hEE hL
        have k1 := h1.keep hbel
        go_wp2_with fail
        refine (implNeighboursOf _ c (k : Int) (by omega) _ k1).mono ?_
        rw [HL.out]
        rintro e w2 ⟨v2, g2, rfl, hg2, hown2, hb2⟩
        obtain ⟨cap2, hv2, _, _⟩ := hown2.form
        subst hv2
        go_wp2_with fail
        go_roundw
        case rel => exact ⟨k + 1, by omega, by go_num, by rw [HS.out]; go_num, below_trans hbel hb2⟩
        case measure => simp [intOf]; omega
      · obtain rfl : k = c.length := by omega
        have hE := endsQ_le c c.length
        have hE2 : endsQ (nbL c) c.length ≤ 16 := Nat.le_trans hE (Nat.mul_le_mul hn4 hn4)
        obtain ⟨E, hEE⟩ : ∃ E, endsQ (nbL c) c.length = E := ⟨_, rfl⟩
        rw [hEE] at HF hE2
        rw [hEE]
        clear hE hEE
        have k1 := h1.keep hbel
        have hp := parts_total c
        have hp2 : (partsL c).length ≤ 32 := by unfold total at hp; omega
        have hE0 : (0 : Int) ≤ (E : Int) := by omega
        clear hp
        go_wp2_with fail
        refine (implPartsOf _ c hc _ k1).mono ?_
        rintro e w2 ⟨v2, rfl, hO, hb2⟩
        obtain ⟨g, o, cap, hv, _, _, _⟩ := hO.read.form
        subst hv
        go_wp2_with fail
        go_ret
        exact ⟨ret_bool HF.out.symm, below_trans hbel hb2⟩
set_option maxHeartbeats 2000000 in
theorem specHasCycle (v1 : Value) (c : List (List Int)) (hc : c.length ≤ 274877906944) (w : World) (h1 : II w v1 c) :
    Calls Tryz.prog 33 #[v1] w fun e w' => e = .returned (.bool (cycB c)) ∧ Below w.heap.size w w' := by
  obtain ⟨g1, o1, c1, hv1, _, _, hc1⟩ := h1.form
  subst hv1
  cases hC : isC c with
  | false =>
    have HF := Lib.hid (show cycB c = false by simp [cycB, hC])
    have HC := Lib.hid hC
    clear hC
    go_enter Tryz.func33, Tryz.ntmps33
    go_wp2_with fail
    go_loopw [3, 4] (fun s i wr => i = .int .i64 0 ∧ s = .int .i64 0 ∧ Below w.heap.size w wr) (fun _ _ _ => 0)
    case atStart => exact ⟨rfl, rfl, Below.refl _ _⟩
    case round =>
      obtain ⟨rfl, rfl, hbel⟩ := hrel
      by_cases hlt0 : 0 < c.length
      · have hlt1 : (0 : Int) < (c.length : Int) := by omega
        have hlt2 : decide ((0 : Int) < (c.length : Int)) = true := by rw [decide_eq_true_iff]; exact hlt1
        go_wp2_with fail
        refine (specIsCartan _ c (by omega) _ (h1.keep hbel)).mono ?_
        rw [HC.out]
        rintro e w1 ⟨rfl, hb1⟩
        have hbel1 := below_trans hbel hb1
        go_wp2_with fail
        refine (specIsCartan _ c (by omega) _ (h1.keep hbel1)).mono ?_
        rw [HC.out]
        rintro e w2 ⟨rfl, hb2⟩
        go_wp2_with fail
        go_ret
        exact ⟨ret_bool HF.out.symm, below_trans hbel1 hb2⟩
      · have hlt1 : decide ((0 : Int) < (c.length : Int)) = false := by rw [decide_eq_false_iff_not]; omega
        have hlt3 : c.length = 0 := by omega
        have H3 := Lib.hid hlt3
        clear hlt3
        go_wp2_with fail
        refine (specIsCartan _ c (by omega) _ (h1.keep hbel)).mono ?_
        rw [HC.out]
        rintro e w1 ⟨rfl, hb1⟩
        go_wp2_with fail
        go_ret
        exact ⟨ret_bool HF.out.symm, below_trans hbel hb1⟩
  | true =>
    have HF := Lib.hid (cyc_t hC)
    have hn4 : c.length ≤ 4 := ((isC_iff c).1 hC).2.1
    have HC := Lib.hid hC
    have H1 := Lib.hid hc1
    clear hC hc1
    go_enter Tryz.func33, Tryz.ntmps33
    go_wp2_with fail
    go_loopw [3, 4] (fun s i wr => ∃ k : Nat, k ≤ c.length ∧ i = .int .i64 k ∧ s = .int .i64 (edgI c k : Nat) ∧ Below w.heap.size w wr) (fun _ i _ => c.length - (intOf i).toNat)
    case atStart => exact ⟨0, by omega, rfl, rfl, Below.refl _ _⟩
    case round =>
      obtain ⟨k, hk, rfl, rfl, hbel⟩ := hrel
      have hE := edgI_le c k
      have hE2 : edgI c k ≤ 16 := Nat.le_trans hE (Nat.le_trans (Nat.mul_le_mul hk hk) (Nat.mul_le_mul hn4 hn4))
      by_cases hlt' : k < c.length
      · have HS := Lib.hid (show edgI c (k + 1) = edgI c k + edgJ c k k from rfl)
        obtain ⟨E, hEE⟩ : ∃ E, edgI c k = E := ⟨_, rfl⟩
        rw [hEE] at HS hE2
        rw [hEE]
        clear hE hEE
        have hsq := Lib.hid (isC_sq HC.out k hlt')
        go_wp2_with fail
        refine (specIsCartan _ c (by omega) _ (h1.keep hbel)).mono ?_
        rw [HC.out]
        rintro e w1 ⟨rfl, hb1⟩
        replace hbel := below_trans hbel hb1
        clear hb1
        go_wp2_with fail
        go_loopw [3, 5] (fun s j wr => ∃ m : Nat, m ≤ k ∧ j = .int .i64 m ∧ s = .int .i64 (E + edgJ c k m : Nat) ∧ wr = w1) (fun _ j _ => k - (intOf j).toNat)
        case atStart => exact ⟨0, by omega, rfl, by simp [edgJ], rfl⟩
        case round =>
          obtain ⟨m, hm, rfl, rfl, rfl⟩ := hrel
          have hJ := edgJ_le c k m
          by_cases hlm : m < k
          · obtain ⟨gi, oi, ci, x, y1, y2, hx⟩ := II.at H1.out hlt' (show m < c[k].length by rw [hsq.out]; omega)
            have x1 := cells_keep hbel y1
            have x2 := cells_keep hbel y2
            have hk0 : (0 : Int) ≤ (m : Int) := by omega
            have hk1 : (m : Int) < (c[k].length : Int) := by rw [hsq.out]; omega
            have hk2 : (0 : Int) ≤ (k : Int) := by omega
            have hk3 : (k : Int) < (c.length : Int) := by omega
            cases dx : (x != 0) with
            | true =>
              have HJ := Lib.hid (edgJ_in hx dx)
              obtain ⟨J, hJJ⟩ : ∃ J, edgJ c k m = J := ⟨_, rfl⟩
              rw [hJJ] at HJ hJ
              rw [hJJ]
              clear hx hJJ y1 y2
              go_wp2_with fail
              go_roundw
              case rel => exact ⟨m + 1, by omega, by go_num, by rw [HJ.out]; go_num, by first | rfl | trivial⟩
              case measure => simp [intOf]; omega
            | false =>
              have HJ := Lib.hid (edgJ_out hx dx)
              obtain ⟨J, hJJ⟩ : ∃ J, edgJ c k m = J := ⟨_, rfl⟩
              rw [hJJ] at HJ hJ
              rw [hJJ]
              clear hx hJJ y1 y2
              go_wp2_with fail
              go_roundw
              case rel => exact ⟨m + 1, by omega, by go_num, by rw [HJ.out], by first | rfl | trivial⟩
              case measure => simp [intOf]; omega
          · obtain rfl : m = k := by omega
            obtain ⟨F, hFF⟩ : ∃ F, E + edgJ c m m = F := ⟨_, rfl⟩
            rw [hFF] at HS
            rw [hFF]
            clear hFF hJ
            go_wp2_with fail
            go_roundw
            case rel => exact ⟨m + 1, by omega, by go_num, by rw [HS.out], hbel⟩
            case measure => simp [intOf]; omega
      · obtain rfl : k = c.length := by omega
        obtain ⟨E, hEE⟩ : ∃ E, edgI c c.length = E := ⟨_, rfl⟩
        rw [hEE] at HF hE2
        rw [hEE]
        clear hE hEE
        have hp := parts_total c
        have hp2 : (partsL c).length ≤ 32 := by unfold total at hp; omega
        clear hp
        go_wp2_with fail
        refine (specIsCartan _ c (by omega) _ (h1.keep hbel)).mono ?_
        rw [HC.out]
        rintro e w1 ⟨rfl, hb1⟩
        replace hbel := below_trans hbel hb1
        clear hb1
        go_wp2_with fail
        refine (specPartsOf _ c hc _ (h1.keep hbel)).mono ?_
        rintro e w2 ⟨v2, rfl, hO, hb2⟩
        obtain ⟨g, o, cap, hv, _, _, _⟩ := hO.read.form
        subst hv
        go_wp2_with fail
        go_ret
        exact ⟨ret_bool HF.out.symm, below_trans hbel hb2⟩
end Go.Proofs.YtaikjkcbgniplaaGreatDoor
