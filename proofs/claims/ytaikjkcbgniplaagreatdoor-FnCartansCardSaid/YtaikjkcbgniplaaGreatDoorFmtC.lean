/- FormatCartan of the program (strings.Join) and of the reference: rows of decimal numerals, for at most 2^20 numbers. -/
import Derived.Test.YtaikjkcbgniplaaGreatDoorFmtWt
import Derived.Test.YtaikjkcbgniplaaGreatDoorBond
namespace Go.Proofs.YtaikjkcbgniplaaGreatDoor
open Go.RowKit
set_option linter.unusedVariables false

def rowsT (c : List (List Int)) : List (List UInt8) := c.map (joinN 44)
def fmtS (c : List (List Int)) : List UInt8 := Lib.join (rowsT c) [59]
def fmtC (c : List (List Int)) : List UInt8 := if isC c then fmtS c else []
theorem small_wf (x : Int) (h1 : -3 ≤ x) (h2 : x ≤ 2) : (Lit.int .i64 x).wf = true := WalkArith.wf_i64 (by omega)
theorem isC_wf {c : List (List Int)} (h : isC c = true) (k : Nat) (hk : k < c.length) : Wf c[k] := by
  intro x hx
  obtain ⟨j, hj, rfl⟩ := List.mem_iff_getElem.1 hx
  have hj' : j < c.length := by rw [isC_sq h k hk] at hj; exact hj
  have h2 := ((isC_iff c).1 h).2.2.2 k hk j hj'
  rw [OkE, ent_get c k j hk hj] at h2
  split at h2
  · exact small_wf _ (by omega) (by omega)
  · exact small_wf _ (by omega) (by omega)
theorem rowsT_len {c : List (List Int)} (h : isC c = true) : ∀ x ∈ rowsT c, x.length ≤ 88 := by
  intro x hx
  rw [rowsT, List.mem_map] at hx
  obtain ⟨r, hr, rfl⟩ := hx
  obtain ⟨k, hk, rfl⟩ := List.mem_iff_getElem.1 hr
  have := joinN_len 44 (isC_wf h k hk)
  have h4 := ((isC_iff c).1 h).2.1
  rw [isC_sq h k hk] at this
  omega
theorem fmtS_len {c : List (List Int)} (h : isC c = true) : (fmtS c).length ≤ 356 := by
  have := join_len (rowsT c) 59 88 (rowsT_len h)
  have h4 := ((isC_iff c).1 h).2.1
  have hl : (rowsT c).length = c.length := by simp [rowsT]
  rw [hl] at this
  exact Nat.le_trans this (Nat.mul_le_mul (Nat.le_refl 89) h4)
theorem fmtC_len (c : List (List Int)) : (fmtC c).length ≤ 356 := by
  unfold fmtC
  split
  · next h => exact fmtS_len h
  · simp
/-- What the reference has written ahead of row k. -/
def preC (c : List (List Int)) (k : Nat) : List UInt8 := if k = 0 then [] else Lib.join (rowsT (c.take k)) [59] ++ [59]
theorem pre_row (c : List (List Int)) (k : Nat) (h : k < c.length) : preC c k ++ joinN 44 c[k] = Lib.join (rowsT (c.take (k + 1))) [59] := by
  rw [List.take_succ_eq_append_getElem h, rowsT, List.map_append, List.map_singleton]
  unfold preC
  split
  · next e => subst e; simp [Lib.join_one]
  · next e =>
    rw [join_snoc _ _ _ (by intro e2; have h2 : ((c.take k).map (joinN 44)).length = k := by { rw [List.length_map, List.length_take]; omega }; rw [e2] at h2; simp at h2; omega)]
    simp [rowsT]
set_option maxHeartbeats 1000000 in
theorem implFormatCartan (v1 : Value) (c : List (List Int)) (hc : c.length ≤ 274877906944) (w : World) (h1 : II w v1 c) (ht : Lib.TabIs Tryz.prog w "internal/strconv.uint64pow10" .u64 Lib.pow10Tab) :
    Calls Tryz.prog 53 #[v1] w fun e w' => e = .returned (.string ⟨(fmtC c).toArray⟩) ∧ Below w.heap.size w w' := by
  obtain ⟨g1, o1, c1, hv1, _, _, hc1⟩ := h1.form
  subst hv1
  have HT := Lib.hid ht
  clear ht
  cases hC : isC c with
  | false =>
    have HF := Lib.hid (show fmtC c = [] by simp [fmtC, hC])
    have HC := Lib.hid hC
    clear hC
    go_enter Tryz.func53, Tryz.ntmps53
    go_wp2_with fail
    refine (implIsCartan _ c (by omega) _ h1).mono ?_
    rw [HC.out]
    rintro e w1 ⟨rfl, hb1⟩
    go_wp2_with fail
    go_ret
    exact ⟨by rw [HF.out]; rfl, hb1⟩
  | true =>
    have HF := Lib.hid (show fmtC c = fmtS c by simp [fmtC, hC])
    have hn4 : c.length ≤ 4 := ((isC_iff c).1 hC).2.1
    have HL := Lib.hid (fmtS_len hC)
    have HW := Lib.hid (fun k hk => isC_wf hC k hk)
    have HSQ := Lib.hid (fun k hk => isC_sq hC k hk)
    have H1 := Lib.hid hc1
    have HC := Lib.hid hC
    clear hC hc1
    go_enter Tryz.func53, Tryz.ntmps53
    go_wp2_with fail
    refine (implIsCartan _ c (by omega) _ h1).mono ?_
    rw [HC.out]
    rintro e w1 ⟨rfl, hb1⟩
    have hsz := hb1.size
    go_wp2_with fail
    go_loopw [3, 12] (fun v i wr => ∃ k : Nat, k ≤ c.length ∧ i = .int .i64 k ∧ RowV wr w.heap.size 9 v k (strs (rowsT (c.take k))) ∧ Below w.heap.size w wr) (fun _ i _ => c.length - (intOf i).toNat)
    case atStart => exact ⟨0, by omega, rfl, by
      obtain ⟨g, hg, h⟩ := (rowV_empty w1 9).own
      exact (h.rowV (by omega)).cast rfl rfl rfl, hb1.alloc hsz _⟩
    case round =>
      clear hb1 hsz
      obtain ⟨k, hk, rfl, hrow, hbel⟩ := hrel
      by_cases hlt' : k < c.length
      · obtain ⟨r, y1, j1⟩ := H1.out k hlt'
        have x1 := cells_keep hbel y1
        have j2 := j1.keep hbel
        have HWk := Lib.hid (HW.out k hlt')
        have hl4 : c[k].length ≤ 2097152 := by rw [HSQ.out k hlt']; omega
        have HS := Lib.hid (show strs (rowsT (c.take (k + 1))) = strs (rowsT (c.take k)) ++ [.string ⟨(joinN 44 c[k]).toArray⟩] by
          rw [List.take_succ_eq_append_getElem hlt', rowsT, List.map_append, strs, List.map_append]; rfl)
        obtain ⟨z, hz⟩ : ∃ z, c[k] = z := ⟨_, rfl⟩
        rw [hz] at HWk hl4 HS j2
        clear hz j1 y1
        obtain ⟨gr, or, cr, hr, _, _, _⟩ := j2.form
        subst hr
        have HTk := Lib.hid (tab_keep HT.out hbel)
        have hk0 : (0 : Int) ≤ (k : Int) := by omega
        have hk1 : (k : Int) < (c.length : Int) := by omega
        go_wp2_with fail
        refine (implJoinInts _ z 44 hl4 HWk.out _ j2 HTk.out).mono ?_
        rintro e w2 ⟨rfl, hb2⟩
        have hbel2 := below_trans hbel hb2
        have hrow2 := hrow.keep hb2
        have hs := hbel2.size
        clear hrow hb2
        go_wp2_with (at_builtin; refine wpList_pushV elemStr _ rfl _ _ rfl w.heap.size u3 k _ rfl (hrow2.alloc _) (.string ⟨(joinN 44 z).toArray⟩) w2.heap.size rfl (cell_new1 _ _ _) rfl (by omega) (by simp; omega) ?_; intro gA capA wA hrowA hgrowA hbA)
        go_roundw
        case rel => exact ⟨k + 1, by omega, by go_num, by rw [HS.out]; exact hrowA, (hbel2.alloc hbel2.size _).trans hbA⟩
        case measure => simp [intOf]; omega
      · obtain rfl : k = c.length := by omega
        rw [List.take_length] at hrow
        obtain ⟨g, hg, hown⟩ := hrow.own
        have HJ := Lib.hid (joinOwn (rowsT c) ⟨#[59]⟩ hown (by simp [rowsT]; omega) (show (fmtS c).length ≤ _ by have := HL.out; omega))
        clear hown hrow
        go_wp2_with fail
        refine HJ.out.mono ?_
        rintro e w2 ⟨rfl, hb2⟩
        go_wp2_with fail
        go_ret
        exact ⟨by rw [HF.out]; rfl, below_trans hbel hb2⟩
set_option maxHeartbeats 2000000 in
theorem specFormatCartan (v1 : Value) (c : List (List Int)) (hc : c.length ≤ 274877906944) (w : World) (h1 : II w v1 c) :
    Calls Tryz.prog 55 #[v1] w fun e w' => e = .returned (.string ⟨(fmtC c).toArray⟩) ∧ Below w.heap.size w w' := by
  obtain ⟨g1, o1, c1, hv1, _, _, hc1⟩ := h1.form
  subst hv1
  cases hC : isC c with
  | false =>
    have HF := Lib.hid (show fmtC c = [] by simp [fmtC, hC])
    have HC := Lib.hid hC
    clear hC
    go_enter Tryz.func55, Tryz.ntmps55
    go_wp2_with fail
    refine (specIsCartan _ c (by omega) _ h1).mono ?_
    rw [HC.out]
    rintro e w1 ⟨rfl, hb1⟩
    go_wp2_with fail
    go_ret
    exact ⟨by rw [HF.out]; rfl, hb1⟩
  | true =>
    have HF := Lib.hid (show fmtC c = fmtS c by simp [fmtC, hC])
    have hn4 : c.length ≤ 4 := ((isC_iff c).1 hC).2.1
    have HW := Lib.hid (fun k hk => isC_wf hC k hk)
    have HSQ := Lib.hid (fun k hk => isC_sq hC k hk)
    have H1 := Lib.hid hc1
    have HC := Lib.hid hC
    clear hC hc1
    go_enter Tryz.func55, Tryz.ntmps55
    go_wp2_with fail
    refine (specIsCartan _ c (by omega) _ h1).mono ?_
    rw [HC.out]
    rintro e w1 ⟨rfl, hb1⟩
    go_wp2_with fail
    go_loopw [3, 4] (fun s i wr => ∃ (k : Nat) (l : List UInt8), k ≤ c.length ∧ i = .int .i64 k ∧ s = .string ⟨l.toArray⟩ ∧ l.length ≤ 89 * k ∧ Hid (l = Lib.join (rowsT (c.take k)) [59]) ∧ Below w.heap.size w wr) (fun _ i _ => c.length - (intOf i).toNat)
    case atStart => exact ⟨0, [], by omega, rfl, rfl, by simp, rfl, hb1⟩
    case round =>
      clear hb1
      obtain ⟨k, l, hk, rfl, rfl, hll, HL, hbel⟩ := hrel
      by_cases hlt' : k < c.length
      · obtain ⟨wo, rfl⟩ : ∃ wo : World, wo = wr := ⟨_, rfl⟩
        have HWk := Lib.hid (HW.out k hlt')
        have hrl : c[k].length = c.length := HSQ.out k hlt'
        have HPR := Lib.hid (pre_row c k hlt')
        obtain ⟨p, hp⟩ : ∃ p, preC c k = p := ⟨_, rfl⟩
        have hpl : p.length ≤ 89 * k + 1 := by
          rw [← hp]; unfold preC
          split
          · simp
          · have e : l = Lib.join (rowsT (c.take k)) [59] := HL.out
            rw [← e]; simp; omega
        have HP0 := Lib.hid (show k = 0 → l = p from fun h => by subst h; rw [← hp]; exact HL.out)
        have HP1 := Lib.hid (show ¬ k = 0 → l ++ [59] = p from fun h => by rw [← hp, preC, if_neg h]; have e : l = _ := HL.out; rw [← e])
        rw [hp] at HPR
        obtain ⟨g2, o2, c2, x2, ya, hk2⟩ : ∃ g2 o2 c2, w.cell? ⟨g1, o1 + k, none⟩ = some (.slice (some ⟨g2, o2, none⟩) c.length c2) ∧ (∀ j (hj : j < c[k].length), w.cell? ⟨g2, o2 + j, none⟩ = some (.int .i64 c[k][j])) ∧ True := by
          obtain ⟨r, y1, j1⟩ := H1.out k hlt'
          obtain ⟨gr, or, cr, hr, _, _, hcr⟩ := j1.form
          subst hr
          rw [hrl] at y1
          exact ⟨gr, or, cr, y1, hcr, trivial⟩
        have HY := Lib.hid x2
        have HYA := Lib.hid ya
        clear hp x2 ya hk2 HL
        have hk0 : (0 : Int) ≤ (k : Int) := by omega
        have hk1 : (k : Int) < (c.length : Int) := by omega
        by_cases h0 : k = 0
        · have e := HP0.out h0
          subst e
          have d0 : decide (0 < k) = false := by rw [decide_eq_false_iff_not]; omega
          have HK0 := Lib.hid h0
          clear h0 HP1
          go_wp2_with fail
          go_loopw [3, 5] (fun s i wr => ∃ (j : Nat) (l2 : List UInt8), j ≤ c.length ∧ i = .int .i64 j ∧ s = .string ⟨l2.toArray⟩ ∧ l2.length ≤ 89 * k + 1 + 22 * j ∧ Hid (l2 = l ++ joinN 44 (c[k].take j)) ∧ Below w.heap.size w wr) (fun _ i _ => c.length - (intOf i).toNat)
          case atStart => exact ⟨0, l, by omega, rfl, rfl, by omega, by simp [Hid, joinN, nums, Lib.join_nil], hbel⟩
          case round =>
            clear hbel
            obtain ⟨j, l2, hj, rfl, rfl, hl2, HL2, hbel⟩ := hrel
            by_cases hlj : j < c.length
            · have hjr : j < c[k].length := by rw [hrl]; exact hlj
              have x1 := cells_keep hbel HY.out
              have x3 := cells_keep hbel (HYA.out j hjr)
              have HWj := Lib.hid (HWk.out c[k][j] (List.getElem_mem hjr))
              obtain ⟨x, hx⟩ : ∃ x, c[k][j] = x := ⟨_, rfl⟩
              rw [hx] at x3 HWj
              have hb := bounds_i64 HWj.out
              have hil := Lib.itoa_length_le x hb.1 hb.2
              have hj0 : (0 : Int) ≤ (j : Int) := by omega
              have hj1 : (j : Int) < (c.length : Int) := by omega
              by_cases h00 : j = 0
              · have HS := Lib.hid (show l2 ++ Lib.itoa x = l ++ joinN 44 (c[k].take 1) by
                  subst h00
                  have e : l2 = l ++ joinN 44 (c[k].take 0) := HL2.out
                  rw [joinN_first 44 c[k] x hjr hx, e]; simp [joinN, nums, Lib.join_nil])
                subst h00
                rw [Nat.add_zero] at x3
                clear hx HL2 hb hjr
                go_wp2_with fail
                refine (specFormatInt x HWj.out _).mono ?_
                rintro e w2 ⟨rfl, hb2⟩
                go_wp2_with fail
                go_roundw
                case rel => exact ⟨1, l2 ++ Lib.itoa x, by omega, by go_num, by rw [bytes_append], by rw [List.length_append]; omega, HS, below_trans hbel hb2⟩
                case measure => simp [intOf]; omega
              · have HS := Lib.hid (show l2 ++ [44] ++ Lib.itoa x = l ++ joinN 44 (c[k].take (j + 1)) by
                  have e : l2 = l ++ joinN 44 (c[k].take j) := HL2.out
                  rw [joinN_snoc 44 c[k] j x hjr hx (by omega), e]; simp)
                have d00 : 0 < j := by omega
                clear hx HL2 h00 hb hjr
                go_wp2_with fail
                refine (specFormatInt x HWj.out _).mono ?_
                rintro e w2 ⟨rfl, hb2⟩
                go_wp2_with fail
                go_roundw
                case rel => exact ⟨j + 1, l2 ++ [44] ++ Lib.itoa x, by omega, by go_num, by rw [← bytes_append, ← bytes_append], by simp only [List.length_append, List.length_cons, List.length_nil]; omega, HS, below_trans hbel hb2⟩
                case measure => simp [intOf]; omega
            · obtain rfl : j = c.length := by omega
              have e : l2 = Lib.join (rowsT (c.take (k + 1))) [59] := by
                have h := HL2.out
                rw [List.take_of_length_le (by omega)] at h
                rw [h, HPR.out]
              have HE := Lib.hid e
              clear e HL2
              go_wp2_with fail
              go_roundw
              case rel => exact ⟨k + 1, l2, by omega, by go_num, rfl, by omega, HE, hbel⟩
              case measure => simp [intOf]; omega
        · have e := HP1.out h0
          have d0 : 0 < k := by omega
          have ATS := Lib.hid (show Value.string (⟨l.toArray⟩ ++ ⟨#[59]⟩) = Value.string ⟨p.toArray⟩ by rw [← e, ← bytes_append])
          clear h0 HP0 HP1 e
          go_wp2_with fail
          go_loopw [3, 5] (fun s i wr => ∃ (j : Nat) (l2 : List UInt8), j ≤ c.length ∧ i = .int .i64 j ∧ s = .string ⟨l2.toArray⟩ ∧ l2.length ≤ 89 * k + 1 + 22 * j ∧ Hid (l2 = p ++ joinN 44 (c[k].take j)) ∧ Below w.heap.size w wr) (fun _ i _ => c.length - (intOf i).toNat)
          case atStart => exact ⟨0, p, by omega, rfl, ATS.out, by omega, by simp [Hid, joinN, nums, Lib.join_nil], hbel⟩
          case round =>
            clear hbel
            obtain ⟨j, l2, hj, rfl, rfl, hl2, HL2, hbel⟩ := hrel
            by_cases hlj : j < c.length
            · have hjr : j < c[k].length := by rw [hrl]; exact hlj
              have x1 := cells_keep hbel HY.out
              have x3 := cells_keep hbel (HYA.out j hjr)
              have HWj := Lib.hid (HWk.out c[k][j] (List.getElem_mem hjr))
              obtain ⟨x, hx⟩ : ∃ x, c[k][j] = x := ⟨_, rfl⟩
              rw [hx] at x3 HWj
              have hb := bounds_i64 HWj.out
              have hil := Lib.itoa_length_le x hb.1 hb.2
              have hj0 : (0 : Int) ≤ (j : Int) := by omega
              have hj1 : (j : Int) < (c.length : Int) := by omega
              by_cases h00 : j = 0
              · have HS := Lib.hid (show l2 ++ Lib.itoa x = p ++ joinN 44 (c[k].take 1) by
                  subst h00
                  have e : l2 = p ++ joinN 44 (c[k].take 0) := HL2.out
                  rw [joinN_first 44 c[k] x hjr hx, e]; simp [joinN, nums, Lib.join_nil])
                subst h00
                rw [Nat.add_zero] at x3
                clear hx HL2 hb hjr
                go_wp2_with fail
                refine (specFormatInt x HWj.out _).mono ?_
                rintro e w2 ⟨rfl, hb2⟩
                go_wp2_with fail
                go_roundw
                case rel => exact ⟨1, l2 ++ Lib.itoa x, by omega, by go_num, by rw [bytes_append], by rw [List.length_append]; omega, HS, below_trans hbel hb2⟩
                case measure => simp [intOf]; omega
              · have HS := Lib.hid (show l2 ++ [44] ++ Lib.itoa x = p ++ joinN 44 (c[k].take (j + 1)) by
                  have e : l2 = p ++ joinN 44 (c[k].take j) := HL2.out
                  rw [joinN_snoc 44 c[k] j x hjr hx (by omega), e]; simp)
                have d00 : 0 < j := by omega
                clear hx HL2 h00 hb hjr
                go_wp2_with fail
                refine (specFormatInt x HWj.out _).mono ?_
                rintro e w2 ⟨rfl, hb2⟩
                go_wp2_with fail
                go_roundw
                case rel => exact ⟨j + 1, l2 ++ [44] ++ Lib.itoa x, by omega, by go_num, by rw [← bytes_append, ← bytes_append], by simp only [List.length_append, List.length_cons, List.length_nil]; omega, HS, below_trans hbel hb2⟩
                case measure => simp [intOf]; omega
            · obtain rfl : j = c.length := by omega
              have e : l2 = Lib.join (rowsT (c.take (k + 1))) [59] := by
                have h := HL2.out
                rw [List.take_of_length_le (by omega)] at h
                rw [h, HPR.out]
              have HE := Lib.hid e
              clear e HL2
              go_wp2_with fail
              go_roundw
              case rel => exact ⟨k + 1, l2, by omega, by go_num, rfl, by omega, HE, hbel⟩
              case measure => simp [intOf]; omega
      · obtain rfl : k = c.length := by omega
        have e : l = fmtS c := by have := HL.out; rwa [List.take_length] at this
        have HE := Lib.hid e
        clear e HL
        go_wp2_with fail
        go_ret
        exact ⟨by rw [HF.out, ← HE.out]; rfl, hbel⟩
end Go.Proofs.YtaikjkcbgniplaaGreatDoor
