/- ReflectWeight of the program and of the reference (and l6Reflect, reflected): what they answer, for at most 2^38 numbers. -/
import Derived.Test.YtmiliikkheggfaaBond
import Derived.RegionTactic
import Derived.BigRegion
namespace Go.Proofs.Ytmiliikkheggfaa
open Go.RowKit
set_option linter.unusedVariables false

theorem wrapE (n : Int) : IntKind.i64.wrap n = wrap64 n := by rw [IntKind.wrap_i64, wrap64]
def rfl1 (c : List (List Int)) (s : Nat) (v : List Int) (i : Nat) : Int := IntKind.i64.wrap (v.getD i 0 - IntKind.i64.wrap (v.getD s 0 * ent c i s))
def rflR (c : List (List Int)) (s : Nat) (v : List Int) : List Int := (List.range v.length).map (rfl1 c s v)
def rflK (c : List (List Int)) (s : Nat) (v : List Int) (k : Nat) : List Int := (List.range v.length).map (fun i => if i < k then rfl1 c s v i else v.getD i 0)
theorem rflR_length (c : List (List Int)) (s : Nat) (v : List Int) : (rflR c s v).length = v.length := by simp [rflR]
theorem rflK_length (c : List (List Int)) (s : Nat) (v : List Int) (k : Nat) : (rflK c s v k).length = v.length := by simp [rflK]
theorem rflK_zero (c : List (List Int)) (s : Nat) (v : List Int) : rflK c s v 0 = v := by
  apply List.ext_getElem (rflK_length c s v 0)
  intro p h1 h2
  simp [rflK, h2]
theorem rflK_end (c : List (List Int)) (s : Nat) (v : List Int) : rflK c s v v.length = rflR c s v := by
  apply List.ext_getElem (by simp [rflK, rflR])
  intro p h1 h2
  rw [rflK_length] at h1
  simp [rflK, rflR, h1]
theorem rflK_get (c : List (List Int)) (s : Nat) (v : List Int) (k : Nat) (h : k < v.length) : (rflK c s v k)[k]'(by rw [rflK_length]; exact h) = v[k] := by simp [rflK, h]
theorem rflK_set (c : List (List Int)) (s : Nat) (v : List Int) (k : Nat) (u x a : Int) (h : k < v.length) (hs : s < v.length) (hu : v[k] = u) (hx : ent c k s = x) (ha : v[s] = a) :
    (rflK c s v k).set k (IntKind.i64.wrap (u - IntKind.i64.wrap (a * x))) = rflK c s v (k + 1) := by
  subst hu hx ha
  apply List.ext_getElem (by simp [rflK])
  intro p h1 h2
  rw [rflK_length] at h2
  rw [List.getElem_set]
  by_cases e : k = p
  · subst e; simp [rflK, rfl1, h, hs]
  · rw [if_neg e]; simp only [rflK, List.getElem_map, List.getElem_range]
    by_cases q : p < k
    · rw [if_pos q, if_pos (by omega)]
    · rw [if_neg q, if_neg (by omega)]
theorem rflR_snoc (c : List (List Int)) (s : Nat) (v : List Int) (k : Nat) (u x a : Int) (h : k < v.length) (hs : s < v.length) (hu : v[k] = u) (hx : ent c k s = x) (ha : v[s] = a) :
    ivs ((rflR c s v).take (k + 1)) = ivs ((rflR c s v).take k) ++ [.int .i64 (IntKind.i64.wrap (u - IntKind.i64.wrap (a * x)))] := by
  subst hu hx ha
  rw [List.take_succ_eq_append_getElem (by simpa [rflR] using h)]
  simp [ivs, rflR, rfl1, h, hs]
def refl (c : List (List Int)) (s : Int) (v : List Int) : List Int := if isC c && decide (v.length = c.length) && isPt c.length s then rflR c s.toNat v else v
theorem refl_t {c : List (List Int)} {s : Nat} {v : List Int} (h : isC c = true) (hl : v.length = c.length) (hp : isPt c.length s = true) : refl c s v = rflR c s v := by simp [refl, h, hl, hp]
theorem refl_f {c : List (List Int)} {s : Int} {v : List Int} (h : isC c = false) : refl c s v = v := by simp [refl, h]
theorem refl_g {c : List (List Int)} {s : Int} {v : List Int} (h : v.length ≠ c.length) : refl c s v = v := by simp [refl, h]
theorem refl_h {c : List (List Int)} {s : Int} {v : List Int} (h : isPt c.length s = false) : refl c s v = v := by simp [refl, h]
theorem refl_length (c : List (List Int)) (s : Int) (v : List Int) : (refl c s v).length = v.length := by unfold refl; split <;> simp [rflR]

set_option maxHeartbeats 4000000 in
theorem specReflect (v1 v2 : Value) (c : List (List Int)) (ns : Nat) (v : List Int) (hC : isC c = true) (hl : v.length = c.length) (hns : ns < c.length) (hv : v.length ≤ 274877906944) (w : World) (h1 : II w v1 c) (h2 : I w v2 v) :
    Calls Try.prog 54 #[v1, .int .i64 ns, v2] w (RetInts w (rflR c ns v)) := by
  obtain ⟨g1, o1, c1, hv1, _, _, hc1⟩ := h1.form
  obtain ⟨g2, o2, c2, rfl, _, _, hc2⟩ := h2.form
  have H1 := Lib.hid hc1
  have H2 := Lib.hid hc2
  clear hc1 hc2 h2
  subst hv1
  have HC := Lib.hid hC
  have HL := Lib.hid hl
  have hsv : ns < v.length := by rw [hl]; exact hns
  clear hC hl
  go_enter Try.func54, Try.ntmps54
  go_wp2_with fail
  go_loopw [7, 8] (fun r i wr => ∃ k : Nat, k ≤ v.length ∧ i = .int .i64 k ∧ RowV wr w.heap.size 3 r k (ivs ((rflR c ns v).take k)) ∧ Below w.heap.size w wr) (fun _ i _ => v.length - (intOf i).toNat)
  case atStart => exact ⟨0, by omega, rfl, rowV_empty w _, (Below.refl _ _).alloc (Nat.le_refl _) _⟩
  case round =>
    obtain ⟨k, hk, rfl, hrow, hbel⟩ := hrel
    by_cases hlt' : k < v.length
    · have hkc : k < c.length := by rw [← HL.out]; exact hlt'
      have hsq := Lib.hid (isC_sq HC.out k hkc)
      obtain ⟨gi, oi, ci, x, y1, y2, hx⟩ := II.at H1.out hkc (show ns < c[k].length by rw [hsq.out]; exact hns)
      obtain ⟨u, hu⟩ : ∃ u, v[k] = u := ⟨_, rfl⟩
      obtain ⟨a, ha⟩ : ∃ a, v[ns] = a := ⟨_, rfl⟩
      have y3 := H2.out k hlt'
      have y4 := H2.out ns hsv
      rw [hu] at y3
      rw [ha] at y4
      have HS := Lib.hid (rflR_snoc c ns v k u x a hlt' hsv hu hx ha)
      have x1 := cells_keep hbel y1
      have x2 := cells_keep hbel y2
      have x3 := cells_keep hbel y3
      have x4 := cells_keep hbel y4
      have hl1 := World.block_lt_of_cell? w _ y1
      have hl2 := World.block_lt_of_cell? w _ y2
      have hl3 := World.block_lt_of_cell? w _ y3
      have hl4 := World.block_lt_of_cell? w _ y4
      clear hx hu ha y1 y2 y3 y4
      have hk0 : (0 : Int) ≤ (k : Int) := by omega
      have hk1 : (k : Int) < (c.length : Int) := by omega
      have hk2 : (0 : Int) ≤ (ns : Int) := by omega
      have hk3 : (ns : Int) < (c[k].length : Int) := by rw [hsq.out]; omega
      have hk4 : (k : Int) < (v.length : Int) := by omega
      have hk5 : (ns : Int) < (v.length : Int) := by omega
      go_wp2_with fail
      go_region_held3 (fun w' => w'.cell? ⟨g1, o1 + k, none⟩ = some (.slice (some ⟨gi, oi, none⟩) c[k].length ci) ∧ w'.cell? ⟨gi, oi + ns, none⟩ = some (.int .i64 x) ∧ w'.cell? ⟨g2, o2 + k, none⟩ = some (.int .i64 u) ∧ w'.cell? ⟨g2, o2 + ns, none⟩ = some (.int .i64 a)) (first | go_keep | (go_split_ands; exact ⟨(hb1.cell hl1).trans ‹_›, (hb1.cell hl2).trans ‹_›, (hb1.cell hl3).trans ‹_›, (hb1.cell hl4).trans ‹_›⟩)) ((refine step_pushV elemInt _ (by rfl) _ _ (by rfl) w.heap.size u7 k _ (by rfl) ((hrow.alloc _).drew) (.int .i64 (IntKind.i64.wrap (u - IntKind.i64.wrap (a * x)))) wr.heap.size (by rfl) (cell_new1d _ _ _) (by rfl) (by omega) (by have := hbel.size; simp; omega) ?_; intro gg cap w1 hrow1 hgrow hb1))
      go_wp2_with fail
      go_roundw
      case rel => exact ⟨k + 1, by omega, by go_num, hrow1.cast rfl rfl HS.out.symm, ((hbel.alloc hbel.size _).drew).trans hb1⟩
      case measure => simp [intOf]; omega
    · obtain rfl : k = v.length := by omega
      have hend : (rflR c ns v).take v.length = rflR c ns v := List.take_of_length_le (by rw [rflR_length]; omega)
      rw [hend] at hrow
      obtain ⟨g, hg, hown⟩ := hrow.own
      clear hend
      go_wp2_with fail
      go_ret
      exact ⟨_, g, rfl, hg, hown, hbel⟩
set_option maxHeartbeats 4000000 in
theorem implReflected (v1 v2 : Value) (g : Nat) (c : List (List Int)) (ns : Nat) (v : List Int) (hC : isC c = true) (hl : v.length = c.length) (hns : ns < c.length) (hv : v.length ≤ 274877906944) (W w : World) (h1 : II W v1 c) (hW : Below W.heap.size W w) (hg : W.heap.size ≤ g) (h2 : Own w g v2 v) :
    Calls Try.prog 72 #[v1, .int .i64 ns, v2] w fun e w' => e = .returned (.tuple #[]) ∧ Own w' g v2 (rflR c ns v) ∧ Chg (· = g) w w' := by
  obtain ⟨g1, o1, c1, hv1, _, _, hc1⟩ := h1.form
  have H1 := Lib.hid hc1
  clear hc1 h1
  subst hv1
  obtain ⟨cap, rfl, _, _⟩ := h2.form
  have H0 := Lib.hid h2
  clear h2
  have HC := Lib.hid hC
  have hsv : ns < v.length := by rw [hl]; exact hns
  obtain ⟨a, ha⟩ : ∃ a, v[ns] = a := ⟨_, rfl⟩
  have y4 := H0.out.cell hsv
  rw [ha] at y4
  have HA := Lib.hid ha
  have hk2 : (0 : Int) ≤ (ns : Int) := by omega
  have hk5 : (ns : Int) < (v.length : Int) := by omega
  have HL := Lib.hid hl
  clear hC ha hl
  go_enter Try.func72, Try.ntmps72
  go_wp2_with fail
  clear y4
  go_loopw [14] (fun i wr => ∃ k : Nat, k ≤ v.length ∧ i = .int .i64 k ∧ Hid (Own wr g (.slice (some ⟨g, 0, none⟩) v.length cap) (rflK c ns v k)) ∧ Chg (· = g) w wr) (fun i _ => v.length - (intOf i).toNat)
  case atStart => exact ⟨0, by omega, rfl, by rw [rflK_zero]; exact H0.out, Chg.refl _ _⟩
  case round =>
    obtain ⟨k, hk, rfl, HO, hchg⟩ := hrel
    by_cases hlt' : k < v.length
    · have hkc : k < c.length := by rw [← HL.out]; exact hlt'
      have hsq := Lib.hid (isC_sq HC.out k hkc)
      obtain ⟨gi, oi, ci, x, y1, y2, hx⟩ := II.at H1.out hkc (show ns < c[k].length by rw [hsq.out]; exact hns)
      have hbel : Below W.heap.size W wr := below_chg hW hchg (fun q hq => by omega)
      obtain ⟨u, hu⟩ : ∃ u, v[k] = u := ⟨_, rfl⟩
      have y3 := HO.out.cell (i := k) (by rw [rflK_length]; exact hlt')
      rw [rflK_get c ns v k hlt', hu] at y3
      have HS := Lib.hid (rflK_set c ns v k u x a hlt' hsv hu hx HA.out)
      have x1 := cells_keep hbel y1
      have x2 := cells_keep hbel y2
      have f1 := HO.out.frozen k
      have hk0 : (0 : Int) ≤ (k : Int) := by omega
      have hk1 : (k : Int) < (c.length : Int) := by omega
      have hk3 : (ns : Int) < (c[k].length : Int) := by rw [hsq.out]; omega
      have hk4 : (k : Int) < (v.length : Int) := by omega
      clear hx hu y1 y2 hbel
      go_wp2_with fail
      go_region
      go_wp2_with fail
      go_roundw
      case rel =>
        refine ⟨k + 1, by omega, by go_num, ?_, hchg.trans (chg_drew (chg_set _ _ _ _))⟩
        have hs := HO.out.set k (IntKind.i64.wrap (u - IntKind.i64.wrap (a * x)))
        rw [HS.out] at hs
        simp only [wrapE] at hs
        exact hs.drew
      case measure => simp [intOf]; omega
    · obtain rfl : k = v.length := by omega
      have hend := rflK_end c ns v
      rw [hend] at HO
      clear hend
      go_wp2_with fail
      go_end0
      exact ⟨rfl, HO.out, hchg⟩
end Go.Proofs.Ytmiliikkheggfaa
