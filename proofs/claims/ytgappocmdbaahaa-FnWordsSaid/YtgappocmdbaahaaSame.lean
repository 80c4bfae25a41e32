/- The statements' own tests of equality: they answer whether two lists, two matrices, are equal. -/
import Derived.Test.YtgappocmdbaahaaInts
import Derived.Test.YtgappocmdbaahaaMat
namespace Go.Proofs.Ytgappocmdbaahaa
open Go.RowKit
set_option linter.unusedVariables false

set_option maxHeartbeats 400000 in
theorem lawSameInts (v1 v2 : Value) (a b : List Int) (ha : a.length ≤ 1099511627776) (w : World) (h1 : I w v1 a) (h2 : I w v2 b) :
    Calls Try.prog 38 #[v1, v2] w fun e w' => e = .returned (.bool (eqI a b)) ∧ Below w.heap.size w w' := by
  obtain ⟨g1, o1, c1, rfl, _, _, hc1⟩ := h1.form
  obtain ⟨g2, o2, c2, rfl, _, _, hc2⟩ := h2.form
  have H1 := Lib.hid hc1
  have H2 := Lib.hid hc2
  clear hc1 hc2 h1 h2
  by_cases hl : a.length = b.length
  · have hL := Lib.hid hl
    have dl : ((a.length : Int) != (b.length : Int)) = false := by rw [bne_eq_false_iff_eq]; omega
    clear hl
    go_enter Try.func38, Try.ntmps38
    go_wp2_with fail
    go_loopw [5] (fun i wr => ∃ k : Nat, k ≤ a.length ∧ i = .int .i64 k ∧ Below w.heap.size w wr ∧ Hid (∀ j (h1 : j < a.length) (h2 : j < b.length), j < k → a[j] = b[j])) (fun i _ => a.length - (intOf i).toNat)
    case atStart => exact ⟨0, by omega, rfl, Below.refl _ _, fun j _ _ h => absurd h (Nat.not_lt_zero j)⟩
    case round =>
      obtain ⟨k, hk, rfl, hbel, HE⟩ := hrel
      by_cases hlt' : k < a.length
      · have hlt2 : k < b.length := by have := hL.out; omega
        have x1 := (hbel.cell (World.block_lt_of_cell? w _ (H1.out k hlt'))).trans (H1.out k hlt')
        have x2 := (hbel.cell (World.block_lt_of_cell? w _ (H2.out k hlt2))).trans (H2.out k hlt2)
        have hk0 : (0 : Int) ≤ (k : Int) := by omega
        have hk1 : (k : Int) < (a.length : Int) := by omega
        have hk2 : (k : Int) < (b.length : Int) := by omega
        by_cases he : a[k] = b[k]
        · have hb : ((a[k] : Int) != (b[k] : Int)) = false := by rw [bne_eq_false_iff_eq]; exact he
          have HK := Lib.hid he
          clear he
          go_wp2_with fail
          go_region_held3 (fun w' => w'.cell? ⟨g1, o1 + k, none⟩ = some (.int .i64 a[k]) ∧ w'.cell? ⟨g2, o2 + k, none⟩ = some (.int .i64 b[k])) (go_keep) (fail)
          go_wp2_with fail
          go_roundw
          case rel =>
            refine ⟨k + 1, by omega, by go_num, hbel.drew, fun j q1 q2 hj => ?_⟩
            by_cases e : j = k
            · subst e; exact HK.out
            · exact HE.out j q1 q2 (by omega)
          case measure => simp [intOf]; omega
        · have hb : ((a[k] : Int) != (b[k] : Int)) = true := by rw [bne_iff_ne]; exact he
          have HK := Lib.hid he
          clear he
          go_wp2_with fail
          go_region_held3 (fun w' => w'.cell? ⟨g1, o1 + k, none⟩ = some (.int .i64 a[k]) ∧ w'.cell? ⟨g2, o2 + k, none⟩ = some (.int .i64 b[k])) (go_keep) (fail)
          go_wp2_with fail
          go_ret
          refine ⟨ret_bool ?_, hbel.drew⟩
          symm
          rw [eqI, beq_eq_false_iff_ne]
          intro e
          subst e
          exact HK.out rfl
      · obtain rfl : k = a.length := by omega
        go_wp2_with fail
        go_ret
        refine ⟨ret_bool ?_, hbel⟩
        symm
        rw [eqI, beq_iff_eq]
        exact List.ext_getElem hL.out (fun j q1 q2 => HE.out j q1 q2 q1)
  · have dl : ((a.length : Int) != (b.length : Int)) = true := by rw [bne_iff_ne]; omega
    have hL := Lib.hid hl
    clear hl
    go_enter Try.func38, Try.ntmps38
    go_wp2_with fail
    go_ret
    refine ⟨ret_bool ?_, Below.refl _ _⟩
    symm
    rw [eqI, beq_eq_false_iff_ne]
    intro e
    subst e
    exact hL.out rfl
end Go.Proofs.Ytgappocmdbaahaa
