/- The reference's drawing functions of words' texts. -/
import Derived.Test.YtgappocmdbaahaaDrawS
import Derived.Test.YtgappocmdbaahaaFmtWord
import Derived.OwnWalk
namespace Go.Proofs.Ytgappocmdbaahaa
open Go.RowKit
set_option linter.unusedVariables false

theorem fmtW_len (a : List Int) : (fmtW a).length ≤ a.length + 1 := by
  unfold fmtW
  split
  · split
    · simp
    · simp [wordS]
  · simp
def pwT : List (List UInt8) := [[], [101], [101, 101], [48], [53], [49, 101], [49, 50]]
theorem pwT_len : ∀ x ∈ pwT, x.length ≤ 2 := by decide
def MatS (w : World) (e : Ending) (w' : World) : Prop := ∃ v zss s, e = .returned (.tuple #[v, .string s]) ∧ II w' v zss ∧ Sh zss ∧ s.size ≤ 10000 ∧ Below w.heap.size w w'
set_option maxHeartbeats 2000000 in
set_option maxRecDepth 100000 in
theorem drawParseWord (a : Option Addr) (cap : Nat) (zs : List Int) (hz : zs.length ≤ 1048576) (w : World) (h : ArgB w a cap zs) : Calls Try.prog 41 #[.slice a zs.length cap] w (MatS w) := by
  go_enter Try.func41, Try.ntmps41
  go_wp2_with fail
  refine (drawNew a cap zs hz w h).mono ?_
  rintro e w1 ⟨g, rfl, hg, hc1, b1⟩
  have l1 := hc1.lt
  go_wp2_with fail
  refine (drawL5Any a cap zs hz w1 (h.keep b1)).mono ?_
  rintro e w2 ⟨v, zss, u, o, lo, rfl, hlo, hI, hsh, hU, ho, h2⟩
  obtain ⟨g2, o2, c2, rfl, _, _, _⟩ := hI.read.form
  have HU := Lib.hid hU
  obtain ⟨g3, o3, c3, rfl, _, _, _⟩ := hU.form
  have hc2 := hc1.keep h2 l1
  have b2 := below_trans b1 h2
  have HSH := Lib.hid hsh
  have hfl := fmtW_len o
  clear hsh h hU
  go_wp2_with fail
  refine (specFormatWord _ o (by omega) _ HU.out).mono ?_
  rintro e w3 ⟨rfl, h3⟩
  replace hI := hI.keep h3
  have hc3 := hc2.keep h3 hc2.lt
  have b3 := below_trans b2 h3
  obtain ⟨T, hT⟩ : ∃ T, fmtW o = T := ⟨_, rfl⟩
  rw [hT] at hfl ⊢
  clear hT HU
  go_wp2_with fail
  refine (drawBelow g a _ _ 4 (by omega) (by omega) w3 hc3).mono ?_
  rintro e w4 ⟨st, rfl, hs0, hs1, -, hc4, hg4⟩
  clear hs1
  have hgl : g < lo := by omega
  have hI4 := hI.cur hg4 hgl
  have b4 := chg_base b3 hg hg4
  cases e0 : (st == 0) with
  | true =>
    go_wp2_with fail
    refine (drawSpoil g a _ _ ⟨T.toArray⟩ (show T.length ≤ 1000 by omega) w4 hc4).mono ?_
    rintro e w5 ⟨s, rfl, hs, hc5, hg5⟩
    have hI5 := hI4.cur hg5 hgl
    go_wp2_with fail
    go_ret2
    exact ⟨_, _, _, rfl, hI5.read, HSH.out, hs, chg_base b4 hg hg5⟩
  | false =>
    cases e1 : (st == 1) with
    | true =>
      have HT := Lib.hid (own_litS w4 (pwT.map str).toArray pwT (by simp [strs]) (by decide))
      have hl4 := hc4.lt
      go_wp2_with fail
      refine (drawPick g a _ _ w4.heap.size _ pwT (by decide) (by decide) _ (hc4.keep (below_new w4 _) hc4.lt) HT.out (by omega)).mono ?_
      rintro e w5 ⟨x, rfl, hx, hc5, hg5⟩
      have hg45 : Chg (· = g) w4 w5 := (Chg.of_below (below_new w4 _)).trans hg5
      have hI5 := hI4.cur hg45 hgl
      have hxl := pwT_len x hx
      clear hx HT
      go_wp2_with fail
      go_ret2
      exact ⟨_, _, _, rfl, hI5.read, HSH.out, (show x.length ≤ 10000 by omega), chg_base b4 hg hg45⟩
    | false =>
      go_wp2_with fail
      go_ret2
      exact ⟨_, _, _, rfl, hI4.read, HSH.out, (show T.length ≤ 10000 by omega), b4⟩
theorem drawAlternatingWord (a : Option Addr) (cap : Nat) (zs : List Int) (hz : zs.length ≤ 1048576) (w : World) (h : ArgB w a cap zs) : Calls Try.prog 43 #[.slice a zs.length cap] w fun e w' => ∃ i j n, e = .returned (.tuple #[.int .i64 i, .int .i64 j, .int .i64 n]) ∧ Below w.heap.size w w' := by
  go_enter Try.func43, Try.ntmps43
  go_wp2_with fail
  refine (drawNew a cap zs hz w h).mono ?_
  rintro e w1 ⟨g, rfl, hg, hc1, b1⟩
  go_wp2_with fail
  refine (drawBelow g a _ _ 4 (by omega) (by omega) w1 hc1).mono ?_
  rintro e w2 ⟨i, rfl, _, _, -, hc2, hg2⟩
  go_wp2_with fail
  refine (drawBelow g a _ _ 4 (by omega) (by omega) w2 hc2).mono ?_
  rintro e w3 ⟨j, rfl, _, _, -, hc3, hg3⟩
  have HT := Lib.hid (own_litD w3 #[.int .i64 (-1), .int .i64 0, .int .i64 1, .int .i64 2, .int .i64 3, .int .i64 6, .int .i64 15, .int .i64 16] [-1, 0, 1, 2, 3, 6, 15, 16] (by simp [ivs]) (by decide))
  have hl3 := hc3.lt
  go_wp2_with fail
  refine (drawPickInt g a _ _ w3.heap.size _ [-1, 0, 1, 2, 3, 6, 15, 16] (by decide) (by decide) _ (hc3.keep (below_new w3 _) hc3.lt) HT.out (by omega)).mono ?_
  rintro e w4 ⟨x, rfl, hx, hc4, hg4⟩
  go_wp2_with fail
  go_ret3
  exact ⟨_, _, _, rfl, chg_base (chg_base (chg_base b1 hg hg2) hg hg3) hg ((Chg.of_below (below_new w3 _)).trans hg4)⟩
end Go.Proofs.Ytgappocmdbaahaa
