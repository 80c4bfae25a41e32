/- The law FnWords: words are read back from their texts and ordered by length and letters. -/
import Derived.Test.YtgappocmdbaahaaDrawPW
import Derived.Test.YtgappocmdbaahaaParse
import Derived.Test.YtgappocmdbaahaaCmpI
import Derived.Test.YtgappocmdbaahaaCat
import Derived.Test.YtgappocmdbaahaaRev
import Derived.Test.YtgappocmdbaahaaAlt
import Derived.Test.YtgappocmdbaahaaSup
import Derived.Test.YtgappocmdbaahaaSame
namespace Go.Proofs.Ytgappocmdbaahaa.lawWords
open Go.ChangeShapes Go.WideShapes Go.ChangeAt Go.RowKit
set_option linter.unusedVariables false

theorem okW_of {c : List (List Int)} {w : List Int} (h : isWd c w = true) : okW w = true := by
  rw [isWd, Bool.and_eq_true, Bool.and_eq_true, List.all_eq_true] at h
  have h4 := ((isC_iff c).1 h.1.1).2.1
  rw [okW, List.all_eq_true]
  intro x hx
  have := (isPt_iff _ _).1 (h.2 x hx)
  simp; omega
theorem ltr_toNat {x : Int} (h : 0 ≤ x ∧ x ≤ 3) : ((ltr x).toNat : Int) - 49 = x := by
  unfold ltr
  rw [UInt8.toNat_ofNat']
  omega
theorem digs_word {w : List Int} (h : okW w = true) : digs ⟨(wordS w).toArray⟩ = w := by
  rw [okW, List.all_eq_true] at h
  have e : (⟨(wordS w).toArray⟩ : ByteArray).data.toList = wordS w := by simp
  rw [digs, e, wordS, List.map_map]
  conv => rhs; rw [← List.map_id w]
  refine List.map_congr_left (fun x hx => ?_)
  have := h x hx
  simp at this
  exact ltr_toNat this
theorem word_ne {w : List Int} (h : okW w = true) : (⟨(wordS w).toArray⟩ : ByteArray) ≠ eS := by
  intro e
  have e2 : digs ⟨(wordS w).toArray⟩ = digs eS := by rw [e]
  rw [digs_word h] at e2
  rw [okW, List.all_eq_true] at h
  have e3 : digs eS = [52] := by decide
  rw [e3] at e2
  subst e2
  have := h 52 (by simp)
  simp at this
theorem parse_fmt (c : List (List Int)) (w : List Int) : pOk c ⟨(fmtW w).toArray⟩ = isWd c w ∧ (isWd c w = true → pL c ⟨(fmtW w).toArray⟩ = w) := by
  by_cases hk : okW w = true
  · by_cases hw : w = []
    · have e : fmtW w = [101] := by rw [fmtW, if_pos hk, if_pos hw]
      have hs : (⟨(fmtW w).toArray⟩ : ByteArray) = eS := by rw [e]; rfl
      have hwd : wd ⟨(fmtW w).toArray⟩ = w := by rw [wd_e hs, hw]
      have h0 : (⟨(fmtW w).toArray⟩ : ByteArray).size ≠ 0 := by rw [hs]; decide
      have hp : pOk c ⟨(fmtW w).toArray⟩ = isWd c w := by rw [pOk, hwd, decide_eq_false h0]; rfl
      exact ⟨hp, fun h => by rw [pL_t (hp.trans h), hwd]⟩
    · have e : fmtW w = wordS w := by rw [fmtW, if_pos hk, if_neg hw]
      have hwd : wd ⟨(fmtW w).toArray⟩ = w := by rw [e, wd_n (word_ne hk), digs_word hk]
      have h0 : (⟨(fmtW w).toArray⟩ : ByteArray).size ≠ 0 := by
        rw [e]
        show (wordS w).length ≠ 0
        have := List.length_pos_iff.2 hw
        rw [wordS, List.length_map]; omega
      have hp : pOk c ⟨(fmtW w).toArray⟩ = isWd c w := by rw [pOk, hwd, decide_eq_false h0]; rfl
      exact ⟨hp, fun h => by rw [pL_t (hp.trans h), hwd]⟩
  · have e : fmtW w = [] := by rw [fmtW, if_neg hk]
    have hw : isWd c w = false := by
      cases h : isWd c w with
      | false => rfl
      | true => exact absurd (okW_of h) hk
    have hp : pOk c ⟨(fmtW w).toArray⟩ = false := pOk_z (by rw [e]; rfl)
    exact ⟨by rw [hp, hw], fun h => by rw [hw] at h; cases h⟩
theorem lexL_anti : ∀ a b : List Int, lexL a b = - lexL b a
  | [], [] => rfl
  | [], _ :: _ => rfl
  | _ :: _, [] => rfl
  | x :: a, y :: b => by
    rw [lexL, lexL]
    by_cases c1 : x < y
    · rw [if_pos c1, if_neg (by omega), if_pos c1]
    · rw [if_neg c1]
      by_cases c2 : y < x
      · rw [if_pos c2, if_pos c2]; rfl
      · rw [if_neg c2, if_neg c2, if_neg c1, lexL_anti a b]
theorem cmpL_anti (a b : List Int) : cmpL a b = - cmpL b a := by
  rw [cmpL, cmpL]
  by_cases c1 : a.length < b.length
  · rw [if_pos c1, if_neg (by omega), if_pos c1]
  · rw [if_neg c1]
    by_cases c2 : b.length < a.length
    · rw [if_pos c2, if_pos c2]; rfl
    · rw [if_neg c2, if_neg c2, if_neg c1, lexL_anti a b]
theorem lexL_bd : ∀ a b : List Int, -1 ≤ lexL a b ∧ lexL a b ≤ 1
  | [], _ => by simp [lexL]
  | _ :: _, [] => by simp [lexL]
  | x :: a, y :: b => by
    rw [lexL]
    have := lexL_bd a b
    split
    · omega
    · split <;> omega
theorem cmpL_bd (a b : List Int) : -1 ≤ cmpL a b ∧ cmpL a b ≤ 1 := by
  have := lexL_bd a b
  rw [cmpL]
  split
  · omega
  · split <;> omega
/-- The test of equality, where the first is nil. -/
theorem sameNil (v2 : Value) (w : World) (h2 : I w v2 []) : Calls Try.prog 38 #[.slice none 0 0, v2] w fun e w' => e = .returned (.bool true) ∧ Below w.heap.size w w' := by
  obtain ⟨g2, o2, c2, rfl, _, _, _⟩ := h2.form
  go_enter Try.func38, Try.ntmps38
  go_wp2_with fail
  go_loopw [5] (fun i wr => i = .int .i64 0 ∧ wr = w) (fun i _ => 0)
  case atStart => exact ⟨rfl, rfl⟩
  case round =>
    obtain ⟨rfl, rfl⟩ := hrel
    go_wp2_with fail
    go_ret
    exact ⟨rfl, Below.refl _ _⟩
section
variable {P : Program} {T e : TypeId} {bytes : Nat}
/-- A whole slice appended, behind a guard that holds. -/
theorem wpList_appendG (E : Elem P T e bytes) {ops : Array Oper} {rest : List Oper} {o : Oper} {a : Act} {Q : Exit → Act → World → Prop} (w : World) (hgd : Region.wanted o (yielded ops a.tmps) = true) (s x : Operand)
    (ho : o.op = .call { callee := .builtin .append, args := #[s, x], argTypes := #[T, T] }) (B : Nat) (v : Value) (n : Nat) (xs : List Value) (hs : a.eval s = v) (hrow : RowV w B e v n xs)
    (news : List Value) (g0 o0 m c : Nat) (hx : a.eval x = .slice (some ⟨g0, o0, none⟩) m c) (hl : news.length = m) (hu : ∀ i u, news[i]? = some u → w.cell? ⟨g0, o0 + i, none⟩ = some u) (h1 : ∀ u ∈ news, u.oneCell' = true) (hn : n + m ≤ 1099511627776) (hB : B ≤ w.heap.size)
    (h : ∀ g cap w', RowV w' B e (.slice (some ⟨g, 0, none⟩) (n + m) cap) (n + m) (xs ++ news) → w.grownBy w' v.ownBlock → Below B w w' → wpList P ops Q rest (a.put o.dst (.slice (some ⟨g, 0, none⟩) (n + m) cap)) w') : wpList P ops Q (o :: rest) a w :=
  wpList_step fun K hK => by
    rw [if_pos hgd]
    exact wp_appendV E w s x ho B v n xs hs hrow news g0 o0 m c hx hl hu h1 hn hB fun g cap w' h2 h3 h4 => hK _ _ (h g cap w' h2 h3 h4)
end
set_option maxHeartbeats 4000000 in
set_option maxRecDepth 100000 in
theorem walk (W : World) (a0 : Option Addr) (c0 : Nat) (z0 : List Int) (w0 : ArgB W a0 c0 z0) :
    Calls Try.prog 9 #[.slice a0 z0.length c0] W fun e w' => e = .returned (.bool true) ∧ Below W.heap.size W w' := by
  by_cases s0 : z0.length ≤ 1048576
  rotate_left
  · go_enter Try.func9, Try.ntmps9
    go_wp2_with fail
    refine (lawBig a0 c0 z0 true (decide_eq_true (by omega)) _).mono ?_
    rintro e w1 ⟨rfl, rfl⟩
    go_wp2_with fail
    go_ret
    exact ⟨rfl, Below.refl _ _⟩
  go_enter Try.func9, Try.ntmps9
  go_wp2_with fail
  refine (lawBig a0 c0 z0 false (decide_eq_false (by omega)) _).mono ?_
  rintro e w1 ⟨rfl, rfl⟩
  go_wp2_with fail
  refine (drawIsWord a0 c0 z0 s0 _ w0).mono ?_
  rintro e x1 ⟨v, z, u, o, lo, rfl, hlo, hI, hsh, hU, ho, bT⟩
  replace hI := hI.read
  obtain ⟨g1, o1, c1, rfl, _, _, _⟩ := hI.form
  have HU := Lib.hid hU
  obtain ⟨g2, o2, c2, rfl, _, _, _⟩ := hU.form
  have hU := HU.out
  have hz := hsh.2.1
  have hfl := fmtW_len o
  clear hsh HU
  go_wp2_with fail
  refine (implFormatWord _ o (by omega) _ hU).mono ?_
  rintro e x2 ⟨rfl, h⟩
  replace hI := hI.keep h
  replace hU := hU.keep h
  replace bT := below_trans bT h
  clear h
  go_wp2_with fail
  refine (implParseWord _ z ⟨(fmtW o).toArray⟩ (by omega) (show (fmtW o).length ≤ 1048576 by omega) _ hI).mono ?_
  intro e x3 r
  obtain ⟨v3, rfl, o3, h⟩ := r.out
  clear r
  replace hI := hI.keep h
  replace hU := hU.keep h
  replace bT := below_trans bT h
  clear h
  obtain ⟨hp1, hp2⟩ := parse_fmt z o
  rw [hp1]
  have hX := o3.read
  obtain ⟨X, hXX⟩ : ∃ X, pL z ⟨(fmtW o).toArray⟩ = X := ⟨_, rfl⟩
  rw [hXX] at hX hp2
  obtain ⟨F, hF⟩ : ∃ F, fmtW o = F := ⟨_, rfl⟩
  have HF := Lib.hid hF
  have HP2 := Lib.hid hp2
  clear o3 hp1 hp2 hXX hF
  rw [HF.out]
  obtain ⟨g3, p3, c3, rfl, _, _, _⟩ := hX.form
  go_wp2_with fail
  refine (specFormatWord _ o (by omega) _ hU).mono ?_
  rintro e x4 ⟨rfl, h⟩
  rw [HF.out]
  replace hI := hI.keep h
  replace hU := hU.keep h
  replace hX := hX.keep h
  replace bT := below_trans bT h
  clear h
  go_wp2_with fail
  refine (implIsWord _ _ z o (by omega) (by omega) _ hI hU).mono ?_
  rintro e x5 ⟨rfl, h⟩
  replace hI := hI.keep h
  replace hU := hU.keep h
  replace hX := hX.keep h
  replace bT := below_trans bT h
  clear h
  go_wp2_with fail
  refine (specIsWord _ _ z o (by omega) (by omega) _ hI hU).mono ?_
  rintro e x6 ⟨rfl, h⟩
  replace hI := hI.keep h
  replace hU := hU.keep h
  replace hX := hX.keep h
  replace bT := below_trans bT h
  clear h
  go_wp2_with fail
  refine (specIsWord _ _ z o (by omega) (by omega) _ hI hU).mono ?_
  rintro e x7 ⟨rfl, h⟩
  replace hI := hI.keep h
  replace hU := hU.keep h
  replace hX := hX.keep h
  replace bT := below_trans bT h
  clear h
  cases hw : isWd z o with
  | true =>
    have hXo := HP2.out hw
    clear hw
    rw [hXo] at hX
    rw [hXo]
    clear HP2 hXo
    go_wp2_with fail
    refine (lawSameInts _ _ o o (by omega) _ hX hU).mono ?_
    rintro e x8 ⟨rfl, h⟩
    replace hU := hU.keep h
    replace bT := below_trans bT h
    simp only [eqI_refl]
    clear h hX hI
    go_wp2_with fail
    refine (drawCompareWords a0 c0 z0 s0 _ (w0.keep bT)).mono ?_
    rintro e y1 ⟨va, A, vb, B, rfl, hA, hAl, hB, hBl, h⟩
    replace hU := hU.keep h
    replace bT := below_trans bT h
    clear h
    have HA := Lib.hid hA
    have HB := Lib.hid hB
    obtain ⟨gA, oA, cA, rfl, _, _, _⟩ := hA.form
    obtain ⟨gB, oB, cB, rfl, _, _, _⟩ := hB.form
    have hA := HA.out
    have hB := HB.out
    clear HA HB
    go_wp2_with fail
    refine (implCompareWords _ _ A B (by omega) (by omega) _ hA hB).mono ?_
    rintro e y2 ⟨rfl, h⟩
    replace hU := hU.keep h
    replace hA := hA.keep h
    replace hB := hB.keep h
    replace bT := below_trans bT h
    clear h
    go_wp2_with fail
    refine (drawParseWord a0 c0 z0 s0 _ (w0.keep bT)).mono ?_
    rintro e y3 ⟨vd, D, t, rfl, hD, hDs, ht, h⟩
    replace hU := hU.keep h
    replace hA := hA.keep h
    replace hB := hB.keep h
    replace bT := below_trans bT h
    clear h
    obtain ⟨gD, oD, cD, rfl, _, _, _⟩ := hD.form
    have hD5 := hDs.2.1
    clear hDs
    go_wp2_with fail
    refine (implParseWord _ D t (by omega) (by omega) _ hD).mono ?_
    intro e y4 r
    obtain ⟨v5, rfl, o5, h⟩ := r.out
    clear r o5
    replace hD := hD.keep h
    replace hU := hU.keep h
    replace hA := hA.keep h
    replace hB := hB.keep h
    replace bT := below_trans bT h
    clear h
    go_wp2_with fail
    refine (specParseWord _ D t (by omega) (by omega) _ hD).mono ?_
    intro e y5 r
    obtain ⟨v6, rfl, o6, h⟩ := r.out
    clear r o6 hD
    replace hU := hU.keep h
    replace hA := hA.keep h
    replace hB := hB.keep h
    replace bT := below_trans bT h
    clear h
    go_wp2_with fail
    refine (drawAlternatingWord a0 c0 z0 s0 _ (w0.keep bT)).mono ?_
    rintro e y6 ⟨i, j, n, rfl, h⟩
    replace hU := hU.keep h
    replace hA := hA.keep h
    replace hB := hB.keep h
    replace bT := below_trans bT h
    clear h
    have f1 := cmpL_anti A B
    have f2 := cmpL_bd A B
    have f3 := cmpL_eq A B
    have f4 : (cmpL A B == -cmpL B A) = true := by rw [beq_iff_eq]; exact f1
    clear f1
    have f5 := cmpL_bd B A
    go_wp2_with fail
    refine (specCompareWords _ _ A B (by omega) (by omega) _ hA hB).mono ?_
    rintro e y7 ⟨rfl, h⟩
    replace hU := hU.keep h
    replace hA := hA.keep h
    replace hB := hB.keep h
    replace bT := below_trans bT h
    clear h
    go_wp2_with fail
    refine (implCompareWords _ _ B A (by omega) (by omega) _ hB hA).mono ?_
    rintro e y8 ⟨rfl, h⟩
    replace hU := hU.keep h
    replace hA := hA.keep h
    replace hB := hB.keep h
    replace bT := below_trans bT h
    clear h
    go_wp2_with fail
    refine (implEqualWords _ _ A B (by omega) (by omega) _ hA hB).mono ?_
    rintro e y9 ⟨rfl, h⟩
    replace hU := hU.keep h
    replace hA := hA.keep h
    replace hB := hB.keep h
    replace bT := below_trans bT h
    clear h
    go_wp2_with fail
    refine (implConcatWords _ _ A B (by omega) (by omega) _ hA hB).mono ?_
    intro e y10 r
    obtain ⟨vC, rfl, oC, h⟩ := r.out
    clear r
    replace hU := hU.keep h
    replace hA := hA.keep h
    replace hB := hB.keep h
    replace bT := below_trans bT h
    clear h
    rcases oC with ⟨rfl, hnil⟩ | oC
    · skip
      have hbn := below_new y10 (.cells #[] 3)
      have HCA := Lib.hid (fun i (hi : i < A.length) => show y10.cell? ⟨gA, oA + i, none⟩ = some (.int .i64 A[i]) from by
        obtain ⟨g, o, cap, he, _, _, hc⟩ := hA.form
        simp only [Value.slice.injEq, Option.some.injEq, Addr.mk.injEq, and_true, true_and] at he
        obtain ⟨⟨rfl, rfl⟩, rfl⟩ := he
        exact hc i hi)
      have HCB := Lib.hid (fun i (hi : i < B.length) => show y10.cell? ⟨gB, oB + i, none⟩ = some (.int .i64 B[i]) from by
        obtain ⟨g, o, cap, he, _, _, hc⟩ := hB.form
        simp only [Value.slice.injEq, Option.some.injEq, Addr.mk.injEq, and_true, true_and] at he
        obtain ⟨⟨rfl, rfl⟩, rfl⟩ := he
        exact hc i hi)
      go_wp2_with (first
        | (at_builtin; refine wpList_appendG elemInt _ (by rfl) _ _ rfl y10.heap.size (.slice (some ⟨y10.heap.size, 0, none⟩) 0 0) 0 [] rfl (rowV_empty y10 _) (ivs A) gA oA A.length cA rfl (ivs_length A) (cells_after HCA.out hbn) (ivs_one A) (by omega) hbn.size ?_; intro gP capP wP hrowP hgrowP hbP; have hrP : RowV wP y10.heap.size 3 (.slice (some ⟨gP, 0, none⟩) A.length capP) A.length (ivs A) := hrowP.cast (by rw [Nat.zero_add]) (Nat.zero_add _) (List.nil_append _))
        | (at_builtin; refine wpList_appendG elemInt _ (by rfl) _ _ rfl y10.heap.size (.slice (some ⟨gP, 0, none⟩) A.length capP) A.length (ivs A) rfl hrP (ivs B) gB oB B.length cB rfl (ivs_length B) (cells_after HCB.out (hbn.trans hbP)) (ivs_one B) (by omega) (Nat.le_trans hbn.size hbP.size) ?_; intro gQ capQ wQ hrowQ hgrowQ hbQ))
      have hrQ : RowV wQ y10.heap.size 3 (.slice (some ⟨gQ, 0, none⟩) (A.length + B.length) capQ) (A ++ B).length (ivs (A ++ B)) := hrowQ.cast rfl (by simp) (by rw [ivs_append])
      obtain ⟨gq, hgq, hownQ⟩ := hrQ.own
      have hcat : I wQ _ (A ++ B) := OwnV.read hownQ
      have h := (hbn.trans hbP).trans hbQ
      replace hU := hU.keep h
      replace hA := hA.keep h
      replace bT := below_trans bT h
      refine (sameNil _ _ (by have := hcat; rw [hnil] at this; exact this)).mono ?_
      rintro e q0 ⟨rfl, h5⟩
      replace hU := hU.keep h5
      replace hA := hA.keep h5
      replace bT := below_trans bT h5
      clear h5
      clear HCA HCB hrQ hrP hrowP hrowQ hgrowP hgrowQ hbP hbQ hbn hownQ hcat h
      go_wp2_with fail
      refine (implReverseWord _ A (by omega) _ hA).mono ?_
      intro e q1 r
      obtain ⟨vR, rfl, oR, h⟩ := r.out
      clear r
      replace hU := hU.keep h
      replace hA := hA.keep h
      replace bT := below_trans bT h
      clear h
      go_wp2_with fail
      refine (implReverseWord _ A.reverse (by simp; omega) _ oR.read).mono ?_
      intro e q2 r
      obtain ⟨vR2, rfl, oR2, h⟩ := r.out
      clear r oR
      replace hU := hU.keep h
      replace hA := hA.keep h
      replace bT := below_trans bT h
      clear h
      rw [List.reverse_reverse] at oR2
      go_wp2_with fail
      refine (lawSameInts _ _ A A (by omega) _ oR2.read hA).mono ?_
      rintro e q3 ⟨rfl, h⟩
      replace hU := hU.keep h
      replace bT := below_trans bT h
      clear h oR2
      simp only [eqI_refl]
      go_wp2_with fail
      refine (implSupportOf _ o (by omega) _ hU).mono ?_
      intro e q4 r
      obtain ⟨vS, rfl, oS, h⟩ := r.out
      clear r
      replace hU := hU.keep h
      replace bT := below_trans bT h
      clear h
      go_wp2_with fail
      refine (specSupportOf _ o (by omega) _ hU).mono ?_
      intro e q5 r
      obtain ⟨vS2, rfl, oS2, h⟩ := r.out
      clear r
      have oS' := oS.keep h
      replace bT := below_trans bT h
      have hsl := supL_len o
      clear h
      go_wp2_with fail
      refine (lawSameInts _ _ (supL o) (supL o) (by omega) _ oS'.read oS2.read).mono ?_
      rintro e q6 ⟨rfl, h⟩
      replace bT := below_trans bT h
      clear h oS oS' oS2 hU hA hB
      simp only [eqI_refl]
      go_wp2_with fail
      refine (implAlternatingWord i j n _).mono ?_
      intro e q7 r
      obtain ⟨vT, rfl, oT, h⟩ := r.out
      clear r
      replace bT := below_trans bT h
      clear h
      go_wp2_with fail
      refine (specAlternatingWord i j n _).mono ?_
      intro e q8 r
      obtain ⟨vT2, rfl, oT2, h⟩ := r.out
      clear r
      have oT' := oT.keep h
      replace bT := below_trans bT h
      have hal := altL_length i j n
      clear h
      go_wp2_with fail
      refine (lawSameInts _ _ (altL i j n) (altL i j n) (by omega) _ oT'.read oT2.read).mono ?_
      rintro e q9 ⟨rfl, h⟩
      replace bT := below_trans bT h
      simp only [eqI_refl]
      go_wp2_with fail
      go_ret
      exact ⟨rfl, bT⟩
    · have hC := oC.read
      obtain ⟨gC, pC, cC, rfl, _, _, _⟩ := hC.form
      have hbn := below_new y10 (.cells #[] 3)
      have HCA := Lib.hid (fun i (hi : i < A.length) => show y10.cell? ⟨gA, oA + i, none⟩ = some (.int .i64 A[i]) from by
        obtain ⟨g, o, cap, he, _, _, hc⟩ := hA.form
        simp only [Value.slice.injEq, Option.some.injEq, Addr.mk.injEq, and_true, true_and] at he
        obtain ⟨⟨rfl, rfl⟩, rfl⟩ := he
        exact hc i hi)
      have HCB := Lib.hid (fun i (hi : i < B.length) => show y10.cell? ⟨gB, oB + i, none⟩ = some (.int .i64 B[i]) from by
        obtain ⟨g, o, cap, he, _, _, hc⟩ := hB.form
        simp only [Value.slice.injEq, Option.some.injEq, Addr.mk.injEq, and_true, true_and] at he
        obtain ⟨⟨rfl, rfl⟩, rfl⟩ := he
        exact hc i hi)
      go_wp2_with (first
        | (at_builtin; refine wpList_appendG elemInt _ (by rfl) _ _ rfl y10.heap.size (.slice (some ⟨y10.heap.size, 0, none⟩) 0 0) 0 [] rfl (rowV_empty y10 _) (ivs A) gA oA A.length cA rfl (ivs_length A) (cells_after HCA.out hbn) (ivs_one A) (by omega) hbn.size ?_; intro gP capP wP hrowP hgrowP hbP; have hrP : RowV wP y10.heap.size 3 (.slice (some ⟨gP, 0, none⟩) A.length capP) A.length (ivs A) := hrowP.cast (by rw [Nat.zero_add]) (Nat.zero_add _) (List.nil_append _))
        | (at_builtin; refine wpList_appendG elemInt _ (by rfl) _ _ rfl y10.heap.size (.slice (some ⟨gP, 0, none⟩) A.length capP) A.length (ivs A) rfl hrP (ivs B) gB oB B.length cB rfl (ivs_length B) (cells_after HCB.out (hbn.trans hbP)) (ivs_one B) (by omega) (Nat.le_trans hbn.size hbP.size) ?_; intro gQ capQ wQ hrowQ hgrowQ hbQ))
      have hrQ : RowV wQ y10.heap.size 3 (.slice (some ⟨gQ, 0, none⟩) (A.length + B.length) capQ) (A ++ B).length (ivs (A ++ B)) := hrowQ.cast rfl (by simp) (by rw [ivs_append])
      obtain ⟨gq, hgq, hownQ⟩ := hrQ.own
      have hcat : I wQ _ (A ++ B) := OwnV.read hownQ
      have h := (hbn.trans hbP).trans hbQ
      replace hU := hU.keep h
      replace hA := hA.keep h
      replace bT := below_trans bT h
      have hCk : I wQ (.slice (some ⟨gC, pC, none⟩) (A.length + B.length) cC) (A ++ B) := by rw [← List.length_append]; exact hC.keep h
      refine (lawSameInts _ _ (A ++ B) (A ++ B) (by simp; omega) _ hCk hcat).mono ?_
      rintro e q0 ⟨rfl, h5⟩
      replace hU := hU.keep h5
      replace hA := hA.keep h5
      replace bT := below_trans bT h5
      clear h5 hCk
      simp only [eqI_refl]
      clear HCA HCB hrQ hrP hrowP hrowQ hgrowP hgrowQ hbP hbQ hbn hownQ hcat h
      go_wp2_with fail
      refine (implReverseWord _ A (by omega) _ hA).mono ?_
      intro e q1 r
      obtain ⟨vR, rfl, oR, h⟩ := r.out
      clear r
      replace hU := hU.keep h
      replace hA := hA.keep h
      replace bT := below_trans bT h
      clear h
      go_wp2_with fail
      refine (implReverseWord _ A.reverse (by simp; omega) _ oR.read).mono ?_
      intro e q2 r
      obtain ⟨vR2, rfl, oR2, h⟩ := r.out
      clear r oR
      replace hU := hU.keep h
      replace hA := hA.keep h
      replace bT := below_trans bT h
      clear h
      rw [List.reverse_reverse] at oR2
      go_wp2_with fail
      refine (lawSameInts _ _ A A (by omega) _ oR2.read hA).mono ?_
      rintro e q3 ⟨rfl, h⟩
      replace hU := hU.keep h
      replace bT := below_trans bT h
      clear h oR2
      simp only [eqI_refl]
      go_wp2_with fail
      refine (implSupportOf _ o (by omega) _ hU).mono ?_
      intro e q4 r
      obtain ⟨vS, rfl, oS, h⟩ := r.out
      clear r
      replace hU := hU.keep h
      replace bT := below_trans bT h
      clear h
      go_wp2_with fail
      refine (specSupportOf _ o (by omega) _ hU).mono ?_
      intro e q5 r
      obtain ⟨vS2, rfl, oS2, h⟩ := r.out
      clear r
      have oS' := oS.keep h
      replace bT := below_trans bT h
      have hsl := supL_len o
      clear h
      go_wp2_with fail
      refine (lawSameInts _ _ (supL o) (supL o) (by omega) _ oS'.read oS2.read).mono ?_
      rintro e q6 ⟨rfl, h⟩
      replace bT := below_trans bT h
      clear h oS oS' oS2 hU hA hB
      simp only [eqI_refl]
      go_wp2_with fail
      refine (implAlternatingWord i j n _).mono ?_
      intro e q7 r
      obtain ⟨vT, rfl, oT, h⟩ := r.out
      clear r
      replace bT := below_trans bT h
      clear h
      go_wp2_with fail
      refine (specAlternatingWord i j n _).mono ?_
      intro e q8 r
      obtain ⟨vT2, rfl, oT2, h⟩ := r.out
      clear r
      have oT' := oT.keep h
      replace bT := below_trans bT h
      have hal := altL_length i j n
      clear h
      go_wp2_with fail
      refine (lawSameInts _ _ (altL i j n) (altL i j n) (by omega) _ oT'.read oT2.read).mono ?_
      rintro e q9 ⟨rfl, h⟩
      replace bT := below_trans bT h
      simp only [eqI_refl]
      go_wp2_with fail
      go_ret
      exact ⟨rfl, bT⟩
  | false =>
    clear hw hX hI HP2
    go_wp2_with fail
    refine (drawCompareWords a0 c0 z0 s0 _ (w0.keep bT)).mono ?_
    rintro e y1 ⟨va, A, vb, B, rfl, hA, hAl, hB, hBl, h⟩
    replace hU := hU.keep h
    replace bT := below_trans bT h
    clear h
    have HA := Lib.hid hA
    have HB := Lib.hid hB
    obtain ⟨gA, oA, cA, rfl, _, _, _⟩ := hA.form
    obtain ⟨gB, oB, cB, rfl, _, _, _⟩ := hB.form
    have hA := HA.out
    have hB := HB.out
    clear HA HB
    go_wp2_with fail
    refine (implCompareWords _ _ A B (by omega) (by omega) _ hA hB).mono ?_
    rintro e y2 ⟨rfl, h⟩
    replace hU := hU.keep h
    replace hA := hA.keep h
    replace hB := hB.keep h
    replace bT := below_trans bT h
    clear h
    go_wp2_with fail
    refine (drawParseWord a0 c0 z0 s0 _ (w0.keep bT)).mono ?_
    rintro e y3 ⟨vd, D, t, rfl, hD, hDs, ht, h⟩
    replace hU := hU.keep h
    replace hA := hA.keep h
    replace hB := hB.keep h
    replace bT := below_trans bT h
    clear h
    obtain ⟨gD, oD, cD, rfl, _, _, _⟩ := hD.form
    have hD5 := hDs.2.1
    clear hDs
    go_wp2_with fail
    refine (implParseWord _ D t (by omega) (by omega) _ hD).mono ?_
    intro e y4 r
    obtain ⟨v5, rfl, o5, h⟩ := r.out
    clear r o5
    replace hD := hD.keep h
    replace hU := hU.keep h
    replace hA := hA.keep h
    replace hB := hB.keep h
    replace bT := below_trans bT h
    clear h
    go_wp2_with fail
    refine (specParseWord _ D t (by omega) (by omega) _ hD).mono ?_
    intro e y5 r
    obtain ⟨v6, rfl, o6, h⟩ := r.out
    clear r o6 hD
    replace hU := hU.keep h
    replace hA := hA.keep h
    replace hB := hB.keep h
    replace bT := below_trans bT h
    clear h
    go_wp2_with fail
    refine (drawAlternatingWord a0 c0 z0 s0 _ (w0.keep bT)).mono ?_
    rintro e y6 ⟨i, j, n, rfl, h⟩
    replace hU := hU.keep h
    replace hA := hA.keep h
    replace hB := hB.keep h
    replace bT := below_trans bT h
    clear h
    have f1 := cmpL_anti A B
    have f2 := cmpL_bd A B
    have f3 := cmpL_eq A B
    have f4 : (cmpL A B == -cmpL B A) = true := by rw [beq_iff_eq]; exact f1
    clear f1
    have f5 := cmpL_bd B A
    go_wp2_with fail
    refine (specCompareWords _ _ A B (by omega) (by omega) _ hA hB).mono ?_
    rintro e y7 ⟨rfl, h⟩
    replace hU := hU.keep h
    replace hA := hA.keep h
    replace hB := hB.keep h
    replace bT := below_trans bT h
    clear h
    go_wp2_with fail
    refine (implCompareWords _ _ B A (by omega) (by omega) _ hB hA).mono ?_
    rintro e y8 ⟨rfl, h⟩
    replace hU := hU.keep h
    replace hA := hA.keep h
    replace hB := hB.keep h
    replace bT := below_trans bT h
    clear h
    go_wp2_with fail
    refine (implEqualWords _ _ A B (by omega) (by omega) _ hA hB).mono ?_
    rintro e y9 ⟨rfl, h⟩
    replace hU := hU.keep h
    replace hA := hA.keep h
    replace hB := hB.keep h
    replace bT := below_trans bT h
    clear h
    go_wp2_with fail
    refine (implConcatWords _ _ A B (by omega) (by omega) _ hA hB).mono ?_
    intro e y10 r
    obtain ⟨vC, rfl, oC, h⟩ := r.out
    clear r
    replace hU := hU.keep h
    replace hA := hA.keep h
    replace hB := hB.keep h
    replace bT := below_trans bT h
    clear h
    rcases oC with ⟨rfl, hnil⟩ | oC
    · skip
      have hbn := below_new y10 (.cells #[] 3)
      have HCA := Lib.hid (fun i (hi : i < A.length) => show y10.cell? ⟨gA, oA + i, none⟩ = some (.int .i64 A[i]) from by
        obtain ⟨g, o, cap, he, _, _, hc⟩ := hA.form
        simp only [Value.slice.injEq, Option.some.injEq, Addr.mk.injEq, and_true, true_and] at he
        obtain ⟨⟨rfl, rfl⟩, rfl⟩ := he
        exact hc i hi)
      have HCB := Lib.hid (fun i (hi : i < B.length) => show y10.cell? ⟨gB, oB + i, none⟩ = some (.int .i64 B[i]) from by
        obtain ⟨g, o, cap, he, _, _, hc⟩ := hB.form
        simp only [Value.slice.injEq, Option.some.injEq, Addr.mk.injEq, and_true, true_and] at he
        obtain ⟨⟨rfl, rfl⟩, rfl⟩ := he
        exact hc i hi)
      go_wp2_with (first
        | (at_builtin; refine wpList_appendG elemInt _ (by rfl) _ _ rfl y10.heap.size (.slice (some ⟨y10.heap.size, 0, none⟩) 0 0) 0 [] rfl (rowV_empty y10 _) (ivs A) gA oA A.length cA rfl (ivs_length A) (cells_after HCA.out hbn) (ivs_one A) (by omega) hbn.size ?_; intro gP capP wP hrowP hgrowP hbP; have hrP : RowV wP y10.heap.size 3 (.slice (some ⟨gP, 0, none⟩) A.length capP) A.length (ivs A) := hrowP.cast (by rw [Nat.zero_add]) (Nat.zero_add _) (List.nil_append _))
        | (at_builtin; refine wpList_appendG elemInt _ (by rfl) _ _ rfl y10.heap.size (.slice (some ⟨gP, 0, none⟩) A.length capP) A.length (ivs A) rfl hrP (ivs B) gB oB B.length cB rfl (ivs_length B) (cells_after HCB.out (hbn.trans hbP)) (ivs_one B) (by omega) (Nat.le_trans hbn.size hbP.size) ?_; intro gQ capQ wQ hrowQ hgrowQ hbQ))
      have hrQ : RowV wQ y10.heap.size 3 (.slice (some ⟨gQ, 0, none⟩) (A.length + B.length) capQ) (A ++ B).length (ivs (A ++ B)) := hrowQ.cast rfl (by simp) (by rw [ivs_append])
      obtain ⟨gq, hgq, hownQ⟩ := hrQ.own
      have hcat : I wQ _ (A ++ B) := OwnV.read hownQ
      have h := (hbn.trans hbP).trans hbQ
      replace hU := hU.keep h
      replace hA := hA.keep h
      replace bT := below_trans bT h
      refine (sameNil _ _ (by have := hcat; rw [hnil] at this; exact this)).mono ?_
      rintro e q0 ⟨rfl, h5⟩
      replace hU := hU.keep h5
      replace hA := hA.keep h5
      replace bT := below_trans bT h5
      clear h5
      clear HCA HCB hrQ hrP hrowP hrowQ hgrowP hgrowQ hbP hbQ hbn hownQ hcat h
      go_wp2_with fail
      refine (implReverseWord _ A (by omega) _ hA).mono ?_
      intro e q1 r
      obtain ⟨vR, rfl, oR, h⟩ := r.out
      clear r
      replace hU := hU.keep h
      replace hA := hA.keep h
      replace bT := below_trans bT h
      clear h
      go_wp2_with fail
      refine (implReverseWord _ A.reverse (by simp; omega) _ oR.read).mono ?_
      intro e q2 r
      obtain ⟨vR2, rfl, oR2, h⟩ := r.out
      clear r oR
      replace hU := hU.keep h
      replace hA := hA.keep h
      replace bT := below_trans bT h
      clear h
      rw [List.reverse_reverse] at oR2
      go_wp2_with fail
      refine (lawSameInts _ _ A A (by omega) _ oR2.read hA).mono ?_
      rintro e q3 ⟨rfl, h⟩
      replace hU := hU.keep h
      replace bT := below_trans bT h
      clear h oR2
      simp only [eqI_refl]
      go_wp2_with fail
      refine (implSupportOf _ o (by omega) _ hU).mono ?_
      intro e q4 r
      obtain ⟨vS, rfl, oS, h⟩ := r.out
      clear r
      replace hU := hU.keep h
      replace bT := below_trans bT h
      clear h
      go_wp2_with fail
      refine (specSupportOf _ o (by omega) _ hU).mono ?_
      intro e q5 r
      obtain ⟨vS2, rfl, oS2, h⟩ := r.out
      clear r
      have oS' := oS.keep h
      replace bT := below_trans bT h
      have hsl := supL_len o
      clear h
      go_wp2_with fail
      refine (lawSameInts _ _ (supL o) (supL o) (by omega) _ oS'.read oS2.read).mono ?_
      rintro e q6 ⟨rfl, h⟩
      replace bT := below_trans bT h
      clear h oS oS' oS2 hU hA hB
      simp only [eqI_refl]
      go_wp2_with fail
      refine (implAlternatingWord i j n _).mono ?_
      intro e q7 r
      obtain ⟨vT, rfl, oT, h⟩ := r.out
      clear r
      replace bT := below_trans bT h
      clear h
      go_wp2_with fail
      refine (specAlternatingWord i j n _).mono ?_
      intro e q8 r
      obtain ⟨vT2, rfl, oT2, h⟩ := r.out
      clear r
      have oT' := oT.keep h
      replace bT := below_trans bT h
      have hal := altL_length i j n
      clear h
      go_wp2_with fail
      refine (lawSameInts _ _ (altL i j n) (altL i j n) (by omega) _ oT'.read oT2.read).mono ?_
      rintro e q9 ⟨rfl, h⟩
      replace bT := below_trans bT h
      simp only [eqI_refl]
      go_wp2_with fail
      go_ret
      exact ⟨rfl, bT⟩
    · have hC := oC.read
      obtain ⟨gC, pC, cC, rfl, _, _, _⟩ := hC.form
      have hbn := below_new y10 (.cells #[] 3)
      have HCA := Lib.hid (fun i (hi : i < A.length) => show y10.cell? ⟨gA, oA + i, none⟩ = some (.int .i64 A[i]) from by
        obtain ⟨g, o, cap, he, _, _, hc⟩ := hA.form
        simp only [Value.slice.injEq, Option.some.injEq, Addr.mk.injEq, and_true, true_and] at he
        obtain ⟨⟨rfl, rfl⟩, rfl⟩ := he
        exact hc i hi)
      have HCB := Lib.hid (fun i (hi : i < B.length) => show y10.cell? ⟨gB, oB + i, none⟩ = some (.int .i64 B[i]) from by
        obtain ⟨g, o, cap, he, _, _, hc⟩ := hB.form
        simp only [Value.slice.injEq, Option.some.injEq, Addr.mk.injEq, and_true, true_and] at he
        obtain ⟨⟨rfl, rfl⟩, rfl⟩ := he
        exact hc i hi)
      go_wp2_with (first
        | (at_builtin; refine wpList_appendG elemInt _ (by rfl) _ _ rfl y10.heap.size (.slice (some ⟨y10.heap.size, 0, none⟩) 0 0) 0 [] rfl (rowV_empty y10 _) (ivs A) gA oA A.length cA rfl (ivs_length A) (cells_after HCA.out hbn) (ivs_one A) (by omega) hbn.size ?_; intro gP capP wP hrowP hgrowP hbP; have hrP : RowV wP y10.heap.size 3 (.slice (some ⟨gP, 0, none⟩) A.length capP) A.length (ivs A) := hrowP.cast (by rw [Nat.zero_add]) (Nat.zero_add _) (List.nil_append _))
        | (at_builtin; refine wpList_appendG elemInt _ (by rfl) _ _ rfl y10.heap.size (.slice (some ⟨gP, 0, none⟩) A.length capP) A.length (ivs A) rfl hrP (ivs B) gB oB B.length cB rfl (ivs_length B) (cells_after HCB.out (hbn.trans hbP)) (ivs_one B) (by omega) (Nat.le_trans hbn.size hbP.size) ?_; intro gQ capQ wQ hrowQ hgrowQ hbQ))
      have hrQ : RowV wQ y10.heap.size 3 (.slice (some ⟨gQ, 0, none⟩) (A.length + B.length) capQ) (A ++ B).length (ivs (A ++ B)) := hrowQ.cast rfl (by simp) (by rw [ivs_append])
      obtain ⟨gq, hgq, hownQ⟩ := hrQ.own
      have hcat : I wQ _ (A ++ B) := OwnV.read hownQ
      have h := (hbn.trans hbP).trans hbQ
      replace hU := hU.keep h
      replace hA := hA.keep h
      replace bT := below_trans bT h
      have hCk : I wQ (.slice (some ⟨gC, pC, none⟩) (A.length + B.length) cC) (A ++ B) := by rw [← List.length_append]; exact hC.keep h
      refine (lawSameInts _ _ (A ++ B) (A ++ B) (by simp; omega) _ hCk hcat).mono ?_
      rintro e q0 ⟨rfl, h5⟩
      replace hU := hU.keep h5
      replace hA := hA.keep h5
      replace bT := below_trans bT h5
      clear h5 hCk
      simp only [eqI_refl]
      clear HCA HCB hrQ hrP hrowP hrowQ hgrowP hgrowQ hbP hbQ hbn hownQ hcat h
      go_wp2_with fail
      refine (implReverseWord _ A (by omega) _ hA).mono ?_
      intro e q1 r
      obtain ⟨vR, rfl, oR, h⟩ := r.out
      clear r
      replace hU := hU.keep h
      replace hA := hA.keep h
      replace bT := below_trans bT h
      clear h
      go_wp2_with fail
      refine (implReverseWord _ A.reverse (by simp; omega) _ oR.read).mono ?_
      intro e q2 r
      obtain ⟨vR2, rfl, oR2, h⟩ := r.out
      clear r oR
      replace hU := hU.keep h
      replace hA := hA.keep h
      replace bT := below_trans bT h
      clear h
      rw [List.reverse_reverse] at oR2
      go_wp2_with fail
      refine (lawSameInts _ _ A A (by omega) _ oR2.read hA).mono ?_
      rintro e q3 ⟨rfl, h⟩
      replace hU := hU.keep h
      replace bT := below_trans bT h
      clear h oR2
      simp only [eqI_refl]
      go_wp2_with fail
      refine (implSupportOf _ o (by omega) _ hU).mono ?_
      intro e q4 r
      obtain ⟨vS, rfl, oS, h⟩ := r.out
      clear r
      replace hU := hU.keep h
      replace bT := below_trans bT h
      clear h
      go_wp2_with fail
      refine (specSupportOf _ o (by omega) _ hU).mono ?_
      intro e q5 r
      obtain ⟨vS2, rfl, oS2, h⟩ := r.out
      clear r
      have oS' := oS.keep h
      replace bT := below_trans bT h
      have hsl := supL_len o
      clear h
      go_wp2_with fail
      refine (lawSameInts _ _ (supL o) (supL o) (by omega) _ oS'.read oS2.read).mono ?_
      rintro e q6 ⟨rfl, h⟩
      replace bT := below_trans bT h
      clear h oS oS' oS2 hU hA hB
      simp only [eqI_refl]
      go_wp2_with fail
      refine (implAlternatingWord i j n _).mono ?_
      intro e q7 r
      obtain ⟨vT, rfl, oT, h⟩ := r.out
      clear r
      replace bT := below_trans bT h
      clear h
      go_wp2_with fail
      refine (specAlternatingWord i j n _).mono ?_
      intro e q8 r
      obtain ⟨vT2, rfl, oT2, h⟩ := r.out
      clear r
      have oT' := oT.keep h
      replace bT := below_trans bT h
      have hal := altL_length i j n
      clear h
      go_wp2_with fail
      refine (lawSameInts _ _ (altL i j n) (altL i j n) (by omega) _ oT'.read oT2.read).mono ?_
      rintro e q9 ⟨rfl, h⟩
      replace bT := below_trans bT h
      simp only [eqI_refl]
      go_wp2_with fail
      go_ret
      exact ⟨rfl, bT⟩

theorem own : ownKnob Try.prog.godebug = none := by kernel_rfl
theorem laidOut : laidOutB Try.prog = true := by kernel_rfl
set_option maxRecDepth 100000 in
theorem lifted (os : Os) (started : os.Started) (H : Type) (enc : TypeId × Value → H) :
    ReturnsInHanded {} Try.checked os 9 .any (Rows.fnWordsSpec.pre6 enc Try.prog Try.f9 Rows.fnWordsRow.domain false) (Rows.fnWordsSpec.post enc Try.prog Try.f9 false true false false) := by
  refine returnsInHanded_of_change (C := Try.checked) own started (by kernel_rfl) Try.func9
    (ChangeSpec.witness6 (enc := enc) (C := Try.checked) false ⟨#[], #[.slice none 0 0], []⟩ 8 (by kernel_rfl) (by kernel_rfl) (by kernel_rfl) (by kernel_rfl)) ?_
  intro W base args ds gs before hval0 hW hcnd _
  have hval : ∀ (j : Nat) t v, Try.f9.params[j]? = some t → args[j]? = some v → Value.okWide Try.prog W .any base t v := hval0
  have hW' := hW
  obtain ⟨p, q, hA0, hV, rfl, hfz, hnd⟩ := hW
  have hA : DataW.TrodAll enc Try.prog W 0 (fun _ => true) true Try.f9.params.toList args.toList ds p := hA0
  rw [Try.params9] at hA hval
  obtain ⟨v0, vs0, d0, ds0, p0, q0, hargs, rfl, rfl, h0, r0⟩ := trodAll_cons hA
  obtain ⟨rfl, rfl, rfl⟩ := trodAll_nil r0
  obtain rfl : args = #[v0] := by cases args; simp_all
  obtain ⟨rfl, rfl⟩ := trodVars_none hV
  obtain ⟨a0, len0, cap0, rfl⟩ := okWide_slice Try.underlying35 (hval 0 35 v0 rfl rfl)
  have k0 := h0
  have lt0 : ∀ x ∈ p0, x.block < W.heap.size := by obtain ⟨m, hm⟩ := k0; exact DataW.trod_lt m _ _ _ hm
  obtain ⟨z0, rfl, w0⟩ : ∃ zs : List Int, len0 = zs.length ∧ ArgB W a0 cap0 zs := by
    obtain ⟨fuel, hf⟩ := h0
    rcases open_ints Try.underlying35 Try.underlying5 (by kernel_rfl) hf with ⟨hcs, _⟩ | ⟨x, l, c, zs, hcs, _, hl, hm, hz, _, hcell, hwz⟩
    · simp [Value.cells] at hcs
      obtain ⟨rfl, rfl, rfl⟩ := hcs
      exact ⟨[], rfl, argB_nil W⟩
    · simp [Value.cells] at hcs
      obtain ⟨rfl, rfl, rfl⟩ := hcs
      exact ⟨_, argB_some hl hm (by simpa using hz) hcell hwz⟩
  clear hA0 hval0
  refine (walk W a0 cap0 z0 w0).mono fun e W' ⟨he, bel⟩ => ?_
  subst he
  exact ⟨_, rfl, _, _, _, [], _, [], hW', trodAll_mk1 (shut_bool Try.underlying4 _), (trodAll_cons_mk (Below.trod laidOut (by kernel_rfl) (of_decide_eq_true (by kernel_rfl)) k0 bel lt0) trodAll_mk0), rfl, bel.frame _, fun h => by cases h⟩

theorem over : Rows.fnWordsRow.holds Try.pinned (OpenSpec.ofChange Rows.fnWordsSpec) :=
  OpenClaim.holds_of_wide 9 Try.f9 rfl rfl rfl rfl rfl rfl rfl ⟨rfl, rfl, rfl, rfl, rfl⟩ rfl rfl rfl rfl rfl (by kernel_rfl) Try.func9 (by kernel_rfl)
    (of_decide_eq_true (by kernel_rfl)) (by unfold Func.isWrapper; first | (rw [if_pos (by decide +kernel)]; kernel_rfl) | (rw [if_neg (by decide +kernel)]; exact ⟨rfl, rfl⟩))
    (fun os started H enc _ => lifted os started H enc)

theorem proved : Rows.FnWordsSaid := over
#print axioms proved
end Go.Proofs.Ytgappocmdbaahaa.lawWords
