/- The law FnFinite: a matrix is of finite type exactly if all principal minors are positive, exactly then each of its parts has a name of finite type, and a witness is given otherwise. -/
import Derived.Test.YtaikjkcbgniplaaGreatDoorDrawX
import Derived.Test.YtaikjkcbgniplaaGreatDoorSame
import Derived.Test.YtaikjkcbgniplaaGreatDoorDia
import Derived.Test.YtaikjkcbgniplaaGreatDoorTr
import Derived.Test.YtaikjkcbgniplaaGreatDoorSize
import Derived.Test.YtaikjkcbgniplaaGreatDoorShp
import Derived.Test.YtaikjkcbgniplaaGreatDoorTie
import Derived.Test.YtaikjkcbgniplaaGreatDoorCards
import Derived.LaidMore
import Derived.Stop.Joined
import Derived.Stop.LaidErr
import Derived.SevenTiedAt
import Derived.Lib.LaidTab
import Derived.Lay
namespace Go.Proofs.YtaikjkcbgniplaaGreatDoor.lawFin
def laidD : List (String × DataW Unit) := [("unicode/utf8.acceptRanges", Rows.laid_unicode_utf8_acceptRanges), ("unicode/utf8.first", Rows.laid_unicode_utf8_first)]
open Go.ChangeShapes Go.WideShapes Go.ChangeAt Go.RowKit
open Go.ChangeMaps (open_string shut_string)
set_option linter.unusedVariables false

theorem rhoN_t {c : List (List Int)} (h : isC c = true) : rhoN c = c.length := by rw [rhoN, if_pos h]
theorem colN_t {c : List (List Int)} (h : isC c = true) (k : Nat) (hk : k < c.length) : colN c (k : Int) = c.length := by
  have : isPt c.length (k : Int) = true := (isPt_iff _ _).2 ⟨by omega, by omega⟩
  rw [colN, h, this]; rfl
theorem ent_tr {c : List (List Int)} (h : isC c = true) {i j : Nat} (hi : i < c.length) (hj : j < c.length) : ent (trL c) i j = ent c j i := by
  have e1 : (trL c).getD i [] = colL c (i : Int) := by simp [trL, rhoN_t h, hi]
  rw [ent, e1, colL, colN_t h i hi]
  simp [hj]
theorem tr_len {c : List (List Int)} (h : isC c = true) : (trL c).length = c.length := by rw [trL_length, rhoN_t h]
theorem tr_isC {c : List (List Int)} (h : isC c = true) : isC (trL c) = true := by
  obtain ⟨h1, h2, h3, h4⟩ := (isC_iff c).1 h
  rw [isC_iff]
  refine ⟨by rw [tr_len h]; exact h1, by rw [tr_len h]; exact h2, fun r hr => ?_, ?_⟩
  · rw [tr_len h]
    rw [trL, List.mem_map] at hr
    obtain ⟨k, hk, rfl⟩ := hr
    rw [List.mem_range, rhoN_t h] at hk
    rw [colL, List.length_map, List.length_range, colN_t h k hk]
  · rw [tr_len h]
    intro i hi j hj
    have := h4 i hi j hj
    have b := h4 j hj i hi
    rw [OkE] at this b ⊢
    rw [ent_tr h hi hj, ent_tr h hj hi]
    by_cases e : i = j
    · subst e; exact this
    · rw [if_neg (Ne.symm e)] at b
      rw [if_neg e]
      exact ⟨b.1, b.2.1, b.2.2⟩
theorem tr_fin {c : List (List Int)} (h : isC c = true) : finB (trL c) = finB c := by
  have hT := tr_isC h
  rw [Bool.eq_iff_iff, fin_posA hT, fin_posA h, tr_len h]
  constructor
  · intro hp
    exact hp.flip (fun i j hi hj => (ent_tr h hj hi).symm)
  · intro hp
    exact hp.flip (fun i j hi hj => ent_tr h hi hj)
def posL (l : List Int) : Bool := l.all fun x => decide (0 < x)
theorem posL_snoc (l : List Int) (k : Nat) (h : k < l.length) : posL (l.take (k + 1)) = (posL (l.take k) && decide (0 < l[k])) := by
  rw [posL, List.take_succ_eq_append_getElem h, List.all_append]; simp [posL]
theorem pos_fin {c : List (List Int)} (h : isC c = true) : posL (pmL c) = finB c := by
  rw [Bool.eq_iff_iff, finB_iff h, posL, pmL, if_pos h, pmS, List.all_eq_true]
  constructor
  · intro H u hu
    exact of_decide_eq_true (H _ (List.mem_map_of_mem hu))
  · intro H x hx
    obtain ⟨u, hu, rfl⟩ := List.mem_map.1 hx
    exact decide_eq_true (H u hu)
theorem wit_fin {c : List (List Int)} (h : isC c = true) : (((witL c).length : Int) == 0) = finB c := by
  rw [fin_len, finB, h, Bool.true_and]
theorem name_fin {c : List (List Int)} (h : isC c = true) : decide (0 < sizeN (nameL c)) = finB c := by
  rw [Bool.eq_iff_iff, decide_eq_true_iff, named_iff h]
theorem name_len (c : List (List Int)) : (nameL c).length ≤ 100 := by
  have hl : (nlOf c).length ≤ 4 := by
    rw [nlOf_len]
    cases hC : isC c with
    | true => exact (partsL_good hC).1
    | false => rw [parts_nil hC]; simp
  have := join_len (nlOf c) 120 3 (nlOf_short c)
  unfold nameL
  omega
theorem facts {W : World} (h : laidMet Tryz.prog laidD W) (hS : W.ShapedOpen Tryz.prog) : MaxIs W := maxIs hS
set_option maxHeartbeats 4000000 in
set_option maxRecDepth 100000 in
theorem walk (W : World) (a0 : Option Addr) (c0 : Nat) (z0 : List Int) (w0 : ArgB W a0 c0 z0) (hL : laidMet Tryz.prog laidD W) (hS : W.ShapedOpen Tryz.prog) :
    Calls Tryz.prog 4 #[.slice a0 z0.length c0] W fun e w' => e = .returned (.bool true) ∧ Below W.heap.size W w' := by
  have HT := Lib.hid (facts hL hS)
  clear hL hS
  by_cases s0 : z0.length ≤ 1048576
  rotate_left
  · go_enter Tryz.func4, Tryz.ntmps4
    go_wp2_with fail
    refine (lawBig a0 c0 z0 true (decide_eq_true (by omega)) _).mono ?_
    rintro e w1 ⟨rfl, rfl⟩
    go_wp2_with fail
    go_ret
    exact ⟨rfl, Below.refl _ _⟩
  go_enter Tryz.func4, Tryz.ntmps4
  go_wp2_with fail
  refine (lawBig a0 c0 z0 false (decide_eq_false (by omega)) _).mono ?_
  rintro e w1 ⟨rfl, rfl⟩
  go_wp2_with fail
  refine (drawWitnessOf a0 c0 z0 s0 _ w0).mono ?_
  rintro e x1 ⟨v, z, rfl, hI, hsh, bT⟩
  obtain ⟨g2, o2, c2, rfl, _, _, _⟩ := hI.form
  have hz := hsh.2.1
  clear hsh
  go_wp2_with fail
  refine (implWitnessOf _ z (by omega) _ hI).mono ?_
  intro e x2 r2
  obtain ⟨v2, rfl, oW, h2⟩ := r2.out
  clear r2
  replace hI := hI.keep h2
  replace bT := below_trans bT h2
  have hW := oW.read
  clear oW
  obtain ⟨gW, pW, cW, rfl, _, _, _⟩ := hW.form
  go_wp2_with fail
  refine (implPrincipalMinors _ z (by omega) _ hI).mono ?_
  intro e x3 r3
  obtain ⟨v3, rfl, oM, h3⟩ := r3.out
  clear r3
  replace hI := hI.keep h3
  replace hW := hW.keep h3
  replace bT := below_trans bT h3
  have hM := oM.read
  clear oM
  obtain ⟨gM, pM, cM, rfl, _, _, _⟩ := hM.form
  have hwl := witL_len z
  have hml := pmL_len z
  go_wp2_with fail
  refine (specWitnessOf _ z (by omega) _ hI).mono ?_
  intro e x4 r4
  obtain ⟨v4, rfl, oV, h4⟩ := r4.out
  clear r4
  replace hI := hI.keep h4
  replace hW := hW.keep h4
  replace hM := hM.keep h4
  replace bT := below_trans bT h4
  go_wp2_with fail
  refine (lawSameInts _ _ (witL z) (witL z) (by omega) _ hW oV.read).mono ?_
  rintro e x5 ⟨rfl, h5⟩
  replace hI := hI.keep h5
  replace hW := hW.keep h5
  replace hM := hM.keep h5
  replace bT := below_trans bT h5
  clear oV
  simp only [eqI_refl]
  go_wp2_with fail
  refine (specPrincipalMinors _ z (by omega) _ hI).mono ?_
  intro e x6 r6
  obtain ⟨v6, rfl, oV, h6⟩ := r6.out
  clear r6
  replace hI := hI.keep h6
  replace hW := hW.keep h6
  replace hM := hM.keep h6
  replace bT := below_trans bT h6
  go_wp2_with fail
  refine (lawSameInts _ _ (pmL z) (pmL z) (by omega) _ hM oV.read).mono ?_
  rintro e x7 ⟨rfl, h7⟩
  replace hI := hI.keep h7
  replace hW := hW.keep h7
  replace hM := hM.keep h7
  replace bT := below_trans bT h7
  clear oV h2 h3 h4 h5 h6 h7
  simp only [eqI_refl]
  go_wp2_with fail
  refine (implDeterminantOf _ z (by omega) _ hI).mono ?_
  rintro e x8 ⟨rfl, h⟩
  replace hI := hI.keep h
  replace hW := hW.keep h
  replace hM := hM.keep h
  replace bT := below_trans bT h
  clear h
  go_wp2_with fail
  refine (specDeterminantOf _ z (by omega) _ hI).mono ?_
  rintro e x9 ⟨rfl, h⟩
  replace hI := hI.keep h
  replace hW := hW.keep h
  replace hM := hM.keep h
  replace bT := below_trans bT h
  clear h
  go_wp2_with fail
  refine (implIsFinite _ z (by omega) _ hI).mono ?_
  rintro e x10 ⟨rfl, h⟩
  replace hI := hI.keep h
  replace hW := hW.keep h
  replace hM := hM.keep h
  replace bT := below_trans bT h
  clear h
  go_wp2_with fail
  refine (specIsFinite _ z (by omega) _ hI).mono ?_
  rintro e x11 ⟨rfl, h⟩
  replace hI := hI.keep h
  replace hW := hW.keep h
  replace hM := hM.keep h
  replace bT := below_trans bT h
  clear h
  go_wp2_with fail
  refine (implIsAffine _ z (by omega) _ hI).mono ?_
  rintro e x12 ⟨rfl, h⟩
  replace hI := hI.keep h
  replace hW := hW.keep h
  replace hM := hM.keep h
  replace bT := below_trans bT h
  clear h
  go_wp2_with fail
  refine (specIsAffine _ z (by omega) _ hI).mono ?_
  rintro e x13 ⟨rfl, h⟩
  replace hI := hI.keep h
  replace hW := hW.keep h
  replace hM := hM.keep h
  replace bT := below_trans bT h
  clear h
  go_wp2_with fail
  refine (implNameOf _ z (by omega) _ hI (HT.out.keep bT)).mono ?_
  rintro e x14 ⟨rfl, h⟩
  replace hI := hI.keep h
  replace hW := hW.keep h
  replace hM := hM.keep h
  replace bT := below_trans bT h
  clear h
  go_wp2_with fail
  refine (specNameOf _ z (by omega) _ hI).mono ?_
  rintro e x15 ⟨rfl, h⟩
  replace hI := hI.keep h
  replace hW := hW.keep h
  replace hM := hM.keep h
  replace bT := below_trans bT h
  clear h
  go_wp2_with fail
  refine (specIsCartan _ z (by omega) _ hI).mono ?_
  rintro e x16 ⟨rfl, h⟩
  replace hI := hI.keep h
  replace hW := hW.keep h
  replace hM := hM.keep h
  replace bT := below_trans bT h
  clear h
  cases hC : isC z with
  | false =>
    clear hC hI hW hM
    go_wp2_with fail
    refine (drawNameOfPart a0 c0 z0 s0 _ (w0.keep bT)).mono ?_
    rintro e y1 ⟨u, d, rfl, hD, hsd, k1⟩
    obtain ⟨g7, o7, c7, rfl, _, _, _⟩ := hD.form
    have hd5 := hsd.2.1
    clear hsd
    replace bT := below_trans bT k1
    go_wp2_with fail
    refine (drawSizeByName a0 c0 z0 s0 _ (w0.keep bT)).mono ?_
    rintro e y2 ⟨s, rfl, hs, k2⟩
    replace hD := hD.keep k2
    replace bT := below_trans bT k2
    go_wp2_with fail
    refine (implNameOfPart _ d (by omega) _ hD (HT.out.keep bT)).mono ?_
    rintro e y3 ⟨rfl, k3⟩
    replace hD := hD.keep k3
    replace bT := below_trans bT k3
    go_wp2_with fail
    refine (specNameOfPart _ d (by omega) _ hD).mono ?_
    rintro e y4 ⟨rfl, k4⟩
    replace bT := below_trans bT k4
    clear hD
    go_wp2_with fail
    refine (implSizeByName s (by omega) _ (HT.out.keep bT)).mono ?_
    rintro e y5 ⟨rfl, k5⟩
    replace bT := below_trans bT k5
    go_wp2_with fail
    refine (specSizeByName s (by omega) _).mono ?_
    rintro e y6 ⟨rfl, k6⟩
    replace bT := below_trans bT k6
    go_wp2_with fail
    go_ret
    exact ⟨rfl, bT⟩
  | true =>
    have E1 := Lib.hid (wit_fin hC)
    have E2 := Lib.hid (name_fin hC)
    have E3 := Lib.hid (pos_fin hC)
    have E4 := Lib.hid (tr_fin hC)
    obtain ⟨b, hb⟩ : ∃ b, finB z = b := ⟨_, rfl⟩
    rw [hb] at E1 E2 E3 E4
    have HB := Lib.hid hb
    clear hb hC
    obtain ⟨m, hm⟩ : ∃ m, pmL z = m := ⟨_, rfl⟩
    rw [hm] at hM hml E3
    have HM := Lib.hid hM
    have HI := Lib.hid hI
    have HW := Lib.hid hW
    have BT := Lib.hid bT
    have HMC := Lib.hid (fun i (hi : i < m.length) => show x16.cell? ⟨gM, pM + i, none⟩ = some (.int .i64 m[i]) from by
      obtain ⟨g, o, cap, he, _, _, hc⟩ := HM.out.form
      simp only [Value.slice.injEq, Option.some.injEq, Addr.mk.injEq, and_true, true_and] at he
      obtain ⟨⟨rfl, rfl⟩, rfl⟩ := he
      exact hc i hi)
    rw [hm]
    clear hM hI hW bT hm HM
    go_wp2_with fail
    go_loopw [6, 7] (fun p i wr => ∃ k : Nat, k ≤ m.length ∧ i = .int .i64 k ∧ p = .bool (posL (m.take k)) ∧ Below x16.heap.size x16 wr) (fun _ i _ => m.length - (intOf i).toNat)
    case atStart => exact ⟨0, by omega, rfl, by simp [posL], Below.refl _ _⟩
    case round =>
      obtain ⟨k, hk, rfl, rfl, hbel⟩ := hrel
      by_cases hlt : k < m.length
      · have HS := Lib.hid (posL_snoc m k hlt)
        cases hp : posL (m.take k) with
        | true =>
          rw [hp] at HS
          have y1 := (hbel.cell (World.block_lt_of_cell? x16 _ (HMC.out k hlt))).trans (HMC.out k hlt)
          have hk0 : (0 : Int) ≤ (k : Int) := by omega
          have hk1 : (k : Int) < (m.length : Int) := by omega
          obtain ⟨x, hx⟩ : ∃ x, m[k] = x := ⟨_, rfl⟩
          rw [hx] at y1 HS
          clear hx hp
          go_wp2_with fail
          go_roundw
          case rel => exact ⟨k + 1, by omega, by go_num, by rw [HS.out]; rfl, hbel⟩
          case measure => simp [intOf]; omega
        | false =>
          rw [hp] at HS
          clear hp
          go_wp2_with fail
          go_roundw
          case rel => exact ⟨k + 1, by omega, by go_num, by rw [HS.out]; rfl, hbel⟩
          case measure => simp [intOf]; omega
      · obtain rfl : k = m.length := by omega
        rw [List.take_length, E3.out]
        have bT := below_trans BT.out hbel
        have hI := HI.out.keep hbel
        have hNL := name_len z
        go_wp2_with fail
        refine (implNameOf _ z (by omega) _ hI (HT.out.keep bT)).mono ?_
        rintro e y1 ⟨rfl, h⟩
        replace hI := hI.keep h
        replace bT := below_trans bT h
        clear h
        go_wp2_with fail
        refine (implSizeByName ⟨(nameL z).toArray⟩ (show (nameL z).length ≤ 1048576 by omega) _ (HT.out.keep bT)).mono ?_
        rintro e y2 ⟨rfl, h⟩
        replace hI := hI.keep h
        replace bT := below_trans bT h
        clear h
        have ES : (⟨(nameL z).toArray⟩ : ByteArray).data.toList = nameL z := by simp
        rw [ES]
        have e2 := E2.out
        have e1 := E1.out
        go_wp2_with fail
        refine (implIsFinite _ z (by omega) _ hI).mono ?_
        rintro e y3 ⟨rfl, h⟩
        rw [HB.out]
        replace hI := hI.keep h
        replace bT := below_trans bT h
        clear h
        go_wp2_with fail
        refine (specTransposeCartan _ z (by omega) _ hI).mono ?_
        intro e y4 r
        obtain ⟨vT, rfl, oT, h⟩ := r.out
        clear r
        replace bT := below_trans bT h
        clear h
        have htl := trL_ints z
        go_wp2_with fail
        refine (implIsFinite _ (trL z) (by unfold total at htl; omega) _ oT.read).mono ?_
        rintro e y5 ⟨rfl, h⟩
        rw [E4.out]
        replace bT := below_trans bT h
        clear h oT hI htl e1 e2 ES hNL
        go_wp2_with fail
        refine (drawNameOfPart a0 c0 z0 s0 _ (w0.keep bT)).mono ?_
        rintro e y1 ⟨u, d, rfl, hD, hsd, k1⟩
        obtain ⟨g7, o7, c7, rfl, _, _, _⟩ := hD.form
        have hd5 := hsd.2.1
        clear hsd
        replace bT := below_trans bT k1
        go_wp2_with fail
        refine (drawSizeByName a0 c0 z0 s0 _ (w0.keep bT)).mono ?_
        rintro e y2 ⟨s, rfl, hs, k2⟩
        replace hD := hD.keep k2
        replace bT := below_trans bT k2
        go_wp2_with fail
        refine (implNameOfPart _ d (by omega) _ hD (HT.out.keep bT)).mono ?_
        rintro e y3 ⟨rfl, k3⟩
        replace hD := hD.keep k3
        replace bT := below_trans bT k3
        go_wp2_with fail
        refine (specNameOfPart _ d (by omega) _ hD).mono ?_
        rintro e y4 ⟨rfl, k4⟩
        replace bT := below_trans bT k4
        clear hD
        go_wp2_with fail
        refine (implSizeByName s (by omega) _ (HT.out.keep bT)).mono ?_
        rintro e y5 ⟨rfl, k5⟩
        replace bT := below_trans bT k5
        go_wp2_with fail
        refine (specSizeByName s (by omega) _).mono ?_
        rintro e y6 ⟨rfl, k6⟩
        replace bT := below_trans bT k6
        go_wp2_with fail
        go_ret
        exact ⟨rfl, bT⟩

theorem own : ownKnob Tryz.prog.godebug = none := by kernel_rfl
theorem laidOut : laidOutB Tryz.prog = true := by kernel_rfl
set_option maxRecDepth 100000 in
theorem lifted (os : Os) (started : os.Started) (H : Type) (enc : TypeId × Value → H) :
    ReturnsInHanded {} Tryz.checked os 4 .any (fun w args => (Rows.fnFiniteSpec.pre enc Tryz.prog Tryz.f4 [] false w args ∧ laidMetH Tryz.prog laidD w) ∧ sizedMet enc Tryz.prog Tryz.f4 (OpenSpec.ofChange Rows.fnFiniteSpec) false w args)
      (Rows.fnFiniteSpec.post enc Tryz.prog Tryz.f4 false true false false) := by
  refine changeAndShaped (C := Tryz.checked) (X := fun w _ => laidMetH Tryz.prog laidD w) (fun _ _ _ hh h => h.of_heap hh) own started (by kernel_rfl) Tryz.func4
    (ChangeSpec.witness_shaped (enc := enc) (C := Tryz.checked) (os := os) (X := fun w _ => laidMetH Tryz.prog laidD w) false (World.laidAll Tryz.prog os laidD) #[.slice none 0 0] 8 (World.laidAll_os _ _ _) (World.shaped_of_ZipB (by kernel_rfl) (by kernel_rfl)) (by kernel_rfl) (by kernel_rfl) (by kernel_rfl) (by rw [MakeChecks.laidMetH_plain _ _ _ (by kernel_rfl)]; exact laidMet_laidAll _ (by kernel_rfl) (by kernel_rfl))) ?_
  intro W base args ds gs before hval0 hW hL hS
  rw [MakeChecks.laidMetH_plain _ _ _ (by kernel_rfl)] at hL
  have hval : ∀ (j : Nat) t v, Tryz.f4.params[j]? = some t → args[j]? = some v → Value.okWide Tryz.prog W .any base t v := hval0
  have hW' := hW
  obtain ⟨p, q, hA0, hV, rfl, hfz, hnd⟩ := hW
  have hA : DataW.TrodAll enc Tryz.prog W 0 (fun _ => true) true Tryz.f4.params.toList args.toList ds p := hA0
  rw [Tryz.params4] at hA hval
  obtain ⟨v0, vs0, d0, ds0, p0, q0, hargs, rfl, rfl, h0, r0⟩ := trodAll_cons hA
  obtain ⟨rfl, rfl, rfl⟩ := trodAll_nil r0
  obtain rfl : args = #[v0] := by cases args; simp_all
  obtain ⟨rfl, rfl⟩ := trodVars_none hV
  obtain ⟨a0, len0, cap0, rfl⟩ := okWide_slice Tryz.underlying22 (hval 0 22 v0 rfl rfl)
  have k0 := h0
  have lt0 : ∀ x ∈ p0, x.block < W.heap.size := by obtain ⟨m, hm⟩ := k0; exact DataW.trod_lt m _ _ _ hm
  obtain ⟨z0, rfl, w0⟩ : ∃ zs : List Int, len0 = zs.length ∧ ArgB W a0 cap0 zs := by
    obtain ⟨fuel, hf⟩ := h0
    rcases open_ints Tryz.underlying22 Tryz.underlying5 (by kernel_rfl) hf with ⟨hcs, _⟩ | ⟨x, l, c, zs, hcs, _, hl, hm, hz, _, hcell, hwz⟩
    · simp [Value.cells] at hcs
      obtain ⟨rfl, rfl, rfl⟩ := hcs
      exact ⟨[], rfl, argB_nil W⟩
    · simp [Value.cells] at hcs
      obtain ⟨rfl, rfl, rfl⟩ := hcs
      exact ⟨_, argB_some hl hm (by simpa using hz) hcell hwz⟩
  clear hA0 hval0
  refine (walk W a0 cap0 z0 w0 hL hS).mono fun e W' ⟨he, bel⟩ => ?_
  subst he
  exact ⟨_, rfl, _, _, _, [], _, [], hW', trodAll_mk1 (shut_bool Tryz.underlying4 _), (trodAll_cons_mk (Below.trod laidOut (by kernel_rfl) (of_decide_eq_true (by kernel_rfl)) k0 bel lt0) trodAll_mk0), rfl, bel.frame _, fun h => by cases h⟩

theorem over : Rows.fnFiniteRow.holds Tryz.pinned (OpenSpec.ofChange Rows.fnFiniteSpec) :=
  OpenClaim.holds_of_wide 4 Tryz.f4 rfl rfl rfl rfl rfl rfl rfl ⟨rfl, rfl, rfl, rfl, rfl⟩ rfl rfl rfl rfl rfl (by kernel_rfl) Tryz.func4 (by kernel_rfl)
    (of_decide_eq_true (by kernel_rfl)) (by unfold Func.isWrapper; first | (rw [if_pos (by decide +kernel)]; kernel_rfl) | (rw [if_neg (by decide +kernel)]; exact ⟨rfl, rfl⟩))
    (fun os started H enc _ => lifted os started H enc)

theorem proved : Rows.FnFiniteCardSaid :=
  Claim7.holds_tied_plain_at .later [] [.data, .pinned] true (true, "286c404a3442d8073e429c246eecfafdca6e35af4207595feabd738080626f50") true
    over (fun _ h => by cases h) (by kernel_rfl) (fun _ h => by cases h) fnFinite_row_tie rfl ⟨rfl, rfl⟩ (by kernel_rfl) rfl
    (fun f fn hf hfn => by
      obtain rfl : f = 4 := Option.some.inj ((show Tryz.prog.funcNamed "loop.example/g02076/laws.FnFinite" = some 4 by kernel_rfl).symm.trans hf) |>.symm
      obtain rfl : fn = Tryz.f4 := (Option.some.inj (Tryz.func4.symm.trans hfn)).symm
      exact ⟨by kernel_rfl, fun j t ht => by
        rw [Tryz.params4] at ht
        have hm : t ∈ [22] := by simpa using Array.mem_of_getElem? ht
        have hall : ([22].all fun u => !Tryz.prog.wantsStandIn u) = true := by kernel_rfl
        exact (show Tryz.prog.wantsStandIn t = false by simpa using List.all_eq_true.1 hall t hm)⟩)
    (by kernel_rfl)
#print axioms proved
end Go.Proofs.YtaikjkcbgniplaaGreatDoor.lawFin
