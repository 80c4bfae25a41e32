/- The law FnDiagrams: parts, cycles and isomorphisms of diagrams are found, and the symmetries form a group. -/
import Derived.Test.YtaikjkcbgniplaaGreatDoorDrawD
import Derived.Test.YtaikjkcbgniplaaGreatDoorSame
import Derived.Test.YtaikjkcbgniplaaGreatDoorDia
import Derived.Test.YtaikjkcbgniplaaGreatDoorRelI
import Derived.Test.YtaikjkcbgniplaaGreatDoorCyc
import Derived.Test.YtaikjkcbgniplaaGreatDoorShp
import Derived.Test.YtaikjkcbgniplaaGreatDoorTie
import Derived.Test.YtaikjkcbgniplaaGreatDoorCards
import Derived.LaidMore
import Derived.Stop.Joined
import Derived.Stop.LaidErr
import Derived.SevenTiedAt
import Derived.Lib.LaidTab
import Derived.Lay
namespace Go.Proofs.YtaikjkcbgniplaaGreatDoor.lawDia
def laidD : List (String × DataW Unit) := [("unicode/utf8.acceptRanges", Rows.laid_unicode_utf8_acceptRanges), ("unicode/utf8.first", Rows.laid_unicode_utf8_first)]
open Go.ChangeShapes Go.WideShapes Go.ChangeAt Go.RowKit
open Go.ChangeMaps (open_string shut_string)
set_option linter.unusedVariables false

theorem iso_rel {a b : List (List Int)} (h : isoOk a b = true) : relOk a (isoR a b) = true ∧ relL a (isoR a b) = b := by
  obtain ⟨hA, hB, hlen, o, ho, hk, hR⟩ := iso_ex h
  have h4 := ((isC_iff a).1 hA).2.1
  have hO := lvl_ord (by omega) ho
  rw [hR]
  have hr := lvl_rel hA ho
  refine ⟨hr, ?_⟩
  rw [relL_t hr]
  refine eqII_true ?_
  rw [sub_eq (by rw [hO.len, hlen]) (isC_Sq hB)]
  exact hk
theorem iso_named {a b : List (List Int)} (h : isoOk a b = true) : (nameL a).isEmpty = false := by
  have hC := (iso_ex h).1
  cases hp : partsL a with
  | nil => exact absurd hp (parts_some hC)
  | cons p r =>
    have hm : p ∈ partsL a := by rw [hp]; simp
    have hne := nop_ne (part_con hC hm)
    rw [nameL, nlOf, hp, List.map_cons, Lib.join_cons]
    cases hx : nopL (subS a p) with
    | nil => exact absurd hx hne
    | cons y s => rfl
theorem sym_pts (c : List (List Int)) : ∃ n, n ≤ 4 ∧ ∀ o ∈ symL c, OrdOf n o := by
  cases hC : isC c with
  | false => exact ⟨0, by omega, fun o ho => by rw [symL, hC] at ho; simp at ho⟩
  | true =>
    have h4 := ((isC_iff c).1 hC).2.1
    refine ⟨c.length, h4, fun o ho => ?_⟩
    rw [symL, if_pos hC, symS, List.mem_filter] at ho
    exact lvl_ord (by omega) ho.1
theorem comp_snoc (o p : List Int) (m s : Nat) (t : Int) (hm : m < p.length) (hs : p[m] = (s : Int)) (ht : o.getD s 0 = t) : ivs ((compO o p).take (m + 1)) = ivs ((compO o p).take m) ++ [.int .i64 t] := by
  have hl : m < (compO o p).length := by simpa [compO] using hm
  rw [List.take_succ_eq_append_getElem hl, ivs_append]
  have : (compO o p)[m] = t := by simp only [compO, List.getElem_map, hs, Int.toNat_natCast]; exact ht
  rw [this]; rfl
theorem ints_leD (l : List (List Int)) (k : Nat) (h : ∀ o ∈ l, o.length ≤ k) : ints l ≤ l.length * k := by
  induction l with
  | nil => simp [ints]
  | cons a l ih =>
    rw [ints_cons, List.length_cons, Nat.succ_mul]
    have := ih (fun o ho => h o (List.mem_cons_of_mem _ ho))
    have := h a List.mem_cons_self
    omega
theorem sh_total {z : List (List Int)} (h : Sh z) : total z ≤ 25 := by
  have := ints_leD z 4 h.2.2
  have := h.2.1
  unfold total; omega
theorem facts {W : World} (h : laidMet Tryz.prog laidD W) (hS : W.ShapedOpen Tryz.prog) : MaxIs W := maxIs hS
set_option maxHeartbeats 8000000 in
set_option maxRecDepth 100000 in
theorem walk (W : World) (a0 : Option Addr) (c0 : Nat) (z0 : List Int) (w0 : ArgB W a0 c0 z0) (hL : laidMet Tryz.prog laidD W) (hS : W.ShapedOpen Tryz.prog) :
    Calls Tryz.prog 3 #[.slice a0 z0.length c0] W fun e w' => e = .returned (.bool true) ∧ Below W.heap.size W w' := by
  have HT := Lib.hid (facts hL hS)
  clear hL hS
  by_cases s0 : z0.length ≤ 1048576
  rotate_left
  · go_enter Tryz.func3, Tryz.ntmps3
    go_wp2_with fail
    refine (lawBig a0 c0 z0 true (decide_eq_true (by omega)) _).mono ?_
    rintro e w1 ⟨rfl, rfl⟩
    go_wp2_with fail
    go_ret
    exact ⟨rfl, Below.refl _ _⟩
  go_enter Tryz.func3, Tryz.ntmps3
  go_wp2_with fail
  refine (lawBig a0 c0 z0 false (decide_eq_false (by omega)) _).mono ?_
  rintro e w1 ⟨rfl, rfl⟩
  go_wp2_with fail
  refine (drawAreIsomorphic a0 c0 z0 s0 _ w0).mono ?_
  rintro e x0 ⟨va, A, vb, B, rfl, hA, hAs, hB, hBs, bT⟩
  have HA := Lib.hid hA
  have HB := Lib.hid hB
  obtain ⟨gA, oA, cA, rfl, _, _, _⟩ := hA.form
  obtain ⟨gB, oB, cB, rfl, _, _, _⟩ := hB.form
  have hA := HA.out
  have hB := HB.out
  have hA5 := hAs.2.1
  have hB5 := hBs.2.1
  have hBt := sh_total hBs
  clear HA HB hAs hBs
  go_wp2_with fail
  refine (implAreIsomorphic _ _ A B (by omega) (by omega) _ hA hB).mono ?_
  intro e x1 r
  obtain ⟨vx1, rfl, ox1, h⟩ := r.out
  clear r
  have hO := ox1.read
  clear ox1
  replace hA := hA.keep h
  replace hB := hB.keep h
  replace bT := below_trans bT h
  clear h
  obtain ⟨gx1, px1, cx1, rfl, _, _, _⟩ := hO.form
  go_wp2_with fail
  refine (specAreIsomorphic _ _ A B (by omega) (by omega) _ hA hB).mono ?_
  intro e x2 r
  obtain ⟨vx2, rfl, ox2, h⟩ := r.out
  clear r
  have hP := ox2.read
  clear ox2
  replace hA := hA.keep h
  replace hB := hB.keep h
  replace hO := hO.keep h
  replace bT := below_trans bT h
  clear h
  obtain ⟨gx2, px2, cx2, rfl, _, _, _⟩ := hP.form
  have hRl := isoR_len A B
  go_wp2_with fail
  refine (lawSameInts _ _ (isoR A B) (isoR A B) (by omega) _ hO hP).mono ?_
  rintro e x3 ⟨rfl, h⟩
  replace hA := hA.keep h
  replace hB := hB.keep h
  replace hO := hO.keep h
  replace hP := hP.keep h
  replace bT := below_trans bT h
  clear h
  clear hP
  simp only [eqI_refl]
  have HI1 := Lib.hid (fun (h : isoOk A B = true) => iso_rel h)
  have HI2 := Lib.hid (fun (h : isoOk A B = true) => iso_fin h)
  have HI3 := Lib.hid (fun (h : isoOk A B = true) => iso_aff h)
  have HI4 := Lib.hid (fun (h : isoOk A B = true) => iso_named h)
  cases hk : isoOk A B
  · clear HI1 HI2 HI3 HI4 hk hO hA hB
    go_wp2_with fail
    refine (drawSymmetriesOf a0 c0 z0 s0 _ (w0.keep bT)).mono ?_
    rintro e y0 ⟨vc, C, rfl, hC, hCs, h⟩
    replace bT := below_trans bT h
    clear h
    have HC := Lib.hid hC
    obtain ⟨gC, oC, cC, rfl, _, _, _⟩ := hC.form
    have hC := HC.out
    have hC5 := hCs.2.1
    clear HC hCs
    go_wp2_with fail
    refine (implSymmetriesOf _ C (by omega) _ hC).mono ?_
    intro e x7 r
    obtain ⟨vx7, rfl, ox7, h⟩ := r.out
    clear r
    have hL1 := ox7.read
    clear ox7
    replace hC := hC.keep h
    replace bT := below_trans bT h
    clear h
    go_wp2_with fail
    refine (specSymmetriesOf _ C (by omega) _ hC).mono ?_
    intro e x8 r
    obtain ⟨vx8, rfl, ox8, h⟩ := r.out
    clear r
    have hL2 := ox8.read
    clear ox8
    replace hC := hC.keep h
    replace hL1 := hL1.keep h
    replace bT := below_trans bT h
    clear h
    have hst := sym_total C
    go_wp2_with fail
    refine (lawSameWords _ _ (symL C) (symL C) (by omega) _ hL1 hL2).mono ?_
    rintro e x9 ⟨rfl, h⟩
    replace hC := hC.keep h
    replace hL1 := hL1.keep h
    replace hL2 := hL2.keep h
    replace bT := below_trans bT h
    clear h
    clear hL2
    simp only [eqII_refl]
    obtain ⟨n0, hn4, hpts⟩ := sym_pts C
    have HSC := Lib.hid (fun o p (ho : o ∈ symL C) (hp : p ∈ symL C) => comp_sym ho hp)
    obtain ⟨L, hLL⟩ : ∃ L, symL C = L := ⟨_, rfl⟩
    rw [hLL] at hL1 hst hpts HSC
    have HPT := Lib.hid hpts
    clear hLL hpts
    have hLn : L.length ≤ 120 := by unfold total at hst; omega
    obtain ⟨gl, ol, cl, rfl, _, _, hcl⟩ := hL1.form
    have HLC := Lib.hid hcl
    have HL := Lib.hid hL1
    have HCC := Lib.hid hC
    have BT := Lib.hid bT
    clear hcl hL1 hC bT hst
    go_wp2_with fail
    go_loopw [13] (fun i wr => ∃ k : Nat, k ≤ L.length ∧ k ≤ 6 ∧ i = .int .i64 k ∧ Below x9.heap.size x9 wr) (fun i _ => 6 - (intOf i).toNat)
    case atStart => exact ⟨0, by omega, by omega, rfl, Below.refl _ _⟩
    case round =>
      obtain ⟨i, hi, hi6, rfl, hbel⟩ := hrel
      by_cases hil : i < L.length ∧ i < 6
      · obtain ⟨hil1, hil2⟩ := hil
        have di1 : decide ((i : Int) < (L.length : Int)) = true := by simp; omega
        have di2 : decide ((i : Int) < 6) = true := by simp; omega
        obtain ⟨ri, yi, ji⟩ := HLC.out i hil1
        have OI := Lib.hid (HPT.out _ (List.getElem_mem hil1))
        have MI := Lib.hid (List.getElem_mem hil1)
        obtain ⟨P, hP⟩ : ∃ P, L[i] = P := ⟨_, rfl⟩
        rw [hP] at ji OI MI
        clear hP
        obtain ⟨gi, oi, ci, rfl, _, _, hci⟩ := ji.form
        have HCI := Lib.hid hci
        have hPl := OI.out.len
        clear hci ji
        go_wp2_with fail
        go_loopw [14] (fun j wr => ∃ k : Nat, k ≤ L.length ∧ k ≤ 6 ∧ j = .int .i64 k ∧ Below x9.heap.size x9 wr) (fun j _ => 6 - (intOf j).toNat)
        case atStart => exact ⟨0, by omega, by omega, rfl, hbel⟩
        case round =>
          obtain ⟨k, hk, hk6, rfl, hbel2⟩ := hrel
          obtain ⟨wo, rfl⟩ : ∃ wo, wo = wr := ⟨_, rfl⟩
          by_cases hkl : k < L.length ∧ k < 6
          · obtain ⟨hkl1, hkl2⟩ := hkl
            have dk1 : decide ((k : Int) < (L.length : Int)) = true := by simp; omega
            have dk2 : decide ((k : Int) < 6) = true := by simp; omega
            obtain ⟨rk, yk, jk⟩ := HLC.out k hkl1
            have OK := Lib.hid (HPT.out _ (List.getElem_mem hkl1))
            have MK := Lib.hid (List.getElem_mem hkl1)
            obtain ⟨Q, hQ⟩ : ∃ Q, L[k] = Q := ⟨_, rfl⟩
            rw [hQ] at jk OK MK
            clear hQ
            obtain ⟨gk, ok, ck, rfl, _, _, hck⟩ := jk.form
            have HCK := Lib.hid hck
            have hQl := OK.out.len
            have HPL := Lib.hid hPl
            have HQL := Lib.hid hQl
            obtain ⟨np, hnp⟩ : ∃ np, P.length = np := ⟨_, rfl⟩
            obtain ⟨nq, hnq⟩ : ∃ nq, Q.length = nq := ⟨_, rfl⟩
            have HNP := Lib.hid hnp
            have HNQ := Lib.hid hnq
            have hpq : np = nq := by omega
            have hnp4 : np ≤ 4 := by omega
            have HPQ := Lib.hid hpq
            rw [hnp] at yi
            rw [hnq] at yk
            clear hck jk hPl hQl hnp hnq hpq
            have HYI := Lib.hid yi
            have HYK := Lib.hid yk
            have hrow0 := rowV_empty wo 3
            have hb0 := hbel2.alloc hbel2.size (.cells #[] 3)
            go_wp2_with fail
            go_loopw [15, 16] (fun v m wr => ∃ t : Nat, t ≤ np ∧ m = .int .i64 t ∧ RowV wr wo.heap.size 3 v t (ivs ((compO P Q).take t)) ∧ Below wo.heap.size wo wr) (fun _ m _ => np - (intOf m).toNat)
            case atStart => exact ⟨0, by omega, rfl, hrow0, below_new wo _⟩
            case round =>
              obtain ⟨t, ht, rfl, hrow, hbq⟩ := hrel
              have hbw := hbel2.trans (hbq.mono hbel2.size)
              have y1 := cells_keep hbw HYI.out
              by_cases htl : t < np
              · have htq : t < Q.length := by rw [HNQ.out, ← HPQ.out]; exact htl
                have y2 := cells_keep hbw HYK.out
                have sN := OK.out.nat t (by have := HQL.out; omega)
                have sL := OK.out.lt t (by have := HQL.out; omega)
                have gq : Q.getD t 0 = Q[t] := by simp [htq]
                rw [gq] at sN sL
                obtain ⟨s, hs⟩ : ∃ s : Nat, (Q[t]).toNat = s := ⟨_, rfl⟩
                rw [hs] at sN sL
                have hsP : s < P.length := by have := HPL.out; omega
                have y3 := cells_keep hbw (HCK.out t htq)
                rw [← sN] at y3
                have y4 := cells_keep hbw (HCI.out s hsP)
                have gp : P.getD s 0 = P[s] := by simp [hsP]
                have HX := Lib.hid (comp_snoc P Q t s P[s] htq sN.symm gp)
                obtain ⟨u, hu⟩ : ∃ u, P[s] = u := ⟨_, rfl⟩
                rw [hu] at y4 HX
                have k0 : (0 : Int) ≤ (i : Int) := by omega
                have k1 : (i : Int) < (L.length : Int) := by omega
                have k2 : (0 : Int) ≤ (k : Int) := by omega
                have k3 : (k : Int) < (L.length : Int) := by omega
                have k4 : (0 : Int) ≤ (t : Int) := by omega
                have k5 : (t : Int) < (nq : Int) := by have := HPQ.out; omega
                have k6 : (0 : Int) ≤ (s : Int) := by omega
                have k7 : (s : Int) < (np : Int) := by have := HNP.out; omega
                have l1 : (⟨gl, ol + i, none⟩ : Addr).block < wo.heap.size := Nat.lt_of_lt_of_le (World.block_lt_of_cell? x9 _ HYI.out) hbel2.size
                have l3 : (⟨gk, ok + t, none⟩ : Addr).block < wo.heap.size := Nat.lt_of_lt_of_le (World.block_lt_of_cell? x9 _ (HCK.out t htq)) hbel2.size
                have l4 : (⟨gi, oi + s, none⟩ : Addr).block < wo.heap.size := Nat.lt_of_lt_of_le (World.block_lt_of_cell? x9 _ (HCI.out s hsP)) hbel2.size
                have hsz := hbq.size
                clear sN sL gq hs gp hu hsP htq
                go_wp2_with fail
                go_region_held3 (fun w' => w'.cell? ⟨gl, ol + i, none⟩ = some (.slice (some ⟨gi, oi, none⟩) np ci) ∧ w'.cell? ⟨gl, ol + k, none⟩ = some (.slice (some ⟨gk, ok, none⟩) nq ck) ∧ w'.cell? ⟨gk, ok + t, none⟩ = some (.int .i64 s) ∧ w'.cell? ⟨gi, oi + s, none⟩ = some (.int .i64 u)) (first | go_keep | (go_split_ands; exact ⟨(hbz.cell l1).trans ‹_›, (hbz.cell l1).trans ‹_›, (hbz.cell l3).trans ‹_›, (hbz.cell l4).trans ‹_›⟩)) ((refine step_pushV elemInt _ (by rfl) _ _ (by rfl) wo.heap.size u15 t _ (by rfl) ((hrow.alloc _).drew) (.int .i64 u) wr.heap.size (by rfl) (cell_new1d _ _ _) (by rfl) (by omega) (by simp; omega) ?_; intro gg cap wz hrow1 hgrow hbz))
                all_goals
                  go_wp2_with fail
                  go_roundw
                  case rel =>
                    exact ⟨t + 1, by omega, by go_num, hrow1.cast rfl rfl HX.out.symm, (((hbq.alloc hbq.size _).drew)).trans hbz⟩
                  case measure => simp [intOf]; omega
              · obtain rfl : t = np := by omega
                have hrw : RowV wr wo.heap.size 3 _ t (ivs (compO P Q)) := hrow.cast rfl rfl (by rw [List.take_of_length_le (by rw [compO, List.length_map]; have := HNQ.out; have := HPQ.out; omega)])
                obtain ⟨gx, hgx, hown⟩ := hrw.own
                have hpr : I wr _ (compO P Q) := OwnV.read hown
                have hin : inL L (compO P Q) = true := by rw [inL, List.contains_iff_mem]; exact HSC.out P Q MI.out MK.out
                have HIN := Lib.hid hin
                obtain ⟨gy, py, cy, hvy, _, _, _⟩ := hpr.form
                have HL3 := Lib.hid (HL.out.keep hbw)
                clear hin hrow hrw hown
                subst hvy
                go_wp2_with fail
                refine (lawInList _ _ L (compO P Q) (by omega) (fun r hr => by have := (HPT.out r hr).len; omega) wr HL3.out hpr).mono ?_
                rintro e wz ⟨rfl, h⟩
                rw [HIN.out]
                have hbz := below_trans hbw h
                go_wp2_with fail
                go_roundw
                case rel => exact ⟨k + 1, by omega, by omega, by go_num, hbz⟩
                case measure => simp [intOf]; omega
          · by_cases hkl1 : k < L.length
            · have hkl2 : ¬ k < 6 := fun h => hkl ⟨hkl1, h⟩
              clear hkl
              go_wp2_with fail
              go_roundw
              case rel => exact ⟨i + 1, by omega, by omega, by go_num, hbel2⟩
              case measure => simp [intOf]; omega
            · clear hkl
              go_wp2_with fail
              go_roundw
              case rel => exact ⟨i + 1, by omega, by omega, by go_num, hbel2⟩
              case measure => simp [intOf]; omega
      · have bT := below_trans BT.out hbel
        have hC := HCC.out.keep hbel
        have hcase : (i < L.length ∧ ¬ i < 6) ∨ ¬ i < L.length := by
          by_cases h1 : i < L.length
          · exact .inl ⟨h1, fun h => hil ⟨h1, h⟩⟩
          · exact .inr h1
        clear hil hbel
        rcases hcase with ⟨q1, q2⟩ | q1
        · skip
          go_wp2_with fail
          refine (drawNeighboursOf a0 c0 z0 s0 _ (w0.keep bT)).mono ?_
          rintro e t1 ⟨vd, D, j, rfl, hD, hDs, h⟩
          replace hC := hC.keep h
          replace bT := below_trans bT h
          clear h
          have HD := Lib.hid hD
          obtain ⟨gD, oD, cD, rfl, _, _, _⟩ := hD.form
          have hD := HD.out
          have hD5 := hDs.2.1
          clear HD hDs
          go_wp2_with fail
          refine (drawSubCartan a0 c0 z0 s0 _ (w0.keep bT)).mono ?_
          rintro e t2 ⟨ve, E, vs, S, rfl, hE, hEs, hS, hS6, h⟩
          replace hC := hC.keep h
          replace hD := hD.keep h
          replace bT := below_trans bT h
          clear h
          have HE := Lib.hid hE
          have HS := Lib.hid hS
          obtain ⟨gE, oE, cE, rfl, _, _, _⟩ := hE.form
          obtain ⟨gS, oS, cS, rfl, _, _, _⟩ := hS.form
          have hE := HE.out
          have hS := HS.out
          have hE5 := hEs.2.1
          clear HE HS hEs
          go_wp2_with fail
          refine (implSubCartan _ _ E S (by omega) (by omega) _ hE hS).mono ?_
          intro e x10 r
          obtain ⟨vx10, rfl, ox10, h⟩ := r.out
          clear r
          have hU := ox10.read
          clear ox10
          replace hC := hC.keep h
          replace hD := hD.keep h
          replace hE := hE.keep h
          replace hS := hS.keep h
          replace bT := below_trans bT h
          clear h
          obtain ⟨gx10, px10, cx10, rfl, _, _, _⟩ := hU.form
          go_wp2_with fail
          refine (specSubCartan _ _ E S (by omega) (by omega) _ hE hS).mono ?_
          intro e x11 r
          obtain ⟨vx11, rfl, ox11, h⟩ := r.out
          clear r
          have hV := ox11.read
          clear ox11
          replace hC := hC.keep h
          replace hD := hD.keep h
          replace hE := hE.keep h
          replace hS := hS.keep h
          replace hU := hU.keep h
          replace bT := below_trans bT h
          clear h
          obtain ⟨gx11, px11, cx11, rfl, _, _, _⟩ := hV.form
          clear hE hS
          go_wp2_with fail
          refine (drawRelabelCartan a0 c0 z0 s0 _ (w0.keep bT)).mono ?_
          rintro e t3 ⟨vf, F, vo, O, rfl, hF, hFs, hO, hO6, h⟩
          replace hC := hC.keep h
          replace hD := hD.keep h
          replace hU := hU.keep h
          replace hV := hV.keep h
          replace bT := below_trans bT h
          clear h
          have HF := Lib.hid hF
          have HO := Lib.hid hO
          obtain ⟨gF, oF, cF, rfl, _, _, _⟩ := hF.form
          obtain ⟨gO, oO, cO, rfl, _, _, _⟩ := hO.form
          have hF := HF.out
          have hO := HO.out
          have hF5 := hFs.2.1
          clear HF HO hFs
          go_wp2_with fail
          refine (implRelabelCartan _ _ F O (by omega) (by omega) _ hF hO).mono ?_
          intro e x12 r
          obtain ⟨vx12, rfl, ox12, h⟩ := r.out
          clear r
          have hG := ox12.read
          clear ox12
          replace hC := hC.keep h
          replace hD := hD.keep h
          replace hU := hU.keep h
          replace hV := hV.keep h
          replace hF := hF.keep h
          replace hO := hO.keep h
          replace bT := below_trans bT h
          clear h
          obtain ⟨gx12, px12, cx12, rfl, _, _, _⟩ := hG.form
          go_wp2_with fail
          refine (specRelabelCartan _ _ F O (by omega) (by omega) _ hF hO).mono ?_
          intro e x13 r
          obtain ⟨vx13, rfl, ox13, h⟩ := r.out
          clear r
          have hH := ox13.read
          clear ox13
          replace hC := hC.keep h
          replace hD := hD.keep h
          replace hU := hU.keep h
          replace hV := hV.keep h
          replace hF := hF.keep h
          replace hO := hO.keep h
          replace hG := hG.keep h
          replace bT := below_trans bT h
          clear h
          obtain ⟨gx13, px13, cx13, rfl, _, _, _⟩ := hH.form
          clear hF hO
          have ts := sub_total E S
          have tr := rel_total F O
          have tn : (nbL D j).length ≤ 5 := by have := nbT_len D j (colN D j); have := colN_le D j; unfold nbL; omega
          have tp := parts_total C
          go_wp2_with fail
          refine (implNeighboursOf _ D j (by omega) _ hD).mono ?_
          intro e x14 r
          obtain ⟨vx14, rfl, ox14, h⟩ := r.out
          clear r
          have hN1 := ox14.read
          clear ox14
          replace hC := hC.keep h
          replace hD := hD.keep h
          replace hU := hU.keep h
          replace hV := hV.keep h
          replace hG := hG.keep h
          replace hH := hH.keep h
          replace bT := below_trans bT h
          clear h
          obtain ⟨gx14, px14, cx14, rfl, _, _, _⟩ := hN1.form
          go_wp2_with fail
          refine (specNeighboursOf _ D j (by omega) _ hD).mono ?_
          intro e x15 r
          obtain ⟨vx15, rfl, ox15, h⟩ := r.out
          clear r
          have hN2 := ox15.read
          clear ox15
          replace hC := hC.keep h
          replace hD := hD.keep h
          replace hU := hU.keep h
          replace hV := hV.keep h
          replace hG := hG.keep h
          replace hH := hH.keep h
          replace hN1 := hN1.keep h
          replace bT := below_trans bT h
          clear h
          obtain ⟨gx15, px15, cx15, rfl, _, _, _⟩ := hN2.form
          go_wp2_with fail
          refine (lawSameInts _ _ (nbL D j) (nbL D j) (by omega) _ hN1 hN2).mono ?_
          rintro e x16 ⟨rfl, h⟩
          replace hC := hC.keep h
          replace hD := hD.keep h
          replace hU := hU.keep h
          replace hV := hV.keep h
          replace hG := hG.keep h
          replace hH := hH.keep h
          replace hN1 := hN1.keep h
          replace hN2 := hN2.keep h
          replace bT := below_trans bT h
          clear h
          clear hN1 hN2 hD
          simp only [eqI_refl]
          go_wp2_with fail
          refine (implPartsOf _ C (by omega) _ hC).mono ?_
          intro e x17 r
          obtain ⟨vx17, rfl, ox17, h⟩ := r.out
          clear r
          have hP1 := ox17.read
          clear ox17
          replace hC := hC.keep h
          replace hU := hU.keep h
          replace hV := hV.keep h
          replace hG := hG.keep h
          replace hH := hH.keep h
          replace bT := below_trans bT h
          clear h
          obtain ⟨gx17, px17, cx17, rfl, _, _, _⟩ := hP1.form
          go_wp2_with fail
          refine (specPartsOf _ C (by omega) _ hC).mono ?_
          intro e x18 r
          obtain ⟨vx18, rfl, ox18, h⟩ := r.out
          clear r
          have hP2 := ox18.read
          clear ox18
          replace hC := hC.keep h
          replace hU := hU.keep h
          replace hV := hV.keep h
          replace hG := hG.keep h
          replace hH := hH.keep h
          replace hP1 := hP1.keep h
          replace bT := below_trans bT h
          clear h
          obtain ⟨gx18, px18, cx18, rfl, _, _, _⟩ := hP2.form
          go_wp2_with fail
          refine (lawSameWords _ _ (partsL C) (partsL C) (by omega) _ hP1 hP2).mono ?_
          rintro e x19 ⟨rfl, h⟩
          replace hC := hC.keep h
          replace hU := hU.keep h
          replace hV := hV.keep h
          replace hG := hG.keep h
          replace hH := hH.keep h
          replace hP1 := hP1.keep h
          replace hP2 := hP2.keep h
          replace bT := below_trans bT h
          clear h
          clear hP1 hP2
          simp only [eqII_refl]
          go_wp2_with fail
          refine (lawSameWords _ _ (subL E S) (subL E S) (by omega) _ hU hV).mono ?_
          rintro e x20 ⟨rfl, h⟩
          replace hC := hC.keep h
          replace hU := hU.keep h
          replace hV := hV.keep h
          replace hG := hG.keep h
          replace hH := hH.keep h
          replace bT := below_trans bT h
          clear h
          clear hU hV
          simp only [eqII_refl]
          go_wp2_with fail
          refine (lawSameWords _ _ (relL F O) (relL F O) (by omega) _ hG hH).mono ?_
          rintro e x21 ⟨rfl, h⟩
          replace hC := hC.keep h
          replace hG := hG.keep h
          replace hH := hH.keep h
          replace bT := below_trans bT h
          clear h
          clear hG hH
          simp only [eqII_refl]
          go_wp2_with fail
          refine (implIsConnected _ C (by omega) _ hC).mono ?_
          rintro e x22 ⟨rfl, h⟩
          replace hC := hC.keep h
          replace bT := below_trans bT h
          clear h
          go_wp2_with fail
          refine (specIsConnected _ C (by omega) _ hC).mono ?_
          rintro e x23 ⟨rfl, h⟩
          replace hC := hC.keep h
          replace bT := below_trans bT h
          clear h
          go_wp2_with fail
          refine (implHasCycle _ C (by omega) _ hC).mono ?_
          rintro e x24 ⟨rfl, h⟩
          replace hC := hC.keep h
          replace bT := below_trans bT h
          clear h
          go_wp2_with fail
          refine (specHasCycle _ C (by omega) _ hC).mono ?_
          rintro e x25 ⟨rfl, h⟩
          replace hC := hC.keep h
          replace bT := below_trans bT h
          clear h
          go_wp2_with fail
          go_ret
          exact ⟨rfl, bT⟩
        · skip
          go_wp2_with fail
          refine (drawNeighboursOf a0 c0 z0 s0 _ (w0.keep bT)).mono ?_
          rintro e t1 ⟨vd, D, j, rfl, hD, hDs, h⟩
          replace hC := hC.keep h
          replace bT := below_trans bT h
          clear h
          have HD := Lib.hid hD
          obtain ⟨gD, oD, cD, rfl, _, _, _⟩ := hD.form
          have hD := HD.out
          have hD5 := hDs.2.1
          clear HD hDs
          go_wp2_with fail
          refine (drawSubCartan a0 c0 z0 s0 _ (w0.keep bT)).mono ?_
          rintro e t2 ⟨ve, E, vs, S, rfl, hE, hEs, hS, hS6, h⟩
          replace hC := hC.keep h
          replace hD := hD.keep h
          replace bT := below_trans bT h
          clear h
          have HE := Lib.hid hE
          have HS := Lib.hid hS
          obtain ⟨gE, oE, cE, rfl, _, _, _⟩ := hE.form
          obtain ⟨gS, oS, cS, rfl, _, _, _⟩ := hS.form
          have hE := HE.out
          have hS := HS.out
          have hE5 := hEs.2.1
          clear HE HS hEs
          go_wp2_with fail
          refine (implSubCartan _ _ E S (by omega) (by omega) _ hE hS).mono ?_
          intro e x10 r
          obtain ⟨vx10, rfl, ox10, h⟩ := r.out
          clear r
          have hU := ox10.read
          clear ox10
          replace hC := hC.keep h
          replace hD := hD.keep h
          replace hE := hE.keep h
          replace hS := hS.keep h
          replace bT := below_trans bT h
          clear h
          obtain ⟨gx10, px10, cx10, rfl, _, _, _⟩ := hU.form
          go_wp2_with fail
          refine (specSubCartan _ _ E S (by omega) (by omega) _ hE hS).mono ?_
          intro e x11 r
          obtain ⟨vx11, rfl, ox11, h⟩ := r.out
          clear r
          have hV := ox11.read
          clear ox11
          replace hC := hC.keep h
          replace hD := hD.keep h
          replace hE := hE.keep h
          replace hS := hS.keep h
          replace hU := hU.keep h
          replace bT := below_trans bT h
          clear h
          obtain ⟨gx11, px11, cx11, rfl, _, _, _⟩ := hV.form
          clear hE hS
          go_wp2_with fail
          refine (drawRelabelCartan a0 c0 z0 s0 _ (w0.keep bT)).mono ?_
          rintro e t3 ⟨vf, F, vo, O, rfl, hF, hFs, hO, hO6, h⟩
          replace hC := hC.keep h
          replace hD := hD.keep h
          replace hU := hU.keep h
          replace hV := hV.keep h
          replace bT := below_trans bT h
          clear h
          have HF := Lib.hid hF
          have HO := Lib.hid hO
          obtain ⟨gF, oF, cF, rfl, _, _, _⟩ := hF.form
          obtain ⟨gO, oO, cO, rfl, _, _, _⟩ := hO.form
          have hF := HF.out
          have hO := HO.out
          have hF5 := hFs.2.1
          clear HF HO hFs
          go_wp2_with fail
          refine (implRelabelCartan _ _ F O (by omega) (by omega) _ hF hO).mono ?_
          intro e x12 r
          obtain ⟨vx12, rfl, ox12, h⟩ := r.out
          clear r
          have hG := ox12.read
          clear ox12
          replace hC := hC.keep h
          replace hD := hD.keep h
          replace hU := hU.keep h
          replace hV := hV.keep h
          replace hF := hF.keep h
          replace hO := hO.keep h
          replace bT := below_trans bT h
          clear h
          obtain ⟨gx12, px12, cx12, rfl, _, _, _⟩ := hG.form
          go_wp2_with fail
          refine (specRelabelCartan _ _ F O (by omega) (by omega) _ hF hO).mono ?_
          intro e x13 r
          obtain ⟨vx13, rfl, ox13, h⟩ := r.out
          clear r
          have hH := ox13.read
          clear ox13
          replace hC := hC.keep h
          replace hD := hD.keep h
          replace hU := hU.keep h
          replace hV := hV.keep h
          replace hF := hF.keep h
          replace hO := hO.keep h
          replace hG := hG.keep h
          replace bT := below_trans bT h
          clear h
          obtain ⟨gx13, px13, cx13, rfl, _, _, _⟩ := hH.form
          clear hF hO
          have ts := sub_total E S
          have tr := rel_total F O
          have tn : (nbL D j).length ≤ 5 := by have := nbT_len D j (colN D j); have := colN_le D j; unfold nbL; omega
          have tp := parts_total C
          go_wp2_with fail
          refine (implNeighboursOf _ D j (by omega) _ hD).mono ?_
          intro e x14 r
          obtain ⟨vx14, rfl, ox14, h⟩ := r.out
          clear r
          have hN1 := ox14.read
          clear ox14
          replace hC := hC.keep h
          replace hD := hD.keep h
          replace hU := hU.keep h
          replace hV := hV.keep h
          replace hG := hG.keep h
          replace hH := hH.keep h
          replace bT := below_trans bT h
          clear h
          obtain ⟨gx14, px14, cx14, rfl, _, _, _⟩ := hN1.form
          go_wp2_with fail
          refine (specNeighboursOf _ D j (by omega) _ hD).mono ?_
          intro e x15 r
          obtain ⟨vx15, rfl, ox15, h⟩ := r.out
          clear r
          have hN2 := ox15.read
          clear ox15
          replace hC := hC.keep h
          replace hD := hD.keep h
          replace hU := hU.keep h
          replace hV := hV.keep h
          replace hG := hG.keep h
          replace hH := hH.keep h
          replace hN1 := hN1.keep h
          replace bT := below_trans bT h
          clear h
          obtain ⟨gx15, px15, cx15, rfl, _, _, _⟩ := hN2.form
          go_wp2_with fail
          refine (lawSameInts _ _ (nbL D j) (nbL D j) (by omega) _ hN1 hN2).mono ?_
          rintro e x16 ⟨rfl, h⟩
          replace hC := hC.keep h
          replace hD := hD.keep h
          replace hU := hU.keep h
          replace hV := hV.keep h
          replace hG := hG.keep h
          replace hH := hH.keep h
          replace hN1 := hN1.keep h
          replace hN2 := hN2.keep h
          replace bT := below_trans bT h
          clear h
          clear hN1 hN2 hD
          simp only [eqI_refl]
          go_wp2_with fail
          refine (implPartsOf _ C (by omega) _ hC).mono ?_
          intro e x17 r
          obtain ⟨vx17, rfl, ox17, h⟩ := r.out
          clear r
          have hP1 := ox17.read
          clear ox17
          replace hC := hC.keep h
          replace hU := hU.keep h
          replace hV := hV.keep h
          replace hG := hG.keep h
          replace hH := hH.keep h
          replace bT := below_trans bT h
          clear h
          obtain ⟨gx17, px17, cx17, rfl, _, _, _⟩ := hP1.form
          go_wp2_with fail
          refine (specPartsOf _ C (by omega) _ hC).mono ?_
          intro e x18 r
          obtain ⟨vx18, rfl, ox18, h⟩ := r.out
          clear r
          have hP2 := ox18.read
          clear ox18
          replace hC := hC.keep h
          replace hU := hU.keep h
          replace hV := hV.keep h
          replace hG := hG.keep h
          replace hH := hH.keep h
          replace hP1 := hP1.keep h
          replace bT := below_trans bT h
          clear h
          obtain ⟨gx18, px18, cx18, rfl, _, _, _⟩ := hP2.form
          go_wp2_with fail
          refine (lawSameWords _ _ (partsL C) (partsL C) (by omega) _ hP1 hP2).mono ?_
          rintro e x19 ⟨rfl, h⟩
          replace hC := hC.keep h
          replace hU := hU.keep h
          replace hV := hV.keep h
          replace hG := hG.keep h
          replace hH := hH.keep h
          replace hP1 := hP1.keep h
          replace hP2 := hP2.keep h
          replace bT := below_trans bT h
          clear h
          clear hP1 hP2
          simp only [eqII_refl]
          go_wp2_with fail
          refine (lawSameWords _ _ (subL E S) (subL E S) (by omega) _ hU hV).mono ?_
          rintro e x20 ⟨rfl, h⟩
          replace hC := hC.keep h
          replace hU := hU.keep h
          replace hV := hV.keep h
          replace hG := hG.keep h
          replace hH := hH.keep h
          replace bT := below_trans bT h
          clear h
          clear hU hV
          simp only [eqII_refl]
          go_wp2_with fail
          refine (lawSameWords _ _ (relL F O) (relL F O) (by omega) _ hG hH).mono ?_
          rintro e x21 ⟨rfl, h⟩
          replace hC := hC.keep h
          replace hG := hG.keep h
          replace hH := hH.keep h
          replace bT := below_trans bT h
          clear h
          clear hG hH
          simp only [eqII_refl]
          go_wp2_with fail
          refine (implIsConnected _ C (by omega) _ hC).mono ?_
          rintro e x22 ⟨rfl, h⟩
          replace hC := hC.keep h
          replace bT := below_trans bT h
          clear h
          go_wp2_with fail
          refine (specIsConnected _ C (by omega) _ hC).mono ?_
          rintro e x23 ⟨rfl, h⟩
          replace hC := hC.keep h
          replace bT := below_trans bT h
          clear h
          go_wp2_with fail
          refine (implHasCycle _ C (by omega) _ hC).mono ?_
          rintro e x24 ⟨rfl, h⟩
          replace hC := hC.keep h
          replace bT := below_trans bT h
          clear h
          go_wp2_with fail
          refine (specHasCycle _ C (by omega) _ hC).mono ?_
          rintro e x25 ⟨rfl, h⟩
          replace hC := hC.keep h
          replace bT := below_trans bT h
          clear h
          go_wp2_with fail
          go_ret
          exact ⟨rfl, bT⟩
  · obtain ⟨i1, i2⟩ := HI1.out hk
    have i3 := Lib.hid (HI2.out hk)
    have i4 := Lib.hid (HI3.out hk)
    have hn := HI4.out hk
    clear HI1 HI2 HI3 HI4 hk
    go_wp2_with fail
    refine (implRelabelCartan _ _ A (isoR A B) (by omega) (by omega) _ hA hO).mono ?_
    intro e x4 r
    obtain ⟨vr, rfl, oR, h⟩ := r.out
    clear r
    rw [i2] at oR
    rw [i1]
    have hR := oR.read
    clear oR i1 i2
    replace hA := hA.keep h
    replace hB := hB.keep h
    replace hO := hO.keep h
    replace bT := below_trans bT h
    clear h
    obtain ⟨gR, pR, cR, rfl, _, _, _⟩ := hR.form
    go_wp2_with fail
    refine (lawSameWords _ _ B B (by omega) _ hR hB).mono ?_
    rintro e x5 ⟨rfl, h⟩
    replace hA := hA.keep h
    replace hB := hB.keep h
    replace hO := hO.keep h
    replace hR := hR.keep h
    replace bT := below_trans bT h
    clear h
    clear hR hO
    simp only [eqII_refl]
    go_wp2_with fail
    refine (implNameOf _ A (by omega) _ hA (HT.out.keep bT)).mono ?_
    rintro e x6 ⟨rfl, h⟩
    replace hA := hA.keep h
    replace hB := hB.keep h
    replace bT := below_trans bT h
    clear h
    go_wp2_with fail
    refine (implIsFinite _ A (by omega) _ hA).mono ?_
    rintro e f1 ⟨rfl, h⟩
    rw [i3.out]
    replace hA := hA.keep h
    replace hB := hB.keep h
    replace bT := below_trans bT h
    clear h
    go_wp2_with fail
    refine (implIsFinite _ B (by omega) _ hB).mono ?_
    rintro e f2 ⟨rfl, h⟩
    replace hA := hA.keep h
    replace hB := hB.keep h
    replace bT := below_trans bT h
    clear h
    go_wp2_with fail
    refine (implIsAffine _ A (by omega) _ hA).mono ?_
    rintro e f3 ⟨rfl, h⟩
    rw [i4.out]
    replace hB := hB.keep h
    replace bT := below_trans bT h
    clear h
    go_wp2_with fail
    refine (implIsAffine _ B (by omega) _ hB).mono ?_
    rintro e f4 ⟨rfl, h⟩
    replace bT := below_trans bT h
    clear h hA hB i3 i4
    go_wp2_with fail
    refine (drawSymmetriesOf a0 c0 z0 s0 _ (w0.keep bT)).mono ?_
    rintro e y0 ⟨vc, C, rfl, hC, hCs, h⟩
    replace bT := below_trans bT h
    clear h
    have HC := Lib.hid hC
    obtain ⟨gC, oC, cC, rfl, _, _, _⟩ := hC.form
    have hC := HC.out
    have hC5 := hCs.2.1
    clear HC hCs
    go_wp2_with fail
    refine (implSymmetriesOf _ C (by omega) _ hC).mono ?_
    intro e x7 r
    obtain ⟨vx7, rfl, ox7, h⟩ := r.out
    clear r
    have hL1 := ox7.read
    clear ox7
    replace hC := hC.keep h
    replace bT := below_trans bT h
    clear h
    go_wp2_with fail
    refine (specSymmetriesOf _ C (by omega) _ hC).mono ?_
    intro e x8 r
    obtain ⟨vx8, rfl, ox8, h⟩ := r.out
    clear r
    have hL2 := ox8.read
    clear ox8
    replace hC := hC.keep h
    replace hL1 := hL1.keep h
    replace bT := below_trans bT h
    clear h
    have hst := sym_total C
    go_wp2_with fail
    refine (lawSameWords _ _ (symL C) (symL C) (by omega) _ hL1 hL2).mono ?_
    rintro e x9 ⟨rfl, h⟩
    replace hC := hC.keep h
    replace hL1 := hL1.keep h
    replace hL2 := hL2.keep h
    replace bT := below_trans bT h
    clear h
    clear hL2
    simp only [eqII_refl]
    obtain ⟨n0, hn4, hpts⟩ := sym_pts C
    have HSC := Lib.hid (fun o p (ho : o ∈ symL C) (hp : p ∈ symL C) => comp_sym ho hp)
    obtain ⟨L, hLL⟩ : ∃ L, symL C = L := ⟨_, rfl⟩
    rw [hLL] at hL1 hst hpts HSC
    have HPT := Lib.hid hpts
    clear hLL hpts
    have hLn : L.length ≤ 120 := by unfold total at hst; omega
    obtain ⟨gl, ol, cl, rfl, _, _, hcl⟩ := hL1.form
    have HLC := Lib.hid hcl
    have HL := Lib.hid hL1
    have HCC := Lib.hid hC
    have BT := Lib.hid bT
    clear hcl hL1 hC bT hst
    go_wp2_with fail
    go_loopw [13] (fun i wr => ∃ k : Nat, k ≤ L.length ∧ k ≤ 6 ∧ i = .int .i64 k ∧ Below x9.heap.size x9 wr) (fun i _ => 6 - (intOf i).toNat)
    case atStart => exact ⟨0, by omega, by omega, rfl, Below.refl _ _⟩
    case round =>
      obtain ⟨i, hi, hi6, rfl, hbel⟩ := hrel
      by_cases hil : i < L.length ∧ i < 6
      · obtain ⟨hil1, hil2⟩ := hil
        have di1 : decide ((i : Int) < (L.length : Int)) = true := by simp; omega
        have di2 : decide ((i : Int) < 6) = true := by simp; omega
        obtain ⟨ri, yi, ji⟩ := HLC.out i hil1
        have OI := Lib.hid (HPT.out _ (List.getElem_mem hil1))
        have MI := Lib.hid (List.getElem_mem hil1)
        obtain ⟨P, hP⟩ : ∃ P, L[i] = P := ⟨_, rfl⟩
        rw [hP] at ji OI MI
        clear hP
        obtain ⟨gi, oi, ci, rfl, _, _, hci⟩ := ji.form
        have HCI := Lib.hid hci
        have hPl := OI.out.len
        clear hci ji
        go_wp2_with fail
        go_loopw [14] (fun j wr => ∃ k : Nat, k ≤ L.length ∧ k ≤ 6 ∧ j = .int .i64 k ∧ Below x9.heap.size x9 wr) (fun j _ => 6 - (intOf j).toNat)
        case atStart => exact ⟨0, by omega, by omega, rfl, hbel⟩
        case round =>
          obtain ⟨k, hk, hk6, rfl, hbel2⟩ := hrel
          obtain ⟨wo, rfl⟩ : ∃ wo, wo = wr := ⟨_, rfl⟩
          by_cases hkl : k < L.length ∧ k < 6
          · obtain ⟨hkl1, hkl2⟩ := hkl
            have dk1 : decide ((k : Int) < (L.length : Int)) = true := by simp; omega
            have dk2 : decide ((k : Int) < 6) = true := by simp; omega
            obtain ⟨rk, yk, jk⟩ := HLC.out k hkl1
            have OK := Lib.hid (HPT.out _ (List.getElem_mem hkl1))
            have MK := Lib.hid (List.getElem_mem hkl1)
            obtain ⟨Q, hQ⟩ : ∃ Q, L[k] = Q := ⟨_, rfl⟩
            rw [hQ] at jk OK MK
            clear hQ
            obtain ⟨gk, ok, ck, rfl, _, _, hck⟩ := jk.form
            have HCK := Lib.hid hck
            have hQl := OK.out.len
            have HPL := Lib.hid hPl
            have HQL := Lib.hid hQl
            obtain ⟨np, hnp⟩ : ∃ np, P.length = np := ⟨_, rfl⟩
            obtain ⟨nq, hnq⟩ : ∃ nq, Q.length = nq := ⟨_, rfl⟩
            have HNP := Lib.hid hnp
            have HNQ := Lib.hid hnq
            have hpq : np = nq := by omega
            have hnp4 : np ≤ 4 := by omega
            have HPQ := Lib.hid hpq
            rw [hnp] at yi
            rw [hnq] at yk
            clear hck jk hPl hQl hnp hnq hpq
            have HYI := Lib.hid yi
            have HYK := Lib.hid yk
            have hrow0 := rowV_empty wo 3
            have hb0 := hbel2.alloc hbel2.size (.cells #[] 3)
            go_wp2_with fail
            go_loopw [15, 16] (fun v m wr => ∃ t : Nat, t ≤ np ∧ m = .int .i64 t ∧ RowV wr wo.heap.size 3 v t (ivs ((compO P Q).take t)) ∧ Below wo.heap.size wo wr) (fun _ m _ => np - (intOf m).toNat)
            case atStart => exact ⟨0, by omega, rfl, hrow0, below_new wo _⟩
            case round =>
              obtain ⟨t, ht, rfl, hrow, hbq⟩ := hrel
              have hbw := hbel2.trans (hbq.mono hbel2.size)
              have y1 := cells_keep hbw HYI.out
              by_cases htl : t < np
              · have htq : t < Q.length := by rw [HNQ.out, ← HPQ.out]; exact htl
                have y2 := cells_keep hbw HYK.out
                have sN := OK.out.nat t (by have := HQL.out; omega)
                have sL := OK.out.lt t (by have := HQL.out; omega)
                have gq : Q.getD t 0 = Q[t] := by simp [htq]
                rw [gq] at sN sL
                obtain ⟨s, hs⟩ : ∃ s : Nat, (Q[t]).toNat = s := ⟨_, rfl⟩
                rw [hs] at sN sL
                have hsP : s < P.length := by have := HPL.out; omega
                have y3 := cells_keep hbw (HCK.out t htq)
                rw [← sN] at y3
                have y4 := cells_keep hbw (HCI.out s hsP)
                have gp : P.getD s 0 = P[s] := by simp [hsP]
                have HX := Lib.hid (comp_snoc P Q t s P[s] htq sN.symm gp)
                obtain ⟨u, hu⟩ : ∃ u, P[s] = u := ⟨_, rfl⟩
                rw [hu] at y4 HX
                have k0 : (0 : Int) ≤ (i : Int) := by omega
                have k1 : (i : Int) < (L.length : Int) := by omega
                have k2 : (0 : Int) ≤ (k : Int) := by omega
                have k3 : (k : Int) < (L.length : Int) := by omega
                have k4 : (0 : Int) ≤ (t : Int) := by omega
                have k5 : (t : Int) < (nq : Int) := by have := HPQ.out; omega
                have k6 : (0 : Int) ≤ (s : Int) := by omega
                have k7 : (s : Int) < (np : Int) := by have := HNP.out; omega
                have l1 : (⟨gl, ol + i, none⟩ : Addr).block < wo.heap.size := Nat.lt_of_lt_of_le (World.block_lt_of_cell? x9 _ HYI.out) hbel2.size
                have l3 : (⟨gk, ok + t, none⟩ : Addr).block < wo.heap.size := Nat.lt_of_lt_of_le (World.block_lt_of_cell? x9 _ (HCK.out t htq)) hbel2.size
                have l4 : (⟨gi, oi + s, none⟩ : Addr).block < wo.heap.size := Nat.lt_of_lt_of_le (World.block_lt_of_cell? x9 _ (HCI.out s hsP)) hbel2.size
                have hsz := hbq.size
                clear sN sL gq hs gp hu hsP htq
                go_wp2_with fail
                go_region_held3 (fun w' => w'.cell? ⟨gl, ol + i, none⟩ = some (.slice (some ⟨gi, oi, none⟩) np ci) ∧ w'.cell? ⟨gl, ol + k, none⟩ = some (.slice (some ⟨gk, ok, none⟩) nq ck) ∧ w'.cell? ⟨gk, ok + t, none⟩ = some (.int .i64 s) ∧ w'.cell? ⟨gi, oi + s, none⟩ = some (.int .i64 u)) (first | go_keep | (go_split_ands; exact ⟨(hbz.cell l1).trans ‹_›, (hbz.cell l1).trans ‹_›, (hbz.cell l3).trans ‹_›, (hbz.cell l4).trans ‹_›⟩)) ((refine step_pushV elemInt _ (by rfl) _ _ (by rfl) wo.heap.size u15 t _ (by rfl) ((hrow.alloc _).drew) (.int .i64 u) wr.heap.size (by rfl) (cell_new1d _ _ _) (by rfl) (by omega) (by simp; omega) ?_; intro gg cap wz hrow1 hgrow hbz))
                all_goals
                  go_wp2_with fail
                  go_roundw
                  case rel =>
                    exact ⟨t + 1, by omega, by go_num, hrow1.cast rfl rfl HX.out.symm, (((hbq.alloc hbq.size _).drew)).trans hbz⟩
                  case measure => simp [intOf]; omega
              · obtain rfl : t = np := by omega
                have hrw : RowV wr wo.heap.size 3 _ t (ivs (compO P Q)) := hrow.cast rfl rfl (by rw [List.take_of_length_le (by rw [compO, List.length_map]; have := HNQ.out; have := HPQ.out; omega)])
                obtain ⟨gx, hgx, hown⟩ := hrw.own
                have hpr : I wr _ (compO P Q) := OwnV.read hown
                have hin : inL L (compO P Q) = true := by rw [inL, List.contains_iff_mem]; exact HSC.out P Q MI.out MK.out
                have HIN := Lib.hid hin
                obtain ⟨gy, py, cy, hvy, _, _, _⟩ := hpr.form
                have HL3 := Lib.hid (HL.out.keep hbw)
                clear hin hrow hrw hown
                subst hvy
                go_wp2_with fail
                refine (lawInList _ _ L (compO P Q) (by omega) (fun r hr => by have := (HPT.out r hr).len; omega) wr HL3.out hpr).mono ?_
                rintro e wz ⟨rfl, h⟩
                rw [HIN.out]
                have hbz := below_trans hbw h
                go_wp2_with fail
                go_roundw
                case rel => exact ⟨k + 1, by omega, by omega, by go_num, hbz⟩
                case measure => simp [intOf]; omega
          · by_cases hkl1 : k < L.length
            · have hkl2 : ¬ k < 6 := fun h => hkl ⟨hkl1, h⟩
              clear hkl
              go_wp2_with fail
              go_roundw
              case rel => exact ⟨i + 1, by omega, by omega, by go_num, hbel2⟩
              case measure => simp [intOf]; omega
            · clear hkl
              go_wp2_with fail
              go_roundw
              case rel => exact ⟨i + 1, by omega, by omega, by go_num, hbel2⟩
              case measure => simp [intOf]; omega
      · have bT := below_trans BT.out hbel
        have hC := HCC.out.keep hbel
        have hcase : (i < L.length ∧ ¬ i < 6) ∨ ¬ i < L.length := by
          by_cases h1 : i < L.length
          · exact .inl ⟨h1, fun h => hil ⟨h1, h⟩⟩
          · exact .inr h1
        clear hil hbel
        rcases hcase with ⟨q1, q2⟩ | q1
        · skip
          go_wp2_with fail
          refine (drawNeighboursOf a0 c0 z0 s0 _ (w0.keep bT)).mono ?_
          rintro e t1 ⟨vd, D, j, rfl, hD, hDs, h⟩
          replace hC := hC.keep h
          replace bT := below_trans bT h
          clear h
          have HD := Lib.hid hD
          obtain ⟨gD, oD, cD, rfl, _, _, _⟩ := hD.form
          have hD := HD.out
          have hD5 := hDs.2.1
          clear HD hDs
          go_wp2_with fail
          refine (drawSubCartan a0 c0 z0 s0 _ (w0.keep bT)).mono ?_
          rintro e t2 ⟨ve, E, vs, S, rfl, hE, hEs, hS, hS6, h⟩
          replace hC := hC.keep h
          replace hD := hD.keep h
          replace bT := below_trans bT h
          clear h
          have HE := Lib.hid hE
          have HS := Lib.hid hS
          obtain ⟨gE, oE, cE, rfl, _, _, _⟩ := hE.form
          obtain ⟨gS, oS, cS, rfl, _, _, _⟩ := hS.form
          have hE := HE.out
          have hS := HS.out
          have hE5 := hEs.2.1
          clear HE HS hEs
          go_wp2_with fail
          refine (implSubCartan _ _ E S (by omega) (by omega) _ hE hS).mono ?_
          intro e x10 r
          obtain ⟨vx10, rfl, ox10, h⟩ := r.out
          clear r
          have hU := ox10.read
          clear ox10
          replace hC := hC.keep h
          replace hD := hD.keep h
          replace hE := hE.keep h
          replace hS := hS.keep h
          replace bT := below_trans bT h
          clear h
          obtain ⟨gx10, px10, cx10, rfl, _, _, _⟩ := hU.form
          go_wp2_with fail
          refine (specSubCartan _ _ E S (by omega) (by omega) _ hE hS).mono ?_
          intro e x11 r
          obtain ⟨vx11, rfl, ox11, h⟩ := r.out
          clear r
          have hV := ox11.read
          clear ox11
          replace hC := hC.keep h
          replace hD := hD.keep h
          replace hE := hE.keep h
          replace hS := hS.keep h
          replace hU := hU.keep h
          replace bT := below_trans bT h
          clear h
          obtain ⟨gx11, px11, cx11, rfl, _, _, _⟩ := hV.form
          clear hE hS
          go_wp2_with fail
          refine (drawRelabelCartan a0 c0 z0 s0 _ (w0.keep bT)).mono ?_
          rintro e t3 ⟨vf, F, vo, O, rfl, hF, hFs, hO, hO6, h⟩
          replace hC := hC.keep h
          replace hD := hD.keep h
          replace hU := hU.keep h
          replace hV := hV.keep h
          replace bT := below_trans bT h
          clear h
          have HF := Lib.hid hF
          have HO := Lib.hid hO
          obtain ⟨gF, oF, cF, rfl, _, _, _⟩ := hF.form
          obtain ⟨gO, oO, cO, rfl, _, _, _⟩ := hO.form
          have hF := HF.out
          have hO := HO.out
          have hF5 := hFs.2.1
          clear HF HO hFs
          go_wp2_with fail
          refine (implRelabelCartan _ _ F O (by omega) (by omega) _ hF hO).mono ?_
          intro e x12 r
          obtain ⟨vx12, rfl, ox12, h⟩ := r.out
          clear r
          have hG := ox12.read
          clear ox12
          replace hC := hC.keep h
          replace hD := hD.keep h
          replace hU := hU.keep h
          replace hV := hV.keep h
          replace hF := hF.keep h
          replace hO := hO.keep h
          replace bT := below_trans bT h
          clear h
          obtain ⟨gx12, px12, cx12, rfl, _, _, _⟩ := hG.form
          go_wp2_with fail
          refine (specRelabelCartan _ _ F O (by omega) (by omega) _ hF hO).mono ?_
          intro e x13 r
          obtain ⟨vx13, rfl, ox13, h⟩ := r.out
          clear r
          have hH := ox13.read
          clear ox13
          replace hC := hC.keep h
          replace hD := hD.keep h
          replace hU := hU.keep h
          replace hV := hV.keep h
          replace hF := hF.keep h
          replace hO := hO.keep h
          replace hG := hG.keep h
          replace bT := below_trans bT h
          clear h
          obtain ⟨gx13, px13, cx13, rfl, _, _, _⟩ := hH.form
          clear hF hO
          have ts := sub_total E S
          have tr := rel_total F O
          have tn : (nbL D j).length ≤ 5 := by have := nbT_len D j (colN D j); have := colN_le D j; unfold nbL; omega
          have tp := parts_total C
          go_wp2_with fail
          refine (implNeighboursOf _ D j (by omega) _ hD).mono ?_
          intro e x14 r
          obtain ⟨vx14, rfl, ox14, h⟩ := r.out
          clear r
          have hN1 := ox14.read
          clear ox14
          replace hC := hC.keep h
          replace hD := hD.keep h
          replace hU := hU.keep h
          replace hV := hV.keep h
          replace hG := hG.keep h
          replace hH := hH.keep h
          replace bT := below_trans bT h
          clear h
          obtain ⟨gx14, px14, cx14, rfl, _, _, _⟩ := hN1.form
          go_wp2_with fail
          refine (specNeighboursOf _ D j (by omega) _ hD).mono ?_
          intro e x15 r
          obtain ⟨vx15, rfl, ox15, h⟩ := r.out
          clear r
          have hN2 := ox15.read
          clear ox15
          replace hC := hC.keep h
          replace hD := hD.keep h
          replace hU := hU.keep h
          replace hV := hV.keep h
          replace hG := hG.keep h
          replace hH := hH.keep h
          replace hN1 := hN1.keep h
          replace bT := below_trans bT h
          clear h
          obtain ⟨gx15, px15, cx15, rfl, _, _, _⟩ := hN2.form
          go_wp2_with fail
          refine (lawSameInts _ _ (nbL D j) (nbL D j) (by omega) _ hN1 hN2).mono ?_
          rintro e x16 ⟨rfl, h⟩
          replace hC := hC.keep h
          replace hD := hD.keep h
          replace hU := hU.keep h
          replace hV := hV.keep h
          replace hG := hG.keep h
          replace hH := hH.keep h
          replace hN1 := hN1.keep h
          replace hN2 := hN2.keep h
          replace bT := below_trans bT h
          clear h
          clear hN1 hN2 hD
          simp only [eqI_refl]
          go_wp2_with fail
          refine (implPartsOf _ C (by omega) _ hC).mono ?_
          intro e x17 r
          obtain ⟨vx17, rfl, ox17, h⟩ := r.out
          clear r
          have hP1 := ox17.read
          clear ox17
          replace hC := hC.keep h
          replace hU := hU.keep h
          replace hV := hV.keep h
          replace hG := hG.keep h
          replace hH := hH.keep h
          replace bT := below_trans bT h
          clear h
          obtain ⟨gx17, px17, cx17, rfl, _, _, _⟩ := hP1.form
          go_wp2_with fail
          refine (specPartsOf _ C (by omega) _ hC).mono ?_
          intro e x18 r
          obtain ⟨vx18, rfl, ox18, h⟩ := r.out
          clear r
          have hP2 := ox18.read
          clear ox18
          replace hC := hC.keep h
          replace hU := hU.keep h
          replace hV := hV.keep h
          replace hG := hG.keep h
          replace hH := hH.keep h
          replace hP1 := hP1.keep h
          replace bT := below_trans bT h
          clear h
          obtain ⟨gx18, px18, cx18, rfl, _, _, _⟩ := hP2.form
          go_wp2_with fail
          refine (lawSameWords _ _ (partsL C) (partsL C) (by omega) _ hP1 hP2).mono ?_
          rintro e x19 ⟨rfl, h⟩
          replace hC := hC.keep h
          replace hU := hU.keep h
          replace hV := hV.keep h
          replace hG := hG.keep h
          replace hH := hH.keep h
          replace hP1 := hP1.keep h
          replace hP2 := hP2.keep h
          replace bT := below_trans bT h
          clear h
          clear hP1 hP2
          simp only [eqII_refl]
          go_wp2_with fail
          refine (lawSameWords _ _ (subL E S) (subL E S) (by omega) _ hU hV).mono ?_
          rintro e x20 ⟨rfl, h⟩
          replace hC := hC.keep h
          replace hU := hU.keep h
          replace hV := hV.keep h
          replace hG := hG.keep h
          replace hH := hH.keep h
          replace bT := below_trans bT h
          clear h
          clear hU hV
          simp only [eqII_refl]
          go_wp2_with fail
          refine (lawSameWords _ _ (relL F O) (relL F O) (by omega) _ hG hH).mono ?_
          rintro e x21 ⟨rfl, h⟩
          replace hC := hC.keep h
          replace hG := hG.keep h
          replace hH := hH.keep h
          replace bT := below_trans bT h
          clear h
          clear hG hH
          simp only [eqII_refl]
          go_wp2_with fail
          refine (implIsConnected _ C (by omega) _ hC).mono ?_
          rintro e x22 ⟨rfl, h⟩
          replace hC := hC.keep h
          replace bT := below_trans bT h
          clear h
          go_wp2_with fail
          refine (specIsConnected _ C (by omega) _ hC).mono ?_
          rintro e x23 ⟨rfl, h⟩
          replace hC := hC.keep h
          replace bT := below_trans bT h
          clear h
          go_wp2_with fail
          refine (implHasCycle _ C (by omega) _ hC).mono ?_
          rintro e x24 ⟨rfl, h⟩
          replace hC := hC.keep h
          replace bT := below_trans bT h
          clear h
          go_wp2_with fail
          refine (specHasCycle _ C (by omega) _ hC).mono ?_
          rintro e x25 ⟨rfl, h⟩
          replace hC := hC.keep h
          replace bT := below_trans bT h
          clear h
          go_wp2_with fail
          go_ret
          exact ⟨rfl, bT⟩
        · skip
          go_wp2_with fail
          refine (drawNeighboursOf a0 c0 z0 s0 _ (w0.keep bT)).mono ?_
          rintro e t1 ⟨vd, D, j, rfl, hD, hDs, h⟩
          replace hC := hC.keep h
          replace bT := below_trans bT h
          clear h
          have HD := Lib.hid hD
          obtain ⟨gD, oD, cD, rfl, _, _, _⟩ := hD.form
          have hD := HD.out
          have hD5 := hDs.2.1
          clear HD hDs
          go_wp2_with fail
          refine (drawSubCartan a0 c0 z0 s0 _ (w0.keep bT)).mono ?_
          rintro e t2 ⟨ve, E, vs, S, rfl, hE, hEs, hS, hS6, h⟩
          replace hC := hC.keep h
          replace hD := hD.keep h
          replace bT := below_trans bT h
          clear h
          have HE := Lib.hid hE
          have HS := Lib.hid hS
          obtain ⟨gE, oE, cE, rfl, _, _, _⟩ := hE.form
          obtain ⟨gS, oS, cS, rfl, _, _, _⟩ := hS.form
          have hE := HE.out
          have hS := HS.out
          have hE5 := hEs.2.1
          clear HE HS hEs
          go_wp2_with fail
          refine (implSubCartan _ _ E S (by omega) (by omega) _ hE hS).mono ?_
          intro e x10 r
          obtain ⟨vx10, rfl, ox10, h⟩ := r.out
          clear r
          have hU := ox10.read
          clear ox10
          replace hC := hC.keep h
          replace hD := hD.keep h
          replace hE := hE.keep h
          replace hS := hS.keep h
          replace bT := below_trans bT h
          clear h
          obtain ⟨gx10, px10, cx10, rfl, _, _, _⟩ := hU.form
          go_wp2_with fail
          refine (specSubCartan _ _ E S (by omega) (by omega) _ hE hS).mono ?_
          intro e x11 r
          obtain ⟨vx11, rfl, ox11, h⟩ := r.out
          clear r
          have hV := ox11.read
          clear ox11
          replace hC := hC.keep h
          replace hD := hD.keep h
          replace hE := hE.keep h
          replace hS := hS.keep h
          replace hU := hU.keep h
          replace bT := below_trans bT h
          clear h
          obtain ⟨gx11, px11, cx11, rfl, _, _, _⟩ := hV.form
          clear hE hS
          go_wp2_with fail
          refine (drawRelabelCartan a0 c0 z0 s0 _ (w0.keep bT)).mono ?_
          rintro e t3 ⟨vf, F, vo, O, rfl, hF, hFs, hO, hO6, h⟩
          replace hC := hC.keep h
          replace hD := hD.keep h
          replace hU := hU.keep h
          replace hV := hV.keep h
          replace bT := below_trans bT h
          clear h
          have HF := Lib.hid hF
          have HO := Lib.hid hO
          obtain ⟨gF, oF, cF, rfl, _, _, _⟩ := hF.form
          obtain ⟨gO, oO, cO, rfl, _, _, _⟩ := hO.form
          have hF := HF.out
          have hO := HO.out
          have hF5 := hFs.2.1
          clear HF HO hFs
          go_wp2_with fail
          refine (implRelabelCartan _ _ F O (by omega) (by omega) _ hF hO).mono ?_
          intro e x12 r
          obtain ⟨vx12, rfl, ox12, h⟩ := r.out
          clear r
          have hG := ox12.read
          clear ox12
          replace hC := hC.keep h
          replace hD := hD.keep h
          replace hU := hU.keep h
          replace hV := hV.keep h
          replace hF := hF.keep h
          replace hO := hO.keep h
          replace bT := below_trans bT h
          clear h
          obtain ⟨gx12, px12, cx12, rfl, _, _, _⟩ := hG.form
          go_wp2_with fail
          refine (specRelabelCartan _ _ F O (by omega) (by omega) _ hF hO).mono ?_
          intro e x13 r
          obtain ⟨vx13, rfl, ox13, h⟩ := r.out
          clear r
          have hH := ox13.read
          clear ox13
          replace hC := hC.keep h
          replace hD := hD.keep h
          replace hU := hU.keep h
          replace hV := hV.keep h
          replace hF := hF.keep h
          replace hO := hO.keep h
          replace hG := hG.keep h
          replace bT := below_trans bT h
          clear h
          obtain ⟨gx13, px13, cx13, rfl, _, _, _⟩ := hH.form
          clear hF hO
          have ts := sub_total E S
          have tr := rel_total F O
          have tn : (nbL D j).length ≤ 5 := by have := nbT_len D j (colN D j); have := colN_le D j; unfold nbL; omega
          have tp := parts_total C
          go_wp2_with fail
          refine (implNeighboursOf _ D j (by omega) _ hD).mono ?_
          intro e x14 r
          obtain ⟨vx14, rfl, ox14, h⟩ := r.out
          clear r
          have hN1 := ox14.read
          clear ox14
          replace hC := hC.keep h
          replace hD := hD.keep h
          replace hU := hU.keep h
          replace hV := hV.keep h
          replace hG := hG.keep h
          replace hH := hH.keep h
          replace bT := below_trans bT h
          clear h
          obtain ⟨gx14, px14, cx14, rfl, _, _, _⟩ := hN1.form
          go_wp2_with fail
          refine (specNeighboursOf _ D j (by omega) _ hD).mono ?_
          intro e x15 r
          obtain ⟨vx15, rfl, ox15, h⟩ := r.out
          clear r
          have hN2 := ox15.read
          clear ox15
          replace hC := hC.keep h
          replace hD := hD.keep h
          replace hU := hU.keep h
          replace hV := hV.keep h
          replace hG := hG.keep h
          replace hH := hH.keep h
          replace hN1 := hN1.keep h
          replace bT := below_trans bT h
          clear h
          obtain ⟨gx15, px15, cx15, rfl, _, _, _⟩ := hN2.form
          go_wp2_with fail
          refine (lawSameInts _ _ (nbL D j) (nbL D j) (by omega) _ hN1 hN2).mono ?_
          rintro e x16 ⟨rfl, h⟩
          replace hC := hC.keep h
          replace hD := hD.keep h
          replace hU := hU.keep h
          replace hV := hV.keep h
          replace hG := hG.keep h
          replace hH := hH.keep h
          replace hN1 := hN1.keep h
          replace hN2 := hN2.keep h
          replace bT := below_trans bT h
          clear h
          clear hN1 hN2 hD
          simp only [eqI_refl]
          go_wp2_with fail
          refine (implPartsOf _ C (by omega) _ hC).mono ?_
          intro e x17 r
          obtain ⟨vx17, rfl, ox17, h⟩ := r.out
          clear r
          have hP1 := ox17.read
          clear ox17
          replace hC := hC.keep h
          replace hU := hU.keep h
          replace hV := hV.keep h
          replace hG := hG.keep h
          replace hH := hH.keep h
          replace bT := below_trans bT h
          clear h
          obtain ⟨gx17, px17, cx17, rfl, _, _, _⟩ := hP1.form
          go_wp2_with fail
          refine (specPartsOf _ C (by omega) _ hC).mono ?_
          intro e x18 r
          obtain ⟨vx18, rfl, ox18, h⟩ := r.out
          clear r
          have hP2 := ox18.read
          clear ox18
          replace hC := hC.keep h
          replace hU := hU.keep h
          replace hV := hV.keep h
          replace hG := hG.keep h
          replace hH := hH.keep h
          replace hP1 := hP1.keep h
          replace bT := below_trans bT h
          clear h
          obtain ⟨gx18, px18, cx18, rfl, _, _, _⟩ := hP2.form
          go_wp2_with fail
          refine (lawSameWords _ _ (partsL C) (partsL C) (by omega) _ hP1 hP2).mono ?_
          rintro e x19 ⟨rfl, h⟩
          replace hC := hC.keep h
          replace hU := hU.keep h
          replace hV := hV.keep h
          replace hG := hG.keep h
          replace hH := hH.keep h
          replace hP1 := hP1.keep h
          replace hP2 := hP2.keep h
          replace bT := below_trans bT h
          clear h
          clear hP1 hP2
          simp only [eqII_refl]
          go_wp2_with fail
          refine (lawSameWords _ _ (subL E S) (subL E S) (by omega) _ hU hV).mono ?_
          rintro e x20 ⟨rfl, h⟩
          replace hC := hC.keep h
          replace hU := hU.keep h
          replace hV := hV.keep h
          replace hG := hG.keep h
          replace hH := hH.keep h
          replace bT := below_trans bT h
          clear h
          clear hU hV
          simp only [eqII_refl]
          go_wp2_with fail
          refine (lawSameWords _ _ (relL F O) (relL F O) (by omega) _ hG hH).mono ?_
          rintro e x21 ⟨rfl, h⟩
          replace hC := hC.keep h
          replace hG := hG.keep h
          replace hH := hH.keep h
          replace bT := below_trans bT h
          clear h
          clear hG hH
          simp only [eqII_refl]
          go_wp2_with fail
          refine (implIsConnected _ C (by omega) _ hC).mono ?_
          rintro e x22 ⟨rfl, h⟩
          replace hC := hC.keep h
          replace bT := below_trans bT h
          clear h
          go_wp2_with fail
          refine (specIsConnected _ C (by omega) _ hC).mono ?_
          rintro e x23 ⟨rfl, h⟩
          replace hC := hC.keep h
          replace bT := below_trans bT h
          clear h
          go_wp2_with fail
          refine (implHasCycle _ C (by omega) _ hC).mono ?_
          rintro e x24 ⟨rfl, h⟩
          replace hC := hC.keep h
          replace bT := below_trans bT h
          clear h
          go_wp2_with fail
          refine (specHasCycle _ C (by omega) _ hC).mono ?_
          rintro e x25 ⟨rfl, h⟩
          replace hC := hC.keep h
          replace bT := below_trans bT h
          clear h
          go_wp2_with fail
          go_ret
          exact ⟨rfl, bT⟩

theorem own : ownKnob Tryz.prog.godebug = none := by kernel_rfl
theorem laidOut : laidOutB Tryz.prog = true := by kernel_rfl
set_option maxRecDepth 100000 in
theorem lifted (os : Os) (started : os.Started) (H : Type) (enc : TypeId × Value → H) :
    ReturnsInHanded {} Tryz.checked os 3 .any (fun w args => (Rows.fnDiagramsSpec.pre enc Tryz.prog Tryz.f3 [] false w args ∧ laidMetH Tryz.prog laidD w) ∧ sizedMet enc Tryz.prog Tryz.f3 (OpenSpec.ofChange Rows.fnDiagramsSpec) false w args)
      (Rows.fnDiagramsSpec.post enc Tryz.prog Tryz.f3 false true false false) := by
  refine changeAndShaped (C := Tryz.checked) (X := fun w _ => laidMetH Tryz.prog laidD w) (fun _ _ _ hh h => h.of_heap hh) own started (by kernel_rfl) Tryz.func3
    (ChangeSpec.witness_shaped (enc := enc) (C := Tryz.checked) (os := os) (X := fun w _ => laidMetH Tryz.prog laidD w) false (World.laidAll Tryz.prog os laidD) #[.slice none 0 0] 8 (World.laidAll_os _ _ _) (World.shaped_of_ZipB (by kernel_rfl) (by kernel_rfl)) (by kernel_rfl) (by kernel_rfl) (by kernel_rfl) (by rw [MakeChecks.laidMetH_plain _ _ _ (by kernel_rfl)]; exact laidMet_laidAll _ (by kernel_rfl) (by kernel_rfl))) ?_
  intro W base args ds gs before hval0 hW hL hS
  rw [MakeChecks.laidMetH_plain _ _ _ (by kernel_rfl)] at hL
  have hval : ∀ (j : Nat) t v, Tryz.f3.params[j]? = some t → args[j]? = some v → Value.okWide Tryz.prog W .any base t v := hval0
  have hW' := hW
  obtain ⟨p, q, hA0, hV, rfl, hfz, hnd⟩ := hW
  have hA : DataW.TrodAll enc Tryz.prog W 0 (fun _ => true) true Tryz.f3.params.toList args.toList ds p := hA0
  rw [Tryz.params3] at hA hval
  obtain ⟨v0, vs0, d0, ds0, p0, q0, hargs, rfl, rfl, h0, r0⟩ := trodAll_cons hA
  obtain ⟨rfl, rfl, rfl⟩ := trodAll_nil r0
  obtain rfl : args = #[v0] := by cases args; simp_all
  obtain ⟨rfl, rfl⟩ := trodVars_none hV
  obtain ⟨a0, len0, cap0, rfl⟩ := okWide_slice Tryz.underlying22 (hval 0 22 v0 rfl rfl)
  have k0 := h0
  have lt0 : ∀ x ∈ p0, x.block < W.heap.size := by obtain ⟨m, hm⟩ := k0; exact DataW.trod_lt m _ _ _ hm
  obtain ⟨z0, rfl, w0⟩ : ∃ zs : List Int, len0 = zs.length ∧ ArgB W a0 cap0 zs := by
    obtain ⟨fuel, hf⟩ := h0
    rcases open_ints Tryz.underlying22 Tryz.underlying5 (by kernel_rfl) hf with ⟨hcs, _⟩ | ⟨x, l, c, zs, hcs, _, hl, hm, hz, _, hcell, hwz⟩
    · simp [Value.cells] at hcs
      obtain ⟨rfl, rfl, rfl⟩ := hcs
      exact ⟨[], rfl, argB_nil W⟩
    · simp [Value.cells] at hcs
      obtain ⟨rfl, rfl, rfl⟩ := hcs
      exact ⟨_, argB_some hl hm (by simpa using hz) hcell hwz⟩
  clear hA0 hval0
  refine (walk W a0 cap0 z0 w0 hL hS).mono fun e W' ⟨he, bel⟩ => ?_
  subst he
  exact ⟨_, rfl, _, _, _, [], _, [], hW', trodAll_mk1 (shut_bool Tryz.underlying4 _), (trodAll_cons_mk (Below.trod laidOut (by kernel_rfl) (of_decide_eq_true (by kernel_rfl)) k0 bel lt0) trodAll_mk0), rfl, bel.frame _, fun h => by cases h⟩

theorem over : Rows.fnDiagramsRow.holds Tryz.pinned (OpenSpec.ofChange Rows.fnDiagramsSpec) :=
  OpenClaim.holds_of_wide 3 Tryz.f3 rfl rfl rfl rfl rfl rfl rfl ⟨rfl, rfl, rfl, rfl, rfl⟩ rfl rfl rfl rfl rfl (by kernel_rfl) Tryz.func3 (by kernel_rfl)
    (of_decide_eq_true (by kernel_rfl)) (by unfold Func.isWrapper; first | (rw [if_pos (by decide +kernel)]; kernel_rfl) | (rw [if_neg (by decide +kernel)]; exact ⟨rfl, rfl⟩))
    (fun os started H enc _ => lifted os started H enc)

theorem proved : Rows.FnDiagramsCardSaid :=
  Claim7.holds_tied_plain_at .later [] [.data, .pinned] true (true, "286c404a3442d8073e429c246eecfafdca6e35af4207595feabd738080626f50") true
    over (fun _ h => by cases h) (by kernel_rfl) (fun _ h => by cases h) fnDiagrams_row_tie rfl ⟨rfl, rfl⟩ (by kernel_rfl) rfl
    (fun f fn hf hfn => by
      obtain rfl : f = 3 := Option.some.inj ((show Tryz.prog.funcNamed "loop.example/g02076/laws.FnDiagrams" = some 3 by kernel_rfl).symm.trans hf) |>.symm
      obtain rfl : fn = Tryz.f3 := (Option.some.inj (Tryz.func3.symm.trans hfn)).symm
      exact ⟨by kernel_rfl, fun j t ht => by
        rw [Tryz.params3] at ht
        have hm : t ∈ [22] := by simpa using Array.mem_of_getElem? ht
        have hall : ([22].all fun u => !Tryz.prog.wantsStandIn u) = true := by kernel_rfl
        exact (show Tryz.prog.wantsStandIn t = false by simpa using List.all_eq_true.1 hall t hm)⟩)
    (by kernel_rfl)
#print axioms proved
end Go.Proofs.YtaikjkcbgniplaaGreatDoor.lawDia
