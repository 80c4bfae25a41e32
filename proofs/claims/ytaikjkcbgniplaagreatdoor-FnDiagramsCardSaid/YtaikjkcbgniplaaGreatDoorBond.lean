/- RhoOf, SimpleRootWeight, BondOf of the program and of the reference: what they answer, for at most 2^40 numbers. -/
import Derived.Test.YtaikjkcbgniplaaGreatDoorWgt
namespace Go.Proofs.YtaikjkcbgniplaaGreatDoor
open Go.RowKit
set_option linter.unusedVariables false

theorem pt_nat {n : Nat} {x : Int} (h : isPt n x = true) : ∃ k : Nat, x = (k : Int) ∧ k < n := by
  have := (isPt_iff n x).1 h
  exact ⟨x.toNat, by omega, by omega⟩
theorem isC_sq {c : List (List Int)} (h : isC c = true) (k : Nat) (hk : k < c.length) : c[k].length = c.length := ((isC_iff c).1 h).2.2.1 _ (List.getElem_mem hk)
def rhoN (c : List (List Int)) : Nat := if isC c then c.length else 0
def rhoL (c : List (List Int)) : List Int := List.replicate (rhoN c) 1
theorem rhoN_t {c : List (List Int)} (h : isC c = true) : rhoN c = c.length := by simp [rhoN, h]
theorem rhoN_f {c : List (List Int)} (h : isC c = false) : rhoN c = 0 := by simp [rhoN, h]
theorem rhoN_le (c : List (List Int)) : rhoN c ≤ c.length := by unfold rhoN; split <;> omega
theorem ones_snoc (k : Nat) : ivs (List.replicate (k + 1) (1 : Int)) = ivs (List.replicate k 1) ++ [.int .i64 1] := by
  rw [List.replicate_succ', ivs_append]; rfl
def colN (c : List (List Int)) (s : Int) : Nat := if isC c && isPt c.length s then c.length else 0
def colL (c : List (List Int)) (s : Int) : List Int := (List.range (colN c s)).map (fun i => ent c i s.toNat)
theorem colN_t {c : List (List Int)} {s : Int} (h : isC c = true) (h2 : isPt c.length s = true) : colN c s = c.length := by simp [colN, h, h2]
theorem colN_f {c : List (List Int)} {s : Int} (h : isC c = false) : colN c s = 0 := by simp [colN, h]
theorem colN_g {c : List (List Int)} {s : Int} (h : isPt c.length s = false) : colN c s = 0 := by simp [colN, h]
theorem colN_le (c : List (List Int)) (s : Int) : colN c s ≤ c.length := by unfold colN; split <;> omega
theorem col_snoc (c : List (List Int)) (s : Int) (k : Nat) (x : Int) (hx : ent c k s.toNat = x) (hk : k < colN c s) : ivs ((colL c s).take (k + 1)) = ivs ((colL c s).take k) ++ [.int .i64 x] := by
  subst hx
  rw [List.take_succ_eq_append_getElem (by simpa [colL] using hk)]
  simp [ivs, colL]
theorem col_end (c : List (List Int)) (s : Int) : (colL c s).take (colN c s) = colL c s := List.take_of_length_le (by simp [colL])
theorem colL_length (c : List (List Int)) (s : Int) : (colL c s).length = colN c s := by simp [colL]
def bondP (p : Int) : Int := if p = 0 then 2 else if p = 1 then 3 else if p = 2 then 4 else if p = 3 then 6 else 0
def bond (c : List (List Int)) (i j : Int) : Int := if isC c && isPt c.length i && isPt c.length j then (if i = j then 1 else bondP (wrap64 (ent c i.toNat j.toNat * ent c j.toNat i.toNat))) else -1
theorem bond_f {c : List (List Int)} {i j : Int} (h : isC c = false) : bond c i j = -1 := by simp [bond, h]
theorem bond_g {c : List (List Int)} {i j : Int} (h : isPt c.length i = false) : bond c i j = -1 := by simp [bond, h]
theorem bond_h {c : List (List Int)} {i j : Int} (h : isPt c.length j = false) : bond c i j = -1 := by simp [bond, h]
theorem bond_d {c : List (List Int)} {i j : Int} (h : isC c = true) (h1 : isPt c.length i = true) (h2 : isPt c.length j = true) (e : i = j) : bond c i j = 1 := by subst e; simp [bond, h, h1]
theorem bond_o {c : List (List Int)} {i j : Nat} {x y p : Int} (h : isC c = true) (h1 : isPt c.length i = true) (h2 : isPt c.length j = true) (e : (i : Int) ≠ j) (hx : ent c i j = x) (hy : ent c j i = y) (hp : wrap64 (x * y) = p) : bond c i j = bondP p := by
  subst hx hy hp; simp only [bond, h, h1, h2, Bool.and_self, if_pos, if_neg e, Int.toNat_natCast]
theorem bp0 : bondP 0 = 2 := rfl
theorem bp1 : bondP 1 = 3 := rfl
theorem bp2 : bondP 2 = 4 := rfl
theorem bp3 : bondP 3 = 6 := rfl
theorem bp4 {p : Int} (h0 : p ≠ 0) (h1 : p ≠ 1) (h2 : p ≠ 2) (h3 : p ≠ 3) : bondP p = 0 := by simp [bondP, h0, h1, h2, h3]


set_option maxHeartbeats 2000000 in
theorem specBondOf (v1 : Value) (c : List (List Int)) (i j : Int) (hc : c.length ≤ 1099511627776) (w : World) (h1 : II w v1 c) :
    Calls Tryz.prog 62 #[v1, .int .i64 i, .int .i64 j] w fun e w' => e = .returned (.int .i64 (bond c i j)) ∧ Below w.heap.size w w' := by
  obtain ⟨g1, o1, c1, hv1, _, _, hc1⟩ := h1.form
  have H1 := Lib.hid hc1
  clear hc1
  subst hv1
  cases hC : isC c with
  | false =>
    have HF := Lib.hid (bond_f (i := i) (j := j) hC)
    have HC := Lib.hid hC
    clear hC
    go_enter Tryz.func62, Tryz.ntmps62
    go_wp2_with fail
    refine (specIsCartan _ c hc _ h1).mono ?_
    rw [HC.out]
    rintro e w1 ⟨rfl, hb1⟩
    have k1 := h1.keep hb1
    clear h1
    go_wp2_with fail
    go_ret
    exact ⟨ret_int HF.out.symm, hb1⟩
  | true =>
    have HC := Lib.hid hC
    clear hC
    cases hp : isPt c.length i with
    | false =>
      have HF := Lib.hid (bond_g (c := c) (i := i) (j := j) hp)
      have HP := Lib.hid hp
      clear hp
      go_enter Tryz.func62, Tryz.ntmps62
      go_wp2_with fail
      refine (specIsCartan _ c hc _ h1).mono ?_
      rw [HC.out]
      rintro e w1 ⟨rfl, hb1⟩
      have k1 := h1.keep hb1
      clear h1
      go_wp2_with fail
      refine (l1In _ _ _ _).mono ?_
      rw [isPt_le, HP.out]
      rintro e w2 ⟨rfl, rfl⟩
      go_wp2_with fail
      go_ret
      exact ⟨ret_int HF.out.symm, hb1⟩
    | true =>
      have HP := Lib.hid hp
      clear hp
      cases hq : isPt c.length j with
      | false =>
        have HF := Lib.hid (bond_h (c := c) (i := i) (j := j) hq)
        have HQ := Lib.hid hq
        clear hq
        go_enter Tryz.func62, Tryz.ntmps62
        go_wp2_with fail
        refine (specIsCartan _ c hc _ h1).mono ?_
        rw [HC.out]
        rintro e w1 ⟨rfl, hb1⟩
        have k1 := h1.keep hb1
        clear h1
        go_wp2_with fail
        refine (l1In _ _ _ _).mono ?_
        rw [isPt_le, HP.out]
        rintro e w2 ⟨rfl, rfl⟩
        go_wp2_with fail
        refine (l1In _ _ _ _).mono ?_
        rw [isPt_le, HQ.out]
        rintro e w2 ⟨rfl, rfl⟩
        go_wp2_with fail
        go_ret
        exact ⟨ret_int HF.out.symm, hb1⟩
      | true =>
        have HQ := Lib.hid hq
        clear hq
        by_cases hij : i = j
        · have HF := Lib.hid (bond_d HC.out HP.out HQ.out hij)
          have d1 : (i == j) = true := by rw [beq_iff_eq]; exact hij
          clear hij
          go_enter Tryz.func62, Tryz.ntmps62
          go_wp2_with fail
          refine (specIsCartan _ c hc _ h1).mono ?_
          rw [HC.out]
          rintro e w1 ⟨rfl, hb1⟩
          have k1 := h1.keep hb1
          clear h1
          go_wp2_with fail
          refine (l1In _ _ _ _).mono ?_
          rw [isPt_le, HP.out]
          rintro e w2 ⟨rfl, rfl⟩
          go_wp2_with fail
          refine (l1In _ _ _ _).mono ?_
          rw [isPt_le, HQ.out]
          rintro e w2 ⟨rfl, rfl⟩
          go_wp2_with fail
          go_ret
          exact ⟨ret_int HF.out.symm, hb1⟩
        · have d1 : (i == j) = false := by rw [beq_eq_false_iff_ne]; exact hij
          obtain ⟨ni, ei, hni⟩ := pt_nat HP.out
          obtain ⟨nj, ej, hnj⟩ := pt_nat HQ.out
          subst ei ej
          have sq1 := isC_sq HC.out ni hni
          have sq2 := isC_sq HC.out nj hnj
          obtain ⟨gi, oi, ci, x, y1, y2, hx⟩ := II.at H1.out hni (by rw [sq1]; exact hnj)
          obtain ⟨gj, oj, cj, y, y3, y4, hy⟩ := II.at H1.out hnj (by rw [sq2]; exact hni)
          have hk0 : (0 : Int) ≤ (ni : Int) := by omega
          have hk1 : (ni : Int) < (c.length : Int) := by omega
          have hk2 : (0 : Int) ≤ (nj : Int) := by omega
          have hk3 : (nj : Int) < (c.length : Int) := by omega
          have hk4 : (nj : Int) < (c[ni].length : Int) := by rw [sq1]; omega
          have hk5 : (ni : Int) < (c[nj].length : Int) := by rw [sq2]; omega
          have HB := Lib.hid (fun (p : Int) (hp : wrap64 (x * y) = p) => bond_o HC.out HP.out HQ.out hij hx hy hp)
          clear hij hx hy sq1 sq2
          by_cases z0 : wrap64 (x * y) = 0
          · have HF := Lib.hid ((HB.out _ z0).trans bp0)
            have e0 : (wrap64 (x * y) == 0) = true := by rw [beq_iff_eq]; exact z0
            clear z0
            go_enter Tryz.func62, Tryz.ntmps62
            go_wp2_with fail
            refine (specIsCartan _ c hc _ h1).mono ?_
            rw [HC.out]
            rintro e w1 ⟨rfl, hb1⟩
            have k1 := h1.keep hb1
            clear h1
            go_wp2_with fail
            refine (l1In _ _ _ _).mono ?_
            rw [isPt_le, HP.out]
            rintro e w2 ⟨rfl, rfl⟩
            go_wp2_with fail
            refine (l1In _ _ _ _).mono ?_
            rw [isPt_le, HQ.out]
            rintro e w2 ⟨rfl, rfl⟩
            have x1 := cells_keep hb1 y1
            have x2 := cells_keep hb1 y2
            have x3 := cells_keep hb1 y3
            have x4 := cells_keep hb1 y4
            go_wp2_with fail
            go_quiet (fail)
            go_wp2_with fail
            go_ret
            exact ⟨ret_int HF.out.symm, below_drewN hb1 nq⟩
          · have e0 : (wrap64 (x * y) == 0) = false := by rw [beq_eq_false_iff_ne]; exact z0
            by_cases z1 : wrap64 (x * y) = 1
            · have HF := Lib.hid ((HB.out _ z1).trans bp1)
              have e1 : (wrap64 (x * y) == 1) = true := by rw [beq_iff_eq]; exact z1
              clear z0
              clear z1
              go_enter Tryz.func62, Tryz.ntmps62
              go_wp2_with fail
              refine (specIsCartan _ c hc _ h1).mono ?_
              rw [HC.out]
              rintro e w1 ⟨rfl, hb1⟩
              have k1 := h1.keep hb1
              clear h1
              go_wp2_with fail
              refine (l1In _ _ _ _).mono ?_
              rw [isPt_le, HP.out]
              rintro e w2 ⟨rfl, rfl⟩
              go_wp2_with fail
              refine (l1In _ _ _ _).mono ?_
              rw [isPt_le, HQ.out]
              rintro e w2 ⟨rfl, rfl⟩
              have x1 := cells_keep hb1 y1
              have x2 := cells_keep hb1 y2
              have x3 := cells_keep hb1 y3
              have x4 := cells_keep hb1 y4
              go_wp2_with fail
              go_quiet (fail)
              go_wp2_with fail
              go_ret
              exact ⟨ret_int HF.out.symm, below_drewN hb1 nq⟩
            · have e1 : (wrap64 (x * y) == 1) = false := by rw [beq_eq_false_iff_ne]; exact z1
              by_cases z2 : wrap64 (x * y) = 2
              · have HF := Lib.hid ((HB.out _ z2).trans bp2)
                have e2 : (wrap64 (x * y) == 2) = true := by rw [beq_iff_eq]; exact z2
                clear z0
                clear z1
                clear z2
                go_enter Tryz.func62, Tryz.ntmps62
                go_wp2_with fail
                refine (specIsCartan _ c hc _ h1).mono ?_
                rw [HC.out]
                rintro e w1 ⟨rfl, hb1⟩
                have k1 := h1.keep hb1
                clear h1
                go_wp2_with fail
                refine (l1In _ _ _ _).mono ?_
                rw [isPt_le, HP.out]
                rintro e w2 ⟨rfl, rfl⟩
                go_wp2_with fail
                refine (l1In _ _ _ _).mono ?_
                rw [isPt_le, HQ.out]
                rintro e w2 ⟨rfl, rfl⟩
                have x1 := cells_keep hb1 y1
                have x2 := cells_keep hb1 y2
                have x3 := cells_keep hb1 y3
                have x4 := cells_keep hb1 y4
                go_wp2_with fail
                go_quiet (fail)
                go_wp2_with fail
                go_ret
                exact ⟨ret_int HF.out.symm, below_drewN hb1 nq⟩
              · have e2 : (wrap64 (x * y) == 2) = false := by rw [beq_eq_false_iff_ne]; exact z2
                by_cases z3 : wrap64 (x * y) = 3
                · have HF := Lib.hid ((HB.out _ z3).trans bp3)
                  have e3 : (wrap64 (x * y) == 3) = true := by rw [beq_iff_eq]; exact z3
                  clear z0
                  clear z1
                  clear z2
                  clear z3
                  go_enter Tryz.func62, Tryz.ntmps62
                  go_wp2_with fail
                  refine (specIsCartan _ c hc _ h1).mono ?_
                  rw [HC.out]
                  rintro e w1 ⟨rfl, hb1⟩
                  have k1 := h1.keep hb1
                  clear h1
                  go_wp2_with fail
                  refine (l1In _ _ _ _).mono ?_
                  rw [isPt_le, HP.out]
                  rintro e w2 ⟨rfl, rfl⟩
                  go_wp2_with fail
                  refine (l1In _ _ _ _).mono ?_
                  rw [isPt_le, HQ.out]
                  rintro e w2 ⟨rfl, rfl⟩
                  have x1 := cells_keep hb1 y1
                  have x2 := cells_keep hb1 y2
                  have x3 := cells_keep hb1 y3
                  have x4 := cells_keep hb1 y4
                  go_wp2_with fail
                  go_quiet (fail)
                  go_wp2_with fail
                  go_ret
                  exact ⟨ret_int HF.out.symm, below_drewN hb1 nq⟩
                · have e3 : (wrap64 (x * y) == 3) = false := by rw [beq_eq_false_iff_ne]; exact z3
                  have HF := Lib.hid ((HB.out _ rfl).trans (bp4 z0 z1 z2 z3))
                  clear z0 z1 z2 z3
                  go_enter Tryz.func62, Tryz.ntmps62
                  go_wp2_with fail
                  refine (specIsCartan _ c hc _ h1).mono ?_
                  rw [HC.out]
                  rintro e w1 ⟨rfl, hb1⟩
                  have k1 := h1.keep hb1
                  clear h1
                  go_wp2_with fail
                  refine (l1In _ _ _ _).mono ?_
                  rw [isPt_le, HP.out]
                  rintro e w2 ⟨rfl, rfl⟩
                  go_wp2_with fail
                  refine (l1In _ _ _ _).mono ?_
                  rw [isPt_le, HQ.out]
                  rintro e w2 ⟨rfl, rfl⟩
                  have x1 := cells_keep hb1 y1
                  have x2 := cells_keep hb1 y2
                  have x3 := cells_keep hb1 y3
                  have x4 := cells_keep hb1 y4
                  go_wp2_with fail
                  go_quiet (fail)
                  go_wp2_with fail
                  go_ret
                  exact ⟨ret_int HF.out.symm, below_drewN hb1 nq⟩
set_option maxHeartbeats 2000000 in
theorem implBondOf (v1 : Value) (c : List (List Int)) (i j : Int) (hc : c.length ≤ 1099511627776) (w : World) (h1 : II w v1 c) :
    Calls Tryz.prog 61 #[v1, .int .i64 i, .int .i64 j] w fun e w' => e = .returned (.int .i64 (bond c i j)) ∧ Below w.heap.size w w' := by
  obtain ⟨g1, o1, c1, hv1, _, _, hc1⟩ := h1.form
  have H1 := Lib.hid hc1
  clear hc1
  subst hv1
  cases hC : isC c with
  | false =>
    have HF := Lib.hid (bond_f (i := i) (j := j) hC)
    have HC := Lib.hid hC
    clear hC
    go_enter Tryz.func61, Tryz.ntmps61
    go_wp2_with fail
    refine (implIsCartan _ c hc _ h1).mono ?_
    rw [HC.out]
    rintro e w1 ⟨rfl, hb1⟩
    have k1 := h1.keep hb1
    clear h1
    go_wp2_with fail
    go_ret
    exact ⟨ret_int HF.out.symm, hb1⟩
  | true =>
    have HC := Lib.hid hC
    clear hC
    cases hp : isPt c.length i with
    | false =>
      have HF := Lib.hid (bond_g (c := c) (i := i) (j := j) hp)
      have HP := Lib.hid hp
      clear hp
      go_enter Tryz.func61, Tryz.ntmps61
      go_wp2_with fail
      refine (implIsCartan _ c hc _ h1).mono ?_
      rw [HC.out]
      rintro e w1 ⟨rfl, hb1⟩
      have k1 := h1.keep hb1
      clear h1
      go_wp2_with fail
      refine (isPoint _ c _ _ k1).mono ?_
      rw [HP.out]
      rintro e w2 ⟨rfl, rfl⟩
      go_wp2_with fail
      go_ret
      exact ⟨ret_int HF.out.symm, hb1⟩
    | true =>
      have HP := Lib.hid hp
      clear hp
      cases hq : isPt c.length j with
      | false =>
        have HF := Lib.hid (bond_h (c := c) (i := i) (j := j) hq)
        have HQ := Lib.hid hq
        clear hq
        go_enter Tryz.func61, Tryz.ntmps61
        go_wp2_with fail
        refine (implIsCartan _ c hc _ h1).mono ?_
        rw [HC.out]
        rintro e w1 ⟨rfl, hb1⟩
        have k1 := h1.keep hb1
        clear h1
        go_wp2_with fail
        refine (isPoint _ c _ _ k1).mono ?_
        rw [HP.out]
        rintro e w2 ⟨rfl, rfl⟩
        go_wp2_with fail
        refine (isPoint _ c _ _ k1).mono ?_
        rw [HQ.out]
        rintro e w2 ⟨rfl, rfl⟩
        go_wp2_with fail
        go_ret
        exact ⟨ret_int HF.out.symm, hb1⟩
      | true =>
        have HQ := Lib.hid hq
        clear hq
        by_cases hij : i = j
        · have HF := Lib.hid (bond_d HC.out HP.out HQ.out hij)
          have d1 : (i == j) = true := by rw [beq_iff_eq]; exact hij
          clear hij
          go_enter Tryz.func61, Tryz.ntmps61
          go_wp2_with fail
          refine (implIsCartan _ c hc _ h1).mono ?_
          rw [HC.out]
          rintro e w1 ⟨rfl, hb1⟩
          have k1 := h1.keep hb1
          clear h1
          go_wp2_with fail
          refine (isPoint _ c _ _ k1).mono ?_
          rw [HP.out]
          rintro e w2 ⟨rfl, rfl⟩
          go_wp2_with fail
          refine (isPoint _ c _ _ k1).mono ?_
          rw [HQ.out]
          rintro e w2 ⟨rfl, rfl⟩
          go_wp2_with fail
          go_ret
          exact ⟨ret_int HF.out.symm, hb1⟩
        · have d1 : (i == j) = false := by rw [beq_eq_false_iff_ne]; exact hij
          obtain ⟨ni, ei, hni⟩ := pt_nat HP.out
          obtain ⟨nj, ej, hnj⟩ := pt_nat HQ.out
          subst ei ej
          have sq1 := isC_sq HC.out ni hni
          have sq2 := isC_sq HC.out nj hnj
          obtain ⟨gi, oi, ci, x, y1, y2, hx⟩ := II.at H1.out hni (by rw [sq1]; exact hnj)
          obtain ⟨gj, oj, cj, y, y3, y4, hy⟩ := II.at H1.out hnj (by rw [sq2]; exact hni)
          have hk0 : (0 : Int) ≤ (ni : Int) := by omega
          have hk1 : (ni : Int) < (c.length : Int) := by omega
          have hk2 : (0 : Int) ≤ (nj : Int) := by omega
          have hk3 : (nj : Int) < (c.length : Int) := by omega
          have hk4 : (nj : Int) < (c[ni].length : Int) := by rw [sq1]; omega
          have hk5 : (ni : Int) < (c[nj].length : Int) := by rw [sq2]; omega
          have HB := Lib.hid (fun (p : Int) (hp : wrap64 (x * y) = p) => bond_o HC.out HP.out HQ.out hij hx hy hp)
          clear hij hx hy sq1 sq2
          by_cases z0 : wrap64 (x * y) = 0
          · have HF := Lib.hid ((HB.out _ z0).trans bp0)
            have e0 : (wrap64 (x * y) == 0) = true := by rw [beq_iff_eq]; exact z0
            clear z0
            go_enter Tryz.func61, Tryz.ntmps61
            go_wp2_with fail
            refine (implIsCartan _ c hc _ h1).mono ?_
            rw [HC.out]
            rintro e w1 ⟨rfl, hb1⟩
            have k1 := h1.keep hb1
            clear h1
            go_wp2_with fail
            refine (isPoint _ c _ _ k1).mono ?_
            rw [HP.out]
            rintro e w2 ⟨rfl, rfl⟩
            go_wp2_with fail
            refine (isPoint _ c _ _ k1).mono ?_
            rw [HQ.out]
            rintro e w2 ⟨rfl, rfl⟩
            have x1 := cells_keep hb1 y1
            have x2 := cells_keep hb1 y2
            have x3 := cells_keep hb1 y3
            have x4 := cells_keep hb1 y4
            go_wp2_with fail
            go_quiet (fail)
            go_wp2_with fail
            go_ret
            exact ⟨ret_int HF.out.symm, below_drewN hb1 nq⟩
          · have e0 : (wrap64 (x * y) == 0) = false := by rw [beq_eq_false_iff_ne]; exact z0
            by_cases z1 : wrap64 (x * y) = 1
            · have HF := Lib.hid ((HB.out _ z1).trans bp1)
              have e1 : (wrap64 (x * y) == 1) = true := by rw [beq_iff_eq]; exact z1
              clear z0
              clear z1
              go_enter Tryz.func61, Tryz.ntmps61
              go_wp2_with fail
              refine (implIsCartan _ c hc _ h1).mono ?_
              rw [HC.out]
              rintro e w1 ⟨rfl, hb1⟩
              have k1 := h1.keep hb1
              clear h1
              go_wp2_with fail
              refine (isPoint _ c _ _ k1).mono ?_
              rw [HP.out]
              rintro e w2 ⟨rfl, rfl⟩
              go_wp2_with fail
              refine (isPoint _ c _ _ k1).mono ?_
              rw [HQ.out]
              rintro e w2 ⟨rfl, rfl⟩
              have x1 := cells_keep hb1 y1
              have x2 := cells_keep hb1 y2
              have x3 := cells_keep hb1 y3
              have x4 := cells_keep hb1 y4
              go_wp2_with fail
              go_quiet (fail)
              go_wp2_with fail
              go_ret
              exact ⟨ret_int HF.out.symm, below_drewN hb1 nq⟩
            · have e1 : (wrap64 (x * y) == 1) = false := by rw [beq_eq_false_iff_ne]; exact z1
              by_cases z2 : wrap64 (x * y) = 2
              · have HF := Lib.hid ((HB.out _ z2).trans bp2)
                have e2 : (wrap64 (x * y) == 2) = true := by rw [beq_iff_eq]; exact z2
                clear z0
                clear z1
                clear z2
                go_enter Tryz.func61, Tryz.ntmps61
                go_wp2_with fail
                refine (implIsCartan _ c hc _ h1).mono ?_
                rw [HC.out]
                rintro e w1 ⟨rfl, hb1⟩
                have k1 := h1.keep hb1
                clear h1
                go_wp2_with fail
                refine (isPoint _ c _ _ k1).mono ?_
                rw [HP.out]
                rintro e w2 ⟨rfl, rfl⟩
                go_wp2_with fail
                refine (isPoint _ c _ _ k1).mono ?_
                rw [HQ.out]
                rintro e w2 ⟨rfl, rfl⟩
                have x1 := cells_keep hb1 y1
                have x2 := cells_keep hb1 y2
                have x3 := cells_keep hb1 y3
                have x4 := cells_keep hb1 y4
                go_wp2_with fail
                go_quiet (fail)
                go_wp2_with fail
                go_ret
                exact ⟨ret_int HF.out.symm, below_drewN hb1 nq⟩
              · have e2 : (wrap64 (x * y) == 2) = false := by rw [beq_eq_false_iff_ne]; exact z2
                by_cases z3 : wrap64 (x * y) = 3
                · have HF := Lib.hid ((HB.out _ z3).trans bp3)
                  have e3 : (wrap64 (x * y) == 3) = true := by rw [beq_iff_eq]; exact z3
                  clear z0
                  clear z1
                  clear z2
                  clear z3
                  go_enter Tryz.func61, Tryz.ntmps61
                  go_wp2_with fail
                  refine (implIsCartan _ c hc _ h1).mono ?_
                  rw [HC.out]
                  rintro e w1 ⟨rfl, hb1⟩
                  have k1 := h1.keep hb1
                  clear h1
                  go_wp2_with fail
                  refine (isPoint _ c _ _ k1).mono ?_
                  rw [HP.out]
                  rintro e w2 ⟨rfl, rfl⟩
                  go_wp2_with fail
                  refine (isPoint _ c _ _ k1).mono ?_
                  rw [HQ.out]
                  rintro e w2 ⟨rfl, rfl⟩
                  have x1 := cells_keep hb1 y1
                  have x2 := cells_keep hb1 y2
                  have x3 := cells_keep hb1 y3
                  have x4 := cells_keep hb1 y4
                  go_wp2_with fail
                  go_quiet (fail)
                  go_wp2_with fail
                  go_ret
                  exact ⟨ret_int HF.out.symm, below_drewN hb1 nq⟩
                · have e3 : (wrap64 (x * y) == 3) = false := by rw [beq_eq_false_iff_ne]; exact z3
                  have HF := Lib.hid ((HB.out _ rfl).trans (bp4 z0 z1 z2 z3))
                  clear z0 z1 z2 z3
                  go_enter Tryz.func61, Tryz.ntmps61
                  go_wp2_with fail
                  refine (implIsCartan _ c hc _ h1).mono ?_
                  rw [HC.out]
                  rintro e w1 ⟨rfl, hb1⟩
                  have k1 := h1.keep hb1
                  clear h1
                  go_wp2_with fail
                  refine (isPoint _ c _ _ k1).mono ?_
                  rw [HP.out]
                  rintro e w2 ⟨rfl, rfl⟩
                  go_wp2_with fail
                  refine (isPoint _ c _ _ k1).mono ?_
                  rw [HQ.out]
                  rintro e w2 ⟨rfl, rfl⟩
                  have x1 := cells_keep hb1 y1
                  have x2 := cells_keep hb1 y2
                  have x3 := cells_keep hb1 y3
                  have x4 := cells_keep hb1 y4
                  go_wp2_with fail
                  go_quiet (fail)
                  go_wp2_with fail
                  go_ret
                  exact ⟨ret_int HF.out.symm, below_drewN hb1 nq⟩
end Go.Proofs.YtaikjkcbgniplaaGreatDoor
