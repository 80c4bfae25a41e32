/- Finite types: the principal minors of a matrix by polynomials, their signs do not depend on the order of the points, the connected matrices with positive minors are those with a name of finite type (by kernel over the matrices), and so a matrix is of finite type exactly if each of its parts has such a name. Plain: of no program. -/
import Derived.Test.YtaikjkcbgniplaaGreatDoorNameOf
import Derived.Test.YtaikjkcbgniplaaGreatDoorSize
namespace Go.Proofs.YtaikjkcbgniplaaGreatDoor
open Go.RowKit
set_option linter.unusedVariables false
set_option linter.unusedSimpArgs false

theorem wrap64_addl (a b : Int) : wrap64 (wrap64 a + b) = wrap64 (a + b) := by unfold wrap64; omega
theorem wrap64_mulr (a b : Int) : wrap64 (a * wrap64 b) = wrap64 (a * b) := by rw [Int.mul_comm, wrap64_mull, Int.mul_comm]
theorem wrap64_zero : wrap64 0 = 0 := by decide +kernel
theorem wrap64_small {a : Int} (h : -1000000 ≤ a ∧ a ≤ 1000000) : wrap64 a = a := by unfold wrap64; omega

def m2 (a : Nat → Nat → Int) (i j : Nat) : Int := 4 - a i j * a j i
def m3 (a : Nat → Nat → Int) (i j k : Nat) : Int := 8 - 2 * (a i j * a j i) - 2 * (a i k * a k i) - 2 * (a j k * a k j) + a i j * a j k * a k i + a i k * a k j * a j i
def m4 (a : Nat → Nat → Int) (i j k l : Nat) : Int :=
  2 * m3 a j k l
  - a i j * (a j i * m2 a k l - a j k * (a k i * 2 - a k l * a l i) + a j l * (a k i * a l k - 2 * a l i))
  + a i k * (a j i * (a k j * 2 - a k l * a l j) - 2 * (a k i * 2 - a k l * a l i) + a j l * (a k i * a l j - a k j * a l i))
  - a i l * (a j i * (a k j * a l k - 2 * a l j) - 2 * (a k i * a l k - 2 * a l i) + a j k * (a k i * a l j - a k j * a l i))

theorem det2 (x y : Int) : det 2 [[2, x], [y, 2]] = wrap64 (4 - x * y) := by
  simp [det, detT, detM, woL, ent, wrap64_addl, wrap64_addr, wrap64_mull, wrap64_mulr, wrap64_neg, wrap64_idem]
  try congr 1
  try grind
theorem det3 (x y z x' y' z' : Int) : det 3 [[2, x, y], [x', 2, z], [y', z', 2]] = wrap64 (8 - 2 * (x * x') - 2 * (y * y') - 2 * (z * z') + x * z * y' + y * z' * x') := by
  simp [det, detT, detM, woL, ent, wrap64_addl, wrap64_addr, wrap64_mull, wrap64_mulr, wrap64_neg, wrap64_idem]
  congr 1
  grind
theorem det4 (a : Nat → Nat → Int) (i j k l : Nat) : det 4 [[2, a i j, a i k, a i l], [a j i, 2, a j k, a j l], [a k i, a k j, 2, a k l], [a l i, a l j, a l k, 2]] = wrap64 (m4 a i j k l) := by
  simp [det, detT, detM, woL, ent, wrap64_addl, wrap64_addr, wrap64_mull, wrap64_mulr, wrap64_neg, wrap64_idem, m4, m3, m2]
  congr 1
  grind
theorem m3_swap1 (a) (i j k) : m3 a j i k = m3 a i j k := by unfold m3; grind
theorem m3_swap2 (a) (i j k) : m3 a i k j = m3 a i j k := by unfold m3; grind
theorem m4_swap1 (a) (i j k l) : m4 a j i k l = m4 a i j k l := by unfold m4 m3 m2; grind
theorem m4_swap2 (a) (i j k l) : m4 a i k j l = m4 a i j k l := by unfold m4 m3 m2; grind
theorem m4_swap3 (a) (i j k l) : m4 a i j l k = m4 a i j k l := by unfold m4 m3 m2; grind

theorem nab {x y : Int} {A B : Nat} (h : x.natAbs ≤ A) (k : y.natAbs ≤ B) : (x * y).natAbs ≤ A * B := by
  rw [Int.natAbs_mul]; exact Nat.mul_le_mul h k
theorem isC_abs {c : List (List Int)} (h : isC c = true) (i j : Nat) : (ent c i j).natAbs ≤ 3 := by
  obtain ⟨h1, h2, h3, h4⟩ := (isC_iff c).1 h
  by_cases hi : i < c.length
  · by_cases hj : j < c.length
    · have := h4 i hi j hj
      unfold OkE at this
      split at this <;> omega
    · have hr : (c[i]).length = c.length := h3 _ (List.getElem_mem hi)
      have : ent c i j = 0 := by
        simp only [ent, List.getD, List.getElem?_eq_getElem hi, Option.getD_some]
        rw [List.getElem?_eq_none (by omega)]; rfl
      omega
  · have : ent c i j = 0 := by
      have e : c[i]? = none := List.getElem?_eq_none (by omega)
      simp only [ent, List.getD, e]; rfl
    omega
theorem m2_small {a : Nat → Nat → Int} (h : ∀ i j, (a i j).natAbs ≤ 3) (i j : Nat) : -1000000 ≤ m2 a i j ∧ m2 a i j ≤ 1000000 := by
  have := nab (h i j) (h j i)
  unfold m2
  generalize a i j * a j i = x at *
  omega
theorem m3_small {a : Nat → Nat → Int} (h : ∀ i j, (a i j).natAbs ≤ 3) (i j k : Nat) : -1000 ≤ m3 a i j k ∧ m3 a i j k ≤ 1000 := by
  have h1 := nab (h i j) (h j i)
  have h2 := nab (h i k) (h k i)
  have h3 := nab (h j k) (h k j)
  have h4 := nab (nab (h i j) (h j k)) (h k i)
  have h5 := nab (nab (h i k) (h k j)) (h j i)
  unfold m3
  generalize a i j * a j k * a k i = x4 at *
  generalize a i k * a k j * a j i = x5 at *
  generalize a i j * a j i = x1 at *
  generalize a i k * a k i = x2 at *
  generalize a j k * a k j = x3 at *
  omega
theorem nad {x y : Int} {A B C : Nat} (h : x.natAbs ≤ A) (k : y.natAbs ≤ B) (e : A + B ≤ C) : (x - y).natAbs ≤ C ∧ (x + y).natAbs ≤ C := by omega
theorem m4_small {a : Nat → Nat → Int} (h : ∀ i j, (a i j).natAbs ≤ 3) (i j k l : Nat) : -1000000 ≤ m4 a i j k l ∧ m4 a i j k l ≤ 1000000 := by
  have t2 : ∀ x y z u : Int, x.natAbs ≤ 3 → y.natAbs ≤ 3 → z.natAbs ≤ 3 → u.natAbs ≤ 3 → (x * y - z * u).natAbs ≤ 18 := fun x y z u hx hy hz hu => (nad (nab hx hy) (nab hz hu) (by omega)).1
  have n2 : (2 : Int).natAbs ≤ 3 := by decide
  have M3 := m3_small h j k l
  have q2 : (m2 a k l).natAbs ≤ 18 := by have := nab (h k l) (h l k); unfold m2; generalize a k l * a l k = x at *; omega
  have e1 : (a i j * (a j i * m2 a k l - a j k * (a k i * 2 - a k l * a l i) + a j l * (a k i * a l k - 2 * a l i))).natAbs ≤ 3 * 162 :=
    nab (h _ _) (nad (nad (nab (h _ _) q2) (nab (h _ _) (t2 _ _ _ _ (h _ _) n2 (h _ _) (h _ _))) (Nat.le_refl _)).1 (nab (h _ _) (t2 _ _ _ _ (h _ _) (h _ _) n2 (h _ _))) (by omega)).2
  have e2 : (a i k * (a j i * (a k j * 2 - a k l * a l j) - 2 * (a k i * 2 - a k l * a l i) + a j l * (a k i * a l j - a k j * a l i))).natAbs ≤ 3 * 162 :=
    nab (h _ _) (nad (nad (nab (h _ _) (t2 _ _ _ _ (h _ _) n2 (h _ _) (h _ _))) (nab n2 (t2 _ _ _ _ (h _ _) n2 (h _ _) (h _ _))) (Nat.le_refl _)).1 (nab (h _ _) (t2 _ _ _ _ (h _ _) (h _ _) (h _ _) (h _ _))) (by omega)).2
  have e3 : (a i l * (a j i * (a k j * a l k - 2 * a l j) - 2 * (a k i * a l k - 2 * a l i) + a j k * (a k i * a l j - a k j * a l i))).natAbs ≤ 3 * 162 :=
    nab (h _ _) (nad (nad (nab (h _ _) (t2 _ _ _ _ (h _ _) (h _ _) n2 (h _ _))) (nab n2 (t2 _ _ _ _ (h _ _) (h _ _) n2 (h _ _))) (Nat.le_refl _)).1 (nab (h _ _) (t2 _ _ _ _ (h _ _) (h _ _) (h _ _) (h _ _))) (by omega)).2
  unfold m4
  generalize a i j * _ = x1 at *
  generalize a i k * _ = x2 at *
  generalize a i l * _ = x3 at *
  omega
theorem isC_dg {c : List (List Int)} (h : isC c = true) (i : Nat) (hi : i < c.length) : ent c i i = 2 := by
  have := ((isC_iff c).1 h).2.2.2 i hi i hi
  simpa [OkE] using this
theorem pm1 {c : List (List Int)} (h : isC c = true) (i : Nat) (hi : i < c.length) : pmX c [(i : Int)] = 2 := by
  have e : pmX c [(i : Int)] = det 1 [[2]] := by simp [pmX, subS, subR, isC_dg h i hi]
  rw [e]; decide +kernel
theorem pm2 {c : List (List Int)} (h : isC c = true) (i j : Nat) (hi : i < c.length) (hj : j < c.length) : pmX c [(i : Int), (j : Int)] = m2 (ent c) i j := by
  have e : pmX c [(i : Int), (j : Int)] = det 2 [[2, ent c i j], [ent c j i, 2]] := by simp [pmX, subS, subR, isC_dg h i hi, isC_dg h j hj]
  rw [e, det2]
  exact wrap64_small (m2_small (isC_abs h) i j)
theorem pm3 {c : List (List Int)} (h : isC c = true) (i j k : Nat) (hi : i < c.length) (hj : j < c.length) (hk : k < c.length) : pmX c [(i : Int), (j : Int), (k : Int)] = m3 (ent c) i j k := by
  have e : pmX c [(i : Int), (j : Int), (k : Int)] = det 3 [[2, ent c i j, ent c i k], [ent c j i, 2, ent c j k], [ent c k i, ent c k j, 2]] := by simp [pmX, subS, subR, isC_dg h i hi, isC_dg h j hj, isC_dg h k hk]
  rw [e, det3]
  have := m3_small (isC_abs h) i j k
  have e2 : 8 - 2 * (ent c i j * ent c j i) - 2 * (ent c i k * ent c k i) - 2 * (ent c j k * ent c k j) + ent c i j * ent c j k * ent c k i + ent c i k * ent c k j * ent c j i = m3 (ent c) i j k := rfl
  rw [e2]
  exact wrap64_small (by omega)
theorem pm4 {c : List (List Int)} (h : isC c = true) (i j k l : Nat) (hi : i < c.length) (hj : j < c.length) (hk : k < c.length) (hl : l < c.length) : pmX c [(i : Int), (j : Int), (k : Int), (l : Int)] = m4 (ent c) i j k l := by
  have e : pmX c [(i : Int), (j : Int), (k : Int), (l : Int)] = det 4 [[2, ent c i j, ent c i k, ent c i l], [ent c j i, 2, ent c j k, ent c j l], [ent c k i, ent c k j, 2, ent c k l], [ent c l i, ent c l j, ent c l k, 2]] := by simp [pmX, subS, subR, isC_dg h i hi, isC_dg h j hj, isC_dg h k hk, isC_dg h l hl]
  rw [e, det4]
  exact wrap64_small (m4_small (isC_abs h) i j k l)

/-- All principal minors are positive, by numbers of points in any order. -/
structure PosA (n : Nat) (a : Nat → Nat → Int) : Prop where
  two : ∀ i j, i < n → j < n → i ≠ j → 0 < m2 a i j
  three : ∀ i j k, i < n → j < n → k < n → i ≠ j → i ≠ k → j ≠ k → 0 < m3 a i j k
  four : ∀ i j k l, i < n → j < n → k < n → l < n → i ≠ j → i ≠ k → i ≠ l → j ≠ k → j ≠ l → k ≠ l → 0 < m4 a i j k l
theorem stL1 : setL 1 = [[((0 : Nat) : Int)]] := by decide
theorem stL2 : setL 2 = [[((0 : Nat) : Int)], [((1 : Nat) : Int)], [((0 : Nat) : Int), ((1 : Nat) : Int)]] := by decide
theorem stL3 : setL 3 = [[((0 : Nat) : Int)], [((1 : Nat) : Int)], [((0 : Nat) : Int), ((1 : Nat) : Int)], [((2 : Nat) : Int)], [((0 : Nat) : Int), ((2 : Nat) : Int)], [((1 : Nat) : Int), ((2 : Nat) : Int)], [((0 : Nat) : Int), ((1 : Nat) : Int), ((2 : Nat) : Int)]] := by decide
theorem stL4 : setL 4 = [[((0 : Nat) : Int)], [((1 : Nat) : Int)], [((0 : Nat) : Int), ((1 : Nat) : Int)], [((2 : Nat) : Int)], [((0 : Nat) : Int), ((2 : Nat) : Int)], [((1 : Nat) : Int), ((2 : Nat) : Int)], [((0 : Nat) : Int), ((1 : Nat) : Int), ((2 : Nat) : Int)],
  [((3 : Nat) : Int)], [((0 : Nat) : Int), ((3 : Nat) : Int)], [((1 : Nat) : Int), ((3 : Nat) : Int)], [((0 : Nat) : Int), ((1 : Nat) : Int), ((3 : Nat) : Int)], [((2 : Nat) : Int), ((3 : Nat) : Int)], [((0 : Nat) : Int), ((2 : Nat) : Int), ((3 : Nat) : Int)], [((1 : Nat) : Int), ((2 : Nat) : Int), ((3 : Nat) : Int)], [((0 : Nat) : Int), ((1 : Nat) : Int), ((2 : Nat) : Int), ((3 : Nat) : Int)]] := by decide
theorem finB_iff {c : List (List Int)} (h : isC c = true) : finB c = true ↔ ∀ u ∈ setL c.length, 0 < pmX c u := by
  rw [finB, h, Bool.true_and, decide_eq_true_iff, witL, if_pos h, witS]
  constructor
  · intro h0 u hu
    cases hf : (setL c.length).find? (badU c) with
    | none =>
      have := List.find?_eq_none.1 hf u hu
      simp [badU] at this
      exact this
    | some v =>
      rw [hf] at h0
      exfalso
      have hm := List.mem_of_find?_eq_some hf
      have hv : v = [] := by simpa using h0
      subst hv
      have h1 := ((isC_iff c).1 h).1
      have h2 := ((isC_iff c).1 h).2.1
      have key : ∀ n, n < 5 → [] ∉ setL n := by decide
      exact key _ (by omega) hm
  · intro h0
    have : (setL c.length).find? (badU c) = none := by
      rw [List.find?_eq_none]
      intro u hu
      have := h0 u hu
      simp [badU]; omega
    rw [this]; rfl

theorem m4_perm (a : Nat → Nat → Int) : ∀ o ∈ lvl 4 4, m4 a (o.getD 0 0).toNat (o.getD 1 0).toNat (o.getD 2 0).toNat (o.getD 3 0).toNat = m4 a 0 1 2 3 := by
  have e : lvl 4 4 = [[0,1,2,3],[0,1,3,2],[0,2,1,3],[0,2,3,1],[0,3,1,2],[0,3,2,1],[1,0,2,3],[1,0,3,2],[1,2,0,3],[1,2,3,0],[1,3,0,2],[1,3,2,0],[2,0,1,3],[2,0,3,1],[2,1,0,3],[2,1,3,0],[2,3,0,1],[2,3,1,0],[3,0,1,2],[3,0,2,1],[3,1,0,2],[3,1,2,0],[3,2,0,1],[3,2,1,0]] := by decide
  rw [e]
  simp only [List.forall_mem_cons, List.getD_cons_zero, List.getD_cons_succ, List.not_mem_nil, false_implies, implies_true, and_true]
  simp only [show (0 : Int).toNat = 0 from rfl, show (1 : Int).toNat = 1 from rfl, show (2 : Int).toNat = 2 from rfl, show (3 : Int).toNat = 3 from rfl]
  refine ⟨?_, ?_, ?_, ?_, ?_, ?_, ?_, ?_, ?_, ?_, ?_, ?_, ?_, ?_, ?_, ?_, ?_, ?_, ?_, ?_, ?_, ?_, ?_, ?_⟩ <;> first | rfl | trivial | (unfold m4 m3 m2; grind)
theorem lvl4_all' : ((List.range 4).all fun i => (List.range 4).all fun j => (List.range 4).all fun k => (List.range 4).all fun l => !(i != j && i != k && i != l && j != k && j != l && k != l) || (lvl 4 4).contains [(i : Int), (j : Int), (k : Int), (l : Int)]) = true := by decide +kernel
theorem lvl4_all (i : Nat) (hi : i < 4) (j : Nat) (hj : j < 4) (k : Nat) (hk : k < 4) (l : Nat) (hl : l < 4) (h : (i != j && i != k && i != l && j != k && j != l && k != l) = true) : [(i : Int), (j : Int), (k : Int), (l : Int)] ∈ lvl 4 4 := by
  have := List.all_eq_true.1 (List.all_eq_true.1 (List.all_eq_true.1 (List.all_eq_true.1 lvl4_all' i (List.mem_range.2 hi)) j (List.mem_range.2 hj)) k (List.mem_range.2 hk)) l (List.mem_range.2 hl)
  rw [h] at this
  simpa using this
theorem set3_all' : ((List.range 5).all fun n => (List.range n).all fun k => (List.range k).all fun j => (List.range j).all fun i => (setL n).contains [(i : Int), (j : Int), (k : Int)]) = true := by decide +kernel
theorem set3_all (n : Nat) (hn : n < 5) (k : Nat) (hk : k < n) (j : Nat) (hj : j < k) (i : Nat) (hi : i < j) : [(i : Int), (j : Int), (k : Int)] ∈ setL n := by
  have := List.all_eq_true.1 (List.all_eq_true.1 (List.all_eq_true.1 (List.all_eq_true.1 set3_all' n (List.mem_range.2 hn)) k (List.mem_range.2 hk)) j (List.mem_range.2 hj)) i (List.mem_range.2 hi)
  simpa using this
theorem fin_posA {c : List (List Int)} (h : isC c = true) : finB c = true ↔ PosA c.length (ent c) := by
  rw [finB_iff h]
  obtain ⟨h1, h2, -, -⟩ := (isC_iff c).1 h
  constructor
  · intro H
    have two : ∀ i j, i < j → j < c.length → 0 < m2 (ent c) i j := by
      intro i j hij hj
      have hm : [(i : Int), (j : Int)] ∈ setL c.length := by
        have key : ∀ n : Nat, n < 5 → ∀ j : Nat, j < n → ∀ i : Nat, i < j → [(i : Int), (j : Int)] ∈ setL n := by decide +kernel
        exact key _ (by omega) j hj i hij
      have := H _ hm
      rwa [pm2 h i j (by omega) hj] at this
    have three : ∀ i j k, i < j → j < k → k < c.length → 0 < m3 (ent c) i j k := by
      intro i j k hij hjk hk
      have hm : [(i : Int), (j : Int), (k : Int)] ∈ setL c.length := by
        exact set3_all _ (by omega) k hk j hjk i hij
      have := H _ hm
      rwa [pm3 h i j k (by omega) (by omega) hk] at this
    refine ⟨?_, ?_, ?_⟩
    · intro i j hi hj hne
      rcases Nat.lt_or_gt_of_ne hne with hlt | hlt
      · exact two i j hlt hj
      · have := two j i hlt hi
        have e : m2 (ent c) j i = m2 (ent c) i j := by unfold m2; grind
        rwa [e] at this
    · intro i j k hi hj hk hij hik hjk
      rcases Nat.lt_or_gt_of_ne hij with a | a <;> rcases Nat.lt_or_gt_of_ne hik with b | b <;> rcases Nat.lt_or_gt_of_ne hjk with d | d
      · exact three i j k a d hk
      · have := three i k j b d hj; rwa [m3_swap2] at this
      · omega
      · have := three k i j b a hj; rwa [m3_swap1, m3_swap2] at this
      · have := three j i k a b hk; rwa [m3_swap1] at this
      · omega
      · have := three j k i d b hi; rwa [m3_swap2, m3_swap1] at this
      · have := three k j i d a hi; rwa [m3_swap1, m3_swap2, m3_swap1] at this
    · intro i j k l hi hj hk hl n1 n2 n3 n4 n5 n6
      have hn : c.length = 4 := by omega
      have hm := lvl4_all i (by omega) j (by omega) k (by omega) l (by omega) (by simp [n1, n2, n3, n4, n5, n6])
      have e := m4_perm (ent c) _ hm
      simp only [List.getD_cons_zero, List.getD_cons_succ, Int.toNat_natCast] at e
      rw [e, ← pm4 h 0 1 2 3 (by omega) (by omega) (by omega) (by omega)]
      exact H _ (by rw [hn, stL4]; simp)
  · rintro ⟨two, three, four⟩ u hu
    have hn : c.length = 1 ∨ c.length = 2 ∨ c.length = 3 ∨ c.length = 4 := by omega
    rcases hn with hn | hn | hn | hn
    all_goals
      rw [hn] at hu
      simp only [stL1, stL2, stL3, stL4, List.mem_cons, List.not_mem_nil, or_false] at hu
    · subst hu
      rw [pm1 h 0 (by omega)]; decide
    · rcases hu with rfl | rfl | rfl <;> first
      | (rw [pm1 h _ (by omega)]; decide)
      | (rw [pm2 h _ _ (by omega) (by omega)]; exact two _ _ (by omega) (by omega) (by omega))
    · rcases hu with rfl | rfl | rfl | rfl | rfl | rfl | rfl <;> first
      | (rw [pm1 h _ (by omega)]; decide)
      | (rw [pm2 h _ _ (by omega) (by omega)]; exact two _ _ (by omega) (by omega) (by omega))
      | (rw [pm3 h _ _ _ (by omega) (by omega) (by omega)]; exact three _ _ _ (by omega) (by omega) (by omega) (by omega) (by omega) (by omega))
    · rcases hu with rfl | rfl | rfl | rfl | rfl | rfl | rfl | rfl | rfl | rfl | rfl | rfl | rfl | rfl | rfl <;> first
      | (rw [pm1 h _ (by omega)]; decide)
      | (rw [pm2 h _ _ (by omega) (by omega)]; exact two _ _ (by omega) (by omega) (by omega))
      | (rw [pm3 h _ _ _ (by omega) (by omega) (by omega)]; exact three _ _ _ (by omega) (by omega) (by omega) (by omega) (by omega) (by omega))
      | (rw [pm4 h _ _ _ _ (by omega) (by omega) (by omega) (by omega)]; exact four _ _ _ _ (by omega) (by omega) (by omega) (by omega) (by omega) (by omega) (by omega) (by omega) (by omega) (by omega))
/-- A picking of points carries it over. -/
theorem PosA.pull {n m : Nat} {a b : Nat → Nat → Int} (h : PosA n a) (s : Nat → Nat) (hs : ∀ i, i < m → s i < n) (hi : ∀ i j, i < m → j < m → s i = s j → i = j) (he : ∀ i j, i < m → j < m → b i j = a (s i) (s j)) : PosA m b := by
  refine ⟨?_, ?_, ?_⟩
  · intro i j hi1 hj hne
    have e : m2 b i j = m2 a (s i) (s j) := by unfold m2; rw [he i j hi1 hj, he j i hj hi1]
    rw [e]
    exact h.two _ _ (hs _ hi1) (hs _ hj) (fun e => hne (hi _ _ hi1 hj e))
  · intro i j k h1 h2 h3 n1 n2 n3
    have e : m3 b i j k = m3 a (s i) (s j) (s k) := by
      unfold m3; rw [he i j h1 h2, he j i h2 h1, he i k h1 h3, he k i h3 h1, he j k h2 h3, he k j h3 h2]
    rw [e]
    exact h.three _ _ _ (hs _ h1) (hs _ h2) (hs _ h3) (fun e => n1 (hi _ _ h1 h2 e)) (fun e => n2 (hi _ _ h1 h3 e)) (fun e => n3 (hi _ _ h2 h3 e))
  · intro i j k l h1 h2 h3 h4 n1 n2 n3 n4 n5 n6
    have e : m4 b i j k l = m4 a (s i) (s j) (s k) (s l) := by
      unfold m4 m3 m2; rw [he i j h1 h2, he j i h2 h1, he i k h1 h3, he k i h3 h1, he j k h2 h3, he k j h3 h2, he i l h1 h4, he l i h4 h1, he j l h2 h4, he l j h4 h2, he k l h3 h4, he l k h4 h3]
    rw [e]
    exact h.four _ _ _ _ (hs _ h1) (hs _ h2) (hs _ h3) (hs _ h4) (fun e => n1 (hi _ _ h1 h2 e)) (fun e => n2 (hi _ _ h1 h3 e)) (fun e => n3 (hi _ _ h1 h4 e)) (fun e => n4 (hi _ _ h2 h3 e)) (fun e => n5 (hi _ _ h2 h4 e)) (fun e => n6 (hi _ _ h3 h4 e))
/-- The transposed matrix. -/
theorem PosA.flip {n : Nat} {a b : Nat → Nat → Int} (h : PosA n a) (he : ∀ i j, i < n → j < n → b i j = a j i) : PosA n b := by
  refine ⟨?_, ?_, ?_⟩
  · intro i j hi1 hj hne
    have e : m2 b i j = m2 a i j := by unfold m2; rw [he i j hi1 hj, he j i hj hi1]; grind
    rw [e]; exact h.two _ _ hi1 hj hne
  · intro i j k h1 h2 h3 n1 n2 n3
    have e : m3 b i j k = m3 a i j k := by
      unfold m3; rw [he i j h1 h2, he j i h2 h1, he i k h1 h3, he k i h3 h1, he j k h2 h3, he k j h3 h2]; grind
    rw [e]; exact h.three _ _ _ h1 h2 h3 n1 n2 n3
  · intro i j k l h1 h2 h3 h4 n1 n2 n3 n4 n5 n6
    have e : m4 b i j k l = m4 a i j k l := by
      unfold m4 m3 m2; rw [he i j h1 h2, he j i h2 h1, he i k h1 h3, he k i h3 h1, he j k h2 h3, he k j h3 h2, he i l h1 h4, he l i h4 h1, he j l h2 h4, he l j h4 h2, he k l h3 h4, he l k h4 h3]; grind
    rw [e]; exact h.four _ _ _ _ h1 h2 h3 h4 n1 n2 n3 n4 n5 n6

/-! ### What is isomorphic -/
theorem lvl_inj' : ((List.range 5).all fun n => (lvl n n).all fun o => decide (o.length = n) && (List.range n).all fun i => decide ((o.getD i 0).toNat < n) && decide ((((o.getD i 0).toNat : Nat) : Int) = o.getD i 0) && ((List.range n).all fun j => (i == j) || !((o.getD i 0).toNat == (o.getD j 0).toNat)) && ((List.range n).any fun j => (o.getD j 0).toNat == i)) = true := by decide +kernel
structure OrdOf (n : Nat) (o : List Int) : Prop where
  len : o.length = n
  lt : ∀ i, i < n → (o.getD i 0).toNat < n
  nat : ∀ i, i < n → (((o.getD i 0).toNat : Nat) : Int) = o.getD i 0
  inj : ∀ i j, i < n → j < n → (o.getD i 0).toNat = (o.getD j 0).toNat → i = j
  sur : ∀ i, i < n → ∃ j, j < n ∧ (o.getD j 0).toNat = i
theorem lvl_ord {n : Nat} (hn : n < 5) {o : List Int} (h : o ∈ lvl n n) : OrdOf n o := by
  have := List.all_eq_true.1 (List.all_eq_true.1 lvl_inj' n (List.mem_range.2 hn)) o h
  rw [Bool.and_eq_true, decide_eq_true_iff, List.all_eq_true] at this
  obtain ⟨h0, h1⟩ := this
  have h2 : ∀ i, i < n → (((o.getD i 0).toNat < n ∧ (((o.getD i 0).toNat : Nat) : Int) = o.getD i 0) ∧ (∀ j, j < n → i = j ∨ ¬ (o.getD i 0).toNat = (o.getD j 0).toNat)) ∧ ∃ j, j < n ∧ (o.getD j 0).toNat = i := by
    intro i hi
    have := h1 i (List.mem_range.2 hi)
    rw [Bool.and_eq_true, Bool.and_eq_true, Bool.and_eq_true, decide_eq_true_iff, decide_eq_true_iff, List.all_eq_true, List.any_eq_true] at this
    obtain ⟨⟨⟨a, b⟩, d⟩, j, hj, e⟩ := this
    refine ⟨⟨⟨a, b⟩, fun j hj => ?_⟩, j, List.mem_range.1 hj, by simpa using e⟩
    have := d j (List.mem_range.2 hj)
    simpa using this
  exact ⟨h0, fun i hi => (h2 i hi).1.1.1, fun i hi => (h2 i hi).1.1.2, fun i j hi hj e => ((h2 i hi).1.2 j hj).resolve_right (fun k => k e), fun i hi => (h2 i hi).2⟩
theorem iso_ex {a b : List (List Int)} (h : isoOk a b = true) : isC a = true ∧ isC b = true ∧ a.length = b.length ∧ ∃ o, o ∈ lvl a.length a.length ∧ ordOk a b o = true ∧ isoR a b = o := by
  unfold isoOk at h
  obtain ⟨o, ho⟩ := Option.isSome_iff_exists.1 h
  have hR : isoR a b = o := by rw [isoR, ho]; rfl
  unfold isoF at ho
  split at ho
  · next hin =>
    rw [isoIn, Bool.and_eq_true, Bool.and_eq_true, decide_eq_true_iff] at hin
    exact ⟨hin.1.1, hin.1.2, hin.2, o, List.mem_of_find?_eq_some ho, List.find?_some ho, hR⟩
  · simp at ho
theorem iso_of {a b : List (List Int)} (h1 : isC a = true) (h2 : isC b = true) (h3 : a.length = b.length) (o : List Int) (ho : o ∈ lvl a.length a.length) (hk : ordOk a b o = true) : isoOk a b = true := by
  rw [isoOk, isoF, if_pos (by simp [isoIn, h1, h2, h3]), List.find?_isSome]
  exact ⟨o, ho, hk⟩
theorem iso_fits {a b : List (List Int)} {o : List Int} (h4 : a.length < 5) (ho : o ∈ lvl a.length a.length) (hk : ordOk a b o = true) : ∀ i j, i < a.length → j < a.length → ent b i j = ent a (o.getD i 0).toNat (o.getD j 0).toNat := by
  intro i j hi hj
  have hl := (lvl_ord h4 ho).len
  have := (ordOk_iff a b o).1 hk i (by omega) j (by omega)
  rw [fitAt, beq_iff_eq] at this
  exact this.symm
theorem iso_posA {a b : List (List Int)} (h : isoOk a b = true) : PosA a.length (ent a) ↔ PosA b.length (ent b) := by
  obtain ⟨hA, hB, hlen, o, ho, hk, -⟩ := iso_ex h
  have h4 := ((isC_iff a).1 hA).2.1
  have hO := lvl_ord (by omega) ho
  have hf := iso_fits (by omega) ho hk
  rw [← hlen]
  constructor
  · intro hp
    exact hp.pull (fun i => (o.getD i 0).toNat) hO.lt hO.inj (fun i j hi hj => hf i j hi hj)
  · intro hp
    have H := fun i (hi : i < a.length) => Classical.choose_spec (hO.sur i hi)
    refine hp.pull (fun i => if hi : i < a.length then Classical.choose (hO.sur i hi) else 0) ?_ ?_ ?_
    · intro i hi; simp only [hi, dif_pos]; exact (H i hi).1
    · intro i j hi hj e
      simp only [hi, hj, dif_pos] at e
      rw [← (H i hi).2, ← (H j hj).2, e]
    · intro i j hi hj
      simp only [hi, hj, dif_pos]
      rw [hf _ _ (H i hi).1 (H j hj).1, (H i hi).2, (H j hj).2]
theorem iso_fin {a b : List (List Int)} (h : isoOk a b = true) : finB a = finB b := by
  obtain ⟨hA, hB, -⟩ := iso_ex h
  rw [Bool.eq_iff_iff, fin_posA hA, fin_posA hB, iso_posA h]

/-! ### The finite types are all -/
def prT (t : Nat) : Int × Int := match t with | 0 => (0, 0) | 1 => (-1, -1) | 2 => (-1, -2) | 3 => (-2, -1) | 4 => (-1, -3) | _ => (-3, -1)
theorem pr_code (x y : Int) (hx : -3 ≤ x ∧ x ≤ 0) (hy : -3 ≤ y ∧ y ≤ 0) (hz : x = 0 ↔ y = 0) (hp : 0 < 4 - x * y) : ∃ t, t < 6 ∧ x = (prT t).1 ∧ y = (prT t).2 := by
  have ex : x = 0 ∨ x = -1 ∨ x = -2 ∨ x = -3 := by omega
  have ey : y = 0 ∨ y = -1 ∨ y = -2 ∨ y = -3 := by omega
  rcases ex with rfl | rfl | rfl | rfl <;> rcases ey with rfl | rfl | rfl | rfl <;> first
    | omega
    | exact ⟨0, by omega, rfl, rfl⟩
    | exact ⟨1, by omega, rfl, rfl⟩
    | exact ⟨2, by omega, rfl, rfl⟩
    | exact ⟨3, by omega, rfl, rfl⟩
    | exact ⟨4, by omega, rfl, rfl⟩
    | exact ⟨5, by omega, rfl, rfl⟩
def mat2 (t : Nat) : List (List Int) := [[2, (prT t).1], [(prT t).2, 2]]
def mat3 (t u v : Nat) : List (List Int) := [[2, (prT t).1, (prT u).1], [(prT t).2, 2, (prT v).1], [(prT u).2, (prT v).2, 2]]
def mat4 (t u v x y z : Nat) : List (List Int) := [[2, (prT t).1, (prT u).1, (prT x).1], [(prT t).2, 2, (prT v).1, (prT y).1], [(prT u).2, (prT v).2, 2, (prT z).1], [(prT x).2, (prT y).2, (prT z).2, 2]]
def q3 (t u v : Nat) : Bool := decide (0 < m3 (ent (mat3 t u v)) 0 1 2)
def q4 (t u v x y z : Nat) : Bool := decide (0 < m4 (ent (mat4 t u v x y z)) 0 1 2 3)
def isF (m : List (List Int)) : Bool := !conB m || decide (0 < szOf (nopL m))
theorem cls1 : isF [[2]] = true := by decide +kernel
theorem cls2 : ((List.range 6).all fun t => isF (mat2 t)) = true := by decide +kernel
theorem cls3 : ((List.range 6).all fun t => (List.range 6).all fun u => (List.range 6).all fun v => !q3 t u v || isF (mat3 t u v)) = true := by decide +kernel
theorem cls4 : ((List.range 6).all fun t => (List.range 6).all fun u => (List.range 6).all fun v => !q3 t u v || (List.range 6).all fun x => (List.range 6).all fun y => !q3 t x y || (List.range 6).all fun z => !q3 u x z || !q3 v y z || !q4 t u v x y z || isF (mat4 t u v x y z)) = true := by decide +kernel

theorem len1 {α : Type} {l : List α} (h : l.length = 1) : ∃ a, l = [a] := List.length_eq_one_iff.1 h
theorem len2 {α : Type} {l : List α} (h : l.length = 2) : ∃ a b, l = [a, b] := by
  match l, h with
  | [a, b], _ => exact ⟨a, b, rfl⟩
theorem len3 {α : Type} {l : List α} (h : l.length = 3) : ∃ a b d, l = [a, b, d] := by
  match l, h with
  | [a, b, d], _ => exact ⟨a, b, d, rfl⟩
theorem len4 {α : Type} {l : List α} (h : l.length = 4) : ∃ a b d e, l = [a, b, d, e] := by
  match l, h with
  | [a, b, d, e], _ => exact ⟨a, b, d, e, rfl⟩
theorem isC_pr {c : List (List Int)} (hC : isC c = true) (hP : PosA c.length (ent c)) (i j : Nat) (hi : i < c.length) (hj : j < c.length) (hne : i ≠ j) : ∃ t, t < 6 ∧ ent c i j = (prT t).1 ∧ ent c j i = (prT t).2 := by
  have h1 := ((isC_iff c).1 hC).2.2.2 i hi j hj
  have h2 := ((isC_iff c).1 hC).2.2.2 j hj i hi
  rw [OkE, if_neg hne] at h1
  rw [OkE, if_neg (Ne.symm hne)] at h2
  exact pr_code _ _ ⟨h1.1, h1.2.1⟩ ⟨h2.1, h2.2.1⟩ h1.2.2 (hP.two i j hi hj hne)
theorem lit1 {c : List (List Int)} (hC : isC c = true) (hn : c.length = 1) : c = [[2]] := by
  obtain ⟨r0, rfl⟩ := len1 hn
  have hr := ((isC_iff _).1 hC).2.2.1
  obtain ⟨a, rfl⟩ := len1 (hr r0 (by simp))
  have := isC_dg hC 0 (by simp)
  simp [ent] at this
  rw [this]
theorem lit2 {c : List (List Int)} (hC : isC c = true) (hn : c.length = 2) : c = [[2, ent c 0 1], [ent c 1 0, 2]] := by
  obtain ⟨r0, r1, rfl⟩ := len2 hn
  have hr := ((isC_iff _).1 hC).2.2.1
  obtain ⟨a0, a1, rfl⟩ := len2 (hr r0 (by simp))
  obtain ⟨b0, b1, rfl⟩ := len2 (hr r1 (by simp))
  have h0 := isC_dg hC 0 (by simp)
  have h1 := isC_dg hC 1 (by simp)
  simp [ent] at h0 h1 ⊢
  exact ⟨h0, h1⟩
theorem lit3 {c : List (List Int)} (hC : isC c = true) (hn : c.length = 3) : c = [[2, ent c 0 1, ent c 0 2], [ent c 1 0, 2, ent c 1 2], [ent c 2 0, ent c 2 1, 2]] := by
  obtain ⟨r0, r1, r2, rfl⟩ := len3 hn
  have hr := ((isC_iff _).1 hC).2.2.1
  obtain ⟨a0, a1, a2, rfl⟩ := len3 (hr r0 (by simp))
  obtain ⟨b0, b1, b2, rfl⟩ := len3 (hr r1 (by simp))
  obtain ⟨c0, c1, c2, rfl⟩ := len3 (hr r2 (by simp))
  have h0 := isC_dg hC 0 (by simp)
  have h1 := isC_dg hC 1 (by simp)
  have h2 := isC_dg hC 2 (by simp)
  simp [ent] at h0 h1 h2 ⊢
  exact ⟨h0, h1, h2⟩
theorem lit4 {c : List (List Int)} (hC : isC c = true) (hn : c.length = 4) : c = [[2, ent c 0 1, ent c 0 2, ent c 0 3], [ent c 1 0, 2, ent c 1 2, ent c 1 3], [ent c 2 0, ent c 2 1, 2, ent c 2 3], [ent c 3 0, ent c 3 1, ent c 3 2, 2]] := by
  obtain ⟨r0, r1, r2, r3, rfl⟩ := len4 hn
  have hr := ((isC_iff _).1 hC).2.2.1
  obtain ⟨a0, a1, a2, a3, rfl⟩ := len4 (hr r0 (by simp))
  obtain ⟨b0, b1, b2, b3, rfl⟩ := len4 (hr r1 (by simp))
  obtain ⟨c0, c1, c2, c3, rfl⟩ := len4 (hr r2 (by simp))
  obtain ⟨d0, d1, d2, d3, rfl⟩ := len4 (hr r3 (by simp))
  have h0 := isC_dg hC 0 (by simp)
  have h1 := isC_dg hC 1 (by simp)
  have h2 := isC_dg hC 2 (by simp)
  have h3 := isC_dg hC 3 (by simp)
  simp [ent] at h0 h1 h2 h3 ⊢
  exact ⟨h0, h1, h2, h3⟩
theorem or_neg {a b : Bool} (h : (!a || b) = true) (k : a = true) : b = true := by subst k; simpa using h
theorem q3_of (c : List (List Int)) (i j k t u v : Nat) (h1 : ent c i j = (prT t).1 ∧ ent c j i = (prT t).2) (h2 : ent c i k = (prT u).1 ∧ ent c k i = (prT u).2) (h3 : ent c j k = (prT v).1 ∧ ent c k j = (prT v).2) (h : 0 < m3 (ent c) i j k) : q3 t u v = true := by
  have e : m3 (ent (mat3 t u v)) 0 1 2 = m3 (ent c) i j k := by
    unfold m3
    rw [h1.1, h1.2, h2.1, h2.2, h3.1, h3.2]
    simp [mat3, ent]
  rw [q3, e]; exact decide_eq_true h
theorem classify {c : List (List Int)} (hC : isC c = true) (hcon : conB c = true) (hP : PosA c.length (ent c)) : 0 < szOf (nopL c) := by
  have key : isF c = true := by
    obtain ⟨h1, h2, -, -⟩ := (isC_iff c).1 hC
    have hn : c.length = 1 ∨ c.length = 2 ∨ c.length = 3 ∨ c.length = 4 := by omega
    rcases hn with hn | hn | hn | hn
    · rw [lit1 hC hn]; exact cls1
    · obtain ⟨t, ht, e1, e2⟩ := isC_pr hC hP 0 1 (by omega) (by omega) (by omega)
      rw [lit2 hC hn, e1, e2]
      exact List.all_eq_true.1 cls2 t (List.mem_range.2 ht)
    · obtain ⟨t, ht, e1⟩ := isC_pr hC hP 0 1 (by omega) (by omega) (by omega)
      obtain ⟨u, hu, e2⟩ := isC_pr hC hP 0 2 (by omega) (by omega) (by omega)
      obtain ⟨v, hv, e3⟩ := isC_pr hC hP 1 2 (by omega) (by omega) (by omega)
      have hq := q3_of c 0 1 2 t u v e1 e2 e3 (hP.three 0 1 2 (by omega) (by omega) (by omega) (by omega) (by omega) (by omega))
      rw [lit3 hC hn, e1.1, e1.2, e2.1, e2.2, e3.1, e3.2]
      exact or_neg (List.all_eq_true.1 (List.all_eq_true.1 (List.all_eq_true.1 cls3 t (List.mem_range.2 ht)) u (List.mem_range.2 hu)) v (List.mem_range.2 hv)) hq
    · obtain ⟨t, ht, e1⟩ := isC_pr hC hP 0 1 (by omega) (by omega) (by omega)
      obtain ⟨u, hu, e2⟩ := isC_pr hC hP 0 2 (by omega) (by omega) (by omega)
      obtain ⟨v, hv, e3⟩ := isC_pr hC hP 1 2 (by omega) (by omega) (by omega)
      obtain ⟨x, hx, e4⟩ := isC_pr hC hP 0 3 (by omega) (by omega) (by omega)
      obtain ⟨y, hy, e5⟩ := isC_pr hC hP 1 3 (by omega) (by omega) (by omega)
      obtain ⟨z, hz, e6⟩ := isC_pr hC hP 2 3 (by omega) (by omega) (by omega)
      have k1 := q3_of c 0 1 2 t u v e1 e2 e3 (hP.three 0 1 2 (by omega) (by omega) (by omega) (by omega) (by omega) (by omega))
      have k2 := q3_of c 0 1 3 t x y e1 e4 e5 (hP.three 0 1 3 (by omega) (by omega) (by omega) (by omega) (by omega) (by omega))
      have k3 := q3_of c 0 2 3 u x z e2 e4 e6 (hP.three 0 2 3 (by omega) (by omega) (by omega) (by omega) (by omega) (by omega))
      have k4 := q3_of c 1 2 3 v y z e3 e5 e6 (hP.three 1 2 3 (by omega) (by omega) (by omega) (by omega) (by omega) (by omega))
      have k5 : q4 t u v x y z = true := by
        have h := hP.four 0 1 2 3 (by omega) (by omega) (by omega) (by omega) (by omega) (by omega) (by omega) (by omega) (by omega) (by omega)
        have e : m4 (ent (mat4 t u v x y z)) 0 1 2 3 = m4 (ent c) 0 1 2 3 := by
          unfold m4 m3 m2
          rw [e1.1, e1.2, e2.1, e2.2, e3.1, e3.2, e4.1, e4.2, e5.1, e5.2, e6.1, e6.2]
          simp [mat4, ent]
        rw [q4, e]; exact decide_eq_true h
      rw [lit4 hC hn, e1.1, e1.2, e2.1, e2.2, e3.1, e3.2, e4.1, e4.2, e5.1, e5.2, e6.1, e6.2]
      have s1 := or_neg (List.all_eq_true.1 (List.all_eq_true.1 (List.all_eq_true.1 cls4 t (List.mem_range.2 ht)) u (List.mem_range.2 hu)) v (List.mem_range.2 hv)) k1
      have s2 := or_neg (List.all_eq_true.1 (List.all_eq_true.1 s1 x (List.mem_range.2 hx)) y (List.mem_range.2 hy)) k2
      have s3 := List.all_eq_true.1 s2 z (List.mem_range.2 hz)
      simp only [Bool.or_assoc] at s3
      exact or_neg (or_neg (or_neg s3 k3) k4) k5
  have := or_neg (show (!conB c || decide (0 < szOf (nopL c))) = true from key) hcon
  exact of_decide_eq_true this
/-- The types with a size are positive. -/
theorem typ_pos : (typTab.all fun e => !decide (0 < szOf e.1) || finB e.2) = true := by decide +kernel
theorem named_pos {c : List (List Int)} (h : 0 < szOf (nopL c)) : isC c = true ∧ PosA c.length (ent c) := by
  cases hk : nameK c with
  | none =>
    simp only [nopL, hk] at h
    exfalso
    split at h
    · exact absurd h (by decide)
    · exact absurd h (by decide)
  | some p =>
    simp only [nopL, hk] at h
    have hm := List.mem_of_find?_eq_some hk
    have hi := List.find?_some hk
    rw [nmL, List.mem_map] at hm
    obtain ⟨e, he, rfl⟩ := hm
    have ht := List.all_eq_true.1 typ_tab _ he
    rw [beq_iff_eq] at ht
    rw [ht] at hi
    have hf := or_neg (List.all_eq_true.1 typ_pos _ he) (decide_eq_true h)
    have hC := (iso_ex hi).1
    rw [← iso_fin hi] at hf
    exact ⟨hC, (fin_posA hC).1 hf⟩

/-! ### Parts -/
structure PosOn (S : Nat → Prop) (n : Nat) (a : Nat → Nat → Int) : Prop where
  two : ∀ i j, i < n → j < n → S i → S j → i ≠ j → 0 < m2 a i j
  three : ∀ i j k, i < n → j < n → k < n → S i → S j → S k → i ≠ j → i ≠ k → j ≠ k → 0 < m3 a i j k
  four : ∀ i j k l, i < n → j < n → k < n → l < n → S i → S j → S k → S l → i ≠ j → i ≠ k → i ≠ l → j ≠ k → j ≠ l → k ≠ l → 0 < m4 a i j k l
theorem pos_parts {n : Nat} {a : Nat → Nat → Int} (H : ∀ i, i < n → ∃ S : Nat → Prop, S i ∧ (∀ j k, j < n → k < n → S j → ¬ S k → a j k = 0 ∧ a k j = 0) ∧ PosOn S n a) : PosA n a := by
  have two : ∀ i j, i < n → j < n → i ≠ j → 0 < m2 a i j := by
    intro i j hi hj hne
    obtain ⟨S, s0, sz, sp⟩ := H i hi
    by_cases hs : S j
    · exact sp.two i j hi hj s0 hs hne
    · have := sz i j hi hj s0 hs
      unfold m2; rw [this.1]; simp
  have three : ∀ i j k, i < n → j < n → k < n → i ≠ j → i ≠ k → j ≠ k → 0 < m3 a i j k := by
    intro i j k hi hj hk n1 n2 n3
    obtain ⟨S, s0, sz, sp⟩ := H i hi
    by_cases sj : S j <;> by_cases sk : S k
    · exact sp.three i j k hi hj hk s0 sj sk n1 n2 n3
    · have z1 := sz i k hi hk s0 sk
      have z2 := sz j k hj hk sj sk
      have e : m3 a i j k = 2 * m2 a i j := by unfold m3 m2; rw [z1.1, z1.2, z2.1, z2.2]; grind
      have := two i j hi hj n1; omega
    · have z1 := sz i j hi hj s0 sj
      have z2 := sz k j hk hj sk sj
      have e : m3 a i j k = 2 * m2 a i k := by unfold m3 m2; rw [z1.1, z1.2, z2.1, z2.2]; grind
      have := two i k hi hk n2; omega
    · have z1 := sz i j hi hj s0 sj
      have z2 := sz i k hi hk s0 sk
      have e : m3 a i j k = 2 * m2 a j k := by unfold m3 m2; rw [z1.1, z1.2, z2.1, z2.2]; grind
      have := two j k hj hk n3; omega
  refine ⟨two, three, ?_⟩
  intro i j k l hi hj hk hl n1 n2 n3 n4 n5 n6
  obtain ⟨S, s0, sz, sp⟩ := H i hi
  by_cases sj : S j <;> by_cases sk : S k <;> by_cases sl : S l
  · exact sp.four i j k l hi hj hk hl s0 sj sk sl n1 n2 n3 n4 n5 n6
  · have z1 := sz i l hi hl s0 sl
    have z2 := sz j l hj hl sj sl
    have z3 := sz k l hk hl sk sl
    have e : m4 a i j k l = 2 * m3 a i j k := by unfold m4 m3 m2; rw [z1.1, z1.2, z2.1, z2.2, z3.1, z3.2]; grind
    have := three i j k hi hj hk n1 n2 n4; omega
  · have z1 := sz i k hi hk s0 sk
    have z2 := sz j k hj hk sj sk
    have z3 := sz l k hl hk sl sk
    have e : m4 a i j k l = 2 * m3 a i j l := by unfold m4 m3 m2; rw [z1.1, z1.2, z2.1, z2.2, z3.1, z3.2]; grind
    have := three i j l hi hj hl n1 n3 n5; omega
  · have z1 := sz i k hi hk s0 sk
    have z2 := sz j k hj hk sj sk
    have z3 := sz i l hi hl s0 sl
    have z4 := sz j l hj hl sj sl
    have e : m4 a i j k l = m2 a i j * m2 a k l := by unfold m4 m3 m2; rw [z1.1, z1.2, z2.1, z2.2, z3.1, z3.2, z4.1, z4.2]; grind
    rw [e]; exact Int.mul_pos (two i j hi hj n1) (two k l hk hl n6)
  · have z1 := sz i j hi hj s0 sj
    have z2 := sz k j hk hj sk sj
    have z3 := sz l j hl hj sl sj
    have e : m4 a i j k l = 2 * m3 a i k l := by unfold m4 m3 m2; rw [z1.1, z1.2, z2.1, z2.2, z3.1, z3.2]; grind
    have := three i k l hi hk hl n2 n3 n6; omega
  · have z1 := sz i j hi hj s0 sj
    have z2 := sz k j hk hj sk sj
    have z3 := sz i l hi hl s0 sl
    have z4 := sz k l hk hl sk sl
    have e : m4 a i j k l = m2 a i k * m2 a j l := by unfold m4 m3 m2; rw [z1.1, z1.2, z2.1, z2.2, z3.1, z3.2, z4.1, z4.2]; grind
    rw [e]; exact Int.mul_pos (two i k hi hk n2) (two j l hj hl n5)
  · have z1 := sz i j hi hj s0 sj
    have z2 := sz l j hl hj sl sj
    have z3 := sz i k hi hk s0 sk
    have z4 := sz l k hl hk sl sk
    have e : m4 a i j k l = m2 a i l * m2 a j k := by unfold m4 m3 m2; rw [z1.1, z1.2, z2.1, z2.2, z3.1, z3.2, z4.1, z4.2]; grind
    rw [e]; exact Int.mul_pos (two i l hi hl n3) (two j k hj hk n4)
  · have z1 := sz i j hi hj s0 sj
    have z2 := sz i k hi hk s0 sk
    have z3 := sz i l hi hl s0 sl
    have e : m4 a i j k l = 2 * m3 a j k l := by unfold m4 m3 m2; rw [z1.1, z1.2, z2.1, z2.2, z3.1, z3.2]; grind
    have := three j k l hj hk hl n4 n5 n6; omega
/-- Of the points of a list the positions are known. -/
structure PtsOf (n : Nat) (p : List Int) : Prop where
  ne : 1 ≤ p.length
  le : p.length ≤ n
  lt : ∀ i, i < p.length → (p.getD i 0).toNat < n
  nat : ∀ i, i < p.length → (((p.getD i 0).toNat : Nat) : Int) = p.getD i 0
  inj : ∀ i j, i < p.length → j < p.length → (p.getD i 0).toNat = (p.getD j 0).toNat → i = j
theorem ent_sub {c : List (List Int)} {p : List Int} {i j : Nat} (hi : i < p.length) (hj : j < p.length) : ent (subS c p) i j = ent c (p.getD i 0).toNat (p.getD j 0).toNat := by
  have e1 : (subS c p).getD i [] = subR c p p[i] := by simp [subS, hi]
  rw [ent, e1]
  simp [subR, hi, hj]
theorem sub_isC {c : List (List Int)} (hC : isC c = true) {p : List Int} (hp : PtsOf c.length p) : isC (subS c p) = true := by
  obtain ⟨h1, h2, h3, h4⟩ := (isC_iff c).1 hC
  have hl : (subS c p).length = p.length := by simp [subS]
  rw [isC_iff]
  refine ⟨by rw [hl]; exact hp.ne, by have := hp.le; omega, ?_, ?_⟩
  · intro r hr
    rw [subS, List.mem_map] at hr
    obtain ⟨x, _, rfl⟩ := hr
    simp [subR, hl]
  · rw [hl]
    intro i hi j hj
    have a := h4 _ (hp.lt i hi) _ (hp.lt j hj)
    unfold OkE at a ⊢
    rw [ent_sub hi hj, ent_sub hj hi]
    by_cases e : i = j
    · subst e
      rw [if_pos rfl] at a ⊢; exact a
    · rw [if_neg (fun k => e (hp.inj i j hi hj k))] at a
      rw [if_neg e]; exact a
theorem posA_sub {c : List (List Int)} {p : List Int} (hp : PtsOf c.length p) (h : PosA c.length (ent c)) : PosA p.length (ent (subS c p)) :=
  h.pull (fun i => (p.getD i 0).toNat) hp.lt hp.inj (fun i j hi hj => ent_sub hi hj)
theorem posOn_sub {c : List (List Int)} {p : List Int} (h : PosA p.length (ent (subS c p))) : PosOn (fun i => ∃ t, t < p.length ∧ (p.getD t 0).toNat = i) c.length (ent c) := by
  refine ⟨?_, ?_, ?_⟩
  · rintro _ _ hi hj ⟨i, ti, rfl⟩ ⟨j, tj, rfl⟩ n1
    have := h.two i j ti tj (fun e => n1 (by rw [e]))
    unfold m2 at this ⊢
    rwa [ent_sub ti tj, ent_sub tj ti] at this
  · rintro _ _ _ hi hj hk ⟨i, ti, rfl⟩ ⟨j, tj, rfl⟩ ⟨k, tk, rfl⟩ n1 n2 n3
    have := h.three i j k ti tj tk (fun e => n1 (by rw [e])) (fun e => n2 (by rw [e])) (fun e => n3 (by rw [e]))
    unfold m3 at this ⊢
    rwa [ent_sub ti tj, ent_sub tj ti, ent_sub ti tk, ent_sub tk ti, ent_sub tj tk, ent_sub tk tj] at this
  · rintro _ _ _ _ hi hj hk hl ⟨i, ti, rfl⟩ ⟨j, tj, rfl⟩ ⟨k, tk, rfl⟩ ⟨l, tl, rfl⟩ n1 n2 n3 n4 n5 n6
    have := h.four i j k l ti tj tk tl (fun e => n1 (by rw [e])) (fun e => n2 (by rw [e])) (fun e => n3 (by rw [e])) (fun e => n4 (by rw [e])) (fun e => n5 (by rw [e])) (fun e => n6 (by rw [e]))
    unfold m4 m3 m2 at this ⊢
    rwa [ent_sub ti tj, ent_sub tj ti, ent_sub ti tk, ent_sub tk ti, ent_sub tj tk, ent_sub tk tj, ent_sub ti tl, ent_sub tl ti, ent_sub tj tl, ent_sub tl tj, ent_sub tk tl, ent_sub tl tk] at this

/-! ### The parts of a diagram -/
def ptsB (n : Nat) (p : List Int) : Bool := decide (1 ≤ p.length) && decide (p.length ≤ n) && (List.range p.length).all fun i => decide ((p.getD i 0).toNat < n) && decide ((((p.getD i 0).toNat : Nat) : Int) = p.getD i 0) && (List.range p.length).all fun j => (i == j) || !((p.getD i 0).toNat == (p.getD j 0).toNat)
theorem ptsB_of {n : Nat} {p : List Int} (h : ptsB n p = true) : PtsOf n p := by
  rw [ptsB, Bool.and_eq_true, Bool.and_eq_true, decide_eq_true_iff, decide_eq_true_iff, List.all_eq_true] at h
  obtain ⟨⟨h1, h2⟩, h3⟩ := h
  have h4 : ∀ i, i < p.length → ((p.getD i 0).toNat < n ∧ (((p.getD i 0).toNat : Nat) : Int) = p.getD i 0) ∧ ∀ j, j < p.length → i = j ∨ ¬ (p.getD i 0).toNat = (p.getD j 0).toNat := by
    intro i hi
    have := h3 i (List.mem_range.2 hi)
    rw [Bool.and_eq_true, Bool.and_eq_true, decide_eq_true_iff, decide_eq_true_iff, List.all_eq_true] at this
    refine ⟨this.1, fun j hj => ?_⟩
    have := this.2 j (List.mem_range.2 hj)
    simpa using this
  exact ⟨h1, h2, fun i hi => (h4 i hi).1.1, fun i hi => (h4 i hi).1.2, fun i j hi hj e => ((h4 i hi).2 j hj).resolve_right (fun k => k e)⟩
def inP (p : List Int) (k : Nat) : Bool := (List.range p.length).any fun t => (p.getD t 0).toNat == k
theorem inP_iff (p : List Int) (k : Nat) : inP p k = true ↔ ∃ t, t < p.length ∧ (p.getD t 0).toNat = k := by simp [inP]
def likeQ (p : List Int) (q r : Nat) : Bool := (List.range p.length).all fun i => (List.range p.length).all fun j => adjQ r i j == adjQ q (p.getD i 0).toNat (p.getD j 0).toNat
def parB (n q : Nat) (p : List Int) : Bool := ptsB n p && ((List.range p.length).all fun t => (List.range n).all fun k => !adjQ q (p.getD t 0).toNat k || inP p k) &&
  (List.range 64).all fun r => !likeQ p q r || decide ((partsI p.length (nbQ p.length r) p.length).2.length = 1)
theorem par_all : ((List.range 5).all fun n => (List.range 64).all fun q => ((partsI n (nbQ n q) n).2.all (parB n q)) && (List.range n).all fun i => (partsI n (nbQ n q) n).2.any fun p => inP p i) = true := by decide +kernel
theorem par_c {c : List (List Int)} (hC : isC c = true) : (∀ p ∈ partsL c, parB c.length (codeC c) p = true) ∧ ∀ i, i < c.length → ∃ p ∈ partsL c, inP p i = true := by
  have h4 := ((isC_iff c).1 hC).2.1
  have e : partsL c = (partsI c.length (nbQ c.length (codeC c)) c.length).2 := by rw [partsL, if_pos hC, nb_code hC]
  have h := List.all_eq_true.1 (List.all_eq_true.1 par_all c.length (List.mem_range.2 (by omega))) (codeC c) (List.mem_range.2 (code_lt c))
  rw [← e, Bool.and_eq_true, List.all_eq_true, List.all_eq_true] at h
  refine ⟨h.1, fun i hi => ?_⟩
  have := h.2 i (List.mem_range.2 hi)
  rwa [List.any_eq_true] at this
theorem parB_of {n q : Nat} {p : List Int} (h : parB n q p = true) : PtsOf n p ∧ (∀ t k, t < p.length → k < n → adjQ q (p.getD t 0).toNat k = true → inP p k = true) ∧ ∀ r, r < 64 → likeQ p q r = true → (partsI p.length (nbQ p.length r) p.length).2.length = 1 := by
  rw [parB, Bool.and_eq_true, Bool.and_eq_true] at h
  refine ⟨ptsB_of h.1.1, fun t k ht hk ha => ?_, fun r hr hl => ?_⟩
  · exact or_neg (List.all_eq_true.1 (List.all_eq_true.1 h.1.2 t (List.mem_range.2 ht)) k (List.mem_range.2 hk)) ha
  · exact of_decide_eq_true (or_neg (List.all_eq_true.1 h.2 r (List.mem_range.2 hr)) hl)
theorem part_pts {c : List (List Int)} (hC : isC c = true) {p : List Int} (hp : p ∈ partsL c) : PtsOf c.length p := (parB_of ((par_c hC).1 p hp)).1
theorem part_zero {c : List (List Int)} (hC : isC c = true) {p : List Int} (hp : p ∈ partsL c) {t k : Nat} (ht : t < p.length) (hk : k < c.length) (hn : inP p k = false) : ent c (p.getD t 0).toNat k = 0 ∧ ent c k (p.getD t 0).toNat = 0 := by
  have h := (parB_of ((par_c hC).1 p hp)).2.1 t k ht hk
  have hlt := (part_pts hC hp).lt t ht
  rw [adj_ok hC _ _ hlt hk, nbP] at h
  have hne : (p.getD t 0).toNat ≠ k := fun e => by
    rw [(inP_iff p k).2 ⟨t, ht, e⟩] at hn; cases hn
  have h0 : ent c (p.getD t 0).toNat k = 0 := by
    by_cases h0 : ent c (p.getD t 0).toNat k = 0
    · exact h0
    · have : (((k : Int) != ((p.getD t 0).toNat : Int)) && (ent c (p.getD t 0).toNat k != 0)) = true := by
        rw [Bool.and_eq_true, bne_iff_ne, bne_iff_ne]; exact ⟨by omega, h0⟩
      rw [h this] at hn; cases hn
  refine ⟨h0, ?_⟩
  have := ((isC_iff c).1 hC).2.2.2 _ hlt _ hk
  rw [OkE, if_neg hne] at this
  exact this.2.2.1 h0
theorem part_con {c : List (List Int)} (hC : isC c = true) {p : List Int} (hp : p ∈ partsL c) : conB (subS c p) = true := by
  have hP := part_pts hC hp
  have hS := sub_isC hC hP
  have hl : (subS c p).length = p.length := by simp [subS]
  have h := (parB_of ((par_c hC).1 p hp)).2.2 (codeC (subS c p)) (code_lt _) (by
    rw [likeQ, List.all_eq_true]
    intro i hi
    rw [List.all_eq_true]
    intro j hj
    rw [List.mem_range] at hi hj
    rw [beq_iff_eq, adj_ok hS i j (by omega) (by omega), adj_ok hC _ _ (hP.lt i hi) (hP.lt j hj), nbP, nbP, ent_sub hi hj]
    have : ((j : Int) != (i : Int)) = (((p.getD j 0).toNat : Int) != ((p.getD i 0).toNat : Int)) := by
      rw [Bool.eq_iff_iff, bne_iff_ne, bne_iff_ne]
      constructor
      · intro hne e; exact hne (by rw [hP.inj j i hj hi (by omega)])
      · intro hne e; exact hne (by rw [show j = i by omega])
    rw [this])
  rw [conB, partsL, if_pos hS, nb_code hS, hl]
  exact decide_eq_true h
theorem parts_pos {c : List (List Int)} (hC : isC c = true) (H : ∀ p ∈ partsL c, PosA p.length (ent (subS c p))) : PosA c.length (ent c) := by
  refine pos_parts fun i hi => ?_
  obtain ⟨p, hp, hin⟩ := (par_c hC).2 i hi
  refine ⟨_, (inP_iff p i).1 hin, ?_, posOn_sub (H p hp)⟩
  rintro j k hj hk ⟨t, ht, rfl⟩ hn
  refine part_zero hC hp ht hk ?_
  cases he : inP p k with
  | false => rfl
  | true => exact absurd ((inP_iff p k).1 he) hn

/-! ### Names -/
theorem cutGo_skip (x r cur : List UInt8) (h : (120 : UInt8) ∉ x) : cutGo 120 cur (x ++ r) = cutGo 120 (cur ++ x) r := by
  induction x generalizing cur with
  | nil => simp
  | cons b x ih =>
    rw [List.cons_append, cutGo, if_neg (fun e => h (by simp [e])), ih _ (fun e => h (by simp [e]))]
    simp
theorem cut_tail : ∀ (r : List (List UInt8)) (cur : List UInt8), (∀ x ∈ r, (120 : UInt8) ∉ x) → cutGo 120 cur (Lib.joinTail [120] r) = cur :: r
  | [], cur, _ => by simp [Lib.joinTail, cutGo]
  | y :: r, cur, h => by
    have e : Lib.joinTail [120] (y :: r) = 120 :: (y ++ Lib.joinTail [120] r) := by simp [Lib.joinTail]
    rw [e, cutGo, if_pos rfl, cutGo_skip _ _ _ (h y (by simp)), List.nil_append, cut_tail r y (fun x hx => h x (by simp [hx]))]
theorem cut_join (ls : List (List UInt8)) (h0 : ls ≠ []) (h : ∀ x ∈ ls, (120 : UInt8) ∉ x) : cutL 120 (Lib.join ls [120]) = ls := by
  cases ls with
  | nil => exact absurd rfl h0
  | cons x r =>
    rw [Lib.join_cons, cutL, cutGo_skip _ _ _ (h x (by simp)), List.nil_append, cut_tail r x (fun y hy => h y (by simp [hy]))]
theorem nm_no : (nmL.all fun p => !p.contains 120) = true := by decide
theorem nop_no (c : List (List Int)) : (120 : UInt8) ∉ nopL c := by
  cases hk : nameK c with
  | some p =>
    have := List.all_eq_true.1 nm_no p (List.mem_of_find?_eq_some hk)
    simp only [nopL, hk]
    simpa using this
  | none =>
    simp only [nopL, hk]
    split <;> simp
theorem fold_pos (f : List UInt8 → Int) (hf : ∀ x, 0 ≤ f x) : ∀ (ls : List (List UInt8)) (a : Int), 0 ≤ a → (0 < (ls.map f).foldl (· * ·) a ↔ 0 < a ∧ ∀ x ∈ ls, 0 < f x)
  | [], a, _ => by simp
  | y :: r, a, ha => by
    rw [List.map_cons, List.foldl_cons, fold_pos f hf r (a * f y) (Int.mul_nonneg ha (hf y))]
    constructor
    · rintro ⟨h1, h2⟩
      have h3 : 0 < a := by
        rcases Int.lt_or_eq_of_le ha with h | h
        · exact h
        · subst h; simp at h1
      have h4 : 0 < f y := by
        rcases Int.lt_or_eq_of_le (hf y) with h | h
        · exact h
        · rw [← h] at h1; simp at h1
      exact ⟨h3, by simpa using ⟨h4, h2⟩⟩
    · rintro ⟨h1, h2⟩
      exact ⟨Int.mul_pos h1 (h2 y (by simp)), fun x hx => h2 x (by simp [hx])⟩
theorem parts_some {c : List (List Int)} (hC : isC c = true) : partsL c ≠ [] := by
  intro e
  obtain ⟨p, hp, _⟩ := (par_c hC).2 0 (by have := ((isC_iff c).1 hC).1; omega)
  rw [e] at hp; cases hp
theorem parts_le4 : ((List.range 5).all fun n => (List.range 64).all fun q => decide ((partsI n (nbQ n q) n).2.length ≤ 4)) = true := by decide +kernel
theorem named_iff {c : List (List Int)} (hC : isC c = true) : 0 < sizeN (nameL c) ↔ finB c = true := by
  have h4 := ((isC_iff c).1 hC).2.1
  have hP4 : (partsL c).length ≤ 4 := by
    have e : partsL c = (partsI c.length (nbQ c.length (codeC c)) c.length).2 := by rw [partsL, if_pos hC, nb_code hC]
    have h := List.all_eq_true.1 (List.all_eq_true.1 parts_le4 c.length (List.mem_range.2 (by omega))) (codeC c) (List.mem_range.2 (code_lt c))
    rw [← e] at h
    exact of_decide_eq_true h
  have e : cutL 120 (nameL c) = nlOf c := cut_join _ (by simpa [nlOf] using parts_some hC) (by
    intro x hx
    rw [nlOf, List.mem_map] at hx
    obtain ⟨p, _, rfl⟩ := hx
    exact nop_no _)
  rw [sizeN, e, if_neg (by simp [nlOf]; omega), prodSz, fold_pos szOf (fun x => (szOf_bd x).1) _ 1 (by decide), fin_posA hC]
  constructor
  · rintro ⟨-, h⟩
    refine parts_pos hC fun p hp => ?_
    have := (named_pos (h (nopL (subS c p)) (by rw [nlOf, List.mem_map]; exact ⟨p, hp, rfl⟩))).2
    rwa [show (subS c p).length = p.length by simp [subS]] at this
  · intro h
    refine ⟨by decide, fun x hx => ?_⟩
    rw [nlOf, List.mem_map] at hx
    obtain ⟨p, hp, rfl⟩ := hx
    have hPt := part_pts hC hp
    refine classify (sub_isC hC hPt) (part_con hC hp) ?_
    rw [show (subS c p).length = p.length by simp [subS]]
    exact posA_sub hPt h
end Go.Proofs.YtaikjkcbgniplaaGreatDoor
