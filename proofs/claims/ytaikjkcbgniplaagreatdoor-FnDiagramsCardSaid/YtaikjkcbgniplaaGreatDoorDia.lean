/- Diagrams: finite and affine type do not depend on the order of the points, a connected matrix has a name, symmetries are closed under following one by another. Plain: of no program. -/
import Derived.Test.YtaikjkcbgniplaaGreatDoorFin
import Derived.Test.YtaikjkcbgniplaaGreatDoorAff
import Derived.Test.YtaikjkcbgniplaaGreatDoorFind
namespace Go.Proofs.YtaikjkcbgniplaaGreatDoor
open Go.RowKit
set_option linter.unusedVariables false


/-! ### Affine types -/
structure AffA (n : Nat) (a : Nat → Nat → Int) : Prop where
  one : n ≠ 1
  two : ∀ i j, i < n → j < n → i ≠ j → if n = 2 then m2 a i j = 0 else 0 < m2 a i j
  three : ∀ i j k, i < n → j < n → k < n → i ≠ j → i ≠ k → j ≠ k → if n = 3 then m3 a i j k = 0 else 0 < m3 a i j k
  four : ∀ i j k l, i < n → j < n → k < n → l < n → i ≠ j → i ≠ k → i ≠ l → j ≠ k → j ≠ l → k ≠ l → m4 a i j k l = 0
theorem AffA.pull {n : Nat} {a b : Nat → Nat → Int} (h : AffA n a) (s : Nat → Nat) (hs : ∀ i, i < n → s i < n) (hi : ∀ i j, i < n → j < n → s i = s j → i = j) (he : ∀ i j, i < n → j < n → b i j = a (s i) (s j)) : AffA n b := by
  refine ⟨h.one, ?_, ?_, ?_⟩
  · intro i j hi1 hj hne
    have e : m2 b i j = m2 a (s i) (s j) := by unfold m2; rw [he i j hi1 hj, he j i hj hi1]
    rw [e]
    exact h.two _ _ (hs _ hi1) (hs _ hj) (fun e => hne (hi _ _ hi1 hj e))
  · intro i j k h1 h2 h3 n1 n2 n3
    have e : m3 b i j k = m3 a (s i) (s j) (s k) := by
      unfold m3; rw [he i j h1 h2, he j i h2 h1, he i k h1 h3, he k i h3 h1, he j k h2 h3, he k j h3 h2]
    rw [e]
    exact h.three _ _ _ (hs _ h1) (hs _ h2) (hs _ h3) (fun e => n1 (hi _ _ h1 h2 e)) (fun e => n2 (hi _ _ h1 h3 e)) (fun e => n3 (hi _ _ h2 h3 e))
  · intro i j k l h1 h2 h3 h4 n1 n2 n3 n4 n5 n6
    have e : m4 b i j k l = m4 a (s i) (s j) (s k) (s l) := by
      unfold m4 m3 m2; rw [he i j h1 h2, he j i h2 h1, he i k h1 h3, he k i h3 h1, he j k h2 h3, he k j h3 h2, he i l h1 h4, he l i h4 h1, he j l h2 h4, he l j h4 h2, he k l h3 h4, he l k h4 h3]
    rw [e]
    exact h.four _ _ _ _ (hs _ h1) (hs _ h2) (hs _ h3) (hs _ h4) (fun e => n1 (hi _ _ h1 h2 e)) (fun e => n2 (hi _ _ h1 h3 e)) (fun e => n3 (hi _ _ h1 h4 e)) (fun e => n4 (hi _ _ h2 h3 e)) (fun e => n5 (hi _ _ h2 h4 e)) (fun e => n6 (hi _ _ h3 h4 e))
theorem affT_iff (c : List (List Int)) : affT c = true ↔ det c.length c = 0 ∧ ∀ j, j < 2 ^ c.length - 2 → 0 < pmX c (setT (j + 1) c.length) := by
  rw [affT, Bool.and_eq_true, decide_eq_true_iff, List.all_eq_true]
  constructor
  · rintro ⟨h1, h2⟩
    refine ⟨h1, fun j hj => ?_⟩
    have := h2 j (List.mem_range.2 hj)
    simp [badU] at this
    exact this
  · rintro ⟨h1, h2⟩
    refine ⟨h1, fun j hj => ?_⟩
    have := h2 j (List.mem_range.1 hj)
    simp [badU]; omega
theorem two_all {n : Nat} {a : Nat → Nat → Int} {P : Int → Prop} (h : ∀ i j, i < j → j < n → P (m2 a i j)) : ∀ i j, i < n → j < n → i ≠ j → P (m2 a i j) := by
  intro i j hi hj hne
  rcases Nat.lt_or_gt_of_ne hne with hlt | hlt
  · exact h i j hlt hj
  · have := h j i hlt hi
    have e : m2 a j i = m2 a i j := by unfold m2; grind
    rwa [e] at this
theorem three_all {n : Nat} {x : Nat → Nat → Int} {P : Int → Prop} (three : ∀ i j k, i < j → j < k → k < n → P (m3 x i j k)) : ∀ i j k, i < n → j < n → k < n → i ≠ j → i ≠ k → j ≠ k → P (m3 x i j k) := by
  intro i j k hi hj hk hij hik hjk
  rcases Nat.lt_or_gt_of_ne hij with a | a <;> rcases Nat.lt_or_gt_of_ne hik with b | b <;> rcases Nat.lt_or_gt_of_ne hjk with d | d
  · exact three i j k a d hk
  · have := three i k j b d hj; rwa [m3_swap2] at this
  · omega
  · have := three k i j b a hj; rwa [m3_swap1, m3_swap2] at this
  · have := three j i k a b hk; rwa [m3_swap1] at this
  · omega
  · have := three j k i d b hi; rwa [m3_swap2, m3_swap1] at this
  · have := three k j i d a hi; rwa [m3_swap1, m3_swap2, m3_swap1] at this
theorem four_all {x : Nat → Nat → Int} {P : Int → Prop} (four : P (m4 x 0 1 2 3)) : ∀ i j k l, i < 4 → j < 4 → k < 4 → l < 4 → i ≠ j → i ≠ k → i ≠ l → j ≠ k → j ≠ l → k ≠ l → P (m4 x i j k l) := by
  intro i j k l hi hj hk hl n1 n2 n3 n4 n5 n6
  have hm := lvl4_all i hi j hj k hk l hl (by simp [n1, n2, n3, n4, n5, n6])
  have e := m4_perm x _ hm
  simp only [List.getD_cons_zero, List.getD_cons_succ, Int.toNat_natCast] at e
  rw [e]; exact four
theorem full2 {c : List (List Int)} (h : isC c = true) (hn : c.length = 2) : det c.length c = m2 (ent c) 0 1 := by
  rw [hn]
  have e := lit2 h hn
  have e2 : det 2 c = det 2 [[2, ent c 0 1], [ent c 1 0, 2]] := by rw [← e]
  rw [e2, det2]
  exact wrap64_small (m2_small (isC_abs h) 0 1)
theorem full3 {c : List (List Int)} (h : isC c = true) (hn : c.length = 3) : det c.length c = m3 (ent c) 0 1 2 := by
  rw [hn]
  have e := lit3 h hn
  have e2 : det 3 c = det 3 [[2, ent c 0 1, ent c 0 2], [ent c 1 0, 2, ent c 1 2], [ent c 2 0, ent c 2 1, 2]] := by rw [← e]
  rw [e2, det3]
  have := m3_small (isC_abs h) 0 1 2
  have e3 : 8 - 2 * (ent c 0 1 * ent c 1 0) - 2 * (ent c 0 2 * ent c 2 0) - 2 * (ent c 1 2 * ent c 2 1) + ent c 0 1 * ent c 1 2 * ent c 2 0 + ent c 0 2 * ent c 2 1 * ent c 1 0 = m3 (ent c) 0 1 2 := rfl
  rw [e3]
  exact wrap64_small (by omega)
theorem full4 {c : List (List Int)} (h : isC c = true) (hn : c.length = 4) : det c.length c = m4 (ent c) 0 1 2 3 := by
  rw [hn]
  have e := lit4 h hn
  have e2 : det 4 c = det 4 [[2, ent c 0 1, ent c 0 2, ent c 0 3], [ent c 1 0, 2, ent c 1 2, ent c 1 3], [ent c 2 0, ent c 2 1, 2, ent c 2 3], [ent c 3 0, ent c 3 1, ent c 3 2, 2]] := by rw [← e]
  rw [e2, det4]
  exact wrap64_small (m4_small (isC_abs h) 0 1 2 3)
theorem setTs : (setT 1 2 = [((0 : Nat) : Int)] ∧ setT 2 2 = [((1 : Nat) : Int)]) ∧
  (setT 1 3 = [((0 : Nat) : Int)] ∧ setT 2 3 = [((1 : Nat) : Int)] ∧ setT 3 3 = [((0 : Nat) : Int), ((1 : Nat) : Int)] ∧ setT 4 3 = [((2 : Nat) : Int)] ∧ setT 5 3 = [((0 : Nat) : Int), ((2 : Nat) : Int)] ∧ setT 6 3 = [((1 : Nat) : Int), ((2 : Nat) : Int)]) ∧
  (setT 1 4 = [((0 : Nat) : Int)] ∧ setT 2 4 = [((1 : Nat) : Int)] ∧ setT 3 4 = [((0 : Nat) : Int), ((1 : Nat) : Int)] ∧ setT 4 4 = [((2 : Nat) : Int)] ∧ setT 5 4 = [((0 : Nat) : Int), ((2 : Nat) : Int)] ∧ setT 6 4 = [((1 : Nat) : Int), ((2 : Nat) : Int)] ∧ setT 7 4 = [((0 : Nat) : Int), ((1 : Nat) : Int), ((2 : Nat) : Int)]) ∧
  (setT 8 4 = [((3 : Nat) : Int)] ∧ setT 9 4 = [((0 : Nat) : Int), ((3 : Nat) : Int)] ∧ setT 10 4 = [((1 : Nat) : Int), ((3 : Nat) : Int)] ∧ setT 11 4 = [((0 : Nat) : Int), ((1 : Nat) : Int), ((3 : Nat) : Int)] ∧ setT 12 4 = [((2 : Nat) : Int), ((3 : Nat) : Int)] ∧ setT 13 4 = [((0 : Nat) : Int), ((2 : Nat) : Int), ((3 : Nat) : Int)] ∧ setT 14 4 = [((1 : Nat) : Int), ((2 : Nat) : Int), ((3 : Nat) : Int)]) := by decide
theorem below_cases {n : Nat} {P : Nat → Prop} : (∀ j, j < n + 1 → P j) ↔ (∀ j, j < n → P j) ∧ P n :=
  ⟨fun h => ⟨fun j hj => h j (by omega), h n (by omega)⟩, fun h j hj => if e : j = n then e ▸ h.2 else h.1 j (by omega)⟩
theorem aff_iff {c : List (List Int)} (h : isC c = true) : affT c = true ↔ AffA c.length (ent c) := by
  rw [affT_iff]
  obtain ⟨h1, h2, -, -⟩ := (isC_iff c).1 h
  have hn : c.length = 1 ∨ c.length = 2 ∨ c.length = 3 ∨ c.length = 4 := by omega
  obtain ⟨⟨a1, a2⟩, ⟨b1, b2, b3, b4, b5, b6⟩, ⟨d1, d2, d3, d4, d5, d6, d7⟩, d8, d9, d10, d11, d12, d13, d14⟩ := setTs
  rcases hn with hn | hn | hn | hn
  · constructor
    · rintro ⟨hd, -⟩
      have e := lit1 h hn
      rw [e] at hd
      exact absurd hd (by decide +kernel)
    · intro hA; exact absurd hn hA.one
  · rw [full2 h hn]
    constructor
    · rintro ⟨hd, hs⟩
      refine ⟨by omega, ?_, fun i j k => by omega, fun i j k l => by omega⟩
      simp only [if_pos hn]
      refine two_all (P := fun x => x = 0) (fun i j hij hj => ?_)
      obtain rfl : j = 1 := by omega
      obtain rfl : i = 0 := by omega
      exact hd
    · intro hA
      have := hA.two 0 1 (by omega) (by omega) (by omega)
      rw [if_pos hn] at this
      refine ⟨this, fun j hj => ?_⟩
      rw [hn] at hj ⊢
      have : j = 0 ∨ j = 1 := by omega
      rcases this with rfl | rfl
      · rw [a1, pm1 h _ (by omega)]; decide
      · rw [a2, pm1 h _ (by omega)]; decide
  · rw [full3 h hn]
    have n2 : ¬ c.length = 2 := by omega
    constructor
    · rintro ⟨hd, hs⟩
      rw [hn] at hs
      have s2 := hs 2 (by omega); have s4 := hs 4 (by omega); have s5 := hs 5 (by omega)
      rw [b3, pm2 h _ _ (by omega) (by omega)] at s2
      rw [b5, pm2 h _ _ (by omega) (by omega)] at s4
      rw [b6, pm2 h _ _ (by omega) (by omega)] at s5
      refine ⟨by omega, ?_, ?_, fun i j k l => by omega⟩
      · simp only [if_neg n2]
        refine two_all (P := fun x => 0 < x) (fun i j hij hj => ?_)
        have : (i = 0 ∧ j = 1) ∨ (i = 0 ∧ j = 2) ∨ (i = 1 ∧ j = 2) := by omega
        rcases this with ⟨rfl, rfl⟩ | ⟨rfl, rfl⟩ | ⟨rfl, rfl⟩ <;> assumption
      · simp only [if_pos hn]
        refine three_all (P := fun x => x = 0) (fun i j k hij hjk hk => ?_)
        obtain ⟨rfl, rfl, rfl⟩ : i = 0 ∧ j = 1 ∧ k = 2 := by omega
        exact hd
    · intro hA
      have t3 := hA.three 0 1 2 (by omega) (by omega) (by omega) (by omega) (by omega) (by omega)
      rw [if_pos hn] at t3
      have t2 := hA.two
      simp only [if_neg n2] at t2
      refine ⟨t3, ?_⟩
      rw [hn]
      have : (2 : Nat) ^ 3 - 2 = 6 := by decide
      rw [this]
      simp only [below_cases, Nat.not_lt_zero, false_implies, implies_true, true_and]
      refine ⟨⟨⟨⟨⟨?_, ?_⟩, ?_⟩, ?_⟩, ?_⟩, ?_⟩
      · rw [b1, pm1 h _ (by omega)]; decide
      · rw [b2, pm1 h _ (by omega)]; decide
      · rw [b3, pm2 h _ _ (by omega) (by omega)]; exact t2 _ _ (by omega) (by omega) (by omega)
      · rw [b4, pm1 h _ (by omega)]; decide
      · rw [b5, pm2 h _ _ (by omega) (by omega)]; exact t2 _ _ (by omega) (by omega) (by omega)
      · rw [b6, pm2 h _ _ (by omega) (by omega)]; exact t2 _ _ (by omega) (by omega) (by omega)
  · rw [full4 h hn]
    have n2 : ¬ c.length = 2 := by omega
    have n3 : ¬ c.length = 3 := by omega
    constructor
    · rintro ⟨hd, hs⟩
      rw [hn] at hs
      have s2 := hs 2 (by omega); have s4 := hs 4 (by omega); have s5 := hs 5 (by omega); have s6 := hs 6 (by omega); have s8 := hs 8 (by omega)
      have s9 := hs 9 (by omega); have s10 := hs 10 (by omega); have s11 := hs 11 (by omega); have s12 := hs 12 (by omega); have s13 := hs 13 (by omega)
      rw [d3, pm2 h _ _ (by omega) (by omega)] at s2
      rw [d5, pm2 h _ _ (by omega) (by omega)] at s4
      rw [d6, pm2 h _ _ (by omega) (by omega)] at s5
      rw [d7, pm3 h _ _ _ (by omega) (by omega) (by omega)] at s6
      rw [d9, pm2 h _ _ (by omega) (by omega)] at s8
      rw [d10, pm2 h _ _ (by omega) (by omega)] at s9
      rw [d11, pm3 h _ _ _ (by omega) (by omega) (by omega)] at s10
      rw [d12, pm2 h _ _ (by omega) (by omega)] at s11
      rw [d13, pm3 h _ _ _ (by omega) (by omega) (by omega)] at s12
      rw [d14, pm3 h _ _ _ (by omega) (by omega) (by omega)] at s13
      refine ⟨by omega, ?_, ?_, ?_⟩
      · simp only [if_neg n2]
        refine two_all (P := fun x => 0 < x) (fun i j hij hj => ?_)
        have : (i = 0 ∧ j = 1) ∨ (i = 0 ∧ j = 2) ∨ (i = 1 ∧ j = 2) ∨ (i = 0 ∧ j = 3) ∨ (i = 1 ∧ j = 3) ∨ (i = 2 ∧ j = 3) := by omega
        rcases this with ⟨rfl, rfl⟩ | ⟨rfl, rfl⟩ | ⟨rfl, rfl⟩ | ⟨rfl, rfl⟩ | ⟨rfl, rfl⟩ | ⟨rfl, rfl⟩ <;> assumption
      · simp only [if_neg n3]
        refine three_all (P := fun x => 0 < x) (fun i j k hij hjk hk => ?_)
        have : (i = 0 ∧ j = 1 ∧ k = 2) ∨ (i = 0 ∧ j = 1 ∧ k = 3) ∨ (i = 0 ∧ j = 2 ∧ k = 3) ∨ (i = 1 ∧ j = 2 ∧ k = 3) := by omega
        rcases this with ⟨rfl, rfl, rfl⟩ | ⟨rfl, rfl, rfl⟩ | ⟨rfl, rfl, rfl⟩ | ⟨rfl, rfl, rfl⟩ <;> assumption
      · rw [hn]
        exact four_all (P := fun x => x = 0) hd
    · intro hA
      have t4 := hA.four 0 1 2 3 (by omega) (by omega) (by omega) (by omega) (by omega) (by omega) (by omega) (by omega) (by omega) (by omega)
      have t3 := hA.three
      simp only [if_neg n3] at t3
      have t2 := hA.two
      simp only [if_neg n2] at t2
      refine ⟨t4, ?_⟩
      rw [hn]
      have : (2 : Nat) ^ 4 - 2 = 14 := by decide
      rw [this]
      simp only [below_cases, Nat.not_lt_zero, false_implies, implies_true, true_and]
      refine ⟨⟨⟨⟨⟨⟨⟨⟨⟨⟨⟨⟨⟨?_, ?_⟩, ?_⟩, ?_⟩, ?_⟩, ?_⟩, ?_⟩, ?_⟩, ?_⟩, ?_⟩, ?_⟩, ?_⟩, ?_⟩, ?_⟩
      · rw [d1, pm1 h _ (by omega)]; decide
      · rw [d2, pm1 h _ (by omega)]; decide
      · rw [d3, pm2 h _ _ (by omega) (by omega)]; exact t2 _ _ (by omega) (by omega) (by omega)
      · rw [d4, pm1 h _ (by omega)]; decide
      · rw [d5, pm2 h _ _ (by omega) (by omega)]; exact t2 _ _ (by omega) (by omega) (by omega)
      · rw [d6, pm2 h _ _ (by omega) (by omega)]; exact t2 _ _ (by omega) (by omega) (by omega)
      · rw [d7, pm3 h _ _ _ (by omega) (by omega) (by omega)]; exact t3 _ _ _ (by omega) (by omega) (by omega) (by omega) (by omega) (by omega)
      · rw [d8, pm1 h _ (by omega)]; decide
      · rw [d9, pm2 h _ _ (by omega) (by omega)]; exact t2 _ _ (by omega) (by omega) (by omega)
      · rw [d10, pm2 h _ _ (by omega) (by omega)]; exact t2 _ _ (by omega) (by omega) (by omega)
      · rw [d11, pm3 h _ _ _ (by omega) (by omega) (by omega)]; exact t3 _ _ _ (by omega) (by omega) (by omega) (by omega) (by omega) (by omega)
      · rw [d12, pm2 h _ _ (by omega) (by omega)]; exact t2 _ _ (by omega) (by omega) (by omega)
      · rw [d13, pm3 h _ _ _ (by omega) (by omega) (by omega)]; exact t3 _ _ _ (by omega) (by omega) (by omega) (by omega) (by omega) (by omega)
      · rw [d14, pm3 h _ _ _ (by omega) (by omega) (by omega)]; exact t3 _ _ _ (by omega) (by omega) (by omega) (by omega) (by omega) (by omega)
theorem iso_affA {a b : List (List Int)} (h : isoOk a b = true) : AffA a.length (ent a) ↔ AffA b.length (ent b) := by
  obtain ⟨hA, hB, hlen, o, ho, hk, -⟩ := iso_ex h
  have h4 := ((isC_iff a).1 hA).2.1
  have hO := lvl_ord (by omega) ho
  have hf := iso_fits (by omega) ho hk
  rw [← hlen]
  constructor
  · intro hp
    exact hp.pull (fun i => (o.getD i 0).toNat) hO.lt hO.inj (fun i j hi hj => hf i j hi hj)
  · intro hp
    have H := fun i (hi : i < a.length) => Classical.choose_spec (hO.sur i hi)
    refine hp.pull (fun i => if hi : i < a.length then Classical.choose (hO.sur i hi) else 0) ?_ ?_ ?_
    · intro i hi; simp only [hi, dif_pos]; exact (H i hi).1
    · intro i j hi hj e
      simp only [hi, hj, dif_pos] at e
      rw [← (H i hi).2, ← (H j hj).2, e]
    · intro i j hi hj
      simp only [hi, hj, dif_pos]
      rw [hf _ _ (H i hi).1 (H j hj).1, (H i hi).2, (H j hj).2]
def bitR (n q : Nat) (o : List Int) (i j : Nat) : Nat := b2n (decide (j < n) && adjQ q (o.getD i 0).toNat (o.getD j 0).toNat)
def relQ (n q : Nat) (o : List Int) : Nat := bitR n q o 0 1 + 2 * bitR n q o 0 2 + 4 * bitR n q o 1 2 + 8 * bitR n q o 0 3 + 16 * bitR n q o 1 3 + 32 * bitR n q o 2 3
theorem con_like : ((List.range 5).all fun n => (List.range 64).all fun q => (lvl n n).all fun o => decide ((partsI n (nbQ n q) n).2.length = 1) == decide ((partsI n (nbQ n (relQ n q o)) n).2.length = 1)) = true := by decide +kernel
theorem ent_out {c : List (List Int)} (h : isC c = true) {i j : Nat} (hj : c.length ≤ j) : ent c i j = 0 := by
  obtain ⟨h1, h2, h3, h4⟩ := (isC_iff c).1 h
  by_cases hi : i < c.length
  · have hr : (c[i]).length = c.length := h3 _ (List.getElem_mem hi)
    simp only [ent, List.getD, List.getElem?_eq_getElem hi, Option.getD_some]
    rw [List.getElem?_eq_none (by omega)]; rfl
  · have e : c[i]? = none := List.getElem?_eq_none (by omega)
    simp only [ent, List.getD, e]; rfl
theorem iso_conB {a b : List (List Int)} (h : isoOk a b = true) : conB a = conB b := by
  obtain ⟨hA, hB, hlen, o, ho, hk, -⟩ := iso_ex h
  have h4 := ((isC_iff a).1 hA).2.1
  have hO := lvl_ord (by omega) ho
  have hf := iso_fits (by omega) ho hk
  have hbit : ∀ i j, i < j → b2n (ent b i j != 0) = bitR a.length (codeC a) o i j := by
    intro i j hij
    rw [bitR]
    congr 1
    by_cases hj : j < a.length
    · rw [decide_eq_true hj, Bool.true_and, adj_ok hA _ _ (hO.lt i (by omega)) (hO.lt j hj), nbP, hf i j (by omega) hj]
      have : (((o.getD j 0).toNat : Int) != ((o.getD i 0).toNat : Int)) = true := by
        rw [bne_iff_ne]
        intro e
        have := hO.inj i j (by omega) hj (by omega)
        omega
      rw [this, Bool.true_and]
    · rw [decide_eq_false hj, Bool.false_and, ent_out hB (by omega)]; rfl
  have hcode : codeC b = relQ a.length (codeC a) o := by
    rw [codeC, relQ, hbit 0 1 (by omega), hbit 0 2 (by omega), hbit 1 2 (by omega), hbit 0 3 (by omega), hbit 1 3 (by omega), hbit 2 3 (by omega)]
  have h := List.all_eq_true.1 (List.all_eq_true.1 (List.all_eq_true.1 con_like a.length (List.mem_range.2 (by omega))) (codeC a) (List.mem_range.2 (code_lt a))) o ho
  rw [beq_iff_eq] at h
  rw [conB, conB, partsL, partsL, if_pos hA, if_pos hB, nb_code hA, nb_code hB, ← hlen, hcode]
  exact h
theorem iso_aff {a b : List (List Int)} (h : isoOk a b = true) : affB a = affB b := by
  obtain ⟨hA, hB, -⟩ := iso_ex h
  rw [affB, affB, iso_conB h]
  congr 1
  rw [Bool.eq_iff_iff, aff_iff hA, aff_iff hB, iso_affA h]
theorem nm_ne : (nmL.all fun p => decide (p ≠ [])) = true := by decide
theorem nop_ne {c : List (List Int)} (h : conB c = true) : nopL c ≠ [] := by
  cases hk : nameK c with
  | some p =>
    have := List.all_eq_true.1 nm_ne p (List.mem_of_find?_eq_some hk)
    simp only [nopL, hk]
    exact of_decide_eq_true this
  | none =>
    simp only [nopL, hk, h]
    simp
theorem con_named {c : List (List Int)} (hC : isC c = true) (h : conB c = true) : nameL c ≠ [] := by
  have h1 : (partsL c).length = 1 := of_decide_eq_true h
  obtain ⟨p, hp⟩ := len1 h1
  have hm : p ∈ partsL c := by rw [hp]; simp
  rw [nameL, nlOf, hp, List.map_cons, List.map_nil, Lib.join_one]
  exact nop_ne (part_con hC hm)
/-- The symmetries are closed under following one by another. -/
def compO (o p : List Int) : List Int := p.map (fun x => o.getD x.toNat 0)
theorem comp_lvl : ((List.range 5).all fun n => (lvl n n).all fun o => (lvl n n).all fun p => (lvl n n).contains (compO o p)) = true := by decide +kernel
theorem comp_sym {c : List (List Int)} {o p : List Int} (ho : o ∈ symL c) (hp : p ∈ symL c) : compO o p ∈ symL c := by
  unfold symL at ho hp ⊢
  split at ho
  · next hC =>
    rw [if_pos hC] at hp ⊢
    have h4 := ((isC_iff c).1 hC).2.1
    rw [symS, List.mem_filter] at ho hp ⊢
    have hO := lvl_ord (by omega) ho.1
    have hP := lvl_ord (by omega) hp.1
    have f1 := iso_fits (by omega) ho.1 ho.2
    have f2 := iso_fits (by omega) hp.1 hp.2
    refine ⟨?_, ?_⟩
    · have := List.all_eq_true.1 (List.all_eq_true.1 (List.all_eq_true.1 comp_lvl c.length (List.mem_range.2 (by omega))) o ho.1) p hp.1
      simpa using this
    · rw [ordOk_iff]
      have hl : (compO o p).length = c.length := by rw [compO, List.length_map, hP.len]
      rw [hl]
      have g : ∀ i, i < c.length → (compO o p).getD i 0 = o.getD (p.getD i 0).toNat 0 := by
        intro i hi
        have : i < p.length := by rw [hP.len]; exact hi
        simp [compO, this]
      intro i hi j hj
      rw [fitAt, beq_iff_eq, g i hi, g j hj, ← f1 _ _ (hP.lt i hi) (hP.lt j hj), ← f2 i j hi hj]
  · cases ho
end Go.Proofs.YtaikjkcbgniplaaGreatDoor
