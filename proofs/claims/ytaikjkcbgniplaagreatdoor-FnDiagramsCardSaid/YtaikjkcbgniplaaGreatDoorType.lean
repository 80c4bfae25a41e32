/- TypeCartan of the program and of the reference: the matrix of each name, for every text. -/
import Derived.Test.YtaikjkcbgniplaaGreatDoorStore
namespace Go.Proofs.YtaikjkcbgniplaaGreatDoor
open Go.RowKit
set_option linter.unusedVariables false

def typTab : List (List UInt8 × List (List Int)) := [
  ([65, 49], [[2]]),
  ([65, 50], [[2, -1], [-1, 2]]),
  ([65, 51], [[2, -1, 0], [-1, 2, -1], [0, -1, 2]]),
  ([65, 52], [[2, -1, 0, 0], [-1, 2, -1, 0], [0, -1, 2, -1], [0, 0, -1, 2]]),
  ([66, 50], [[2, -1], [-2, 2]]),
  ([66, 51], [[2, -1, 0], [-1, 2, -1], [0, -2, 2]]),
  ([66, 52], [[2, -1, 0, 0], [-1, 2, -1, 0], [0, -1, 2, -1], [0, 0, -2, 2]]),
  ([67, 51], [[2, -1, 0], [-1, 2, -2], [0, -1, 2]]),
  ([67, 52], [[2, -1, 0, 0], [-1, 2, -1, 0], [0, -1, 2, -2], [0, 0, -1, 2]]),
  ([68, 52], [[2, -1, 0, 0], [-1, 2, -1, -1], [0, -1, 2, 0], [0, -1, 0, 2]]),
  ([70, 52], [[2, -1, 0, 0], [-1, 2, -1, 0], [0, -2, 2, -1], [0, 0, -1, 2]]),
  ([71, 50], [[2, -1], [-3, 2]]),
  ([65, 49, 126], [[2, -2], [-2, 2]]),
  ([65, 50, 126], [[2, -1, -1], [-1, 2, -1], [-1, -1, 2]]),
  ([65, 51, 126], [[2, -1, 0, -1], [-1, 2, -1, 0], [0, -1, 2, -1], [-1, 0, -1, 2]]),
  ([67, 50, 126], [[2, -1, 0], [-2, 2, -2], [0, -1, 2]]),
  ([71, 50, 126], [[2, -1, 0], [-1, 2, -1], [0, -3, 2]])]
def typF (s : ByteArray) : Option (List (List Int)) := (typTab.find? (fun e => s.data.toList == e.1)).map (·.2)
def typL (s : ByteArray) : List (List Int) := (typF s).getD []
def typOk (s : ByteArray) : Bool := (typF s).isSome
theorem typ_total (s : ByteArray) : total (typL s) ≤ 32 := by
  unfold typL typF
  cases h : typTab.find? (fun e => s.data.toList == e.1) with
  | none => simp [total, ints]
  | some e =>
    have hm := List.mem_of_find?_eq_some h
    have hall : ∀ e ∈ typTab, total e.2 ≤ 32 := by decide
    simpa using hall e hm
theorem lit_of {s : ByteArray} {l : List UInt8} (h : (s.toList == l) = true) : s = ⟨l.toArray⟩ := by
  rw [beq_iff_eq, ByteArray.toList_eq] at h
  subst h
  cases s
  simp
theorem Own2.mono {w : World} {lo hi lo' hi' : Nat} {v : Value} {c : List (List Int)} (h : Own2 w lo hi v c) (hl : lo' ≤ lo) (hh : hi ≤ hi') : Own2 w lo' hi' v c := by
  obtain ⟨G, gs, vs, h1, h2, h3, h4, h5, h6⟩ := h
  exact ⟨G, gs, vs, by omega, by omega, fun g hg => by have := h3 g hg; omega, h4, h5, h6⟩
theorem sq_chain (n : Nat) : Sq (chainL n) := by intro k hk; simp [chainL, chainR]
theorem typ_A1 : typL ⟨#[65, 49]⟩ = [[2]] ∧ typOk ⟨#[65, 49]⟩ = true := by decide
theorem typ_A2 : typL ⟨#[65, 50]⟩ = [[2, -1], [-1, 2]] ∧ typOk ⟨#[65, 50]⟩ = true := by decide
theorem typ_A3 : typL ⟨#[65, 51]⟩ = [[2, -1, 0], [-1, 2, -1], [0, -1, 2]] ∧ typOk ⟨#[65, 51]⟩ = true := by decide
theorem typ_A4 : typL ⟨#[65, 52]⟩ = [[2, -1, 0, 0], [-1, 2, -1, 0], [0, -1, 2, -1], [0, 0, -1, 2]] ∧ typOk ⟨#[65, 52]⟩ = true := by decide
theorem typ_B2 : typL ⟨#[66, 50]⟩ = [[2, -1], [-2, 2]] ∧ typOk ⟨#[66, 50]⟩ = true := by decide
theorem typ_B3 : typL ⟨#[66, 51]⟩ = [[2, -1, 0], [-1, 2, -1], [0, -2, 2]] ∧ typOk ⟨#[66, 51]⟩ = true := by decide
theorem typ_B4 : typL ⟨#[66, 52]⟩ = [[2, -1, 0, 0], [-1, 2, -1, 0], [0, -1, 2, -1], [0, 0, -2, 2]] ∧ typOk ⟨#[66, 52]⟩ = true := by decide
theorem typ_C3 : typL ⟨#[67, 51]⟩ = [[2, -1, 0], [-1, 2, -2], [0, -1, 2]] ∧ typOk ⟨#[67, 51]⟩ = true := by decide
theorem typ_C4 : typL ⟨#[67, 52]⟩ = [[2, -1, 0, 0], [-1, 2, -1, 0], [0, -1, 2, -2], [0, 0, -1, 2]] ∧ typOk ⟨#[67, 52]⟩ = true := by decide
theorem typ_D4 : typL ⟨#[68, 52]⟩ = [[2, -1, 0, 0], [-1, 2, -1, -1], [0, -1, 2, 0], [0, -1, 0, 2]] ∧ typOk ⟨#[68, 52]⟩ = true := by decide
theorem typ_F4 : typL ⟨#[70, 52]⟩ = [[2, -1, 0, 0], [-1, 2, -1, 0], [0, -2, 2, -1], [0, 0, -1, 2]] ∧ typOk ⟨#[70, 52]⟩ = true := by decide
theorem typ_G2 : typL ⟨#[71, 50]⟩ = [[2, -1], [-3, 2]] ∧ typOk ⟨#[71, 50]⟩ = true := by decide
theorem typ_A1t : typL ⟨#[65, 49, 126]⟩ = [[2, -2], [-2, 2]] ∧ typOk ⟨#[65, 49, 126]⟩ = true := by decide
theorem typ_A2t : typL ⟨#[65, 50, 126]⟩ = [[2, -1, -1], [-1, 2, -1], [-1, -1, 2]] ∧ typOk ⟨#[65, 50, 126]⟩ = true := by decide
theorem typ_A3t : typL ⟨#[65, 51, 126]⟩ = [[2, -1, 0, -1], [-1, 2, -1, 0], [0, -1, 2, -1], [-1, 0, -1, 2]] ∧ typOk ⟨#[65, 51, 126]⟩ = true := by decide
theorem typ_C2t : typL ⟨#[67, 50, 126]⟩ = [[2, -1, 0], [-2, 2, -2], [0, -1, 2]] ∧ typOk ⟨#[67, 50, 126]⟩ = true := by decide
theorem typ_G2t : typL ⟨#[71, 50, 126]⟩ = [[2, -1, 0], [-1, 2, -1], [0, -3, 2]] ∧ typOk ⟨#[71, 50, 126]⟩ = true := by decide
set_option maxHeartbeats 1000000 in
theorem specTypeA1 (w : World) : Calls Tryz.prog 65 #[.string ⟨#[65, 49]⟩] w (RetRowsB w [[2]] true) := by
  go_enter Tryz.func65, Tryz.ntmps65
  go_wp2_with fail
  refine (specChain1 _).mono ?_
  rintro e w1 ⟨v1, rfl, hO1, hb1⟩
  have hs1 := hb1.size
  have HE := Lib.hid (show (chainL 1) = [[2]] by decide)
  go_wp2_with fail
  go_ret2
  exact ⟨_, rfl, by rw [← HE.out]; exact hO1.mono (by omega) (Nat.le_refl _), hb1⟩
set_option maxHeartbeats 1000000 in
theorem specTypeA2 (w : World) : Calls Tryz.prog 65 #[.string ⟨#[65, 50]⟩] w (RetRowsB w [[2, -1], [-1, 2]] true) := by
  go_enter Tryz.func65, Tryz.ntmps65
  go_wp2_with fail
  refine (specChain2 _).mono ?_
  rintro e w1 ⟨v1, rfl, hO1, hb1⟩
  have hs1 := hb1.size
  have HE := Lib.hid (show (chainL 2) = [[2, -1], [-1, 2]] by decide)
  go_wp2_with fail
  go_ret2
  exact ⟨_, rfl, by rw [← HE.out]; exact hO1.mono (by omega) (Nat.le_refl _), hb1⟩
set_option maxHeartbeats 1000000 in
theorem specTypeA3 (w : World) : Calls Tryz.prog 65 #[.string ⟨#[65, 51]⟩] w (RetRowsB w [[2, -1, 0], [-1, 2, -1], [0, -1, 2]] true) := by
  go_enter Tryz.func65, Tryz.ntmps65
  go_wp2_with fail
  refine (specChain3 _).mono ?_
  rintro e w1 ⟨v1, rfl, hO1, hb1⟩
  have hs1 := hb1.size
  have HE := Lib.hid (show (chainL 3) = [[2, -1, 0], [-1, 2, -1], [0, -1, 2]] by decide)
  go_wp2_with fail
  go_ret2
  exact ⟨_, rfl, by rw [← HE.out]; exact hO1.mono (by omega) (Nat.le_refl _), hb1⟩
set_option maxHeartbeats 1000000 in
theorem specTypeA4 (w : World) : Calls Tryz.prog 65 #[.string ⟨#[65, 52]⟩] w (RetRowsB w [[2, -1, 0, 0], [-1, 2, -1, 0], [0, -1, 2, -1], [0, 0, -1, 2]] true) := by
  go_enter Tryz.func65, Tryz.ntmps65
  go_wp2_with fail
  refine (specChain4 _).mono ?_
  rintro e w1 ⟨v1, rfl, hO1, hb1⟩
  have hs1 := hb1.size
  have HE := Lib.hid (show (chainL 4) = [[2, -1, 0, 0], [-1, 2, -1, 0], [0, -1, 2, -1], [0, 0, -1, 2]] by decide)
  go_wp2_with fail
  go_ret2
  exact ⟨_, rfl, by rw [← HE.out]; exact hO1.mono (by omega) (Nat.le_refl _), hb1⟩
set_option maxHeartbeats 1000000 in
theorem specTypeB2 (w : World) : Calls Tryz.prog 65 #[.string ⟨#[66, 50]⟩] w (RetRowsB w [[2, -1], [-2, 2]] true) := by
  go_enter Tryz.func65, Tryz.ntmps65
  go_wp2_with fail
  refine (specChain2 _).mono ?_
  rintro e w1 ⟨v1, rfl, hO1, hb1⟩
  have hs1 := hb1.size
  go_wp2_with fail
  refine (specSet2 _ (chainL 2) 0 1 (-1) (-2) (sq_chain 2) (by decide) (by decide) (by decide) _ hO1.read).mono ?_
  rintro e w2 ⟨v2, rfl, hO2, hb2⟩
  have hs2 := hb2.size
  replace hb1 := below_trans hb1 hb2
  have HE := Lib.hid (show (setL2 (chainL 2) 0 1 (-1) (-2)) = [[2, -1], [-2, 2]] by decide)
  go_wp2_with fail
  go_ret2
  exact ⟨_, rfl, by rw [← HE.out]; exact hO2.mono (by omega) (Nat.le_refl _), hb1⟩
set_option maxHeartbeats 1000000 in
theorem specTypeB3 (w : World) : Calls Tryz.prog 65 #[.string ⟨#[66, 51]⟩] w (RetRowsB w [[2, -1, 0], [-1, 2, -1], [0, -2, 2]] true) := by
  go_enter Tryz.func65, Tryz.ntmps65
  go_wp2_with fail
  refine (specChain3 _).mono ?_
  rintro e w1 ⟨v1, rfl, hO1, hb1⟩
  have hs1 := hb1.size
  go_wp2_with fail
  refine (specSet2 _ (chainL 3) 1 2 (-1) (-2) (sq_chain 3) (by decide) (by decide) (by decide) _ hO1.read).mono ?_
  rintro e w2 ⟨v2, rfl, hO2, hb2⟩
  have hs2 := hb2.size
  replace hb1 := below_trans hb1 hb2
  have HE := Lib.hid (show (setL2 (chainL 3) 1 2 (-1) (-2)) = [[2, -1, 0], [-1, 2, -1], [0, -2, 2]] by decide)
  go_wp2_with fail
  go_ret2
  exact ⟨_, rfl, by rw [← HE.out]; exact hO2.mono (by omega) (Nat.le_refl _), hb1⟩
set_option maxHeartbeats 1000000 in
theorem specTypeB4 (w : World) : Calls Tryz.prog 65 #[.string ⟨#[66, 52]⟩] w (RetRowsB w [[2, -1, 0, 0], [-1, 2, -1, 0], [0, -1, 2, -1], [0, 0, -2, 2]] true) := by
  go_enter Tryz.func65, Tryz.ntmps65
  go_wp2_with fail
  refine (specChain4 _).mono ?_
  rintro e w1 ⟨v1, rfl, hO1, hb1⟩
  have hs1 := hb1.size
  go_wp2_with fail
  refine (specSet2 _ (chainL 4) 2 3 (-1) (-2) (sq_chain 4) (by decide) (by decide) (by decide) _ hO1.read).mono ?_
  rintro e w2 ⟨v2, rfl, hO2, hb2⟩
  have hs2 := hb2.size
  replace hb1 := below_trans hb1 hb2
  have HE := Lib.hid (show (setL2 (chainL 4) 2 3 (-1) (-2)) = [[2, -1, 0, 0], [-1, 2, -1, 0], [0, -1, 2, -1], [0, 0, -2, 2]] by decide)
  go_wp2_with fail
  go_ret2
  exact ⟨_, rfl, by rw [← HE.out]; exact hO2.mono (by omega) (Nat.le_refl _), hb1⟩
set_option maxHeartbeats 1000000 in
theorem specTypeC3 (w : World) : Calls Tryz.prog 65 #[.string ⟨#[67, 51]⟩] w (RetRowsB w [[2, -1, 0], [-1, 2, -2], [0, -1, 2]] true) := by
  go_enter Tryz.func65, Tryz.ntmps65
  go_wp2_with fail
  refine (specChain3 _).mono ?_
  rintro e w1 ⟨v1, rfl, hO1, hb1⟩
  have hs1 := hb1.size
  go_wp2_with fail
  refine (specSet2 _ (chainL 3) 1 2 (-2) (-1) (sq_chain 3) (by decide) (by decide) (by decide) _ hO1.read).mono ?_
  rintro e w2 ⟨v2, rfl, hO2, hb2⟩
  have hs2 := hb2.size
  replace hb1 := below_trans hb1 hb2
  have HE := Lib.hid (show (setL2 (chainL 3) 1 2 (-2) (-1)) = [[2, -1, 0], [-1, 2, -2], [0, -1, 2]] by decide)
  go_wp2_with fail
  go_ret2
  exact ⟨_, rfl, by rw [← HE.out]; exact hO2.mono (by omega) (Nat.le_refl _), hb1⟩
set_option maxHeartbeats 1000000 in
theorem specTypeC4 (w : World) : Calls Tryz.prog 65 #[.string ⟨#[67, 52]⟩] w (RetRowsB w [[2, -1, 0, 0], [-1, 2, -1, 0], [0, -1, 2, -2], [0, 0, -1, 2]] true) := by
  go_enter Tryz.func65, Tryz.ntmps65
  go_wp2_with fail
  refine (specChain4 _).mono ?_
  rintro e w1 ⟨v1, rfl, hO1, hb1⟩
  have hs1 := hb1.size
  go_wp2_with fail
  refine (specSet2 _ (chainL 4) 2 3 (-2) (-1) (sq_chain 4) (by decide) (by decide) (by decide) _ hO1.read).mono ?_
  rintro e w2 ⟨v2, rfl, hO2, hb2⟩
  have hs2 := hb2.size
  replace hb1 := below_trans hb1 hb2
  have HE := Lib.hid (show (setL2 (chainL 4) 2 3 (-2) (-1)) = [[2, -1, 0, 0], [-1, 2, -1, 0], [0, -1, 2, -2], [0, 0, -1, 2]] by decide)
  go_wp2_with fail
  go_ret2
  exact ⟨_, rfl, by rw [← HE.out]; exact hO2.mono (by omega) (Nat.le_refl _), hb1⟩
set_option maxHeartbeats 1000000 in
theorem specTypeD4 (w : World) : Calls Tryz.prog 65 #[.string ⟨#[68, 52]⟩] w (RetRowsB w [[2, -1, 0, 0], [-1, 2, -1, -1], [0, -1, 2, 0], [0, -1, 0, 2]] true) := by
  go_enter Tryz.func65, Tryz.ntmps65
  go_wp2_with fail
  refine (specChain4 _).mono ?_
  rintro e w1 ⟨v1, rfl, hO1, hb1⟩
  have hs1 := hb1.size
  go_wp2_with fail
  refine (specSet2 _ (chainL 4) 2 3 0 0 (sq_chain 4) (by decide) (by decide) (by decide) _ hO1.read).mono ?_
  rintro e w2 ⟨v2, rfl, hO2, hb2⟩
  have hs2 := hb2.size
  replace hb1 := below_trans hb1 hb2
  go_wp2_with fail
  refine (specSet2 _ (setL2 (chainL 4) 2 3 0 0) 1 3 (-1) (-1) (setAt_sq (setAt_sq (sq_chain 4) _ _ _) _ _ _) (by decide) (by decide) (by decide) _ hO2.read).mono ?_
  rintro e w3 ⟨v3, rfl, hO3, hb3⟩
  have hs3 := hb3.size
  replace hb1 := below_trans hb1 hb3
  have HE := Lib.hid (show (setL2 (setL2 (chainL 4) 2 3 0 0) 1 3 (-1) (-1)) = [[2, -1, 0, 0], [-1, 2, -1, -1], [0, -1, 2, 0], [0, -1, 0, 2]] by decide)
  go_wp2_with fail
  go_ret2
  exact ⟨_, rfl, by rw [← HE.out]; exact hO3.mono (by omega) (Nat.le_refl _), hb1⟩
set_option maxHeartbeats 1000000 in
theorem specTypeF4 (w : World) : Calls Tryz.prog 65 #[.string ⟨#[70, 52]⟩] w (RetRowsB w [[2, -1, 0, 0], [-1, 2, -1, 0], [0, -2, 2, -1], [0, 0, -1, 2]] true) := by
  go_enter Tryz.func65, Tryz.ntmps65
  go_wp2_with fail
  refine (specChain4 _).mono ?_
  rintro e w1 ⟨v1, rfl, hO1, hb1⟩
  have hs1 := hb1.size
  go_wp2_with fail
  refine (specSet2 _ (chainL 4) 1 2 (-1) (-2) (sq_chain 4) (by decide) (by decide) (by decide) _ hO1.read).mono ?_
  rintro e w2 ⟨v2, rfl, hO2, hb2⟩
  have hs2 := hb2.size
  replace hb1 := below_trans hb1 hb2
  have HE := Lib.hid (show (setL2 (chainL 4) 1 2 (-1) (-2)) = [[2, -1, 0, 0], [-1, 2, -1, 0], [0, -2, 2, -1], [0, 0, -1, 2]] by decide)
  go_wp2_with fail
  go_ret2
  exact ⟨_, rfl, by rw [← HE.out]; exact hO2.mono (by omega) (Nat.le_refl _), hb1⟩
set_option maxHeartbeats 1000000 in
theorem specTypeG2 (w : World) : Calls Tryz.prog 65 #[.string ⟨#[71, 50]⟩] w (RetRowsB w [[2, -1], [-3, 2]] true) := by
  go_enter Tryz.func65, Tryz.ntmps65
  go_wp2_with fail
  refine (specChain2 _).mono ?_
  rintro e w1 ⟨v1, rfl, hO1, hb1⟩
  have hs1 := hb1.size
  go_wp2_with fail
  refine (specSet2 _ (chainL 2) 0 1 (-1) (-3) (sq_chain 2) (by decide) (by decide) (by decide) _ hO1.read).mono ?_
  rintro e w2 ⟨v2, rfl, hO2, hb2⟩
  have hs2 := hb2.size
  replace hb1 := below_trans hb1 hb2
  have HE := Lib.hid (show (setL2 (chainL 2) 0 1 (-1) (-3)) = [[2, -1], [-3, 2]] by decide)
  go_wp2_with fail
  go_ret2
  exact ⟨_, rfl, by rw [← HE.out]; exact hO2.mono (by omega) (Nat.le_refl _), hb1⟩
set_option maxHeartbeats 1000000 in
theorem specTypeA1t (w : World) : Calls Tryz.prog 65 #[.string ⟨#[65, 49, 126]⟩] w (RetRowsB w [[2, -2], [-2, 2]] true) := by
  go_enter Tryz.func65, Tryz.ntmps65
  go_wp2_with fail
  refine (specChain2 _).mono ?_
  rintro e w1 ⟨v1, rfl, hO1, hb1⟩
  have hs1 := hb1.size
  go_wp2_with fail
  refine (specSet2 _ (chainL 2) 0 1 (-2) (-2) (sq_chain 2) (by decide) (by decide) (by decide) _ hO1.read).mono ?_
  rintro e w2 ⟨v2, rfl, hO2, hb2⟩
  have hs2 := hb2.size
  replace hb1 := below_trans hb1 hb2
  have HE := Lib.hid (show (setL2 (chainL 2) 0 1 (-2) (-2)) = [[2, -2], [-2, 2]] by decide)
  go_wp2_with fail
  go_ret2
  exact ⟨_, rfl, by rw [← HE.out]; exact hO2.mono (by omega) (Nat.le_refl _), hb1⟩
set_option maxHeartbeats 1000000 in
theorem specTypeA2t (w : World) : Calls Tryz.prog 65 #[.string ⟨#[65, 50, 126]⟩] w (RetRowsB w [[2, -1, -1], [-1, 2, -1], [-1, -1, 2]] true) := by
  go_enter Tryz.func65, Tryz.ntmps65
  go_wp2_with fail
  refine (specChain3 _).mono ?_
  rintro e w1 ⟨v1, rfl, hO1, hb1⟩
  have hs1 := hb1.size
  go_wp2_with fail
  refine (specSet2 _ (chainL 3) 0 2 (-1) (-1) (sq_chain 3) (by decide) (by decide) (by decide) _ hO1.read).mono ?_
  rintro e w2 ⟨v2, rfl, hO2, hb2⟩
  have hs2 := hb2.size
  replace hb1 := below_trans hb1 hb2
  have HE := Lib.hid (show (setL2 (chainL 3) 0 2 (-1) (-1)) = [[2, -1, -1], [-1, 2, -1], [-1, -1, 2]] by decide)
  go_wp2_with fail
  go_ret2
  exact ⟨_, rfl, by rw [← HE.out]; exact hO2.mono (by omega) (Nat.le_refl _), hb1⟩
set_option maxHeartbeats 1000000 in
theorem specTypeA3t (w : World) : Calls Tryz.prog 65 #[.string ⟨#[65, 51, 126]⟩] w (RetRowsB w [[2, -1, 0, -1], [-1, 2, -1, 0], [0, -1, 2, -1], [-1, 0, -1, 2]] true) := by
  go_enter Tryz.func65, Tryz.ntmps65
  go_wp2_with fail
  refine (specChain4 _).mono ?_
  rintro e w1 ⟨v1, rfl, hO1, hb1⟩
  have hs1 := hb1.size
  go_wp2_with fail
  refine (specSet2 _ (chainL 4) 0 3 (-1) (-1) (sq_chain 4) (by decide) (by decide) (by decide) _ hO1.read).mono ?_
  rintro e w2 ⟨v2, rfl, hO2, hb2⟩
  have hs2 := hb2.size
  replace hb1 := below_trans hb1 hb2
  have HE := Lib.hid (show (setL2 (chainL 4) 0 3 (-1) (-1)) = [[2, -1, 0, -1], [-1, 2, -1, 0], [0, -1, 2, -1], [-1, 0, -1, 2]] by decide)
  go_wp2_with fail
  go_ret2
  exact ⟨_, rfl, by rw [← HE.out]; exact hO2.mono (by omega) (Nat.le_refl _), hb1⟩
set_option maxHeartbeats 1000000 in
theorem specTypeC2t (w : World) : Calls Tryz.prog 65 #[.string ⟨#[67, 50, 126]⟩] w (RetRowsB w [[2, -1, 0], [-2, 2, -2], [0, -1, 2]] true) := by
  go_enter Tryz.func65, Tryz.ntmps65
  go_wp2_with fail
  refine (specChain3 _).mono ?_
  rintro e w1 ⟨v1, rfl, hO1, hb1⟩
  have hs1 := hb1.size
  go_wp2_with fail
  refine (specSet2 _ (chainL 3) 0 1 (-1) (-2) (sq_chain 3) (by decide) (by decide) (by decide) _ hO1.read).mono ?_
  rintro e w2 ⟨v2, rfl, hO2, hb2⟩
  have hs2 := hb2.size
  replace hb1 := below_trans hb1 hb2
  go_wp2_with fail
  refine (specSet2 _ (setL2 (chainL 3) 0 1 (-1) (-2)) 1 2 (-2) (-1) (setAt_sq (setAt_sq (sq_chain 3) _ _ _) _ _ _) (by decide) (by decide) (by decide) _ hO2.read).mono ?_
  rintro e w3 ⟨v3, rfl, hO3, hb3⟩
  have hs3 := hb3.size
  replace hb1 := below_trans hb1 hb3
  have HE := Lib.hid (show (setL2 (setL2 (chainL 3) 0 1 (-1) (-2)) 1 2 (-2) (-1)) = [[2, -1, 0], [-2, 2, -2], [0, -1, 2]] by decide)
  go_wp2_with fail
  go_ret2
  exact ⟨_, rfl, by rw [← HE.out]; exact hO3.mono (by omega) (Nat.le_refl _), hb1⟩
set_option maxHeartbeats 1000000 in
theorem specTypeG2t (w : World) : Calls Tryz.prog 65 #[.string ⟨#[71, 50, 126]⟩] w (RetRowsB w [[2, -1, 0], [-1, 2, -1], [0, -3, 2]] true) := by
  go_enter Tryz.func65, Tryz.ntmps65
  go_wp2_with fail
  refine (specChain3 _).mono ?_
  rintro e w1 ⟨v1, rfl, hO1, hb1⟩
  have hs1 := hb1.size
  go_wp2_with fail
  refine (specSet2 _ (chainL 3) 1 2 (-1) (-3) (sq_chain 3) (by decide) (by decide) (by decide) _ hO1.read).mono ?_
  rintro e w2 ⟨v2, rfl, hO2, hb2⟩
  have hs2 := hb2.size
  replace hb1 := below_trans hb1 hb2
  have HE := Lib.hid (show (setL2 (chainL 3) 1 2 (-1) (-3)) = [[2, -1, 0], [-1, 2, -1], [0, -3, 2]] by decide)
  go_wp2_with fail
  go_ret2
  exact ⟨_, rfl, by rw [← HE.out]; exact hO2.mono (by omega) (Nat.le_refl _), hb1⟩
set_option maxRecDepth 100000 in
set_option maxHeartbeats 2000000 in
theorem specTypeCartan (s : ByteArray) (w : World) : Calls Tryz.prog 65 #[.string s] w (RetRowsB w (typL s) (typOk s)) := by
  cases eA1 : (s.toList == [65, 49]) with
  | true =>
    rw [lit_of eA1, typ_A1.1, typ_A1.2]
    exact specTypeA1 w
  | false =>
  cases eA2 : (s.toList == [65, 50]) with
  | true =>
    rw [lit_of eA2, typ_A2.1, typ_A2.2]
    exact specTypeA2 w
  | false =>
  cases eA3 : (s.toList == [65, 51]) with
  | true =>
    rw [lit_of eA3, typ_A3.1, typ_A3.2]
    exact specTypeA3 w
  | false =>
  cases eA4 : (s.toList == [65, 52]) with
  | true =>
    rw [lit_of eA4, typ_A4.1, typ_A4.2]
    exact specTypeA4 w
  | false =>
  cases eB2 : (s.toList == [66, 50]) with
  | true =>
    rw [lit_of eB2, typ_B2.1, typ_B2.2]
    exact specTypeB2 w
  | false =>
  cases eB3 : (s.toList == [66, 51]) with
  | true =>
    rw [lit_of eB3, typ_B3.1, typ_B3.2]
    exact specTypeB3 w
  | false =>
  cases eB4 : (s.toList == [66, 52]) with
  | true =>
    rw [lit_of eB4, typ_B4.1, typ_B4.2]
    exact specTypeB4 w
  | false =>
  cases eC3 : (s.toList == [67, 51]) with
  | true =>
    rw [lit_of eC3, typ_C3.1, typ_C3.2]
    exact specTypeC3 w
  | false =>
  cases eC4 : (s.toList == [67, 52]) with
  | true =>
    rw [lit_of eC4, typ_C4.1, typ_C4.2]
    exact specTypeC4 w
  | false =>
  cases eD4 : (s.toList == [68, 52]) with
  | true =>
    rw [lit_of eD4, typ_D4.1, typ_D4.2]
    exact specTypeD4 w
  | false =>
  cases eF4 : (s.toList == [70, 52]) with
  | true =>
    rw [lit_of eF4, typ_F4.1, typ_F4.2]
    exact specTypeF4 w
  | false =>
  cases eG2 : (s.toList == [71, 50]) with
  | true =>
    rw [lit_of eG2, typ_G2.1, typ_G2.2]
    exact specTypeG2 w
  | false =>
  cases eA1t : (s.toList == [65, 49, 126]) with
  | true =>
    rw [lit_of eA1t, typ_A1t.1, typ_A1t.2]
    exact specTypeA1t w
  | false =>
  cases eA2t : (s.toList == [65, 50, 126]) with
  | true =>
    rw [lit_of eA2t, typ_A2t.1, typ_A2t.2]
    exact specTypeA2t w
  | false =>
  cases eA3t : (s.toList == [65, 51, 126]) with
  | true =>
    rw [lit_of eA3t, typ_A3t.1, typ_A3t.2]
    exact specTypeA3t w
  | false =>
  cases eC2t : (s.toList == [67, 50, 126]) with
  | true =>
    rw [lit_of eC2t, typ_C2t.1, typ_C2t.2]
    exact specTypeC2t w
  | false =>
  cases eG2t : (s.toList == [71, 50, 126]) with
  | true =>
    rw [lit_of eG2t, typ_G2t.1, typ_G2t.2]
    exact specTypeG2t w
  | false =>
  have hF : typF s = none := by
    rw [ByteArray.toList_eq] at eA1 eA2 eA3 eA4 eB2 eB3 eB4 eC3 eC4 eD4 eF4 eG2 eA1t eA2t eA3t eC2t eG2t
    simp only [typF, typTab, List.find?_cons, List.find?_nil, eA1, eA2, eA3, eA4, eB2, eB3, eB4, eC3, eC4, eD4, eF4, eG2, eA1t, eA2t, eA3t, eC2t, eG2t]
    rfl
  have HF := Lib.hid (show typL s = [] ∧ typOk s = false by simp [typL, typOk, hF])
  clear hF
  go_enter Tryz.func65, Tryz.ntmps65
  go_wp2_with fail
  go_ret2
  have hO := (rowsV_empty w).own2 (by simp)
  exact ⟨_, by rw [HF.out.2]; rfl, by rw [HF.out.1]; exact hO, below_new w _⟩
set_option maxRecDepth 100000 in
set_option maxHeartbeats 1000000 in
theorem implTypeA1 (w : World) : Calls Tryz.prog 64 #[.string ⟨#[65, 49]⟩] w (RetRowsB w [[2]] true) := by
  go_enter Tryz.func64, Tryz.ntmps64
  go_wp2_with fail
  refine (implChain1 _).mono ?_
  rintro e w1 ⟨v1, rfl, hO1, hb1⟩
  have hs1 := hb1.size
  have HE := Lib.hid (show chainL 1 = [[2]] by decide)
  go_wp2_with fail
  go_ret2
  exact ⟨_, rfl, by rw [← HE.out]; exact hO1, hb1⟩
set_option maxRecDepth 100000 in
set_option maxHeartbeats 1000000 in
theorem implTypeA2 (w : World) : Calls Tryz.prog 64 #[.string ⟨#[65, 50]⟩] w (RetRowsB w [[2, -1], [-1, 2]] true) := by
  go_enter Tryz.func64, Tryz.ntmps64
  go_wp2_with fail
  refine (implChain2 _).mono ?_
  rintro e w1 ⟨v1, rfl, hO1, hb1⟩
  have hs1 := hb1.size
  have HE := Lib.hid (show chainL 2 = [[2, -1], [-1, 2]] by decide)
  go_wp2_with fail
  go_ret2
  exact ⟨_, rfl, by rw [← HE.out]; exact hO1, hb1⟩
set_option maxRecDepth 100000 in
set_option maxHeartbeats 1000000 in
theorem implTypeA3 (w : World) : Calls Tryz.prog 64 #[.string ⟨#[65, 51]⟩] w (RetRowsB w [[2, -1, 0], [-1, 2, -1], [0, -1, 2]] true) := by
  go_enter Tryz.func64, Tryz.ntmps64
  go_wp2_with fail
  refine (implChain3 _).mono ?_
  rintro e w1 ⟨v1, rfl, hO1, hb1⟩
  have hs1 := hb1.size
  have HE := Lib.hid (show chainL 3 = [[2, -1, 0], [-1, 2, -1], [0, -1, 2]] by decide)
  go_wp2_with fail
  go_ret2
  exact ⟨_, rfl, by rw [← HE.out]; exact hO1, hb1⟩
set_option maxRecDepth 100000 in
set_option maxHeartbeats 1000000 in
theorem implTypeA4 (w : World) : Calls Tryz.prog 64 #[.string ⟨#[65, 52]⟩] w (RetRowsB w [[2, -1, 0, 0], [-1, 2, -1, 0], [0, -1, 2, -1], [0, 0, -1, 2]] true) := by
  go_enter Tryz.func64, Tryz.ntmps64
  go_wp2_with fail
  refine (implChain4 _).mono ?_
  rintro e w1 ⟨v1, rfl, hO1, hb1⟩
  have hs1 := hb1.size
  have HE := Lib.hid (show chainL 4 = [[2, -1, 0, 0], [-1, 2, -1, 0], [0, -1, 2, -1], [0, 0, -1, 2]] by decide)
  go_wp2_with fail
  go_ret2
  exact ⟨_, rfl, by rw [← HE.out]; exact hO1, hb1⟩
set_option maxRecDepth 100000 in
set_option maxHeartbeats 1000000 in
theorem implTypeB2 (w : World) : Calls Tryz.prog 64 #[.string ⟨#[66, 50]⟩] w (RetRowsB w [[2, -1], [-2, 2]] true) := by
  go_enter Tryz.func64, Tryz.ntmps64
  go_wp2_with fail
  refine (implChain2 _).mono ?_
  rintro e w1 ⟨v1, rfl, hO1, hb1⟩
  have hs1 := hb1.size
  have hbn := below_new w1 (.cells #[.int .i64 1, .int .i64 0, .int .i64 (-2)] 3)
  go_wp2_with fail
  refine (implWith _ w1.heap.size 3 (chainL 2) [1, 0, -2] 1 w.heap.size w1.heap.size (by decide) (by decide) (sq_chain 2) (by decide) (by decide) _ (hO1.keep hbn) (own_lit w1 #[.int .i64 1, .int .i64 0, .int .i64 (-2)] [1, 0, -2] rfl (by decide)).read (Nat.le_refl _)).mono ?_
  rintro e w2 ⟨rfl, hO2, hch⟩
  have hs2 := hch.size
  have hsn := hbn.size
  have hbF := below_chg (below_trans hb1 hbn) hch (fun q hq => hq.1)
  have HE := Lib.hid (show withT (chainL 2) [1, 0, -2] 1 = [[2, -1], [-2, 2]] by decide)
  clear hbn
  go_wp2_with fail
  go_ret2
  exact ⟨_, rfl, by rw [← HE.out]; exact hO2.mono (Nat.le_refl _) (by omega), hbF⟩
set_option maxRecDepth 100000 in
set_option maxHeartbeats 1000000 in
theorem implTypeB3 (w : World) : Calls Tryz.prog 64 #[.string ⟨#[66, 51]⟩] w (RetRowsB w [[2, -1, 0], [-1, 2, -1], [0, -2, 2]] true) := by
  go_enter Tryz.func64, Tryz.ntmps64
  go_wp2_with fail
  refine (implChain3 _).mono ?_
  rintro e w1 ⟨v1, rfl, hO1, hb1⟩
  have hs1 := hb1.size
  have hbn := below_new w1 (.cells #[.int .i64 2, .int .i64 1, .int .i64 (-2)] 3)
  go_wp2_with fail
  refine (implWith _ w1.heap.size 3 (chainL 3) [2, 1, -2] 1 w.heap.size w1.heap.size (by decide) (by decide) (sq_chain 3) (by decide) (by decide) _ (hO1.keep hbn) (own_lit w1 #[.int .i64 2, .int .i64 1, .int .i64 (-2)] [2, 1, -2] rfl (by decide)).read (Nat.le_refl _)).mono ?_
  rintro e w2 ⟨rfl, hO2, hch⟩
  have hs2 := hch.size
  have hsn := hbn.size
  have hbF := below_chg (below_trans hb1 hbn) hch (fun q hq => hq.1)
  have HE := Lib.hid (show withT (chainL 3) [2, 1, -2] 1 = [[2, -1, 0], [-1, 2, -1], [0, -2, 2]] by decide)
  clear hbn
  go_wp2_with fail
  go_ret2
  exact ⟨_, rfl, by rw [← HE.out]; exact hO2.mono (Nat.le_refl _) (by omega), hbF⟩
set_option maxRecDepth 100000 in
set_option maxHeartbeats 1000000 in
theorem implTypeB4 (w : World) : Calls Tryz.prog 64 #[.string ⟨#[66, 52]⟩] w (RetRowsB w [[2, -1, 0, 0], [-1, 2, -1, 0], [0, -1, 2, -1], [0, 0, -2, 2]] true) := by
  go_enter Tryz.func64, Tryz.ntmps64
  go_wp2_with fail
  refine (implChain4 _).mono ?_
  rintro e w1 ⟨v1, rfl, hO1, hb1⟩
  have hs1 := hb1.size
  have hbn := below_new w1 (.cells #[.int .i64 3, .int .i64 2, .int .i64 (-2)] 3)
  go_wp2_with fail
  refine (implWith _ w1.heap.size 3 (chainL 4) [3, 2, -2] 1 w.heap.size w1.heap.size (by decide) (by decide) (sq_chain 4) (by decide) (by decide) _ (hO1.keep hbn) (own_lit w1 #[.int .i64 3, .int .i64 2, .int .i64 (-2)] [3, 2, -2] rfl (by decide)).read (Nat.le_refl _)).mono ?_
  rintro e w2 ⟨rfl, hO2, hch⟩
  have hs2 := hch.size
  have hsn := hbn.size
  have hbF := below_chg (below_trans hb1 hbn) hch (fun q hq => hq.1)
  have HE := Lib.hid (show withT (chainL 4) [3, 2, -2] 1 = [[2, -1, 0, 0], [-1, 2, -1, 0], [0, -1, 2, -1], [0, 0, -2, 2]] by decide)
  clear hbn
  go_wp2_with fail
  go_ret2
  exact ⟨_, rfl, by rw [← HE.out]; exact hO2.mono (Nat.le_refl _) (by omega), hbF⟩
set_option maxRecDepth 100000 in
set_option maxHeartbeats 1000000 in
theorem implTypeC3 (w : World) : Calls Tryz.prog 64 #[.string ⟨#[67, 51]⟩] w (RetRowsB w [[2, -1, 0], [-1, 2, -2], [0, -1, 2]] true) := by
  go_enter Tryz.func64, Tryz.ntmps64
  go_wp2_with fail
  refine (implChain3 _).mono ?_
  rintro e w1 ⟨v1, rfl, hO1, hb1⟩
  have hs1 := hb1.size
  have hbn := below_new w1 (.cells #[.int .i64 1, .int .i64 2, .int .i64 (-2)] 3)
  go_wp2_with fail
  refine (implWith _ w1.heap.size 3 (chainL 3) [1, 2, -2] 1 w.heap.size w1.heap.size (by decide) (by decide) (sq_chain 3) (by decide) (by decide) _ (hO1.keep hbn) (own_lit w1 #[.int .i64 1, .int .i64 2, .int .i64 (-2)] [1, 2, -2] rfl (by decide)).read (Nat.le_refl _)).mono ?_
  rintro e w2 ⟨rfl, hO2, hch⟩
  have hs2 := hch.size
  have hsn := hbn.size
  have hbF := below_chg (below_trans hb1 hbn) hch (fun q hq => hq.1)
  have HE := Lib.hid (show withT (chainL 3) [1, 2, -2] 1 = [[2, -1, 0], [-1, 2, -2], [0, -1, 2]] by decide)
  clear hbn
  go_wp2_with fail
  go_ret2
  exact ⟨_, rfl, by rw [← HE.out]; exact hO2.mono (Nat.le_refl _) (by omega), hbF⟩
set_option maxRecDepth 100000 in
set_option maxHeartbeats 1000000 in
theorem implTypeC4 (w : World) : Calls Tryz.prog 64 #[.string ⟨#[67, 52]⟩] w (RetRowsB w [[2, -1, 0, 0], [-1, 2, -1, 0], [0, -1, 2, -2], [0, 0, -1, 2]] true) := by
  go_enter Tryz.func64, Tryz.ntmps64
  go_wp2_with fail
  refine (implChain4 _).mono ?_
  rintro e w1 ⟨v1, rfl, hO1, hb1⟩
  have hs1 := hb1.size
  have hbn := below_new w1 (.cells #[.int .i64 2, .int .i64 3, .int .i64 (-2)] 3)
  go_wp2_with fail
  refine (implWith _ w1.heap.size 3 (chainL 4) [2, 3, -2] 1 w.heap.size w1.heap.size (by decide) (by decide) (sq_chain 4) (by decide) (by decide) _ (hO1.keep hbn) (own_lit w1 #[.int .i64 2, .int .i64 3, .int .i64 (-2)] [2, 3, -2] rfl (by decide)).read (Nat.le_refl _)).mono ?_
  rintro e w2 ⟨rfl, hO2, hch⟩
  have hs2 := hch.size
  have hsn := hbn.size
  have hbF := below_chg (below_trans hb1 hbn) hch (fun q hq => hq.1)
  have HE := Lib.hid (show withT (chainL 4) [2, 3, -2] 1 = [[2, -1, 0, 0], [-1, 2, -1, 0], [0, -1, 2, -2], [0, 0, -1, 2]] by decide)
  clear hbn
  go_wp2_with fail
  go_ret2
  exact ⟨_, rfl, by rw [← HE.out]; exact hO2.mono (Nat.le_refl _) (by omega), hbF⟩
set_option maxRecDepth 100000 in
set_option maxHeartbeats 1000000 in
theorem implTypeD4 (w : World) : Calls Tryz.prog 64 #[.string ⟨#[68, 52]⟩] w (RetRowsB w [[2, -1, 0, 0], [-1, 2, -1, -1], [0, -1, 2, 0], [0, -1, 0, 2]] true) := by
  go_enter Tryz.func64, Tryz.ntmps64
  go_wp2_with fail
  refine (implChain4 _).mono ?_
  rintro e w1 ⟨v1, rfl, hO1, hb1⟩
  have hs1 := hb1.size
  have hbn := below_new w1 (.cells #[.int .i64 2, .int .i64 3, .int .i64 0, .int .i64 3, .int .i64 2, .int .i64 0, .int .i64 1, .int .i64 3, .int .i64 (-1), .int .i64 3, .int .i64 1, .int .i64 (-1)] 3)
  go_wp2_with fail
  refine (implWith _ w1.heap.size 12 (chainL 4) [2, 3, 0, 3, 2, 0, 1, 3, -1, 3, 1, -1] 4 w.heap.size w1.heap.size (by decide) (by decide) (sq_chain 4) (by decide) (by decide) _ (hO1.keep hbn) (own_lit w1 #[.int .i64 2, .int .i64 3, .int .i64 0, .int .i64 3, .int .i64 2, .int .i64 0, .int .i64 1, .int .i64 3, .int .i64 (-1), .int .i64 3, .int .i64 1, .int .i64 (-1)] [2, 3, 0, 3, 2, 0, 1, 3, -1, 3, 1, -1] rfl (by decide)).read (Nat.le_refl _)).mono ?_
  rintro e w2 ⟨rfl, hO2, hch⟩
  have hs2 := hch.size
  have hsn := hbn.size
  have hbF := below_chg (below_trans hb1 hbn) hch (fun q hq => hq.1)
  have HE := Lib.hid (show withT (chainL 4) [2, 3, 0, 3, 2, 0, 1, 3, -1, 3, 1, -1] 4 = [[2, -1, 0, 0], [-1, 2, -1, -1], [0, -1, 2, 0], [0, -1, 0, 2]] by decide)
  clear hbn
  go_wp2_with fail
  go_ret2
  exact ⟨_, rfl, by rw [← HE.out]; exact hO2.mono (Nat.le_refl _) (by omega), hbF⟩
set_option maxRecDepth 100000 in
set_option maxHeartbeats 1000000 in
theorem implTypeF4 (w : World) : Calls Tryz.prog 64 #[.string ⟨#[70, 52]⟩] w (RetRowsB w [[2, -1, 0, 0], [-1, 2, -1, 0], [0, -2, 2, -1], [0, 0, -1, 2]] true) := by
  go_enter Tryz.func64, Tryz.ntmps64
  go_wp2_with fail
  refine (implChain4 _).mono ?_
  rintro e w1 ⟨v1, rfl, hO1, hb1⟩
  have hs1 := hb1.size
  have hbn := below_new w1 (.cells #[.int .i64 2, .int .i64 1, .int .i64 (-2)] 3)
  go_wp2_with fail
  refine (implWith _ w1.heap.size 3 (chainL 4) [2, 1, -2] 1 w.heap.size w1.heap.size (by decide) (by decide) (sq_chain 4) (by decide) (by decide) _ (hO1.keep hbn) (own_lit w1 #[.int .i64 2, .int .i64 1, .int .i64 (-2)] [2, 1, -2] rfl (by decide)).read (Nat.le_refl _)).mono ?_
  rintro e w2 ⟨rfl, hO2, hch⟩
  have hs2 := hch.size
  have hsn := hbn.size
  have hbF := below_chg (below_trans hb1 hbn) hch (fun q hq => hq.1)
  have HE := Lib.hid (show withT (chainL 4) [2, 1, -2] 1 = [[2, -1, 0, 0], [-1, 2, -1, 0], [0, -2, 2, -1], [0, 0, -1, 2]] by decide)
  clear hbn
  go_wp2_with fail
  go_ret2
  exact ⟨_, rfl, by rw [← HE.out]; exact hO2.mono (Nat.le_refl _) (by omega), hbF⟩
set_option maxRecDepth 100000 in
set_option maxHeartbeats 1000000 in
theorem implTypeG2 (w : World) : Calls Tryz.prog 64 #[.string ⟨#[71, 50]⟩] w (RetRowsB w [[2, -1], [-3, 2]] true) := by
  go_enter Tryz.func64, Tryz.ntmps64
  go_wp2_with fail
  refine (implChain2 _).mono ?_
  rintro e w1 ⟨v1, rfl, hO1, hb1⟩
  have hs1 := hb1.size
  have hbn := below_new w1 (.cells #[.int .i64 1, .int .i64 0, .int .i64 (-3)] 3)
  go_wp2_with fail
  refine (implWith _ w1.heap.size 3 (chainL 2) [1, 0, -3] 1 w.heap.size w1.heap.size (by decide) (by decide) (sq_chain 2) (by decide) (by decide) _ (hO1.keep hbn) (own_lit w1 #[.int .i64 1, .int .i64 0, .int .i64 (-3)] [1, 0, -3] rfl (by decide)).read (Nat.le_refl _)).mono ?_
  rintro e w2 ⟨rfl, hO2, hch⟩
  have hs2 := hch.size
  have hsn := hbn.size
  have hbF := below_chg (below_trans hb1 hbn) hch (fun q hq => hq.1)
  have HE := Lib.hid (show withT (chainL 2) [1, 0, -3] 1 = [[2, -1], [-3, 2]] by decide)
  clear hbn
  go_wp2_with fail
  go_ret2
  exact ⟨_, rfl, by rw [← HE.out]; exact hO2.mono (Nat.le_refl _) (by omega), hbF⟩
set_option maxRecDepth 100000 in
set_option maxHeartbeats 1000000 in
theorem implTypeA1t (w : World) : Calls Tryz.prog 64 #[.string ⟨#[65, 49, 126]⟩] w (RetRowsB w [[2, -2], [-2, 2]] true) := by
  go_enter Tryz.func64, Tryz.ntmps64
  go_wp2_with fail
  refine (implChain2 _).mono ?_
  rintro e w1 ⟨v1, rfl, hO1, hb1⟩
  have hs1 := hb1.size
  have hbn := below_new w1 (.cells #[.int .i64 0, .int .i64 1, .int .i64 (-2), .int .i64 1, .int .i64 0, .int .i64 (-2)] 3)
  go_wp2_with fail
  refine (implWith _ w1.heap.size 6 (chainL 2) [0, 1, -2, 1, 0, -2] 2 w.heap.size w1.heap.size (by decide) (by decide) (sq_chain 2) (by decide) (by decide) _ (hO1.keep hbn) (own_lit w1 #[.int .i64 0, .int .i64 1, .int .i64 (-2), .int .i64 1, .int .i64 0, .int .i64 (-2)] [0, 1, -2, 1, 0, -2] rfl (by decide)).read (Nat.le_refl _)).mono ?_
  rintro e w2 ⟨rfl, hO2, hch⟩
  have hs2 := hch.size
  have hsn := hbn.size
  have hbF := below_chg (below_trans hb1 hbn) hch (fun q hq => hq.1)
  have HE := Lib.hid (show withT (chainL 2) [0, 1, -2, 1, 0, -2] 2 = [[2, -2], [-2, 2]] by decide)
  clear hbn
  go_wp2_with fail
  go_ret2
  exact ⟨_, rfl, by rw [← HE.out]; exact hO2.mono (Nat.le_refl _) (by omega), hbF⟩
set_option maxRecDepth 100000 in
set_option maxHeartbeats 1000000 in
theorem implTypeA2t (w : World) : Calls Tryz.prog 64 #[.string ⟨#[65, 50, 126]⟩] w (RetRowsB w [[2, -1, -1], [-1, 2, -1], [-1, -1, 2]] true) := by
  go_enter Tryz.func64, Tryz.ntmps64
  go_wp2_with fail
  refine (implChain3 _).mono ?_
  rintro e w1 ⟨v1, rfl, hO1, hb1⟩
  have hs1 := hb1.size
  have hbn := below_new w1 (.cells #[.int .i64 0, .int .i64 2, .int .i64 (-1), .int .i64 2, .int .i64 0, .int .i64 (-1)] 3)
  go_wp2_with fail
  refine (implWith _ w1.heap.size 6 (chainL 3) [0, 2, -1, 2, 0, -1] 2 w.heap.size w1.heap.size (by decide) (by decide) (sq_chain 3) (by decide) (by decide) _ (hO1.keep hbn) (own_lit w1 #[.int .i64 0, .int .i64 2, .int .i64 (-1), .int .i64 2, .int .i64 0, .int .i64 (-1)] [0, 2, -1, 2, 0, -1] rfl (by decide)).read (Nat.le_refl _)).mono ?_
  rintro e w2 ⟨rfl, hO2, hch⟩
  have hs2 := hch.size
  have hsn := hbn.size
  have hbF := below_chg (below_trans hb1 hbn) hch (fun q hq => hq.1)
  have HE := Lib.hid (show withT (chainL 3) [0, 2, -1, 2, 0, -1] 2 = [[2, -1, -1], [-1, 2, -1], [-1, -1, 2]] by decide)
  clear hbn
  go_wp2_with fail
  go_ret2
  exact ⟨_, rfl, by rw [← HE.out]; exact hO2.mono (Nat.le_refl _) (by omega), hbF⟩
set_option maxRecDepth 100000 in
set_option maxHeartbeats 1000000 in
theorem implTypeA3t (w : World) : Calls Tryz.prog 64 #[.string ⟨#[65, 51, 126]⟩] w (RetRowsB w [[2, -1, 0, -1], [-1, 2, -1, 0], [0, -1, 2, -1], [-1, 0, -1, 2]] true) := by
  go_enter Tryz.func64, Tryz.ntmps64
  go_wp2_with fail
  refine (implChain4 _).mono ?_
  rintro e w1 ⟨v1, rfl, hO1, hb1⟩
  have hs1 := hb1.size
  have hbn := below_new w1 (.cells #[.int .i64 0, .int .i64 3, .int .i64 (-1), .int .i64 3, .int .i64 0, .int .i64 (-1)] 3)
  go_wp2_with fail
  refine (implWith _ w1.heap.size 6 (chainL 4) [0, 3, -1, 3, 0, -1] 2 w.heap.size w1.heap.size (by decide) (by decide) (sq_chain 4) (by decide) (by decide) _ (hO1.keep hbn) (own_lit w1 #[.int .i64 0, .int .i64 3, .int .i64 (-1), .int .i64 3, .int .i64 0, .int .i64 (-1)] [0, 3, -1, 3, 0, -1] rfl (by decide)).read (Nat.le_refl _)).mono ?_
  rintro e w2 ⟨rfl, hO2, hch⟩
  have hs2 := hch.size
  have hsn := hbn.size
  have hbF := below_chg (below_trans hb1 hbn) hch (fun q hq => hq.1)
  have HE := Lib.hid (show withT (chainL 4) [0, 3, -1, 3, 0, -1] 2 = [[2, -1, 0, -1], [-1, 2, -1, 0], [0, -1, 2, -1], [-1, 0, -1, 2]] by decide)
  clear hbn
  go_wp2_with fail
  go_ret2
  exact ⟨_, rfl, by rw [← HE.out]; exact hO2.mono (Nat.le_refl _) (by omega), hbF⟩
set_option maxRecDepth 100000 in
set_option maxHeartbeats 1000000 in
theorem implTypeC2t (w : World) : Calls Tryz.prog 64 #[.string ⟨#[67, 50, 126]⟩] w (RetRowsB w [[2, -1, 0], [-2, 2, -2], [0, -1, 2]] true) := by
  go_enter Tryz.func64, Tryz.ntmps64
  go_wp2_with fail
  refine (implChain3 _).mono ?_
  rintro e w1 ⟨v1, rfl, hO1, hb1⟩
  have hs1 := hb1.size
  have hbn := below_new w1 (.cells #[.int .i64 1, .int .i64 0, .int .i64 (-2), .int .i64 1, .int .i64 2, .int .i64 (-2)] 3)
  go_wp2_with fail
  refine (implWith _ w1.heap.size 6 (chainL 3) [1, 0, -2, 1, 2, -2] 2 w.heap.size w1.heap.size (by decide) (by decide) (sq_chain 3) (by decide) (by decide) _ (hO1.keep hbn) (own_lit w1 #[.int .i64 1, .int .i64 0, .int .i64 (-2), .int .i64 1, .int .i64 2, .int .i64 (-2)] [1, 0, -2, 1, 2, -2] rfl (by decide)).read (Nat.le_refl _)).mono ?_
  rintro e w2 ⟨rfl, hO2, hch⟩
  have hs2 := hch.size
  have hsn := hbn.size
  have hbF := below_chg (below_trans hb1 hbn) hch (fun q hq => hq.1)
  have HE := Lib.hid (show withT (chainL 3) [1, 0, -2, 1, 2, -2] 2 = [[2, -1, 0], [-2, 2, -2], [0, -1, 2]] by decide)
  clear hbn
  go_wp2_with fail
  go_ret2
  exact ⟨_, rfl, by rw [← HE.out]; exact hO2.mono (Nat.le_refl _) (by omega), hbF⟩
set_option maxRecDepth 100000 in
set_option maxHeartbeats 1000000 in
theorem implTypeG2t (w : World) : Calls Tryz.prog 64 #[.string ⟨#[71, 50, 126]⟩] w (RetRowsB w [[2, -1, 0], [-1, 2, -1], [0, -3, 2]] true) := by
  go_enter Tryz.func64, Tryz.ntmps64
  go_wp2_with fail
  refine (implChain3 _).mono ?_
  rintro e w1 ⟨v1, rfl, hO1, hb1⟩
  have hs1 := hb1.size
  have hbn := below_new w1 (.cells #[.int .i64 2, .int .i64 1, .int .i64 (-3)] 3)
  go_wp2_with fail
  refine (implWith _ w1.heap.size 3 (chainL 3) [2, 1, -3] 1 w.heap.size w1.heap.size (by decide) (by decide) (sq_chain 3) (by decide) (by decide) _ (hO1.keep hbn) (own_lit w1 #[.int .i64 2, .int .i64 1, .int .i64 (-3)] [2, 1, -3] rfl (by decide)).read (Nat.le_refl _)).mono ?_
  rintro e w2 ⟨rfl, hO2, hch⟩
  have hs2 := hch.size
  have hsn := hbn.size
  have hbF := below_chg (below_trans hb1 hbn) hch (fun q hq => hq.1)
  have HE := Lib.hid (show withT (chainL 3) [2, 1, -3] 1 = [[2, -1, 0], [-1, 2, -1], [0, -3, 2]] by decide)
  clear hbn
  go_wp2_with fail
  go_ret2
  exact ⟨_, rfl, by rw [← HE.out]; exact hO2.mono (Nat.le_refl _) (by omega), hbF⟩
set_option maxRecDepth 100000 in
set_option maxHeartbeats 2000000 in
theorem implTypeCartan (s : ByteArray) (w : World) : Calls Tryz.prog 64 #[.string s] w (RetRowsB w (typL s) (typOk s)) := by
  cases eA1 : (s.toList == [65, 49]) with
  | true =>
    rw [lit_of eA1, typ_A1.1, typ_A1.2]
    exact implTypeA1 w
  | false =>
  cases eA2 : (s.toList == [65, 50]) with
  | true =>
    rw [lit_of eA2, typ_A2.1, typ_A2.2]
    exact implTypeA2 w
  | false =>
  cases eA3 : (s.toList == [65, 51]) with
  | true =>
    rw [lit_of eA3, typ_A3.1, typ_A3.2]
    exact implTypeA3 w
  | false =>
  cases eA4 : (s.toList == [65, 52]) with
  | true =>
    rw [lit_of eA4, typ_A4.1, typ_A4.2]
    exact implTypeA4 w
  | false =>
  cases eB2 : (s.toList == [66, 50]) with
  | true =>
    rw [lit_of eB2, typ_B2.1, typ_B2.2]
    exact implTypeB2 w
  | false =>
  cases eB3 : (s.toList == [66, 51]) with
  | true =>
    rw [lit_of eB3, typ_B3.1, typ_B3.2]
    exact implTypeB3 w
  | false =>
  cases eB4 : (s.toList == [66, 52]) with
  | true =>
    rw [lit_of eB4, typ_B4.1, typ_B4.2]
    exact implTypeB4 w
  | false =>
  cases eC3 : (s.toList == [67, 51]) with
  | true =>
    rw [lit_of eC3, typ_C3.1, typ_C3.2]
    exact implTypeC3 w
  | false =>
  cases eC4 : (s.toList == [67, 52]) with
  | true =>
    rw [lit_of eC4, typ_C4.1, typ_C4.2]
    exact implTypeC4 w
  | false =>
  cases eD4 : (s.toList == [68, 52]) with
  | true =>
    rw [lit_of eD4, typ_D4.1, typ_D4.2]
    exact implTypeD4 w
  | false =>
  cases eF4 : (s.toList == [70, 52]) with
  | true =>
    rw [lit_of eF4, typ_F4.1, typ_F4.2]
    exact implTypeF4 w
  | false =>
  cases eG2 : (s.toList == [71, 50]) with
  | true =>
    rw [lit_of eG2, typ_G2.1, typ_G2.2]
    exact implTypeG2 w
  | false =>
  cases eA1t : (s.toList == [65, 49, 126]) with
  | true =>
    rw [lit_of eA1t, typ_A1t.1, typ_A1t.2]
    exact implTypeA1t w
  | false =>
  cases eA2t : (s.toList == [65, 50, 126]) with
  | true =>
    rw [lit_of eA2t, typ_A2t.1, typ_A2t.2]
    exact implTypeA2t w
  | false =>
  cases eA3t : (s.toList == [65, 51, 126]) with
  | true =>
    rw [lit_of eA3t, typ_A3t.1, typ_A3t.2]
    exact implTypeA3t w
  | false =>
  cases eC2t : (s.toList == [67, 50, 126]) with
  | true =>
    rw [lit_of eC2t, typ_C2t.1, typ_C2t.2]
    exact implTypeC2t w
  | false =>
  cases eG2t : (s.toList == [71, 50, 126]) with
  | true =>
    rw [lit_of eG2t, typ_G2t.1, typ_G2t.2]
    exact implTypeG2t w
  | false =>
  have hF : typF s = none := by
    rw [ByteArray.toList_eq] at eA1 eA2 eA3 eA4 eB2 eB3 eB4 eC3 eC4 eD4 eF4 eG2 eA1t eA2t eA3t eC2t eG2t
    simp only [typF, typTab, List.find?_cons, List.find?_nil, eA1, eA2, eA3, eA4, eB2, eB3, eB4, eC3, eC4, eD4, eF4, eG2, eA1t, eA2t, eA3t, eC2t, eG2t]
    rfl
  have HF := Lib.hid (show typL s = [] ∧ typOk s = false by simp [typL, typOk, hF])
  clear hF
  go_enter Tryz.func64, Tryz.ntmps64
  go_wp2_with fail
  go_ret2
  have hO := (rowsV_empty w).own2 (by simp)
  exact ⟨_, by rw [HF.out.2]; rfl, by rw [HF.out.1]; exact hO, below_new w _⟩
end Go.Proofs.YtaikjkcbgniplaaGreatDoor
