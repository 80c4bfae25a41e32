/- ParseWord of the program and of the reference: what they answer, for texts of at most 2^20 bytes. -/
import Derived.Test.YtgappocmdbaahaaWgt
import Derived.Test.YtgappocmdbaahaaFmtWord
namespace Go.Proofs.Ytgappocmdbaahaa
open Go.RowKit
set_option linter.unusedVariables false

def digs (s : ByteArray) : List Int := s.data.toList.map (fun b : UInt8 => (b.toNat : Int) - 49)
theorem digs_length (s : ByteArray) : (digs s).length = s.size := by simp [digs]
theorem digs_snoc (s : ByteArray) (k : Nat) (h : k < s.size) : ivs ((digs s).take (k + 1)) = ivs ((digs s).take k) ++ [.int .i64 ((s[k].toNat : Int) - 49)] := by
  rw [List.take_succ_eq_append_getElem (by rw [digs_length]; exact h)]
  simp [ivs, digs, ByteArray.getElem_eq_getElem_data]
theorem digs_end (s : ByteArray) : (digs s).take s.size = digs s := List.take_of_length_le (by rw [digs_length]; exact Nat.le_refl _)
def eS : ByteArray := ⟨#[101]⟩
def wd (s : ByteArray) : List Int := if s = eS then [] else digs s
theorem wd_e {s : ByteArray} (h : s = eS) : wd s = [] := by simp [wd, h]
theorem wd_n {s : ByteArray} (h : s ≠ eS) : wd s = digs s := by simp [wd, h]
theorem wd_length (s : ByteArray) : (wd s).length ≤ s.size := by unfold wd; split <;> simp [digs_length]
def pOk (c : List (List Int)) (s : ByteArray) : Bool := !decide (s.size = 0) && isWd c (wd s)
def pL (c : List (List Int)) (s : ByteArray) : List Int := if pOk c s then wd s else []
theorem pOk_z {c : List (List Int)} {s : ByteArray} (h : s.size = 0) : pOk c s = false := by simp [pOk, h]
theorem pOk_f {c : List (List Int)} {s : ByteArray} (h : isWd c (wd s) = false) : pOk c s = false := by simp [pOk, h]
theorem pOk_t {c : List (List Int)} {s : ByteArray} (h0 : s.size ≠ 0) (h : isWd c (wd s) = true) : pOk c s = true := by simp [pOk, h, h0]
theorem pL_f {c : List (List Int)} {s : ByteArray} (h : pOk c s = false) : pL c s = [] := by simp [pL, h]
theorem pL_t {c : List (List Int)} {s : ByteArray} (h : pOk c s = true) : pL c s = wd s := by simp [pL, h]
theorem size_e : eS.size = 1 := rfl
theorem e_yes {s : ByteArray} (h : s = eS) : (s.toList == [101]) = true := by subst h; rw [ByteArray.toList_eq]; rfl
theorem e_no {s : ByteArray} (h : s ≠ eS) : (s.toList == [101]) = false := by
  rw [beq_eq_false_iff_ne, ByteArray.toList_eq]
  intro e
  apply h
  cases s with
  | mk d => congr 1; exact Array.toList_inj.1 e
theorem z_yes {s : ByteArray} (h : s.size = 0) : (s.toList == []) = true := by
  have : s = ⟨#[]⟩ := by
    cases s with
    | mk d => congr 1; exact Array.eq_empty_of_size_eq_zero h
  subst this; rw [ByteArray.toList_eq]; rfl
theorem z_no {s : ByteArray} (h : s.size ≠ 0) : (s.toList == []) = false := by
  rw [beq_eq_false_iff_ne, ByteArray.toList_eq]
  intro e
  apply h
  have : s.data.toList.length = 0 := by rw [e]; rfl
  simpa using this
theorem ltr_dig (b : UInt8) (h0 : (0 : Int) ≤ (b.toNat : Int) - 49) : ltr ((b.toNat : Int) - 49) = b := by
  unfold ltr
  rw [show 49 + ((b.toNat : Int) - 49).toNat = b.toNat by omega]
  simp
theorem fmt_back {c : List (List Int)} {s : ByteArray} (h0 : s.size ≠ 0) (h : isWd c (wd s) = true) : (⟨(fmtW (wd s)).toArray⟩ : ByteArray) = s := by
  by_cases he : s = eS
  · subst he; rfl
  · have hw := (isWd_iff c (wd s)).1 h
    have h4 := ((isC_iff c).1 hw.1).2.1
    rw [wd_n he] at hw ⊢
    have hok : okW (digs s) = true := okW_good _ (fun j hj => by have := hw.2.2 _ (List.getElem_mem hj); omega)
    have hne : digs s ≠ [] := by intro e; have := digs_length s; rw [e] at this; simp at this; omega
    rw [fmtW, if_pos hok, if_neg hne]
    have hb : wordS (digs s) = s.data.toList := by
      apply List.ext_getElem (by simp [wordS, digs])
      intro i h1 h2
      have hi : i < (digs s).length := by simpa [wordS] using h1
      have h3 := hw.2.2 _ (List.getElem_mem hi)
      simp only [wordS, digs, List.getElem_map] at h3 ⊢
      exact ltr_dig _ h3.1
    rw [hb]
theorem fmt_zero {s : ByteArray} (h0 : s.size = 0) : (⟨(fmtW (wd s)).toArray⟩ : ByteArray) = eS := by
  have : s = ⟨#[]⟩ := by
    cases s with
    | mk d => congr 1; exact Array.eq_empty_of_size_eq_zero h0
  subst this; rfl
set_option maxHeartbeats 2000000 in
theorem specParseWord (v1 : Value) (c : List (List Int)) (s : ByteArray) (hc : c.length ≤ 1099511627776) (hs : s.size ≤ 1048576) (w : World) (h1 : II w v1 c) :
    Calls Try.prog 42 #[v1, .string s] w (RetIntsB w (pL c s) (pOk c s)) := by
  obtain ⟨g1, o1, c1, hv1, _, _, _⟩ := h1.form
  subst hv1
  by_cases he : s = eS
  · have HE := Lib.hid he
    have de := e_yes he
    have hsz1 : s.size = 1 := by rw [he]; rfl
    have dl : decide ((0 : Int) < (s.size : Int)) = true := by rw [decide_eq_true_iff]; omega
    clear he
    go_enter Try.func42, Try.ntmps42
    go_wp2_with fail
    go_loopw [6, 7] (fun v i wr => i = .int .i64 0 ∧ RowV wr w.heap.size 3 v 0 [] ∧ Below w.heap.size w wr) (fun _ i _ => 0)
    case atStart => exact ⟨rfl, rowV_empty w _, below_new w _⟩
    case round =>
      obtain ⟨rfl, hrow, hbel⟩ := hrel
      have hrow : RowV wr w.heap.size 3 u6 0 (ivs (wd s)) := by rw [wd_e HE.out]; exact hrow
      obtain ⟨g, hg, hown⟩ := hrow.own
      have hown : Own wr g _ (wd s) := hown
      have k1 := h1.keep hbel
      have hsz := hbel.size
      by_cases hz : s.size = 0
      · have HO := Lib.hid (pOk_z (c := c) hz)
        have dz := z_yes hz
        have dz2 : s.toList.isEmpty = true := by simpa using dz
        clear hz
        go_wp2_with fail
        go_ret2
        exact ⟨_, _, by rw [HO.out]; rfl, hsz, by rw [pL_f HO.out]; exact own_empty wr _, hbel.alloc hsz _⟩
      have dz := z_no hz
      have dz2 : s.toList.isEmpty = false := by simpa using dz
      cases hW : isWd c (wd s) with
      | false =>
        have HO := Lib.hid (pOk_f hW)
        have HW := Lib.hid hW
        clear hW
        go_wp2_with fail
        refine (specIsWord _ _ c (wd s) hc (by have := wd_length s; omega) _ k1 hown.read).mono ?_
        rw [HW.out]
        rintro e w2 ⟨rfl, hb2⟩
        have hsz2 := hb2.size
        go_wp2_with fail
        go_ret2
        exact ⟨_, w2.heap.size, by rw [HO.out]; rfl, by omega, by rw [pL_f HO.out]; exact own_empty w2 _, (below_trans hbel hb2).alloc (by omega) _⟩
      | true =>
        have HO := Lib.hid (pOk_t hz hW)
        have HW := Lib.hid hW
        clear hW
        go_wp2_with fail
        refine (specIsWord _ _ c (wd s) hc (by have := wd_length s; omega) _ k1 hown.read).mono ?_
        rw [HW.out]
        rintro e w2 ⟨rfl, hb2⟩
        replace hown := hown.keep hb2
        go_wp2_with fail
        go_ret2
        exact ⟨_, g, by rw [HO.out]; rfl, hg, by rw [pL_t HO.out]; exact hown, below_trans hbel hb2⟩
  · have HE := Lib.hid he
    have de := e_no he
    clear he
    go_enter Try.func42, Try.ntmps42
    go_wp2_with fail
    go_loopw [6, 7] (fun v i wr => ∃ k : Nat, k ≤ s.size ∧ i = .int .i64 k ∧ RowV wr w.heap.size 3 v k (ivs ((digs s).take k)) ∧ Below w.heap.size w wr) (fun _ i _ => s.size - (intOf i).toNat)
    case atStart => exact ⟨0, by omega, rfl, rowV_empty w _, below_new w _⟩
    case round =>
      obtain ⟨k, hk, rfl, hrow, hbel⟩ := hrel
      by_cases hlt' : k < s.size
      · have HS := Lib.hid (digs_snoc s k hlt')
        have hb6 : s[k].toNat < 256 := s[k].toNat_lt
        go_wp2_with (at_builtin; refine wpList_pushV elemInt _ rfl _ _ rfl w.heap.size u6 k _ rfl (hrow.alloc _) (.int .i64 ((s[k].toNat : Int) - 49)) wr.heap.size rfl (cell_new1 _ _ _) rfl (by omega) (by have := hbel.size; simp; omega) ?_; intro gg cap w1 hrow1 hgrow hb1)
        go_roundw
        case rel => exact ⟨k + 1, by omega, by go_num, hrow1.cast rfl rfl HS.out.symm, (hbel.alloc hbel.size _).trans hb1⟩
        case measure => simp [intOf]; omega
      · obtain rfl : k = s.size := by omega
        rw [digs_end, ← wd_n HE.out] at hrow
        obtain ⟨g, hg, hown⟩ := hrow.own
        have hown : Own wr g _ (wd s) := hown
        have k1 := h1.keep hbel
        have hsz := hbel.size
        by_cases hz : s.size = 0
        · have HO := Lib.hid (pOk_z (c := c) hz)
          have dz := z_yes hz
          have dz2 : s.toList.isEmpty = true := by simpa using dz
          clear hz
          go_wp2_with fail
          go_ret2
          exact ⟨_, _, by rw [HO.out]; rfl, hsz, by rw [pL_f HO.out]; exact own_empty wr _, hbel.alloc hsz _⟩
        have dz := z_no hz
        have dz2 : s.toList.isEmpty = false := by simpa using dz
        cases hW : isWd c (wd s) with
        | false =>
          have HO := Lib.hid (pOk_f hW)
          have HW := Lib.hid hW
          clear hW
          go_wp2_with fail
          refine (specIsWord _ _ c (wd s) hc (by have := wd_length s; omega) _ k1 hown.read).mono ?_
          rw [HW.out]
          rintro e w2 ⟨rfl, hb2⟩
          have hsz2 := hb2.size
          go_wp2_with fail
          go_ret2
          exact ⟨_, w2.heap.size, by rw [HO.out]; rfl, by omega, by rw [pL_f HO.out]; exact own_empty w2 _, (below_trans hbel hb2).alloc (by omega) _⟩
        | true =>
          have HO := Lib.hid (pOk_t hz hW)
          have HW := Lib.hid hW
          clear hW
          go_wp2_with fail
          refine (specIsWord _ _ c (wd s) hc (by have := wd_length s; omega) _ k1 hown.read).mono ?_
          rw [HW.out]
          rintro e w2 ⟨rfl, hb2⟩
          replace hown := hown.keep hb2
          go_wp2_with fail
          go_ret2
          exact ⟨_, g, by rw [HO.out]; rfl, hg, by rw [pL_t HO.out]; exact hown, below_trans hbel hb2⟩
theorem ez_no {s : ByteArray} (h : s.size = 0) : (eS.toList == s.toList) = false := by
  have : s = ⟨#[]⟩ := by
    cases s with
    | mk d => congr 1; exact Array.eq_empty_of_size_eq_zero h
  subst this; rw [ByteArray.toList_eq, ByteArray.toList_eq]; rfl
set_option maxHeartbeats 2000000 in
theorem implParseWord (v1 : Value) (c : List (List Int)) (s : ByteArray) (hc : c.length ≤ 1099511627776) (hs : s.size ≤ 1048576) (w : World) (h1 : II w v1 c) :
    Calls Try.prog 34 #[v1, .string s] w (RetIntsB w (pL c s) (pOk c s)) := by
  obtain ⟨g1, o1, c1, hv1, _, _, _⟩ := h1.form
  subst hv1
  by_cases he : s = eS
  · have HE := Lib.hid he
    have de := e_yes he
    have k1 := h1.keep (below_new w (.cells #[] 3))
    have hbel := below_new w (.cells #[] 3)
    have hsz := hbel.size
    obtain ⟨g, hg, hown⟩ := (rowV_empty w 3).own
    have hown : Own (w.alloc (.cells #[] 3)) g (.slice (some ⟨w.heap.size, 0, none⟩) 0 0) (wd s) := by rw [wd_e HE.out]; exact hown
    clear he
    go_enter Try.func34, Try.ntmps34
    cases hW : isWd c (wd s) with
    | false =>
      have HO := Lib.hid (pOk_f hW)
      have HW := Lib.hid hW
      clear hW
      go_wp2_with fail
      refine (implIsWord _ _ c (wd s) hc (by have := wd_length s; omega) _ k1 hown.read).mono ?_
      rw [HW.out]
      rintro e w2 ⟨rfl, hb2⟩
      have hsz2 := hb2.size
      go_wp2_with fail
      go_ret2
      exact ⟨_, w2.heap.size, by rw [HO.out]; rfl, by omega, by rw [pL_f HO.out]; exact own_empty w2 _, (below_trans hbel hb2).alloc (by omega) _⟩
    | true =>
      have HW := Lib.hid hW
      by_cases hz : s.size = 0
      · have HO := Lib.hid (pOk_z (c := c) hz)
        have HB := Lib.hid (fmt_zero hz)
        have dz := ez_no hz
        clear hW hz
        go_wp2_with fail
        refine (implIsWord _ _ c (wd s) hc (by have := wd_length s; omega) _ k1 hown.read).mono ?_
        rw [HW.out]
        rintro e w2 ⟨rfl, hb2⟩
        replace hown := hown.keep hb2
        have hsz2 := hb2.size
        go_wp2_with fail
        refine (implFormatWord _ (wd s) (by have := wd_length s; omega) _ hown.read).mono ?_
        rw [HB.out]
        rintro e w3 ⟨rfl, hb3⟩
        have hsz3 := hb3.size
        go_wp2_with fail
        go_ret2
        exact ⟨_, w3.heap.size, by rw [HO.out]; rfl, by omega, by rw [pL_f HO.out]; exact own_empty w3 _, (below_trans (below_trans hbel hb2) hb3).alloc (by omega) _⟩
      have HO := Lib.hid (pOk_t hz hW)
      have HB := Lib.hid (fmt_back hz hW)
      clear hW
      go_wp2_with fail
      refine (implIsWord _ _ c (wd s) hc (by have := wd_length s; omega) _ k1 hown.read).mono ?_
      rw [HW.out]
      rintro e w2 ⟨rfl, hb2⟩
      replace hown := hown.keep hb2
      go_wp2_with fail
      refine (implFormatWord _ (wd s) (by have := wd_length s; omega) _ hown.read).mono ?_
      rw [HB.out]
      rintro e w3 ⟨rfl, hb3⟩
      replace hown := hown.keep hb3
      go_wp2_with fail
      go_ret2
      exact ⟨_, g, by rw [HO.out]; rfl, hg, by rw [pL_t HO.out]; exact hown, below_trans (below_trans hbel hb2) hb3⟩
  · have HE := Lib.hid he
    have de := e_no he
    clear he
    go_enter Try.func34, Try.ntmps34
    go_wp2_with fail
    go_loopw [6, 13] (fun v i wr => ∃ k : Nat, k ≤ s.size ∧ i = .int .i64 k ∧ RowV wr w.heap.size 3 v k (ivs ((digs s).take k)) ∧ Below w.heap.size w wr) (fun _ i _ => s.size - (intOf i).toNat)
    case atStart => exact ⟨0, by omega, rfl, rowV_empty w _, below_new w _⟩
    case round =>
      obtain ⟨k, hk, rfl, hrow, hbel⟩ := hrel
      by_cases hlt' : k < s.size
      · have HS := Lib.hid (digs_snoc s k hlt')
        have hb6 : s[k].toNat < 256 := s[k].toNat_lt
        go_wp2_with (at_builtin; refine wpList_pushV elemInt _ rfl _ _ rfl w.heap.size u6 k _ rfl (hrow.alloc _) (.int .i64 ((s[k].toNat : Int) - 49)) wr.heap.size rfl (cell_new1 _ _ _) rfl (by omega) (by have := hbel.size; simp; omega) ?_; intro gg cap w1 hrow1 hgrow hb1)
        go_roundw
        case rel => exact ⟨k + 1, by omega, by go_num, hrow1.cast rfl rfl HS.out.symm, (hbel.alloc hbel.size _).trans hb1⟩
        case measure => simp [intOf]; omega
      · obtain rfl : k = s.size := by omega
        rw [digs_end, ← wd_n HE.out] at hrow
        obtain ⟨g, hg, hown⟩ := hrow.own
        have hown : Own wr g _ (wd s) := hown
        have k1 := h1.keep hbel
        have hsz := hbel.size
        cases hW : isWd c (wd s) with
        | false =>
          have HO := Lib.hid (pOk_f hW)
          have HW := Lib.hid hW
          clear hW
          go_wp2_with fail
          refine (implIsWord _ _ c (wd s) hc (by have := wd_length s; omega) _ k1 hown.read).mono ?_
          rw [HW.out]
          rintro e w2 ⟨rfl, hb2⟩
          have hsz2 := hb2.size
          go_wp2_with fail
          go_ret2
          exact ⟨_, w2.heap.size, by rw [HO.out]; rfl, by omega, by rw [pL_f HO.out]; exact own_empty w2 _, (below_trans hbel hb2).alloc (by omega) _⟩
        | true =>
          have HW := Lib.hid hW
          by_cases hz : s.size = 0
          · have HO := Lib.hid (pOk_z (c := c) hz)
            have HB := Lib.hid (fmt_zero hz)
            have dz := ez_no hz
            clear hW hz
            go_wp2_with fail
            refine (implIsWord _ _ c (wd s) hc (by have := wd_length s; omega) _ k1 hown.read).mono ?_
            rw [HW.out]
            rintro e w2 ⟨rfl, hb2⟩
            replace hown := hown.keep hb2
            have hsz2 := hb2.size
            go_wp2_with fail
            refine (implFormatWord _ (wd s) (by have := wd_length s; omega) _ hown.read).mono ?_
            rw [HB.out]
            rintro e w3 ⟨rfl, hb3⟩
            have hsz3 := hb3.size
            go_wp2_with fail
            go_ret2
            exact ⟨_, w3.heap.size, by rw [HO.out]; rfl, by omega, by rw [pL_f HO.out]; exact own_empty w3 _, (below_trans (below_trans hbel hb2) hb3).alloc (by omega) _⟩
          have HO := Lib.hid (pOk_t hz hW)
          have HB := Lib.hid (fmt_back hz hW)
          clear hW
          go_wp2_with fail
          refine (implIsWord _ _ c (wd s) hc (by have := wd_length s; omega) _ k1 hown.read).mono ?_
          rw [HW.out]
          rintro e w2 ⟨rfl, hb2⟩
          replace hown := hown.keep hb2
          go_wp2_with fail
          refine (implFormatWord _ (wd s) (by have := wd_length s; omega) _ hown.read).mono ?_
          rw [HB.out]
          rintro e w3 ⟨rfl, hb3⟩
          replace hown := hown.keep hb3
          go_wp2_with fail
          go_ret2
          exact ⟨_, g, by rw [HO.out]; rfl, hg, by rw [pL_t HO.out]; exact hown, below_trans (below_trans hbel hb2) hb3⟩
end Go.Proofs.Ytgappocmdbaahaa
