/- Rows of numerals between commas: parseInts of the program, l2Num of the reference. -/
import Derived.Test.YtaikjkcbgniplaaGreatDoorCut
import Derived.Test.YtaikjkcbgniplaaGreatDoorPInt
import Derived.Test.YtaikjkcbgniplaaGreatDoorPush
namespace Go.Proofs.YtaikjkcbgniplaaGreatDoor
open Go.RowKit
set_option linter.unusedVariables false

def num (d : Int) (p : List UInt8) : Int := if piOk p then piV p else d
def numsOf (d : Int) (l : List UInt8) : List Int := (cutL 44 l).map (num d)
def allOk (l : List UInt8) : Bool := (cutL 44 l).all piOk
theorem num_t {d : Int} {p : List UInt8} (h : piOk p = true) : num d p = piV p := by simp [num, h]
theorem num_f {d : Int} {p : List UInt8} (h : piOk p = false) : num d p = d := by simp [num, h]
theorem piV_bd (l : List UInt8) : -100000000000 < piV l ∧ piV l < 100000000000 := by
  unfold piV
  split
  · exact spN_bd l
  · omega
theorem num_wf (d : Int) (p : List UInt8) (hd : -100000000000 < d ∧ d < 100000000000) : (Lit.int .i64 (num d p)).wf = true := by
  have := piV_bd p
  unfold num
  split
  · exact WalkArith.wf_i64 (by omega)
  · exact WalkArith.wf_i64 (by omega)
theorem numsOf_len (d : Int) (l : List UInt8) : (numsOf d l).length = (cutL 44 l).length := by simp [numsOf]
theorem cutGo_piece (c : UInt8) (l cur : List UInt8) : ∀ p ∈ cutGo c cur l, p.length ≤ cur.length + l.length := by
  induction l generalizing cur with
  | nil => intro p hp; simp [cutGo] at hp; subst hp; simp
  | cons b r ih =>
    intro p hp
    simp only [cutGo] at hp
    split at hp
    · rcases List.mem_cons.1 hp with rfl | hp
      · simp
      · have := ih [] p hp; simp at this ⊢; omega
    · have := ih _ p hp; simp at this ⊢; omega
theorem cutL_piece (c : UInt8) (l : List UInt8) (k : Nat) (h : k < (cutL c l).length) : (cutL c l)[k].length ≤ l.length := by
  have := cutGo_piece c l [] _ (List.getElem_mem h)
  simpa [cutL] using this
theorem cutL_len (c : UInt8) (l : List UInt8) : (cutL c l).length ≤ l.length + 1 := (cutGo_len c l []).2
theorem numsOf_at (d : Int) (l : List UInt8) (k : Nat) (h : k < (cutL 44 l).length) : ivs ((numsOf d l).take (k + 1)) = ivs ((numsOf d l).take k) ++ [.int .i64 (num d (cutL 44 l)[k])] := by
  rw [List.take_succ_eq_append_getElem (by rw [numsOf_len]; exact h)]
  simp [ivs, numsOf]
theorem allOk_at {l : List UInt8} (h : allOk l = true) (k : Nat) (hk : k < (cutL 44 l).length) : piOk (cutL 44 l)[k] = true := List.all_eq_true.1 h _ (List.getElem_mem hk)
theorem allOk_no {l : List UInt8} (k : Nat) (hk : k < (cutL 44 l).length) (h : piOk (cutL 44 l)[k] = false) : allOk l = false := by
  cases hA : allOk l with
  | false => rfl
  | true => rw [allOk_at hA k hk] at h; cases h
theorem allOk_yes {l : List UInt8} (h : ∀ k (hk : k < (cutL 44 l).length), piOk (cutL 44 l)[k] = true) : allOk l = true := by
  rw [allOk, List.all_eq_true]
  intro x hx
  obtain ⟨k, hk, rfl⟩ := List.mem_iff_getElem.1 hx
  exact h k hk
theorem numsOf_same {l : List UInt8} (h : allOk l = true) (d e : Int) : numsOf d l = numsOf e l := by
  apply List.map_congr_left
  intro p hp
  have := List.all_eq_true.1 h p hp
  rw [num_t this, num_t this]
theorem numParts (d : Int) (l : List UInt8) : ∃ (ls : List (List UInt8)) (us : List Int) (ok : Bool), cutL 44 l = ls ∧ numsOf d l = us ∧ allOk l = ok ∧ ls.length ≤ l.length + 1 ∧ Hid (∀ k (hk : k < ls.length), ls[k].length ≤ l.length) ∧
    Hid (∀ k (hk : k < ls.length), ivs (us.take (k + 1)) = ivs (us.take k) ++ [.int .i64 (num d ls[k])]) ∧ Hid (ok = true → ∀ k (hk : k < ls.length), piOk ls[k] = true) ∧ Hid (∀ k (hk : k < ls.length), piOk ls[k] = false → ok = false) ∧
    Hid ((∀ k (hk : k < ls.length), piOk ls[k] = true) → ok = true) ∧ Hid (us.take ls.length = us) ∧ Hid (us.length = ls.length) :=
  ⟨_, _, _, rfl, rfl, rfl, cutL_len 44 l, fun k hk => cutL_piece 44 l k hk, fun k hk => numsOf_at d l k hk, fun h k hk => allOk_at h k hk, fun k hk h => allOk_no k hk h, fun h => allOk_yes h, List.take_of_length_le (by rw [numsOf_len]; exact Nat.le_refl _), numsOf_len d l⟩
theorem specNum (s : ByteArray) (d : Int) (hs : s.size ≤ 1048576) (w : World) :
    Calls Tryz.prog 104 #[.string s, .int .i64 d] w fun e w' => e = .returned (.int .i64 (num d s.data.toList)) ∧ Below w.heap.size w w' := by
  have HC := Lib.hid (specParseInt s hs w)
  cases hO : piOk s.data.toList with
  | true =>
    have HN := Lib.hid (num_t (d := d) hO)
    rw [hO] at HC
    clear hO
    go_enter Tryz.func104, Tryz.ntmps104
    go_wp2_with fail
    refine HC.out.mono ?_
    rintro e w1 ⟨rfl, hb1⟩
    go_wp2_with fail
    go_ret
    exact ⟨by rw [HN.out]; rfl, hb1⟩
  | false =>
    have HN := Lib.hid (num_f (d := d) hO)
    rw [hO] at HC
    clear hO
    go_enter Tryz.func104, Tryz.ntmps104
    go_wp2_with fail
    refine HC.out.mono ?_
    rintro e w1 ⟨rfl, hb1⟩
    go_wp2_with fail
    go_ret
    exact ⟨by rw [HN.out]; rfl, hb1⟩
theorem cell_chg {S : Nat → Prop} {w w' : World} (h : Chg S w w') {g i : Nat} {v : Value} (hg : ¬ S g) (hc : w.cell? ⟨g, i, none⟩ = some v) : w'.cell? ⟨g, i, none⟩ = some v := by
  have hlt := World.block_lt_of_cell? w _ hc
  unfold World.cell? at hc ⊢
  rw [h.block g hlt hg]
  exact hc
/-- What the library's road wants of the world. -/
def LaidAll (w : World) : Prop := Lib.TabIs Tryz.prog w "internal/strconv.uint64pow10" .u64 Lib.pow10Tab ∧ (∃ tp p, w.var? Tryz.prog "strconv.ErrSyntax" = some #[.iface tp p]) ∧ MaxIs w
theorem LaidAll.keep {w w' : World} (h : LaidAll w) (hb : Below w.heap.size w w') : LaidAll w' := by
  obtain ⟨h1, ⟨tp, p, h2⟩, h3⟩ := h
  exact ⟨tab_keep h1 hb, ⟨tp, p, var_keep h2 hb⟩, h3.keep hb⟩
theorem implParseInt' (s : ByteArray) (hs : s.size ≤ 1048576) (w : World) (h : LaidAll w) :
    Calls Tryz.prog 125 #[.string s] w fun e w' => e = .returned (.tuple #[.int .i64 (piV s.data.toList), .bool (piOk s.data.toList)]) ∧ Below w.heap.size w w' := by
  obtain ⟨h1, ⟨tp, p, h2⟩, h3⟩ := h
  exact implParseInt s hs w h1 tp p h2
set_option maxHeartbeats 1000000 in
theorem implParseInts (s : ByteArray) (hs : s.size ≤ 1048576) (w : World) (h : LaidAll w) :
    Calls Tryz.prog 101 #[.string s] w fun e w' => ∃ v, e = .returned (.tuple #[v, .bool (allOk s.data.toList)]) ∧ (allOk s.data.toList = true → RowV w' w.heap.size 3 v (numsOf 0 s.data.toList).length (ivs (numsOf 0 s.data.toList))) ∧ Below w.heap.size w w' := by
  have HL := Lib.hid h
  have HS := Lib.hid (splitOn s 44 (w.alloc (.cells #[] 3)) (h.2.2.keep ((Below.refl _ _).alloc (Nat.le_refl _) _)) hs)
  obtain ⟨l, hl⟩ : ∃ l, s.data.toList = l := ⟨_, rfl⟩
  have hls : l.length = s.size := by rw [← hl]; simp
  rw [hl] at HS ⊢
  clear hl h
  obtain ⟨ls, us, ok, hc, hu, hok, hle, HP, HA, HT, HF, HY, HE, HN⟩ := numParts 0 l
  rw [hc] at HS
  rw [hu, hok]
  clear hc hu hok
  rw [hls] at hle HP
  replace hle : ls.length ≤ 1048577 := by omega
  go_enter Tryz.func101, Tryz.ntmps101
  go_wp2_with fail
  refine HS.out.mono ?_
  rintro e w1 ⟨rfl, hR, hb1⟩
  obtain ⟨g, o, cap, hv, hc1, hc2, hcc⟩ := hR
  injection hv with hv1 hv2 hv3
  injection hv1 with hv1
  injection hv1 with hg ho
  subst hg ho
  have HC := Lib.hid (show ∀ i (h : i < ls.length), w1.cell? ⟨(w.alloc (.cells #[] 3)).heap.size, i, none⟩ = some (.string ⟨ls[i].toArray⟩) from fun i h => by
    have := hcc i (str ls[i]) (by simp [strs, h])
    rwa [Nat.zero_add] at this)
  have hrow0 : Own w1 w.heap.size _ [] := (own_empty w 3).keep hb1
  have hsz1 := hb1.size
  have hb2 := ((Below.refl w.heap.size w).alloc (Nat.le_refl _) (.cells #[] 3)).trans (hb1.mono (by simp))
  clear hcc hc1 hc2 hv2 hv3 hb1
  have hgs : (w.alloc (.cells #[] 3)).heap.size = w.heap.size + 1 := by simp
  have hgt : ∀ i (h : i < ls.length), w.heap.size + 1 < w1.heap.size := fun i h => by
    have := World.block_lt_of_cell? w1 _ (HC.out i h)
    rwa [hgs] at this
  rw [hgs] at HC hsz1
  clear hgs
  go_wp2_with fail
  go_loopw [4, 13] (fun v i wr => ∃ k : Nat, k ≤ ls.length ∧ i = .int .i64 k ∧ (∃ G, Own wr G v (us.take k) ∧ w.heap.size ≤ G ∧ G ≠ w.heap.size + 1) ∧ Below w.heap.size w wr ∧ w.heap.size + 1 ≤ wr.heap.size ∧ Hid (∀ i (h : i < ls.length), wr.cell? ⟨w.heap.size + 1, i, none⟩ = some (.string ⟨ls[i].toArray⟩)) ∧ Hid (∀ j (hj : j < ls.length), j < k → piOk ls[j] = true)) (fun _ i _ => ls.length - (intOf i).toNat)
  case atStart => exact ⟨0, by omega, rfl, ⟨_, hrow0, Nat.le_refl _, by omega⟩, hb2, hsz1, HC.out, fun j _ hj => absurd hj (Nat.not_lt_zero _)⟩
  case round =>
    clear hrow0 hb2 hsz1 HC hgt
    obtain ⟨k, hk, rfl, ⟨G, hrow, hG1, hG2⟩, hbel, hsr, HC, HI⟩ := hrel
    by_cases hlt' : k < ls.length
    · have x1 := HC.out k hlt'
      have hpl := HP.out k hlt'
      have HAk := Lib.hid (HA.out k hlt')
      have HFk := Lib.hid (HF.out k hlt')
      obtain ⟨p, hp⟩ : ∃ p, ls[k] = p := ⟨_, rfl⟩
      rw [hp] at x1 hpl HAk HFk
      have HQ := Lib.hid (implParseInt' ⟨p.toArray⟩ (by show p.length ≤ 1048576; omega) wr (HL.out.keep hbel))
      have hpd : (⟨p.toArray⟩ : ByteArray).data.toList = p := rfl
      rw [hpd] at HQ
      have hk0 : (0 : Int) ≤ (k : Int) := by omega
      have hk1 : (k : Int) < (ls.length : Int) := by omega
      obtain ⟨x, hx⟩ : ∃ x : ByteArray, (⟨p.toArray⟩ : ByteArray) = x := ⟨_, rfl⟩
      rw [hx] at HQ x1
      cases hO : piOk p with
      | false =>
        have HO := Lib.hid (HFk.out hO)
        rw [hO] at HQ
        clear hO hx hpd hp
        go_wp2_with fail
        refine HQ.out.mono ?_
        rintro e w2 ⟨rfl, hb3⟩
        go_wp2_with fail
        go_ret2
        exact ⟨.slice none 0 0, by rw [HO.out]; rfl, (fun h => by rw [HO.out] at h; cases h), below_trans hbel hb3⟩
      | true =>
        have HV := Lib.hid (num_t (d := 0) hO)
        have HJ := Lib.hid (show ∀ j (hj : j < ls.length), j < k + 1 → piOk ls[j] = true from fun j hj h => by
          by_cases e : j = k
          · subst e; rw [hp]; exact hO
          · exact HI.out j hj (by omega))
        rw [HV.out] at HAk
        rw [hO] at HQ
        clear hO hx hpd hp HI HFk
        go_wp2_with fail
        refine HQ.out.mono ?_
        rintro e w2 ⟨rfl, hb3⟩
        have hbel2 := below_trans hbel hb3
        have hrow2 : OwnV (w2.alloc (.cells #[.int .i64 (piV p)] 3)) 3 G u4 (ivs (us.take k)) := OwnV.keep (OwnV.keep hrow hb3) ((Below.refl _ _).alloc (Nat.le_refl _) _)
        have hs := hbel2.size
        have hs3 := hb3.size
        have hlk : (us.take k).length ≤ k := by rw [List.length_take]; omega
        have hch0 : Chg (· = G) wr (w2.alloc (.cells #[.int .i64 (piV p)] 3)) := (Chg.of_below hb3).trans (Chg.of_below ((Below.refl _ _).alloc (Nat.le_refl _) _))
        clear hrow hb3
        go_wp2_with (at_builtin; refine wpList_pushL elemInt _ rfl _ _ rfl G u4 _ rfl hrow2 (.int .i64 (piV p)) w2.heap.size rfl (cell_new1 _ _ _) rfl (by rw [ivs_length]; omega) ?_; intro gA capA wA hownA hchA horA)
        have hchT := hch0.trans hchA
        have hszA := hchA.size
        have HF := Lib.hid (show (∃ g, Own wA g (.slice (some ⟨gA, 0, none⟩) ((ivs (us.take k)).length + 1) capA) (us.take (k + 1)) ∧ w.heap.size ≤ g ∧ g ≠ w.heap.size + 1) ∧ Below w.heap.size w wA ∧ w.heap.size + 1 ≤ wA.heap.size ∧ Hid (∀ i (h : i < ls.length), wA.cell? ⟨w.heap.size + 1, i, none⟩ = some (.string ⟨ls[i].toArray⟩)) by
          refine ⟨⟨gA, by rw [Own, HAk.out]; exact hownA, ?_, ?_⟩, below_chg hbel hchT (fun q hq => by subst hq; exact hG1), by simp at hszA; omega, fun i h => cell_chg hchT (fun e => hG2 e.symm) (HC.out i h)⟩
          · rcases horA with e | e
            · omega
            · rw [e]; simp; omega
          · rcases horA with e | e
            · omega
            · rw [e]; have := World.block_lt_of_cell? wr _ x1; simp at this ⊢; omega)
        clear hownA horA hchA hch0 hrow2 hszA
        go_roundw
        case rel =>
          obtain ⟨f1, f2, f3, f4⟩ := HF.out
          exact ⟨k + 1, by omega, by go_num, f1, f2, f3, f4, HJ⟩
        case measure => simp [intOf]; omega
    · obtain rfl : k = ls.length := by omega
      have HO := Lib.hid (HY.out (fun j hj => HI.out j hj hj))
      rw [HE.out] at hrow
      have hrow' : RowV wr w.heap.size 3 u4 us.length (ivs us) := by
        have := OwnV.rowV hrow hG1
        rwa [ivs_length] at this
      clear HI
      go_wp2_with fail
      go_ret2
      exact ⟨u4, by rw [HO.out]; rfl, fun _ => hrow', hbel⟩
end Go.Proofs.YtaikjkcbgniplaaGreatDoor
