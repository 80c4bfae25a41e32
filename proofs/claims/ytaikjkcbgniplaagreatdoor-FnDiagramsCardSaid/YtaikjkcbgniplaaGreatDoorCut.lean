/- Pieces of a text between separators of one byte: strings.Split of the program and l2Cut of the reference. -/
import Derived.Test.YtaikjkcbgniplaaGreatDoorFmtWt
import Derived.Test.YtaikjkcbgniplaaGreatDoorShelf
import Derived.Lib.SplitLaws
namespace Go.Proofs.YtaikjkcbgniplaaGreatDoor
open Go.RowKit
set_option linter.unusedVariables false

def cutGo (c : UInt8) : List UInt8 → List UInt8 → List (List UInt8)
  | cur, [] => [cur]
  | cur, b :: r => if b = c then cur :: cutGo c [] r else cutGo c (cur ++ [b]) r
def cutL (c : UInt8) (l : List UInt8) : List (List UInt8) := cutGo c [] l
theorem cutGo_head (c : UInt8) (l cur : List UInt8) : cutGo c cur l = (cutGo c [] l).modifyHead (cur ++ ·) := by
  induction l generalizing cur with
  | nil => simp [cutGo]
  | cons b r ih =>
    simp only [cutGo]
    split
    · simp
    · rw [ih (cur ++ [b]), ih ([] ++ [b]), List.modifyHead_modifyHead]
      congr 1
      funext x; simp
theorem cutGo_len (c : UInt8) (l cur : List UInt8) : 1 ≤ (cutGo c cur l).length ∧ (cutGo c cur l).length ≤ l.length + 1 := by
  induction l generalizing cur with
  | nil => simp [cutGo]
  | cons b r ih =>
    simp only [cutGo]
    split
    · have := ih []; simp; omega
    · have := ih (cur ++ [b]); simp; omega
theorem splitK_ne (c b : UInt8) (k : Nat) (l : List UInt8) (h : b ≠ c) : Lib.splitK [c] 0 k (b :: l) = (Lib.splitK [c] 0 k l).modifyHead (b :: ·) := by
  cases k with
  | zero => rfl
  | succ k =>
    have hp : ([c] : List UInt8).isPrefixOf (b :: l) = false := by simp [List.isPrefixOf, Ne.symm h]
    have hix : Lib.index (b :: l) [c] = if Lib.index l [c] == -1 then -1 else Lib.index l [c] + 1 := by rw [Lib.index, hp]; simp
    by_cases hm : Lib.index l [c] = -1
    · have e1 : Lib.index (b :: l) [c] = -1 := by rw [hix, if_pos (beq_iff_eq.2 hm)]
      simp only [Lib.splitK, hm, e1, beq_self_eq_true, if_true]; rfl
    · have hge := Lib.index_ge l [c]
      obtain ⟨j, hj⟩ : ∃ j : Nat, Lib.index l [c] = j := ⟨(Lib.index l [c]).toNat, by omega⟩
      have hix' : Lib.index (b :: l) [c] = ((j + 1 : Nat) : Int) := by rw [hix, if_neg (fun e => hm (beq_iff_eq.1 e)), hj]; omega
      have n1 : (((j : Nat) : Int) == -1) = false := by rw [beq_eq_false_iff_ne]; omega
      have n2 : (((j + 1 : Nat) : Int) == -1) = false := by rw [beq_eq_false_iff_ne]; omega
      simp only [Lib.splitK, hj, hix', n1, n2, Bool.false_eq_true, if_false, List.modifyHead_cons, Int.toNat_natCast, List.length_cons, List.length_nil, Nat.add_zero, Nat.zero_add, List.take_succ_cons, List.drop_succ_cons]
theorem splitK_cut (c : UInt8) (l : List UInt8) : Lib.splitK [c] 0 (Lib.count l [c]) l = cutL c l := by
  induction l with
  | nil => rw [Lib.count_miss (by simp [Lib.index])]; rfl
  | cons b r ih =>
    by_cases h : b = c
    · subst h
      have hix : Lib.index (b :: r) [b] = ((0 : Nat) : Int) := by rw [Lib.index]; simp [List.isPrefixOf]
      rw [Lib.count_cons_eq, Nat.add_comm]
      have n1 : (((0 : Nat) : Int) == -1) = false := by decide
      simp only [Lib.splitK, hix, n1, Bool.false_eq_true, if_false, Int.toNat_natCast, List.length_cons, List.length_nil, Nat.add_zero, Nat.zero_add, List.take_zero, List.drop_succ_cons, List.drop_zero, cutL, cutGo, if_true]
      rw [ih]; rfl
    · rw [Lib.count_cons_ne b c r h, splitK_ne c b _ r h, ih, cutL, cutL, cutGo, if_neg h, cutGo_head c r ([] ++ [b])]
      congr 1
theorem cut_split (c : UInt8) (s : ByteArray) : (Lib.splitB ⟨#[c]⟩ 0 (Lib.countB s ⟨#[c]⟩) s).map Value.string = strs (cutL c s.data.toList) := by
  have h := Lib.splitB_data ⟨#[c]⟩ 0 (Lib.countB s ⟨#[c]⟩) s
  have h2 : Lib.splitK [c] 0 (Lib.countB s ⟨#[c]⟩) s.data.toList = cutL c s.data.toList := splitK_cut c s.data.toList
  have h3 : (Lib.splitB ⟨#[c]⟩ 0 (Lib.countB s ⟨#[c]⟩) s).map (·.data.toList) = cutL c s.data.toList := h.trans h2
  rw [← h3, strs, List.map_map]
  congr 1
theorem cut_count (c : UInt8) (s : ByteArray) : Lib.countB s ⟨#[c]⟩ + 1 = (cutL c s.data.toList).length := by
  rw [← Lib.splitB_all ⟨#[c]⟩ (Nat.le_refl _) 0 _ s rfl]
  have := congrArg List.length (cut_split c s)
  simpa [strs] using this
/-- The library's limit holds some integer. -/
def MaxIs (w : World) : Prop := ∃ m, w.cell? ⟨0, 0, none⟩ = some (.int .i64 m)
theorem maxIs {w : World} (h : w.ShapedOpen Tryz.prog) : MaxIs w := Tryz.laysM146.s1_3 w h
theorem MaxIs.keep {w w' : World} (h : MaxIs w) (hb : Below w.heap.size w w') : MaxIs w' := by
  obtain ⟨m, hm⟩ := h
  exact ⟨m, cells_keep hb hm⟩
theorem splitOn (s : ByteArray) (c : UInt8) (w : World) (h : MaxIs w) (hs : s.size ≤ 1048576) :
    Calls Tryz.prog 94 #[.string s, .string ⟨#[c]⟩] w fun e w' => e = .returned (.slice (some ⟨w.heap.size, 0, none⟩) (cutL c s.data.toList).length (cutL c s.data.toList).length) ∧
      ReadV w' (.slice (some ⟨w.heap.size, 0, none⟩) (cutL c s.data.toList).length (cutL c s.data.toList).length) (strs (cutL c s.data.toList)) ∧ Below w.heap.size w w' := by
  obtain ⟨m, hm⟩ := h
  refine (Any.strings_Split { Tryz.laysM146 with } Tryz.laysM146.i9 s ⟨#[c]⟩ m w (by omega) hm (Nat.le_refl _)).mono ?_
  rintro e w' ⟨rfl, rfl⟩
  rw [cut_count, cut_split]
  have hl : (cutL c s.data.toList).length ≤ maxLen := by
    have := (cutGo_len c s.data.toList []).2
    unfold maxLen cutL
    have e : s.data.toList.length = s.size := by simp
    omega
  refine ⟨rfl, ⟨w.heap.size, 0, (cutL c s.data.toList).length, by simp [strs], by simp [strs], hl, fun i u hu => ?_⟩, (Below.refl _ _).alloc (Nat.le_refl _) _⟩
  rw [Nat.zero_add, World.cell?_alloc_new]
  simpa using hu
theorem elemStr' : Elem Tryz.prog 61 9 16 := elem_of (.string ByteArray.empty) Tryz.underlying61 (by kernel_rfl) rfl (by omega)
theorem cut_end (c : UInt8) (xs : List (List UInt8)) (cur l : List UInt8) (h : xs ++ cutGo c cur [] = cutL c l) : xs ++ [cur] = cutL c l := h
theorem cur_next (s : ByteArray) (k : Nat) (cur : List UInt8) (h : k < s.size) : Value.string (⟨cur.toArray⟩ ++ s.extract k (k + 1)) = Value.string ⟨(cur ++ [s[k]]).toArray⟩ := by
  have e : s.extract k (k + 1) = ⟨[s[k]].toArray⟩ := by
    apply ByteArray.ext
    rw [ByteArray.data_extract]
    apply Array.ext
    · simp; omega
    · intro i h1 h2
      have : i = 0 := by simp at h2; omega
      subst this
      simp [ByteArray.getElem_eq_getElem_data]
  rw [e, ← bytes_append]
set_option maxHeartbeats 1000000 in
theorem specCut (s : ByteArray) (c : UInt8) (hs : s.size ≤ 1048576) (w : World) :
    Calls Tryz.prog 99 #[.string s, .int .u8 c.toNat] w fun e w' => ∃ v, e = .returned v ∧ RowV w' w.heap.size 9 v (cutL c s.data.toList).length (strs (cutL c s.data.toList)) ∧ Below w.heap.size w w' := by
  go_enter Tryz.func99, Tryz.ntmps99
  go_wp2_with fail
  go_loopw [5, 6, 7] (fun v cu i wr => ∃ (k : Nat) (xs : List (List UInt8)) (cur : List UInt8), k ≤ s.size ∧ i = .int .i64 k ∧ cu = .string ⟨cur.toArray⟩ ∧ cur.length ≤ k ∧ xs.length ≤ k ∧ RowV wr w.heap.size 9 v xs.length (strs xs) ∧ Below w.heap.size w wr ∧ Hid (xs ++ cutGo c cur (s.data.toList.drop k) = cutL c s.data.toList)) (fun _ _ i _ => s.size - (intOf i).toNat)
  case atStart => exact ⟨0, [], [], by omega, rfl, rfl, by simp, by simp, rowV_empty w _, (Below.refl _ _).alloc (Nat.le_refl _) _, rfl⟩
  case round =>
    obtain ⟨k, xs, cur, hk, rfl, rfl, hcl, hxl, hrow, hbel, HI⟩ := hrel
    by_cases hlt' : k < s.size
    · have hk0 : (0 : Int) ≤ (k : Int) := by omega
      have hk1 : (k : Int) < (s.size : Int) := by omega
      have hb1 : s[k].toNat < 256 := s[k].toNat_lt
      have hd : s.data.toList.drop k = s[k] :: s.data.toList.drop (k + 1) := by rw [List.drop_eq_getElem_cons (by simpa using hlt')]; rfl
      have hs1 := hbel.size
      by_cases he : s[k] = c
      · have db : ((s[k].toNat : Int) == (c.toNat : Int)) = true := by rw [he]; simp
        have HN := Lib.hid (show (xs ++ [cur]) ++ cutGo c [] (s.data.toList.drop (k + 1)) = cutL c s.data.toList by
          have h := HI.out
          rw [hd, cutGo, if_pos he] at h
          rw [← h]; simp)
        have HS := Lib.hid (show strs (xs ++ [cur]) = strs xs ++ [.string ⟨cur.toArray⟩] by simp [strs, str])
        clear hd HI he
        go_wp2_with (at_builtin; refine wpList_pushV elemStr' _ rfl _ _ rfl w.heap.size u5 xs.length _ rfl (hrow.alloc _) (.string ⟨cur.toArray⟩) wr.heap.size rfl (cell_new1 _ _ _) rfl (by omega) (by simp; omega) ?_; intro gA capA wA hrowA hgrowA hbA)
        go_roundw
        case rel => exact ⟨k + 1, xs ++ [cur], [], by omega, by go_num, rfl, by simp, by simp; omega, by rw [HS.out, List.length_append]; exact hrowA, (hbel.alloc hs1 _).trans hbA, HN⟩
        case measure => simp [intOf]; omega
      · have db : ((s[k].toNat : Int) == (c.toNat : Int)) = false := by
          rw [beq_eq_false_iff_ne]; intro e; exact he (UInt8.toNat.inj (by omega))
        have HN := Lib.hid (show xs ++ cutGo c (cur ++ [s[k]]) (s.data.toList.drop (k + 1)) = cutL c s.data.toList by
          have h := HI.out
          rw [hd, cutGo, if_neg he] at h
          exact h)
        clear hd HI he
        go_wp2_with fail
        go_roundw
        case rel => exact ⟨k + 1, xs, cur ++ [s[k]], by omega, by go_num, cur_next s k cur hlt', by simp; omega, by omega, hrow, hbel, HN⟩
        case measure => simp [intOf]; omega
    · obtain rfl : k = s.size := by omega
      have he : xs ++ [cur] = cutL c s.data.toList := by
        have h := HI.out
        rw [List.drop_of_length_le (by simp)] at h
        exact h
      have HS := Lib.hid (show strs (cutL c s.data.toList) = strs xs ++ [.string ⟨cur.toArray⟩] by rw [← he]; simp [strs, str])
      have HL := Lib.hid (show (cutL c s.data.toList).length = xs.length + 1 by rw [← he]; simp)
      have hs1 := hbel.size
      clear he HI
      go_wp2_with (at_builtin; refine wpList_pushV elemStr' _ rfl _ _ rfl w.heap.size u5 xs.length _ rfl (hrow.alloc _) (.string ⟨cur.toArray⟩) wr.heap.size rfl (cell_new1 _ _ _) rfl (by omega) (by simp; omega) ?_; intro gA capA wA hrowA hgrowA hbA)
      go_ret
      exact ⟨_, rfl, by rw [HS.out, HL.out]; exact hrowA, (hbel.alloc hs1 _).trans hbA⟩
end Go.Proofs.YtaikjkcbgniplaaGreatDoor
