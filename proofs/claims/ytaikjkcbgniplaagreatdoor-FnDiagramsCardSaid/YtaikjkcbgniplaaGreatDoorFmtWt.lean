/- FormatWeight and FormatCartan of the program (strings.Join) and of the reference: decimal numerals with signs between them, for at most 2^20 numbers. -/
import Derived.Test.YtaikjkcbgniplaaGreatDoorItoa
import Derived.Test.YtaikjkcbgniplaaGreatDoorCartan
import Derived.Lib.Join
namespace Go.Proofs.YtaikjkcbgniplaaGreatDoor
open Go.RowKit
set_option linter.unusedVariables false

def Wf (zs : List Int) : Prop := ∀ n ∈ zs, (Lit.int .i64 n).wf = true
def nums (zs : List Int) : List (List UInt8) := zs.map Lib.itoa
def joinN (sep : UInt8) (zs : List Int) : List UInt8 := Lib.join (nums zs) [sep]
theorem join_snoc (xs : List (List UInt8)) (y sep : List UInt8) (h : xs ≠ []) : Lib.join (xs ++ [y]) sep = Lib.join xs sep ++ (sep ++ y) := by
  cases xs with
  | nil => exact absurd rfl h
  | cons x r => rw [List.cons_append, Lib.join_cons, Lib.join_cons]; simp [Lib.joinTail]
theorem join_len (xs : List (List UInt8)) (sep : UInt8) (b : Nat) (h : ∀ x ∈ xs, x.length ≤ b) : (Lib.join xs [sep]).length ≤ (b + 1) * xs.length := by
  cases xs with
  | nil => simp [Lib.join_nil]
  | cons x r =>
    rw [Lib.join_cons, List.length_append]
    have hx := h x (by simp)
    have ht : ∀ r : List (List UInt8), (∀ x ∈ r, x.length ≤ b) → (Lib.joinTail [sep] r).length ≤ (b + 1) * r.length := by
      intro r
      induction r with
      | nil => intro _; simp [Lib.joinTail]
      | cons y r ih =>
        intro h
        have h1 := ih (fun x hx => h x (List.mem_cons_of_mem _ hx))
        have h2 := h y (by simp)
        have e : Lib.joinTail [sep] (y :: r) = [sep] ++ y ++ Lib.joinTail [sep] r := by simp [Lib.joinTail]
        rw [e, List.length_append, List.length_append]
        show _ ≤ (b + 1) * (r.length + 1)
        rw [Nat.mul_succ]
        simp only [List.length_cons, List.length_nil]; omega
    have := ht r (fun x hx => h x (List.mem_cons_of_mem _ hx))
    show _ ≤ (b + 1) * (r.length + 1)
    rw [Nat.mul_succ]; omega
theorem nums_short {zs : List Int} (h : Wf zs) : ∀ x ∈ nums zs, x.length ≤ 21 := by
  intro x hx
  rw [nums, List.mem_map] at hx
  obtain ⟨n, hn, rfl⟩ := hx
  have := bounds_i64 (h n hn)
  exact Lib.itoa_length_le n this.1 this.2
theorem joinN_len (sep : UInt8) {zs : List Int} (h : Wf zs) : (joinN sep zs).length ≤ 22 * zs.length := by
  have := join_len (nums zs) sep 21 (nums_short h)
  simpa [joinN, nums] using this
theorem Wf.take {zs : List Int} (h : Wf zs) (k : Nat) : Wf (zs.take k) := fun n hn => h n (List.mem_of_mem_take hn)
theorem joinN_snoc (sep : UInt8) (zs : List Int) (k : Nat) (x : Int) (h : k < zs.length) (hx : zs[k] = x) (h0 : 0 < k) : joinN sep (zs.take (k + 1)) = joinN sep (zs.take k) ++ ([sep] ++ Lib.itoa x) := by
  subst hx
  rw [joinN, nums, List.take_succ_eq_append_getElem h, List.map_append, List.map_singleton, join_snoc _ _ _ (by intro e; have h2 : ((zs.take k).map Lib.itoa).length = k := by { rw [List.length_map, List.length_take]; omega }; rw [e] at h2; simp at h2; omega)]
  rfl
theorem joinN_first (sep : UInt8) (zs : List Int) (x : Int) (h : 0 < zs.length) (hx : zs[0] = x) : joinN sep (zs.take 1) = Lib.itoa x := by
  subst hx
  cases zs with
  | nil => simp at h
  | cons a l => simp [joinN, nums, Lib.join_one]
def str (l : List UInt8) : Value := .string ⟨l.toArray⟩
def strs (xs : List (List UInt8)) : List Value := xs.map str
theorem elemStr : Elem Tryz.prog 61 9 16 := elem_of (.string ByteArray.empty) Tryz.underlying61 (by kernel_rfl) rfl (by omega)
/-- strings.Join at a row of strings of the call's own. -/
theorem joinOwn {w : World} {g : Nat} {v : Value} (xs : List (List UInt8)) (sep : ByteArray) (h : OwnV w 9 g v (strs xs)) (hn : xs.length ≤ 1099511627776) (hl : (Lib.join xs sep.data.toList).length ≤ 140737488355328) :
    Calls Tryz.prog 80 #[v, .string sep] w fun e w' => e = .returned (str (Lib.join xs sep.data.toList)) ∧ Below w.heap.size w w' := by
  obtain ⟨cap, hv, hc, _, hcell, _⟩ := h.form
  have hsl : (strs xs).length = xs.length := by simp [strs]
  rw [hsl] at hv hc
  subst hv
  obtain ⟨ys, hys⟩ : ∃ ys : List ByteArray, xs.map (fun l => (⟨l.toArray⟩ : ByteArray)) = ys := ⟨_, rfl⟩
  have hyl : ys.length = xs.length := by rw [← hys]; simp
  have hym : ys.map (·.data.toList) = xs := by rw [← hys, List.map_map]; simp [Function.comp_def]
  have hJ := Tryz.strings_Join g 0 cap ys sep w (fun j x hx => by
    rw [Nat.zero_add]
    refine hcell j _ ?_
    rw [← hys] at hx
    simp only [List.getElem?_map, Option.map_eq_some_iff] at hx
    obtain ⟨l, hl, rfl⟩ := hx
    simp [strs, str, hl]) h.lt (by omega) (by omega) (by rw [hym]; exact hl)
  rw [hyl, hym] at hJ
  exact hJ
set_option maxHeartbeats 1000000 in
theorem implJoinInts (v : Value) (zs : List Int) (sep : UInt8) (hz : zs.length ≤ 2097152) (hw : Wf zs) (w : World) (h : I w v zs) (ht : Lib.TabIs Tryz.prog w "internal/strconv.uint64pow10" .u64 Lib.pow10Tab) :
    Calls Tryz.prog 100 #[v, .string ⟨#[sep]⟩] w fun e w' => e = .returned (.string ⟨(joinN sep zs).toArray⟩) ∧ Below w.heap.size w w' := by
  obtain ⟨g1, o1, c1, hv, _, _, hc1⟩ := h.form
  subst hv
  have H1 := Lib.hid hc1
  have HT := Lib.hid ht
  have HW := Lib.hid hw
  clear hc1 ht hw h
  go_enter Tryz.func100, Tryz.ntmps100
  go_wp2_with fail
  go_loopw [5, 11] (fun v i wr => ∃ k : Nat, k ≤ zs.length ∧ i = .int .i64 k ∧ RowV wr w.heap.size 9 v k (strs (nums (zs.take k))) ∧ Below w.heap.size w wr) (fun _ i _ => zs.length - (intOf i).toNat)
  case atStart => exact ⟨0, by omega, rfl, rowV_empty w _, (Below.refl _ _).alloc (Nat.le_refl _) _⟩
  case round =>
    obtain ⟨k, hk, rfl, hrow, hbel⟩ := hrel
    by_cases hlt' : k < zs.length
    · have x1 := cells_keep hbel (H1.out k hlt')
      have HWk := Lib.hid (HW.out zs[k] (List.getElem_mem hlt'))
      obtain ⟨x, hx⟩ : ∃ x, zs[k] = x := ⟨_, rfl⟩
      have HS := Lib.hid (show strs (nums (zs.take (k + 1))) = strs (nums (zs.take k)) ++ [str (Lib.itoa x)] by
        rw [List.take_succ_eq_append_getElem hlt', hx]; simp [strs, nums])
      rw [hx] at x1 HWk
      have HTk := Lib.hid (tab_keep HT.out hbel)
      have hk0 : (0 : Int) ≤ (k : Int) := by omega
      have hk1 : (k : Int) < (zs.length : Int) := by omega
      clear hx
      go_wp2_with fail
      refine (implFormatInt x HWk.out _ HTk.out).mono ?_
      rintro e w2 ⟨rfl, hb2⟩
      have hbel2 := below_trans hbel hb2
      have hrow2 := hrow.keep hb2
      have hs := hbel2.size
      clear hrow hb2
      go_wp2_with (at_builtin; refine wpList_pushV elemStr _ rfl _ _ rfl w.heap.size u5 k _ rfl (hrow2.alloc _) (str (Lib.itoa x)) w2.heap.size rfl (cell_new1 _ _ _) rfl (by omega) (by simp; omega) ?_; intro gA capA wA hrowA hgrowA hbA)
      go_roundw
      case rel => exact ⟨k + 1, by omega, by go_num, by rw [HS.out]; exact hrowA, (hbel2.alloc hbel2.size _).trans hbA⟩
      case measure => simp [intOf]; omega
    · obtain rfl : k = zs.length := by omega
      rw [List.take_length] at hrow
      obtain ⟨g, hg, hown⟩ := hrow.own
      have hl := joinN_len sep HW.out
      have HJ := Lib.hid (joinOwn (nums zs) ⟨#[sep]⟩ hown (by simp [nums]; omega) (show (joinN sep zs).length ≤ _ by omega))
      clear hown hrow
      go_wp2_with fail
      refine HJ.out.mono ?_
      rintro e w2 ⟨rfl, hb2⟩
      go_wp2_with fail
      go_ret
      exact ⟨rfl, below_trans hbel hb2⟩
end Go.Proofs.YtaikjkcbgniplaaGreatDoor
