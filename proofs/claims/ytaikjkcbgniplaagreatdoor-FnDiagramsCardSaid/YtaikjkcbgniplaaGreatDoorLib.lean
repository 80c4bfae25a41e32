/- Plain words on worlds and slices, of no program: what a slice owns, what it reads as, what a call leaves as it was. No condition. -/
import Derived.Test.YtaikjkcbgniplaaGreatDoorRows
import Derived.WalkKit
import Derived.WalkSpells
import Derived.WalkLawsBesides
import Derived.ProofKit
import Derived.OpenShut
import Derived.ShutString
import Derived.ChangeOld
import Derived.Below
import Derived.Deep.Matrix
import Derived.Deep.RegionHeld3
import Derived.Deep.AppendLies
import Derived.Deep.DeepMust
import Derived.Deep.OwnRows
import Derived.Lib.Hide
namespace Go.Proofs.YtaikjkcbgniplaaGreatDoor
open Go.RowKit

theorem ret_int {k : IntKind} {a b : Int} (h : a = b) : Ending.returned (.int k a) = .returned (.int k b) := by rw [h]
theorem ret_bool {a b : Bool} (h : a = b) : Ending.returned (.bool a) = .returned (.bool b) := by rw [h]
theorem ret_str {a b : List UInt8} (h : a = b) : Ending.returned (.string ⟨a.toArray⟩) = .returned (.string ⟨b.toArray⟩) := by rw [h]

/-- A byte, a number, as a value. -/
def bv (b : UInt8) : Value := .int .u8 b.toNat
def ivs (zs : List Int) : List Value := zs.map (Value.int .i64)

theorem i64_or_nat (a b : Nat) (ha : a < 9223372036854775808) (hb : b < 9223372036854775808) : bits .or .i64 (a : Int) (b : Int) = ((a ||| b : Nat) : Int) := by
  have hx : a ||| b < 2 ^ 63 := Nat.or_lt_two_pow (by omega) (by omega)
  show IntKind.i64.wrap ((BitVec.ofInt 64 (a : Int) ||| BitVec.ofInt 64 (b : Int)).toNat : Int) = _
  rw [BitVec.toNat_or, ofInt_u64 a (by omega), ofInt_u64 b (by omega)]
  exact IntWalk.i64_in _ (by omega)
theorem i64_or_add (a b i : Nat) (ha : 2 ^ i * a < 9223372036854775808) (hb : b < 2 ^ i) (hi : 2 ^ i ≤ 9223372036854775808) : bits .or .i64 ((2 ^ i * a : Nat) : Int) (b : Int) = ((2 ^ i * a + b : Nat) : Int) := by
  rw [i64_or_nat _ _ ha (by omega), Nat.two_pow_add_eq_or_of_lt hb a]

/-! ### Worlds -/

/-- Of the blocks that are there only those in S may have turned. -/
structure Chg (S : Nat → Prop) (w w' : World) : Prop where
  os : w'.os = w.os
  tape : w'.tape = w.tape
  output : w'.output = w.output
  size : w.heap.size ≤ w'.heap.size
  block : ∀ k, k < w.heap.size → ¬ S k → w'.heap[k]? = w.heap[k]?

theorem Chg.refl (S : Nat → Prop) (w : World) : Chg S w w := ⟨rfl, rfl, rfl, Nat.le_refl _, fun _ _ _ => rfl⟩
theorem Chg.trans {S : Nat → Prop} {a b c : World} (h : Chg S a b) (k : Chg S b c) : Chg S a c :=
  ⟨k.os.trans h.os, k.tape.trans h.tape, k.output.trans h.output, Nat.le_trans h.size k.size, fun i hi hs => (k.block i (Nat.lt_of_lt_of_le hi h.size) hs).trans (h.block i hi hs)⟩
theorem Chg.mono {S S' : Nat → Prop} {a b : World} (h : Chg S a b) (hs : ∀ k, S k → S' k) : Chg S' a b :=
  ⟨h.os, h.tape, h.output, h.size, fun i hi hn => h.block i hi (fun x => hn (hs i x))⟩
theorem Chg.of_below {S : Nat → Prop} {w w' : World} (h : Below w.heap.size w w') : Chg S w w' := ⟨h.os, h.tape, h.output, h.size, fun k hk _ => h.block k hk⟩
theorem Chg.below {S : Nat → Prop} {w w' : World} (h : Chg S w w') {B : Nat} (hB : B ≤ w.heap.size) (hs : ∀ k, S k → B ≤ k) : Below B w w' :=
  ⟨h.os, h.tape, h.output, h.size, fun k hk => h.block k (by omega) (fun x => by have := hs k x; omega)⟩
theorem below_trans {a b c : World} (h : Below a.heap.size a b) (k : Below b.heap.size b c) : Below a.heap.size a c := h.trans (k.mono h.size)
theorem below_chg {W w w' : World} {S : Nat → Prop} (h : Below W.heap.size W w) (k : Chg S w w') (hs : ∀ k, S k → W.heap.size ≤ k) : Below W.heap.size W w' := h.trans (k.below h.size hs)

theorem addr_add (g j : Nat) : (⟨g, 0, none⟩ : Addr).add j = ⟨g, j, none⟩ := by unfold Addr.add; split <;> simp_all

/-! ### What a slice reads as -/

/-- The cells of the slice v are the values xs. -/
def ReadV (w : World) (v : Value) (xs : List Value) : Prop :=
  ∃ g o cap, v = .slice (some ⟨g, o, none⟩) xs.length cap ∧ xs.length ≤ cap ∧ cap ≤ maxLen ∧ ∀ i u, xs[i]? = some u → w.cell? ⟨g, o + i, none⟩ = some u

theorem ReadV.keep {w w' : World} {v : Value} {xs : List Value} (h : ReadV w v xs) (hb : Below w.heap.size w w') : ReadV w' v xs := by
  obtain ⟨g, o, cap, hv, h1, h2, hc⟩ := h
  exact ⟨g, o, cap, hv, h1, h2, fun i u hu => (hb.cell (World.block_lt_of_cell? w _ (hc i u hu))).trans (hc i u hu)⟩

/-- v reads as the numbers zs. -/
def I (w : World) (v : Value) (zs : List Int) : Prop := ReadV w v (ivs zs)
theorem I.keep {w w' : World} {v : Value} {zs : List Int} (h : I w v zs) (hb : Below w.heap.size w w') : I w' v zs := ReadV.keep h hb
theorem ivs_length (zs : List Int) : (ivs zs).length = zs.length := by simp [ivs]
theorem I.form {w : World} {v : Value} {zs : List Int} (h : I w v zs) : ∃ g o cap, v = .slice (some ⟨g, o, none⟩) zs.length cap ∧ zs.length ≤ cap ∧ cap ≤ maxLen ∧
    ∀ i (hi : i < zs.length), w.cell? ⟨g, o + i, none⟩ = some (.int .i64 zs[i]) := by
  obtain ⟨g, o, cap, hv, h1, h2, hc⟩ := h
  rw [ivs_length] at hv h1
  exact ⟨g, o, cap, hv, h1, h2, fun i hi => hc i _ (by simp [ivs, hi])⟩

/-- v reads as the rows zss. -/
def II (w : World) (v : Value) (zss : List (List Int)) : Prop := ∃ vs : List Value, ReadV w v vs ∧ vs.length = zss.length ∧ ∀ (i : Nat) (r : Value) (zs : List Int), vs[i]? = some r → zss[i]? = some zs → I w r zs
theorem II.keep {w w' : World} {v : Value} {zss : List (List Int)} (h : II w v zss) (hb : Below w.heap.size w w') : II w' v zss := by
  obtain ⟨vs, h1, h2, h3⟩ := h
  exact ⟨vs, h1.keep hb, h2, fun i r zs hr hz => (h3 i r zs hr hz).keep hb⟩
theorem II.form {w : World} {v : Value} {zss : List (List Int)} (h : II w v zss) : ∃ g o cap, v = .slice (some ⟨g, o, none⟩) zss.length cap ∧ zss.length ≤ cap ∧ cap ≤ maxLen ∧
    ∀ i (hi : i < zss.length), ∃ r, w.cell? ⟨g, o + i, none⟩ = some r ∧ I w r zss[i] := by
  obtain ⟨vs, ⟨g, o, cap, hv, h1, h2, hc⟩, hl, h3⟩ := h
  rw [hl] at hv h1
  refine ⟨g, o, cap, hv, h1, h2, fun i hi => ?_⟩
  have hi' : i < vs.length := by omega
  exact ⟨vs[i], hc i _ (by simp [hi']), h3 i _ _ (by simp [hi']) (by simp [hi])⟩

/-! ### What a slice owns -/

/-- v is a slice at the head of the block g, which is a row of its own of cells of type e, none frozen; its cells are xs. -/
def OwnV (w : World) (e : TypeId) (g : Nat) (v : Value) (xs : List Value) : Prop :=
  ∃ cap cur, v = .slice (some ⟨g, 0, none⟩) xs.length cap ∧ w.heap[g]? = some (.cells cur e (0, 0)) ∧ xs.length ≤ cap ∧ cap ≤ maxLen ∧ cur.size = cap ∧ cur.toList.take xs.length = xs

theorem OwnV.lt {w : World} {e : TypeId} {g : Nat} {v : Value} {xs : List Value} (h : OwnV w e g v xs) : g < w.heap.size := by
  obtain ⟨cap, cur, _, hh, _⟩ := h
  exact (Array.getElem?_eq_some_iff.1 hh).1
theorem OwnV.of_block {w w' : World} {e : TypeId} {g : Nat} {v : Value} {xs : List Value} (h : OwnV w e g v xs) (hb : w'.heap[g]? = w.heap[g]?) : OwnV w' e g v xs := by
  obtain ⟨cap, cur, hv, hh, r⟩ := h
  exact ⟨cap, cur, hv, hb.trans hh, r⟩
theorem OwnV.keep {w w' : World} {e : TypeId} {g : Nat} {v : Value} {xs : List Value} (h : OwnV w e g v xs) (hb : Below w.heap.size w w') : OwnV w' e g v xs := h.of_block (hb.block g h.lt)
theorem OwnV.chg {w w' : World} {e : TypeId} {g : Nat} {v : Value} {xs : List Value} {S : Nat → Prop} (h : OwnV w e g v xs) (hb : Chg S w w') (hn : ¬ S g) : OwnV w' e g v xs := h.of_block (hb.block g h.lt hn)
theorem OwnV.read {w : World} {e : TypeId} {g : Nat} {v : Value} {xs : List Value} (h : OwnV w e g v xs) : ReadV w v xs := by
  obtain ⟨cap, cur, hv, hh, h1, h2, h3, h4⟩ := h
  refine ⟨g, 0, cap, hv, h1, h2, fun i u hu => ?_⟩
  rw [← h4, List.getElem?_take] at hu
  split at hu
  · simpa [World.cell?, hh] using hu
  · cases hu
theorem OwnV.row {w : World} {e : TypeId} {g : Nat} {v : Value} {xs : List Value} (h : OwnV w e g v xs) {base : Nat} (hb : base ≤ g) : w.ownsRow base e 1 v xs.length xs := by
  obtain ⟨cap, cur, hv, hh, h1, h2, h3, h4⟩ := h
  exact ⟨by simp, .inr ⟨g, cap, cur, hv, hb, hh, h1, h2, by omega, by simpa using h4⟩⟩
theorem own_of_row {w : World} {base : Nat} {e : TypeId} {g n cap : Nat} {xs : List Value} (h : w.ownsRow base e 1 (.slice (some ⟨g, 0, none⟩) n cap) n xs) : OwnV w e g (.slice (some ⟨g, 0, none⟩) n cap) xs ∧ base ≤ g := by
  obtain ⟨hl, h⟩ := h
  rcases h with ⟨h, _⟩ | ⟨g', cap', cur, hv, hb, hh, h1, h2, h3, h4⟩
  · simp at h
  · simp only [Value.slice.injEq, Option.some.injEq, Addr.mk.injEq, true_and, and_true] at hv
    obtain ⟨rfl, rfl⟩ := hv
    have hl' : xs.length = n := by omega
    subst hl'
    exact ⟨⟨_, cur, rfl, hh, h1, h2, by omega, by simpa using h4⟩, hb⟩
theorem own_empty (w : World) (e : TypeId) : OwnV (w.alloc (.cells #[] e)) e w.heap.size (.slice (some ⟨w.heap.size, 0, none⟩) 0 0) [] :=
  ⟨0, #[], rfl, heap_alloc_new w _, Nat.le_refl _, Nat.zero_le _, rfl, rfl⟩
/-- Where v's row lies is known from v. -/
theorem OwnV.block {w : World} {e : TypeId} {g : Nat} {v : Value} {xs : List Value} (h : OwnV w e g v xs) : v.ownBlock = some g := by
  obtain ⟨cap, cur, rfl, _⟩ := h
  rfl
theorem OwnV.notNil {w : World} {e : TypeId} {g : Nat} {v : Value} {xs : List Value} (h : OwnV w e g v xs) : v ≠ .slice none 0 0 := by
  obtain ⟨cap, cur, rfl, _⟩ := h
  simp
theorem OwnV.form {w : World} {e : TypeId} {g : Nat} {v : Value} {xs : List Value} (h : OwnV w e g v xs) : ∃ cap, v = .slice (some ⟨g, 0, none⟩) xs.length cap ∧ xs.length ≤ cap ∧ cap ≤ maxLen ∧ (∀ i u, xs[i]? = some u → w.cell? ⟨g, i, none⟩ = some u) ∧ (∀ i, w.frozen? ⟨g, i, none⟩ = false) := by
  obtain ⟨cap, cur, hv, hh, h1, h2, h3, h4⟩ := h
  refine ⟨cap, hv, h1, h2, fun i u hu => ?_, fun i => by simp [World.frozen?, hh]⟩
  rw [← h4, List.getElem?_take] at hu
  split at hu
  · simpa [World.cell?, hh] using hu
  · cases hu
theorem OwnV.slot {w : World} {e : TypeId} {g : Nat} {v : Value} {xs : List Value} (h : OwnV w e g v xs) {i : Nat} (hi : i < xs.length) : (∃ u, w.cell? ⟨g, i, none⟩ = some u) ∧ w.frozen? ⟨g, i, none⟩ = false := by
  obtain ⟨_, _, _, _, hc, hf⟩ := h.form
  exact ⟨⟨_, hc i _ (List.getElem?_eq_getElem hi)⟩, hf i⟩
/-- A store into the row. -/
theorem OwnV.set {w : World} {e : TypeId} {g : Nat} {v : Value} {xs : List Value} (h : OwnV w e g v xs) (i : Nat) (u : Value) : OwnV (w.setCell ⟨g, i, none⟩ u) e g v (xs.set i u) := by
  obtain ⟨cap, cur, hv, hh, h1, h2, h3, h4⟩ := h
  refine ⟨cap, cur.setIfInBounds i u, by simpa using hv, ?_, by simpa using h1, h2, by simpa using h3, ?_⟩
  · simp [World.setCell, Array.getElem?_modify, hh]
  · simp only [List.length_set, Array.toList_setIfInBounds, List.take_set, h4]
theorem chg_setCell (w : World) (a : Addr) (u : Value) : Chg (· = a.block) w (w.setCell a u) :=
  ⟨rfl, rfl, rfl, by simp [World.setCell], fun k _ hn => Below.heap_setCell _ _ _ _ hn⟩
theorem chg_set (w : World) (g j : Nat) (u : Value) : Chg (· = g) w (w.setCell ⟨g, j, none⟩ u) := chg_setCell w ⟨g, j, none⟩ u
theorem chg_grown {w w' : World} {g : Nat} (h : w.grownBy w' (some g)) : Chg (· = g) w w' := ⟨h.os, h.tape, h.output, h.size, fun k hk hn => h.block k hk (fun e => hn (by simpa using e))⟩

/-- v owns the numbers zs, in block g. -/
def Own (w : World) (g : Nat) (v : Value) (zs : List Int) : Prop := OwnV w 3 g v (ivs zs)
theorem Own.lt {w : World} {g : Nat} {v : Value} {zs : List Int} (h : Own w g v zs) : g < w.heap.size := OwnV.lt h
theorem Own.keep {w w' : World} {g : Nat} {v : Value} {zs : List Int} (h : Own w g v zs) (hb : Below w.heap.size w w') : Own w' g v zs := OwnV.keep h hb
theorem Own.chg {w w' : World} {g : Nat} {v : Value} {zs : List Int} {S : Nat → Prop} (h : Own w g v zs) (hb : Chg S w w') (hn : ¬ S g) : Own w' g v zs := OwnV.chg h hb hn
theorem Own.read {w : World} {g : Nat} {v : Value} {zs : List Int} (h : Own w g v zs) : I w v zs := OwnV.read h

theorem ivs_set (l : List Int) (i : Nat) (x : Int) : (ivs l).set i (.int .i64 x) = ivs (l.set i x) := by rw [ivs, ivs, List.map_set]
theorem ivs_append (l m : List Int) : ivs (l ++ m) = ivs l ++ ivs m := by simp [ivs]
theorem ivs_take (l : List Int) (k : Nat) : ivs (l.take k) = (ivs l).take k := by simp [ivs]
theorem ivs_drop (l : List Int) (k : Nat) : ivs (l.drop k) = (ivs l).drop k := by simp [ivs]
theorem ivs_snoc (l : List Int) (k : Nat) (h : k < l.length) : ivs (l.take (k + 1)) = ivs (l.take k) ++ [.int .i64 l[k]] := by
  rw [List.take_succ_eq_append_getElem h, ivs_append]; rfl
theorem Own.set {w : World} {g : Nat} {v : Value} {zs : List Int} (h : Own w g v zs) (i : Nat) (x : Int) : Own (w.setCell ⟨g, i, none⟩ (.int .i64 x)) g v (zs.set i x) := by
  have := OwnV.set h i (.int .i64 x)
  rw [ivs_set] at this
  exact this
theorem Own.drew {w : World} {g : Nat} {v : Value} {zs : List Int} (h : Own w g v zs) : Own w.drew g v zs := h
theorem Own.cell {w : World} {g : Nat} {v : Value} {zs : List Int} (h : Own w g v zs) {i : Nat} (hi : i < zs.length) : w.cell? ⟨g, i, none⟩ = some (.int .i64 zs[i]) := by
  obtain ⟨_, _, _, _, hc, _⟩ := OwnV.form h
  exact hc i _ (by simp [ivs, hi])
theorem Own.frozen {w : World} {g : Nat} {v : Value} {zs : List Int} (h : Own w g v zs) (i : Nat) : w.frozen? ⟨g, i, none⟩ = false := by
  obtain ⟨_, _, _, _, _, hf⟩ := OwnV.form h
  exact hf i
theorem Own.form {w : World} {g : Nat} {v : Value} {zs : List Int} (h : Own w g v zs) : ∃ cap, v = .slice (some ⟨g, 0, none⟩) zs.length cap ∧ zs.length ≤ cap ∧ cap ≤ maxLen := by
  obtain ⟨cap, hv, h1, h2, _, _⟩ := OwnV.form h
  rw [ivs_length] at hv h1
  exact ⟨cap, hv, h1, h2⟩
theorem chg_drew {S : Nat → Prop} {w w' : World} (h : Chg S w w') : Chg S w w'.drew := ⟨h.os, h.tape, h.output, h.size, h.block⟩

/-- What a call answers that makes a slice of numbers: a slice of its own, in new memory; what was there is as it was. -/
def RetInts (w : World) (zs : List Int) (e : Ending) (w' : World) : Prop := ∃ v g, e = .returned v ∧ w.heap.size ≤ g ∧ Own w' g v zs ∧ Below w.heap.size w w'
/-- .. and with a bool beside it. -/
def RetIntsB (w : World) (zs : List Int) (b : Bool) (e : Ending) (w' : World) : Prop := ∃ v g, e = .returned (.tuple #[v, .bool b]) ∧ w.heap.size ≤ g ∧ Own w' g v zs ∧ Below w.heap.size w w'

/-- v owns the numbers zs, in a block from lo on and below hi. -/
def Own1 (w : World) (lo hi : Nat) (v : Value) (zs : List Int) : Prop := ∃ g, lo ≤ g ∧ g < hi ∧ Own w g v zs
theorem Own1.keep {w w' : World} {lo hi : Nat} {v : Value} {zs : List Int} (h : Own1 w lo hi v zs) (hb : Below w.heap.size w w') : Own1 w' lo hi v zs := by
  obtain ⟨g, h1, h2, h3⟩ := h
  exact ⟨g, h1, h2, h3.keep hb⟩
theorem Own1.chg {w w' : World} {lo hi l2 h2 : Nat} {v : Value} {zs : List Int} (h : Own1 w lo hi v zs) (hb : Chg (fun k => l2 ≤ k ∧ k < h2) w w') (hd : hi ≤ l2 ∨ h2 ≤ lo) : Own1 w' lo hi v zs := by
  obtain ⟨g, h1, h2, h3⟩ := h
  exact ⟨g, h1, h2, h3.chg hb (by omega)⟩
theorem Own1.read {w : World} {lo hi : Nat} {v : Value} {zs : List Int} (h : Own1 w lo hi v zs) : I w v zs := by
  obtain ⟨g, h1, h2, h3⟩ := h
  exact h3.read
theorem RetInts.out {w w' : World} {zs : List Int} {e : Ending} (h : RetInts w zs e w') : ∃ v, e = .returned v ∧ Own1 w' w.heap.size w'.heap.size v zs ∧ Below w.heap.size w w' := by
  obtain ⟨v, g, he, hg, ho, hb⟩ := h
  exact ⟨v, he, ⟨g, hg, ho.lt, ho⟩, hb⟩
theorem RetIntsB.out {w w' : World} {zs : List Int} {b : Bool} {e : Ending} (h : RetIntsB w zs b e w') : ∃ v, e = .returned (.tuple #[v, .bool b]) ∧ Own1 w' w.heap.size w'.heap.size v zs ∧ Below w.heap.size w w' := by
  obtain ⟨v, g, he, hg, ho, hb⟩ := h
  exact ⟨v, he, ⟨g, hg, ho.lt, ho⟩, hb⟩
theorem below_chg2 {W w w' : World} {lo hi : Nat} (h : Below W.heap.size W w) (k : Chg (fun k => lo ≤ k ∧ k < hi) w w') (hs : W.heap.size ≤ lo) : Below W.heap.size W w' := below_chg h k (fun q hq => by omega)

/-! ### Append, one value at a time, to a slice of the call's own -/

/-- T is a slice type of elements e of one cell. -/
structure Elem (P : Program) (T e : TypeId) (bytes : Nat) : Prop where
  slice : P.underlying T = some (.slice e)
  info : ∃ i z, P.info? e = some i ∧ i.zero = some z ∧ i.size = 1 ∧ i.bytes = bytes ∧ z.cells.size = 1
  small : bytes ≤ 24
theorem elem_of {P : Program} {T e : TypeId} {bytes : Nat} (z : Value) (hs : P.underlying T = some (.slice e)) (h : (P.info? e).map (fun i => (i.zero, i.size, i.bytes)) = some (some z, 1, bytes)) (hz : z.cells.size = 1) (hb : bytes ≤ 24) : Elem P T e bytes := by
  obtain ⟨i, h1, h2, h3, h4⟩ := info_parts h
  exact ⟨hs, ⟨i, z, h1, h2, h3, h4, hz⟩, hb⟩

/-- v, not nil, owns the n values xs in a block from B on. -/
def RowV (w : World) (B : Nat) (e : TypeId) (v : Value) (n : Nat) (xs : List Value) : Prop := w.ownsRow B e 1 v n xs ∧ v ≠ .slice none 0 0
theorem RowV.alloc {w : World} {B : Nat} {e : TypeId} {v : Value} {n : Nat} {xs : List Value} (h : RowV w B e v n xs) (o : Obj) : RowV (w.alloc o) B e v n xs := ⟨h.1.alloc o, h.2⟩
theorem RowV.drew {w : World} {B : Nat} {e : TypeId} {v : Value} {n : Nat} {xs : List Value} (h : RowV w B e v n xs) : RowV w.drew B e v n xs := ⟨h.1.drew, h.2⟩
theorem RowV.own {w : World} {B : Nat} {e : TypeId} {v : Value} {n : Nat} {xs : List Value} (h : RowV w B e v n xs) : ∃ g, B ≤ g ∧ OwnV w e g v xs := by
  obtain ⟨⟨hl, h⟩, hn⟩ := h
  rcases h with ⟨h, _⟩ | ⟨g, cap, cur, rfl, hb, hh, h1, h2, h3, h4⟩
  · exact absurd h hn
  · have hl' : xs.length = n := by omega
    subst hl'
    exact ⟨g, hb, cap, cur, rfl, hh, h1, h2, by omega, by simpa using h4⟩
theorem OwnV.rowV {w : World} {e : TypeId} {g : Nat} {v : Value} {xs : List Value} (h : OwnV w e g v xs) {B : Nat} (hb : B ≤ g) : RowV w B e v xs.length xs := ⟨h.row hb, h.notNil⟩
theorem rowV_empty (w : World) (e : TypeId) : RowV (w.alloc (.cells #[] e)) w.heap.size e (.slice (some ⟨w.heap.size, 0, none⟩) 0 0) 0 [] := (own_empty w e).rowV (Nat.le_refl _)
theorem RowV.cast {w : World} {B : Nat} {e : TypeId} {v v' : Value} {n n' : Nat} {xs xs' : List Value} (h : RowV w B e v n xs) (hv : v = v') (hn : n = n') (hx : xs = xs') : RowV w B e v' n' xs' := by subst hv hn hx; exact h
/-- What else is there stays as it is while the row grows. -/
theorem RowV.keep {w w' : World} {B : Nat} {e : TypeId} {v : Value} {n : Nat} {xs : List Value} (h : RowV w B e v n xs) (hb : Below w.heap.size w w') : RowV w' B e v n xs := by
  obtain ⟨⟨hl, h⟩, hn⟩ := h
  refine ⟨⟨hl, ?_⟩, hn⟩
  rcases h with h | ⟨g, cap, cur, rfl, hbg, hh, r⟩
  · exact .inl h
  · exact .inr ⟨g, cap, cur, rfl, hbg, (hb.block g (Array.getElem?_eq_some_iff.1 hh).1).trans hh, r⟩

section
variable {P : Program} {T e : TypeId} {bytes : Nat}
theorem wp_pushV (E : Elem P T e bytes) {o : Oper} {a : Act} {K : Act → World → Prop} {Q : Exit → Act → World → Prop} (w : World) (s x : Operand)
    (ho : o.op = .call { callee := .builtin .append, args := #[s, x], argTypes := #[T, T] }) (B : Nat) (v : Value) (n : Nat) (xs : List Value) (hs : a.eval s = v) (hrow : RowV w B e v n xs)
    (u : Value) (g0 : Nat) (hx : a.eval x = .slice (some ⟨g0, 0, none⟩) 1 1) (hu : w.cell? ⟨g0, 0, none⟩ = some u) (h1 : u.oneCell' = true) (hn : n ≤ 1099511627776) (hB : B ≤ w.heap.size)
    (h : ∀ g cap w', RowV w' B e (.slice (some ⟨g, 0, none⟩) (n + 1) cap) (n + 1) (xs ++ [u]) → w.grownBy w' v.ownBlock → Below B w w' → K (a.put o.dst (.slice (some ⟨g, 0, none⟩) (n + 1) cap)) w') : o.wp P a w K Q := by
  obtain ⟨i, z, hi, hz, h2, h3, hzc⟩ := E.info
  have hsm := E.small
  refine wp_append_lies w s x T ho B e i z 1 bytes E.slice hi hz h2 h3 hzc (by omega) v n xs hs hrow.1 ⟨g0, 0, none⟩ 1 1 [u] hx rfl (fun j y hj => ?_) (by simpa using h1) (by omega) (by unfold maxLen; omega) (Nat.le_trans (Nat.mul_le_mul_left _ hsm) (by omega)) hB _ rfl (fun g cap w' hown hgrow _ _ => ?_)
  · rw [addr_add]
    match j, hj with
    | 0, hj => simp at hj; subst hj; exact hu
  · exact h g cap w' ⟨hown, by simp⟩ hgrow ((Below.refl B w).grown hgrow hB (fun k hk => (hrow.1.lt k hk).1))
theorem step_pushV (E : Elem P T e bytes) {ops : Array Oper} {o : Oper} {a : Act} {K : Act → World → Prop} {Q : Exit → Act → World → Prop} {X : Prop} (w : World) (hgd : o.guard = none) (s x : Operand)
    (ho : o.op = .call { callee := .builtin .append, args := #[s, x], argTypes := #[T, T] }) (B : Nat) (v : Value) (n : Nat) (xs : List Value) (hs : a.eval s = v) (hrow : RowV w B e v n xs)
    (u : Value) (g0 : Nat) (hx : a.eval x = .slice (some ⟨g0, 0, none⟩) 1 1) (hu : w.cell? ⟨g0, 0, none⟩ = some u) (h1 : u.oneCell' = true) (hn : n ≤ 1099511627776) (hB : B ≤ w.heap.size)
    (h : ∀ g cap w', RowV w' B e (.slice (some ⟨g, 0, none⟩) (n + 1) cap) (n + 1) (xs ++ [u]) → w.grownBy w' v.ownBlock → Below B w w' → K (a.put o.dst (.slice (some ⟨g, 0, none⟩) (n + 1) cap)) w') :
    if Region.wanted o (yielded ops a.tmps) = true then Oper.wp P o a w K Q else X := by
  have hw : Region.wanted o (yielded ops a.tmps) = true := by simp [Region.wanted, hgd]
  rw [if_pos hw]
  exact wp_pushV E w s x ho B v n xs hs hrow u g0 hx hu h1 hn hB h
theorem wpList_pushV (E : Elem P T e bytes) {ops : Array Oper} {rest : List Oper} {o : Oper} {a : Act} {Q : Exit → Act → World → Prop} (w : World) (hgd : o.guard = none) (s x : Operand)
    (ho : o.op = .call { callee := .builtin .append, args := #[s, x], argTypes := #[T, T] }) (B : Nat) (v : Value) (n : Nat) (xs : List Value) (hs : a.eval s = v) (hrow : RowV w B e v n xs)
    (u : Value) (g0 : Nat) (hx : a.eval x = .slice (some ⟨g0, 0, none⟩) 1 1) (hu : w.cell? ⟨g0, 0, none⟩ = some u) (h1 : u.oneCell' = true) (hn : n ≤ 1099511627776) (hB : B ≤ w.heap.size)
    (h : ∀ g cap w', RowV w' B e (.slice (some ⟨g, 0, none⟩) (n + 1) cap) (n + 1) (xs ++ [u]) → w.grownBy w' v.ownBlock → Below B w w' → wpList P ops Q rest (a.put o.dst (.slice (some ⟨g, 0, none⟩) (n + 1) cap)) w') : wpList P ops Q (o :: rest) a w :=
  wpList_plain hgd fun _ hK => wp_pushV E w s x ho B v n xs hs hrow u g0 hx hu h1 hn hB fun g cap w' h2 h3 h4 => hK _ _ (h g cap w' h2 h3 h4)
/-- A whole slice appended. -/
theorem wp_appendV (E : Elem P T e bytes) {o : Oper} {a : Act} {K : Act → World → Prop} {Q : Exit → Act → World → Prop} (w : World) (s x : Operand)
    (ho : o.op = .call { callee := .builtin .append, args := #[s, x], argTypes := #[T, T] }) (B : Nat) (v : Value) (n : Nat) (xs : List Value) (hs : a.eval s = v) (hrow : RowV w B e v n xs)
    (news : List Value) (g0 o0 m c : Nat) (hx : a.eval x = .slice (some ⟨g0, o0, none⟩) m c) (hl : news.length = m) (hu : ∀ i u, news[i]? = some u → w.cell? ⟨g0, o0 + i, none⟩ = some u) (h1 : ∀ u ∈ news, u.oneCell' = true) (hn : n + m ≤ 1099511627776) (hB : B ≤ w.heap.size)
    (h : ∀ g cap w', RowV w' B e (.slice (some ⟨g, 0, none⟩) (n + m) cap) (n + m) (xs ++ news) → w.grownBy w' v.ownBlock → Below B w w' → K (a.put o.dst (.slice (some ⟨g, 0, none⟩) (n + m) cap)) w') : o.wp P a w K Q := by
  obtain ⟨i, z, hi, hz, h2, h3, hzc⟩ := E.info
  have hsm := E.small
  have hadd : ∀ j, (⟨g0, o0, none⟩ : Addr).add j = ⟨g0, o0 + j, none⟩ := fun j => by unfold Addr.add; split <;> simp_all
  refine wp_append_own w s x T ho B e i z 1 bytes E.slice hi hz h2 h3 hzc (by omega) v n xs hs hrow.1 ⟨g0, o0, none⟩ m c news hx (by omega) (fun j y hj => by rw [hadd]; exact hu j y hj) h1 (by unfold maxLen; omega) (Nat.le_trans (Nat.mul_le_mul_left _ hsm) (by omega)) hB (fun v' w' hown hgrow hnil => ?_)
  have hne : v' ≠ .slice none 0 0 := fun e => hrow.2 (hnil.1 e).1
  obtain ⟨_, hf⟩ := id hown
  rcases hf with ⟨hv, _⟩ | ⟨g, cap, cur, rfl, _⟩
  · exact absurd hv hne
  · exact h g cap w' ⟨hown, hne⟩ hgrow ((Below.refl B w).grown hgrow hB (fun k hk => (hrow.1.lt k hk).1))
theorem wpList_appendV (E : Elem P T e bytes) {ops : Array Oper} {rest : List Oper} {o : Oper} {a : Act} {Q : Exit → Act → World → Prop} (w : World) (hgd : o.guard = none) (s x : Operand)
    (ho : o.op = .call { callee := .builtin .append, args := #[s, x], argTypes := #[T, T] }) (B : Nat) (v : Value) (n : Nat) (xs : List Value) (hs : a.eval s = v) (hrow : RowV w B e v n xs)
    (news : List Value) (g0 o0 m c : Nat) (hx : a.eval x = .slice (some ⟨g0, o0, none⟩) m c) (hl : news.length = m) (hu : ∀ i u, news[i]? = some u → w.cell? ⟨g0, o0 + i, none⟩ = some u) (h1 : ∀ u ∈ news, u.oneCell' = true) (hn : n + m ≤ 1099511627776) (hB : B ≤ w.heap.size)
    (h : ∀ g cap w', RowV w' B e (.slice (some ⟨g, 0, none⟩) (n + m) cap) (n + m) (xs ++ news) → w.grownBy w' v.ownBlock → Below B w w' → wpList P ops Q rest (a.put o.dst (.slice (some ⟨g, 0, none⟩) (n + m) cap)) w') : wpList P ops Q (o :: rest) a w :=
  wpList_plain hgd fun _ hK => wp_appendV E w s x ho B v n xs hs hrow news g0 o0 m c hx hl hu h1 hn hB fun g cap w' h2 h3 h4 => hK _ _ (h g cap w' h2 h3 h4)
theorem step_appendV (E : Elem P T e bytes) {ops : Array Oper} {o : Oper} {a : Act} {K : Act → World → Prop} {Q : Exit → Act → World → Prop} {X : Prop} (w : World) (hgd : o.guard = none) (s x : Operand)
    (ho : o.op = .call { callee := .builtin .append, args := #[s, x], argTypes := #[T, T] }) (B : Nat) (v : Value) (n : Nat) (xs : List Value) (hs : a.eval s = v) (hrow : RowV w B e v n xs)
    (news : List Value) (g0 o0 m c : Nat) (hx : a.eval x = .slice (some ⟨g0, o0, none⟩) m c) (hl : news.length = m) (hu : ∀ i u, news[i]? = some u → w.cell? ⟨g0, o0 + i, none⟩ = some u) (h1 : ∀ u ∈ news, u.oneCell' = true) (hn : n + m ≤ 1099511627776) (hB : B ≤ w.heap.size)
    (h : ∀ g cap w', RowV w' B e (.slice (some ⟨g, 0, none⟩) (n + m) cap) (n + m) (xs ++ news) → w.grownBy w' v.ownBlock → Below B w w' → K (a.put o.dst (.slice (some ⟨g, 0, none⟩) (n + m) cap)) w') :
    if Region.wanted o (yielded ops a.tmps) = true then Oper.wp P o a w K Q else X := by
  have hw : Region.wanted o (yielded ops a.tmps) = true := by simp [Region.wanted, hgd]
  rw [if_pos hw]
  exact wp_appendV E w s x ho B v n xs hs hrow news g0 o0 m c hx hl hu h1 hn hB h
end
theorem cells_after {w w' : World} {g o : Nat} {a : List Int} (H : ∀ i (hi : i < a.length), w.cell? ⟨g, o + i, none⟩ = some (.int .i64 a[i])) (hb : Below w.heap.size w w') : ∀ i u, (ivs a)[i]? = some u → w'.cell? ⟨g, o + i, none⟩ = some u := by
  intro i u hu
  have hi : i < a.length := by have := (List.getElem?_eq_some_iff.1 hu).1; rwa [ivs_length] at this
  have hcell := H i hi
  rw [hb.cell (World.block_lt_of_cell? w _ hcell), hcell]
  simp only [ivs, List.getElem?_map, List.getElem?_eq_getElem hi, Option.map_some, Option.some.injEq] at hu
  rw [hu]
theorem below_new (w : World) (o : Obj) : Below w.heap.size w (w.alloc o) := (Below.refl _ _).alloc (Nat.le_refl _) _
theorem ivs_one (zs : List Int) : ∀ u ∈ ivs zs, u.oneCell' = true := by intro u hu; simp only [ivs, List.mem_map] at hu; obtain ⟨x, _, rfl⟩ := hu; rfl
theorem cell_new1 (w : World) (u : Value) (t : TypeId) : (w.alloc (.cells #[u] t)).cell? ⟨w.heap.size, 0, none⟩ = some u := by rw [World.cell?_alloc_mark]; rfl
theorem cell_new1d (w : World) (u : Value) (t : TypeId) : (w.alloc (.cells #[u] t)).drew.cell? ⟨w.heap.size, 0, none⟩ = some u := cell_new1 w u t

theorem elemInt : Elem Tryz.prog 27 3 8 := elem_of (.int .i64 0) Tryz.underlying27 (by kernel_rfl) rfl (by omega)

/-! ### Arguments as they are read -/

/-- A slice of numbers that came in: its numbers lie where it says. -/
def ArgI (w : World) (a : Option Addr) (cap : Nat) (zs : List Int) : Prop :=
  zs.length ≤ cap ∧ cap ≤ maxLen ∧ (∀ n ∈ zs, (Lit.int .i64 n).wf = true) ∧ ∀ i (hi : i < zs.length), ∃ x, a = some x ∧ w.cell? (x.add i) = some (.int .i64 zs[i])
theorem argI_nil (w : World) : ArgI w none 0 [] := ⟨Nat.le_refl _, Nat.zero_le _, by simp, fun i hi => absurd hi (Nat.not_lt_zero i)⟩
theorem argI_some {w : World} {x : Addr} {len cap : Nat} {zs : List Int} (h1 : len ≤ cap) (h2 : cap ≤ maxLen) (hz : zs.length = cap) (hc : ∀ i, i < zs.length → w.cell? (x.add i) = some (.int .i64 (zs.getD i 0))) (hw : ∀ n ∈ zs, (Lit.int .i64 n).wf = true) :
    len = (zs.take len).length ∧ ArgI w (some x) cap (zs.take len) := by
  have hl : (zs.take len).length = len := by rw [List.length_take]; omega
  refine ⟨hl.symm, by omega, h2, fun n hn => hw n (List.mem_of_mem_take hn), fun i hi => ⟨x, rfl, ?_⟩⟩
  rw [hl] at hi
  rw [hc i (by omega)]
  have hi2 : i < zs.length := by omega
  simp [List.getD, hi2]
theorem ArgI.keep {w w' : World} {a : Option Addr} {cap : Nat} {zs : List Int} (h : ArgI w a cap zs) (hb : Below w.heap.size w w') : ArgI w' a cap zs := by
  obtain ⟨h1, h2, h3, hc⟩ := h
  refine ⟨h1, h2, h3, fun i hi => ?_⟩
  obtain ⟨x, hx, h⟩ := hc i hi
  exact ⟨x, hx, (hb.cell (World.block_lt_of_cell? w _ h)).trans h⟩

theorem ArgI.caps {w : World} {a : Option Addr} {cap : Nat} {zs : List Int} (h : ArgI w a cap zs) : zs.length ≤ cap ∧ cap ≤ maxLen := ⟨h.1, h.2.1⟩
/-- A slice of such slices. -/
def ArgII (w : World) (a : Option Addr) (cap : Nat) (zss : List (List Int)) : Prop :=
  zss.length ≤ cap ∧ cap ≤ maxLen ∧ ∀ i (hi : i < zss.length), ∃ x r c, a = some x ∧ w.cell? (x.add i) = some (.slice r zss[i].length c) ∧ ArgI w r c zss[i]
theorem argII_nil (w : World) : ArgII w none 0 [] := ⟨Nat.le_refl _, Nat.zero_le _, fun i hi => absurd hi (Nat.not_lt_zero i)⟩
theorem argII_some {w : World} {x : Addr} {len cap : Nat} {A : Nat → Option Addr} {L C : Nat → Nat} {Z : Nat → List Int} (h1 : len ≤ cap) (h2 : cap ≤ maxLen)
    (hc : ∀ r, r < cap → w.cell? (x.add r) = some (.slice (A r) (L r) (C r)) ∧ L r ≤ C r ∧ C r ≤ maxLen ∧ (Z r).length = C r ∧ (∀ n ∈ Z r, (Lit.int .i64 n).wf = true) ∧ (A r = none → C r = 0) ∧
        ∀ a', A r = some a' → 0 ≤ a'.block ∧ ∀ c, c < C r → w.cell? (a'.add c) = some (.int .i64 ((Z r).getD c 0))) :
    len = ((List.range len).map fun r => (Z r).take (L r)).length ∧ ArgII w (some x) cap ((List.range len).map fun r => (Z r).take (L r)) := by
  refine ⟨by simp, by simpa using h1, h2, fun i hi => ?_⟩
  have hi' : i < len := by simpa using hi
  obtain ⟨g1, g2, g3, g4, g5, g6, g7⟩ := hc i (by omega)
  have hz : ((List.range len).map fun r => (Z r).take (L r))[i] = (Z i).take (L i) := by simp
  have hl : ((Z i).take (L i)).length = L i := by rw [List.length_take]; omega
  refine ⟨x, A i, C i, rfl, by rw [hz, hl]; exact g1, ?_⟩
  rw [hz]
  cases hA : A i with
  | none =>
    have h0 := g6 hA
    have : (Z i).take (L i) = [] := List.eq_nil_of_length_eq_zero (by omega)
    rw [this, h0]
    exact argI_nil w
  | some a' => exact (argI_some g2 g3 g4 (fun j hj => (g7 a' hA).2 j (by omega)) g5).2
theorem ArgII.keep {w w' : World} {a : Option Addr} {cap : Nat} {zss : List (List Int)} (h : ArgII w a cap zss) (hb : Below w.heap.size w w') : ArgII w' a cap zss := by
  obtain ⟨h1, h2, hc⟩ := h
  refine ⟨h1, h2, fun i hi => ?_⟩
  obtain ⟨x, r, c, hx, h, hr⟩ := hc i hi
  exact ⟨x, r, c, hx, (hb.cell (World.block_lt_of_cell? w _ h)).trans h, hr.keep hb⟩

theorem calls_still {P : Program} {f : FuncId} {av : Array Value} {w : World} {X : Ending} (h : Calls P f av w (fun e w' => e = X ∧ w = w')) : Calls P f av w (fun e w' => e = X ∧ Below w.heap.size w w') :=
  h.mono fun _ _ ⟨h1, h2⟩ => ⟨h1, h2 ▸ Below.refl _ _⟩

theorem ArgII.caps {w : World} {a : Option Addr} {cap : Nat} {zss : List (List Int)} (h : ArgII w a cap zss) : zss.length ≤ cap ∧ cap ≤ maxLen := ⟨h.1, h.2.1⟩
/-- The numbers in all rows; with the rows themselves. -/
def ints (zss : List (List Int)) : Nat := (zss.map List.length).sum
def total (zss : List (List Int)) : Nat := zss.length + ints zss

/-! ### Bytes -/

theorem run_string_own {P : Program} {w : World} {base e src dst : TypeId} {v : Value} {l : List UInt8} (hs : P.underlying src = some (.slice e)) (he : P.underlying e = some (.int .u8)) (hd : P.underlying dst = some .string)
    (h : w.ownsRow base e 1 v l.length (l.map bv)) : (convert src dst v).run P w = .ok (.string ⟨l.toArray⟩) w := by
  have hr := h
  obtain ⟨hl, h⟩ := h
  rcases h with ⟨rfl, h0⟩ | ⟨g, cap, cur, rfl, hb, hh, h1, h2, h3, h4⟩
  · obtain rfl : l = [] := List.eq_nil_of_length_eq_zero h0
    exact run_convert_bytes_nil w src e hs he 0 0 dst hd
  · refine run_convert_bytes_back w src dst e ⟨g, 0, none⟩ cap l hs he hd (fun j hj => ?_)
    have hadd : (⟨g, 0, none⟩ : Addr).add j = ⟨g, j, none⟩ := by unfold Addr.add; split <;> simp_all
    rw [hadd, hr.cellAt j (by omega)]
    simp [bv, hj]

theorem run_string_row {P : Program} {w : World} {base e src dst : TypeId} {v : Value} {n : Nat} {l : List UInt8} (hs : P.underlying src = some (.slice e)) (he : P.underlying e = some (.int .u8)) (hd : P.underlying dst = some .string)
    (h : w.ownsRow base e 1 v n (l.map bv)) : (convert src dst v).run P w = .ok (.string ⟨l.toArray⟩) w := by
  have hl := h.1
  simp only [List.length_map, Nat.mul_one] at hl
  subst hl
  exact run_string_own hs he hd h
/-- A byte given as a number. -/
theorem bv_ofNat (n : Nat) (h : n < 256) : Value.int .u8 (n : Int) = bv (UInt8.ofNat n) := by
  unfold bv
  rw [UInt8.toNat_ofNat', Nat.mod_eq_of_lt (by omega)]

theorem bytes_append (a b : List UInt8) : (⟨a.toArray⟩ ++ ⟨b.toArray⟩ : ByteArray) = ⟨(a ++ b).toArray⟩ := by
  apply ByteArray.ext
  rw [ByteArray.data_append]
  simp

theorem take_succ_get (s : ByteArray) (k : Nat) (h : k < s.size) : s.data.toList.take (k + 1) = s.data.toList.take k ++ [s[k]] := by
  rw [List.take_succ_eq_append_getElem (by simpa using h)]; rfl
theorem str_of_list (s : ByteArray) : (⟨s.data.toList.toArray⟩ : ByteArray) = s := by cases s; simp

/-- The reference's test of an interval. -/
theorem l1In (x lo hi : Int) (w : World) : Calls Tryz.prog 85 #[.int .i64 x, .int .i64 lo, .int .i64 hi] w fun e w' => e = .returned (.bool (decide (lo ≤ x) && decide (x ≤ hi))) ∧ w = w' := by
  by_cases h1 : lo ≤ x
  · by_cases h2 : x ≤ hi
    · go_enter Tryz.func85, Tryz.ntmps85
      go_wp2
      go_ret
      exact ⟨by simp [h1, h2], rfl⟩
    · go_enter Tryz.func85, Tryz.ntmps85
      go_wp2
      go_ret
      exact ⟨by simp; omega, rfl⟩
  · go_enter Tryz.func85, Tryz.ntmps85
    go_wp2
    go_ret
    exact ⟨by simp; omega, rfl⟩
theorem l1InQ (x lo hi : Int) (w : World) : Calls Tryz.prog 85 #[.int .i64 x, .int .i64 lo, .int .i64 hi] w fun e w' => e = .returned (.bool (decide (lo ≤ x) && decide (x ≤ hi))) ∧ w' = w :=
  (l1In x lo hi w).mono fun _ _ ⟨h1, h2⟩ => ⟨h1, h2.symm⟩
end Go.Proofs.YtaikjkcbgniplaaGreatDoor
