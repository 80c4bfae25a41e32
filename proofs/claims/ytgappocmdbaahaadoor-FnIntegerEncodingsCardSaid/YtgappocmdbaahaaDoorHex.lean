/- EncodeHex of the program and of the reference: both give two digits for each byte, for every string of at most 1048576 bytes. -/
import Derived.Test.YtgappocmdbaahaaDoorLib
namespace Go.Proofs.YtgappocmdbaahaaDoor
open Go.RowKit

def hexTab : Array UInt8 := #[48, 49, 50, 51, 52, 53, 54, 55, 56, 57, 97, 98, 99, 100, 101, 102]
def hx (n : Nat) : UInt8 := hexTab.getD n 0
theorem hx_get (n : Nat) (h : n < 16) : ({ data := hexTab } : ByteArray)[n]'h = hx n := by
  simp only [hx, Array.getD]
  rw [dif_pos (by simpa [hexTab] using h)]
  rfl
theorem hx_val (n : Nat) (h : n < 16) : Value.int .u8 ((({ data := #[48, 49, 50, 51, 52, 53, 54, 55, 56, 57, 97, 98, 99, 100, 101, 102] } : ByteArray)[n]'h).toNat : Int) = bv (hx n) := by
  rw [← hx_get n h]; rfl
def hexL (l : List UInt8) : List UInt8 := l.flatMap fun b => [hx (b.toNat / 16), hx (b.toNat % 16)]
theorem hexL_length (l : List UInt8) : (hexL l).length = 2 * l.length := by
  induction l with
  | nil => rfl
  | cons a l ih => simp only [hexL, List.flatMap_cons, List.length_append, List.length_cons, List.length_nil] at ih ⊢; omega
theorem hexL_snoc (l : List UInt8) (b : UInt8) : hexL (l ++ [b]) = hexL l ++ [hx (b.toNat / 16), hx (b.toNat % 16)] := by
  simp [hexL, List.flatMap_append]

theorem Tryd.infoU8 : (Tryd.prog.info? 5).map (fun i => (i.zero, i.size, i.bytes)) = some (some (.int .u8 0), 1, 1) := by kernel_rfl

set_option maxRecDepth 100000 in
set_option maxHeartbeats 400000 in
theorem implEncodeHex (s : ByteArray) (hs : s.size ≤ 1048576) (w : World) :
    Calls Tryd.prog 30 #[.string s] w fun e w' => e = .returned (.string ⟨(hexL s.data.toList).toArray⟩) ∧ Below w.heap.size w w' := by
  obtain ⟨i0, hi, hz0, hz1, hz2⟩ := info_parts Tryd.infoU8
  go_enter Tryd.func30, Tryd.ntmps30
  go_wp2_with fail
  go_loopw [3, 8] (fun v i wr => ∃ k : Nat, k ≤ s.size ∧ i = .int .i64 k ∧ wr.ownsRow w.heap.size 5 1 v (hexL (s.data.toList.take k)).length ((hexL (s.data.toList.take k)).map bv) ∧ Below w.heap.size w wr)
    (fun _ i _ => s.size - (intOf i).toNat)
  case atStart => exact ⟨0, Nat.zero_le _, rfl, by simpa [hexL] using World.ownsRow_made w #[] 0 (Nat.le_refl _) (Nat.zero_le _) rfl, (Below.refl _ _).alloc (Nat.le_refl _) _⟩
  case round =>
    obtain ⟨k, hk, rfl, hown, hbel⟩ := hrel
    by_cases hlt' : k < s.size
    · have hb1 : s[k].toNat < 256 := s[k].toNat_lt
      have hlen : (hexL (s.data.toList.take k)).length ≤ 2 * k := by rw [hexL_length, List.length_take]; simp; omega
      have hk0 : (0 : Int) ≤ (k : Int) := by omega
      have hk1 : (k : Int) < (s.size : Int) := by omega
      have eand : bits .and .u8 (s[k].toNat : Int) 15 = (s[k].toNat : Int) % 16 := by rw [show (15 : Int) = ((15 : Nat) : Int) from rfl, u8_and_nat _ _ (by omega) (by omega), show (15 : Nat) = 2 ^ 4 - 1 from rfl, Nat.and_two_pow_sub_one_eq_mod]; rfl
      go_wp2_with fail
      go_region_held3 (fun _ => True) (trivial) ((first | ((refine step_append_lies _ (by rfl) _ _ _ (by rfl) w.heap.size 5 i0 _ 1 1 Tryd.underlying37 hi hz0 hz1 hz2 rfl (by omega) u3 _ _ (by rfl) ((hown.alloc _).drew) ⟨wr.heap.size, 0, none⟩ 2 2 [_, _] (by rfl) (by rfl) (World.news_of_block (cs := #[_, _]) (t := 5) (fr := (0, 0)) (heap_alloc_new wr _)) (by simp [Value.oneCell']) (by omega) (by unfold maxLen; omega) (by omega) (by have := hbel.size; simp; omega) (wr.heap.size + 1) (by simp) ?_); intro gg cap w1 hown1 hgrow hat hlt)))
      all_goals
        have et1 : ((s[k].toNat : Int) / 16).toNat = s[k].toNat / 16 := rfl
        have et2 : ((s[k].toNat : Int) % 16).toNat = s[k].toNat % 16 := rfl
        simp only [hx_val, et1, et2] at hown1
        clear et1 et2 eand
        go_wp2_with fail
        go_roundw
        case rel =>
          have hsn := hexL_snoc (s.data.toList.take k) s[k]
          rw [← take_succ_get s k hlt'] at hsn
          refine ⟨k + 1, by omega, by go_num, ?_, ((hbel.alloc hbel.size _).drew).grown hgrow (by have := hbel.size; simp; omega) (fun q hq => (hown.lt q hq).1)⟩
          rw [hsn]
          simpa using hown1
        case measure => simp [intOf]; omega
    · obtain rfl : k = s.size := by omega
      rw [List.take_of_length_le (by simp)] at hown
      have hcv := run_string_own (P := Tryd.prog) (src := 37) (dst := 9) Tryd.underlying37 Tryd.underlying5 Tryd.underlying9 hown
      go_wp2_with fail
      go_ret
      exact ⟨rfl, hbel⟩
end Go.Proofs.YtgappocmdbaahaaDoor
