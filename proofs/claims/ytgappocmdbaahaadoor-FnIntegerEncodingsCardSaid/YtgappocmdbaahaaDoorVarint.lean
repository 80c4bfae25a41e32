/- EncodeVarint of the program and of the reference: what they answer, for every number. -/
import Derived.Test.YtgappocmdbaahaaDoorLib
namespace Go.Proofs.YtgappocmdbaahaaDoor
open Go.RowKit

def varL (n : Nat) : List UInt8 := if n < 128 then [UInt8.ofNat n] else UInt8.ofNat (n % 128 + 128) :: varL (n / 128)
termination_by n
decreasing_by omega
theorem varL_small (n : Nat) (h : n < 128) : varL n = [UInt8.ofNat n] := by rw [varL, if_pos h]
theorem varL_big (n : Nat) (h : 128 ≤ n) : varL n = UInt8.ofNat (n % 128 + 128) :: varL (n / 128) := by rw [varL, if_neg (by omega)]

theorem Tryd.infoU8c : (Tryd.prog.info? 5).map (fun i => (i.zero, i.size, i.bytes)) = some (some (.int .u8 0), 1, 1) := by kernel_rfl

set_option maxRecDepth 100000 in
set_option maxHeartbeats 400000 in
theorem implEncodeVarint (n : Nat) (hn : n ≤ 562949953421311) (w : World) :
    Calls Tryd.prog 24 #[.int .i64 n] w fun e w' => e = .returned (.string ⟨(varL n).toArray⟩) ∧ Below w.heap.size w w' := by
  obtain ⟨i0, hi, hz0, hz1, hz2⟩ := info_parts Tryd.infoU8c
  have d1 : decide ((n : Int) < 0) = false := by simp
  have d2 : decide ((562949953421311 : Int) < n) = false := by simp; omega
  go_enter Tryd.func24, Tryd.ntmps24
  go_wp2_with fail
  go_loopw [0, 3] (fun x v wr => ∃ (m : Nat) (l : List UInt8), x = .int .i64 m ∧ l.length * 100 + m ≤ n ∧ wr.ownsRow w.heap.size 5 1 v l.length (l.map bv) ∧ Below w.heap.size w wr ∧ l ++ varL m = varL n)
    (fun x _ _ => (intOf x).toNat)
  case atStart => exact ⟨n, [], rfl, by simp, by simpa using World.ownsRow_made w #[] 0 (Nat.le_refl _) (Nat.zero_le _) rfl, (Below.refl _ _).alloc (Nat.le_refl _) _, rfl⟩
  case round =>
    obtain ⟨m, l, rfl, hm, hown, hbel, hvar⟩ := hrel
    have HV := Lib.hid hvar
    clear hvar
    by_cases hlt' : m < 128
    · go_wp2_with (at_builtin; refine wpList_append_lies _ rfl _ _ _ rfl w.heap.size 5 i0 _ 1 1 Tryd.underlying37 hi hz0 hz1 hz2 rfl (by omega) u3 _ _ rfl (hown.alloc _) ⟨wr.heap.size, 0, none⟩ 1 1 [_] rfl rfl (World.news_of_block (cs := #[_]) (t := 5) (fr := (0, 0)) (heap_alloc_new wr _)) (by simp [Value.oneCell']) (by omega) (by unfold maxLen; omega) (by omega) (by have := hbel.size; simp; omega) (wr.heap.size + 1) (by simp) ?_; intro gg cap w1 hown1 hgrow hat hlt; have hcv := run_string_row (P := Tryd.prog) (src := 37) (dst := 9) (l := l ++ [UInt8.ofNat m]) Tryd.underlying37 Tryd.underlying5 Tryd.underlying9 (by rw [List.map_append, List.map_singleton, ← bv_ofNat m (by omega)]; exact hown1))
      go_ret
      have hv := HV.out
      rw [varL_small m hlt'] at hv
      exact ⟨by rw [hv]; rfl, (hbel.alloc hbel.size _).grown hgrow (by have := hbel.size; simp; omega) (fun q hq => (hown.lt q hq).1)⟩
    · go_wp2_with (at_builtin; refine wpList_append_lies _ rfl _ _ _ rfl w.heap.size 5 i0 _ 1 1 Tryd.underlying37 hi hz0 hz1 hz2 rfl (by omega) u3 _ _ rfl (hown.alloc _) ⟨wr.heap.size, 0, none⟩ 1 1 [_] rfl rfl (World.news_of_block (cs := #[_]) (t := 5) (fr := (0, 0)) (heap_alloc_new wr _)) (by simp [Value.oneCell']) (by omega) (by unfold maxLen; omega) (by omega) (by have := hbel.size; simp; omega) (wr.heap.size + 1) (by simp) ?_; intro gg cap w1 hown1 hgrow hat hlt)
      go_roundw
      case rel =>
        have hv := HV.out
        rw [varL_big m (by omega)] at hv
        refine ⟨m / 128, l ++ [UInt8.ofNat (m % 128 + 128)], by go_num, by simp; omega, ?_, (hbel.alloc hbel.size _).grown hgrow (by have := hbel.size; simp; omega) (fun q hq => (hown.lt q hq).1), by simpa using hv⟩
        have hx := bv_ofNat (m % 128 + 128) (by omega)
        rw [List.map_append, List.map_singleton, ← hx]
        simpa using hown1
      case measure => simp [intOf]; omega
set_option maxRecDepth 100000 in
set_option maxHeartbeats 400000 in
theorem implEncodeVarintNo (n : Int) (hn : n < 0 ∨ 562949953421311 < n) (w : World) :
    Calls Tryd.prog 24 #[.int .i64 n] w fun e w' => e = .returned (.string ⟨#[]⟩) ∧ w = w' := by
  by_cases c : n < 0
  · go_enter Tryd.func24, Tryd.ntmps24
    go_wp2_with fail
    go_ret
    exact ⟨rfl, rfl⟩
  · have c2 : 562949953421311 < n := by omega
    go_enter Tryd.func24, Tryd.ntmps24
    go_wp2_with fail
    go_ret
    exact ⟨rfl, rfl⟩
end Go.Proofs.YtgappocmdbaahaaDoor
