/- DecodeHex of the program and of the reference: what they answer, for every string of at most 1048576 bytes. -/
import Derived.Test.YtgappocmdbaahaaDoorHex
namespace Go.Proofs.YtgappocmdbaahaaDoor
open Go.RowKit

def unhx (b : Nat) : Int := if 48 ≤ b ∧ b ≤ 57 then (b : Int) - 48 else if 97 ≤ b ∧ b ≤ 102 then (b : Int) - 87 else -1
theorem unhx_bd (b : Nat) : -1 ≤ unhx b ∧ unhx b ≤ 15 := by unfold unhx; repeat (first | omega | split)
theorem unhx_hx : ∀ k : Fin 16, unhx (hx k.val).toNat = k.val := by decide +kernel
theorem unhx_none : ∀ b : Fin 256, (∀ k : Fin 16, (hx k.val).toNat ≠ b.val) → unhx b.val = -1 := by decide +kernel
def unhexL : List UInt8 → Option (List UInt8)
  | a :: b :: l => if unhx a.toNat < 0 ∨ unhx b.toNat < 0 then none else (unhexL l).map (UInt8.ofNat (16 * unhx a.toNat + unhx b.toNat).toNat :: ·)
  | [] => some []
  | [_] => none
def hexRes : Option (List UInt8) → Value
  | some l => .tuple #[.string ⟨l.toArray⟩, .bool true]
  | none => .tuple #[.string ⟨#[]⟩, .bool false]
theorem drop_two (s : ByteArray) (k : Nat) (h : k + 1 < s.size) : s.data.toList.drop k = s[k] :: s[k + 1] :: s.data.toList.drop (k + 2) := by
  rw [List.drop_eq_getElem_cons (by simpa using (show k < s.size by omega)), List.drop_eq_getElem_cons (by simpa using h)]; rfl

theorem Tryd.infoU8u : (Tryd.prog.info? 5).map (fun i => (i.zero, i.size, i.bytes)) = some (some (.int .u8 0), 1, 1) := by kernel_rfl

set_option maxHeartbeats 400000 in
theorem hexValue (n : Nat) (h1 : n < 256) (w : World) :
    Calls Tryd.prog 49 #[.int .u8 n] w fun e w' => e = .returned (.int .i64 (unhx n)) ∧ w = w' := by
  by_cases c1 : 48 ≤ n ∧ n ≤ 57
  · go_enter Tryd.func49, Tryd.ntmps49
    go_wp2_with fail
    go_ret
    exact ⟨ret_int (by rw [unhx, if_pos c1]), rfl⟩
  · by_cases c2 : 97 ≤ n ∧ n ≤ 102
    · have d1 : decide ((48 : Int) ≤ n) = true := by simp; omega
      have d2 : decide ((n : Int) ≤ 57) = false := by simp; omega
      go_enter Tryd.func49, Tryd.ntmps49
      go_wp2_with fail
      go_ret
      exact ⟨ret_int (by rw [unhx, if_neg c1, if_pos c2]; omega), rfl⟩
    · by_cases c3 : n < 48
      · have d1 : decide ((48 : Int) ≤ n) = false := by simp; omega
        have d2 : decide ((97 : Int) ≤ n) = false := by simp; omega
        go_enter Tryd.func49, Tryd.ntmps49
        go_wp2_with fail
        go_ret
        exact ⟨ret_int (by rw [unhx, if_neg c1, if_neg c2]), rfl⟩
      · have d1 : decide ((48 : Int) ≤ n) = true := by simp; omega
        have d2 : decide ((n : Int) ≤ 57) = false := by simp; omega
        by_cases c4 : n < 97
        · have d3 : decide ((97 : Int) ≤ n) = false := by simp; omega
          go_enter Tryd.func49, Tryd.ntmps49
          go_wp2_with fail
          go_ret
          exact ⟨ret_int (by rw [unhx, if_neg c1, if_neg c2]), rfl⟩
        · have d3 : decide ((97 : Int) ≤ n) = true := by simp; omega
          have d4 : decide ((n : Int) ≤ 102) = false := by simp; omega
          go_enter Tryd.func49, Tryd.ntmps49
          go_wp2_with fail
          go_ret
          exact ⟨ret_int (by rw [unhx, if_neg c1, if_neg c2]), rfl⟩


set_option maxHeartbeats 400000 in
theorem implDecodeHexOdd (s : ByteArray) (h : s.size % 2 = 1) (w : World) :
    Calls Tryd.prog 31 #[.string s] w fun e w' => e = .returned (hexRes none) ∧ Below w.heap.size w w' := by
  have ho : ((s.size : Int) % 2 != 0) = true := by
    rw [show ((s.size : Int) % 2) = ((s.size % 2 : Nat) : Int) from rfl, h]; rfl
  clear h
  go_enter Tryd.func31, Tryd.ntmps31
  go_wp2_with fail
  go_ret2
  exact ⟨rfl, Below.refl _ _⟩
set_option maxHeartbeats 1000000 in
theorem implDecodeHex (s : ByteArray) (h : s.size % 2 = 0) (hs : s.size ≤ 1048576) (w : World) :
    Calls Tryd.prog 31 #[.string s] w fun e w' => e = .returned (hexRes (unhexL s.data.toList)) ∧ Below w.heap.size w w' := by
  obtain ⟨i0, hi, hz0, hz1, hz2⟩ := info_parts Tryd.infoU8u
  have ho : ((s.size : Int) % 2 != 0) = false := by
    rw [show ((s.size : Int) % 2) = ((s.size % 2 : Nat) : Int) from rfl, h]; rfl
  have HE := Lib.hid h
  clear h
  go_enter Tryd.func31, Tryd.ntmps31
  go_wp2_with fail
  go_loopw [4, 5] (fun v i wr => ∃ (k : Nat) (l : List UInt8), k ≤ s.size ∧ i = .int .i64 k ∧ wr.ownsRow w.heap.size 5 1 v l.length (l.map bv) ∧ Below w.heap.size w wr ∧ Hid (k = 2 * l.length ∧ (unhexL (s.data.toList.drop k)).map (l ++ ·) = unhexL s.data.toList))
    (fun _ i _ => s.size - (intOf i).toNat)
  case atStart => exact ⟨0, [], Nat.zero_le _, rfl, by simpa using World.ownsRow_made w #[] 0 (Nat.le_refl _) (Nat.zero_le _) rfl, (Below.refl _ _).alloc (Nat.le_refl _) _, rfl, by simp⟩
  case round =>
    obtain ⟨k, l, hk, rfl, hown, hbel, HL⟩ := hrel
    by_cases hlt' : k < s.size
    · have hlt2 : k + 1 < s.size := by have := HE.out; have := HL.out.1; omega
      have hb1 : s[k].toNat < 256 := s[k].toNat_lt
      have hb2 : s[k + 1].toNat < 256 := s[k + 1].toNat_lt
      have ha := unhx_bd s[k].toNat
      have hb := unhx_bd s[k + 1].toNat
      have hlen : l.length ≤ k := by have := HL.out.1; omega
      have hk0 : (0 : Int) ≤ (k : Int) := by omega
      have hk1 : (k : Int) < (s.size : Int) := by omega
      have hk2 : (k : Int) + 1 < (s.size : Int) := by omega
      have hk3 : (0 : Int) ≤ (k : Int) + 1 := by omega
      have hk4 : IntKind.i64.wrap ((k : Int) + 1) = (k : Int) + 1 := IntWalk.i64_in _ (by omega)
      have hk5 : ((k : Int) + 1).toNat = k + 1 := by omega
      by_cases na : unhx s[k].toNat < 0
      · have d1 : decide (unhx s[k].toNat < 0) = true := by simpa using na
        go_wp2_with fail
        go_region_held3 (fun _ => True) (trivial) ((first | (go_at_call 49; go_must (refine (hexValue _ ?_ _).mono ?_; omega; rintro e w1 ⟨rfl, rfl⟩))))
        all_goals
          go_wp2_with fail
          go_ret2
          exact ⟨by have h := HL.out.2; rw [drop_two s k hlt2, unhexL, if_pos (.inl na)] at h; rw [← h]; rfl, hbel.drew⟩
      · have d1 : decide (unhx s[k].toNat < 0) = false := by simpa using na
        by_cases nb : unhx s[k + 1].toNat < 0
        · have d2 : decide (unhx s[k + 1].toNat < 0) = true := by simpa using nb
          go_wp2_with fail
          go_region_held3 (fun _ => True) (trivial) ((first | (go_at_call 49; go_must (refine (hexValue _ ?_ _).mono ?_; omega; rintro e w1 ⟨rfl, rfl⟩))))
          all_goals
            go_wp2_with fail
            go_ret2
            exact ⟨by have h := HL.out.2; rw [drop_two s k hlt2, unhexL, if_pos (.inr nb)] at h; rw [← h]; rfl, hbel.drew⟩
        · have d2 : decide (unhx s[k + 1].toNat < 0) = false := by simpa using nb
          go_wp2_with fail
          go_region_held3 (fun _ => True) (trivial) ((first | (go_at_call 49; go_must (refine (hexValue _ ?_ _).mono ?_; omega; rintro e w1 ⟨rfl, rfl⟩))))
          all_goals
            go_wp2_with (at_builtin; refine wpList_append_lies _ rfl _ _ _ rfl w.heap.size 5 i0 _ 1 1 Tryd.underlying37 hi hz0 hz1 hz2 rfl (by omega) u4 _ _ rfl ((hown.alloc _).drew) ⟨wr.heap.size, 0, none⟩ 1 1 [_] rfl rfl (World.news_of_block (cs := #[_]) (t := 5) (fr := (0, 0)) (heap_alloc_new wr _)) (by simp [Value.oneCell']) (by omega) (by unfold maxLen; omega) (by omega) (by have := hbel.size; simp; omega) (wr.heap.size + 1) (by simp) ?_; intro gg cap w1 hown1 hgrow hat hlt)
            go_roundw
            case rel =>
              refine ⟨k + 2, l ++ [UInt8.ofNat (16 * unhx s[k].toNat + unhx s[k + 1].toNat).toNat], by omega, by go_num, ?_, ?_, ?_, ?_⟩
              · have hx := bv_ofNat (16 * unhx s[k].toNat + unhx s[k + 1].toNat).toNat (by omega)
                rw [Int.toNat_of_nonneg (by omega)] at hx
                rw [List.map_append, List.map_singleton, ← hx]
                simpa using hown1
              · exact ((hbel.alloc hbel.size _).drew).grown hgrow (by have := hbel.size; simp; omega) (fun q hq => (hown.lt q hq).1)
              · have := HL.out.1; simp; omega
              · have h := HL.out.2
                rw [drop_two s k hlt2, unhexL, if_neg (by omega)] at h
                rw [← h]
                simp [Option.map_map, Function.comp_def]
            case measure => simp [intOf]; omega
    · obtain rfl : k = s.size := by omega
      have hu : unhexL s.data.toList = some l := by
        have h := HL.out.2
        rw [List.drop_of_length_le (by simp)] at h
        rw [← h]; simp [unhexL]
      have HU := Lib.hid hu
      clear hu
      have hcv := run_string_own (P := Tryd.prog) (src := 37) (dst := 9) Tryd.underlying37 Tryd.underlying5 Tryd.underlying9 hown
      go_wp2_with fail
      go_ret2
      exact ⟨by rw [HU.out]; rfl, hbel⟩
end Go.Proofs.YtgappocmdbaahaaDoor
