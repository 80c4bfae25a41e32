/- Append of make: zeros behind a row of numbers of the call's own. -/
import Derived.Test.YtaikjkcbgniplaaGreatDoorLib
import Derived.Lib.AppendZerosOnto
namespace Go.Proofs.YtaikjkcbgniplaaGreatDoor
open Go.RowKit
set_option linter.unusedVariables false

theorem zeroCells_int (k : Nat) : (Builtin.zeroCells (Value.int .i64 0).cells k).toList = List.replicate k (Value.int .i64 0) := by
  apply List.ext_getElem
  · simp [Builtin.zeroCells, Value.cells]
  · intro i h1 h2
    simp [Builtin.zeroCells, Value.cells, Nat.mod_one]
section
variable {P : Program}
theorem run_append_room_zeros (w : World) (t tn ty e : TypeId) (i : TypeInfo) (kq kn : IntKind) (ht : P.underlying t = some (.slice e)) (htn : P.underlying tn = some (.int kn)) (hi : P.info? e = some i) (hz : i.zero = some (.int .i64 0)) (hs : i.size = 1) (hby : i.bytes = 8)
    (g sLen sCap : Nat) (cur : Array Value) (hg : w.heap[g]? = some (.cells cur e (0, 0))) (k : Nat) (h0 : 0 < k) (hk : k ≤ 1099511627776) (hroom : sLen + k ≤ sCap) (hfit : sLen + k ≤ cur.size) :
    (Builtin.append_ #[t, tn] ty #[.slice (some ⟨g, 0, none⟩) sLen sCap, .int kq k]).run P w =
      .ok (.slice (some ⟨g, 0, none⟩) (sLen + k) sCap) (w.setRow g (cur.toList.take sLen ++ List.replicate k (Value.int .i64 0) ++ cur.toList.drop (sLen + k)).toArray) := by
  have hst := run_storeCells_at P g sLen e (List.replicate k (Value.int .i64 0)) 0 cur w hg (by simpa using hfit) (by intro u hu; rw [List.mem_replicate] at hu; rw [hu.2]; rfl)
  simp only [Nat.add_zero, List.length_replicate] at hst
  have hw : IntKind.i64.wrap (k : Int) = k := by rw [IntKind.wrap_i64]; omega
  have hneg : ¬ ((k : Int) < 0) := by omega
  have h48i : ¬ (281474976710656 < (k : Int) * 8) := by omega
  have hkn : k ≠ 0 := by omega
  have hzc := zeroCells_int k
  simp [Builtin.append_, run_underlying ht, run_underlying htn, sizeOf, typeInfo, zeroValue, hi, hz, hs, hby, asInt, asIntOf, hw, hneg, h48i, hkn, hroom, Addr.add_lit, hzc, hst]

theorem wpList_appendZ {T e tn : TypeId} (hT : P.underlying T = some (.slice e)) (hI : (P.info? e).map (fun i => (i.zero, i.size, i.bytes)) = some (some (.int .i64 0), 1, 8)) {kn : IntKind} (htn : P.underlying tn = some (.int kn)) {ops : Array Oper} {rest : List Oper} {o : Oper} {a : Act} {Q : Exit → Act → World → Prop} (w : World) (hgd : o.guard = none) (s x : Operand)
    (ho : o.op = .call { callee := .builtin .append, args := #[s, x], argTypes := #[T, tn] }) (B : Nat) (v : Value) (n : Nat) (xs : List Value) (hs : a.eval s = v) (hrow : RowV w B e v n xs)
    (kq : IntKind) (k : Nat) (hx : a.eval x = .int kq k) (h0 : 0 < k) (hk : k ≤ 1099511627776) (hn : n ≤ 1099511627776) (hB : B ≤ w.heap.size)
    (h : ∀ g cap w', RowV w' B e (.slice (some ⟨g, 0, none⟩) (n + k) cap) (n + k) (xs ++ List.replicate k (Value.int .i64 0)) → w.grownBy w' v.ownBlock → Below B w w' → wpList P ops Q rest (a.put o.dst (.slice (some ⟨g, 0, none⟩) (n + k) cap)) w') : wpList P ops Q (o :: rest) a w := by
  obtain ⟨i, hi, hz, hsz, hby⟩ := info_parts hI
  obtain ⟨g, hBg, hown⟩ := hrow.own
  have hnl : n = xs.length := by have := hrow.1.1; omega
  obtain ⟨cap, cur, hv, hg, h1, h2, h3, h4⟩ := id hown
  subst hv hnl
  by_cases hroom : xs.length + k ≤ cap
  · have hr := run_append_room_zeros w T tn o.type e i kq kn hT htn hi hz hsz hby g xs.length cap cur hg k h0 hk hroom (by omega)
    refine Lib.wpList_append_run w hgd s x T tn ho _ _ hs hx _ _ hr ?_
    have hG : w.grownBy (w.setRow g (cur.toList.take xs.length ++ List.replicate k (Value.int .i64 0) ++ cur.toList.drop (xs.length + k)).toArray) (some g) := ⟨rfl, rfl, rfl, by simp, fun k' _ hk' => setRow_other w g k' _ (fun e => hk' (by simp [e]))⟩
    refine h g cap _ ⟨⟨by simp, .inr ⟨g, cap, _, rfl, hBg, setRow_heap w g cur _ e _ hg, hroom, h2, ?_, ?_⟩⟩, by simp⟩ hG ((Below.refl B w).grown hG hB (fun q hq => by simp at hq; omega))
    · simp only [List.size_toArray, List.length_append, List.length_take, List.length_drop, Array.length_toList, List.length_replicate]
      omega
    · simp only [Nat.mul_one]
      rw [h4]
      have hlen : xs.length + k = (xs ++ List.replicate k (Value.int .i64 0)).length := by simp
      rw [hlen]
      exact List.take_left
  · have hold : (Builtin.firstCells i.size xs.length (.slice (some ⟨g, 0, none⟩) xs.length cap)).run P w.drew = .ok xs.toArray w.drew := by
      rw [hsz]
      exact run_firstCells_some (P := P) w.drew 1 xs.length ⟨g, 0, none⟩ xs.length cap xs (by simp) (fun j u hu => by rw [addr_add]; obtain ⟨_, _, _, _, hc, _⟩ := hown.form; exact hc j u hu)
    have hnext : Builtin.nextslicecap (xs.length + k) cap * i.bytes ≤ 281474976710656 := growslice_fits (by omega) (by rw [hby]; omega)
    have hr := Lib.run_append_grow_zeros w T tn o.type e i (.int .i64 0) kq kn hT htn hi hz (some ⟨g, 0, none⟩) xs.length cap xs hold k h0 (by omega) (by omega) (by omega) (by rw [hby]; omega) hnext
    refine Lib.wpList_append_run w hgd s x T tn ho _ _ hs hx _ _ hr ?_
    obtain ⟨C, hC⟩ : ∃ C, grownCap w (xs.length + k) cap e = C := ⟨_, rfl⟩
    have hge : xs.length + k ≤ C := by rw [← hC]; exact grownCap_ge w _ _ _
    have hcm : C ≤ maxLen := by rw [← hC]; exact grownCap_le_maxLen w _ _ _ (by unfold maxLen; omega)
    rw [hC]
    have hG : w.grownBy (w.drew.alloc (.cells (xs.toArray ++ Builtin.zeroCells (Value.int .i64 0).cells k ++ Builtin.zeroCells (Value.int .i64 0).cells (C - (xs.length + k))) e)) (some g) := ⟨rfl, rfl, rfl, by simp, fun k' hk' _ => _root_.Go.heap_alloc_old w.drew _ hk'⟩
    refine h w.heap.size C _ ⟨⟨by simp, .inr ⟨w.heap.size, C, _, rfl, hB, heap_alloc_new w.drew _, hge, hcm, ?_, ?_⟩⟩, by simp⟩ hG ((Below.refl B w).grown hG hB (fun q hq => by simp at hq; omega))
    · simp only [Array.size_append, List.size_toArray, size_zeroCells]
      simp only [Value.cells]
      simp
      omega
    · simp only [Array.toList_append, zeroCells_int, Nat.mul_one]
      have hlen : xs.length + k = (xs ++ List.replicate k (Value.int .i64 0)).length := by simp
      rw [hlen]
      exact List.take_left
end
end Go.Proofs.YtaikjkcbgniplaaGreatDoor
