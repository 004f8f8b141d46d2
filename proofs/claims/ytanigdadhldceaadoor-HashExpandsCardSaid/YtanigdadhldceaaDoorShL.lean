/- Zeros appended to bytes of the law's own; the plain laws of tags and of what is expanded. -/
import Derived.WalkKit
import Derived.OwnWalk
import Derived.Laws.AppendOwn
import Derived.Lib.AppendZeros
import Derived.Lib.AppendZerosOnto
import Derived.Handy
import Derived.Lib.Hide
import Derived.Test.YtanigdadhldceaaDoorRows
import Derived.Test.YtanigdadhldceaaDoorAid
import Derived.Test.YtanigdadhldceaaDoorPlainSh
import Derived.Test.YtanigdadhldceaaDoorBy
import Derived.Test.YtanigdadhldceaaDoorShG
import Derived.Test.YtanigdadhldceaaDoorShH
import Derived.Test.YtanigdadhldceaaDoorShI
namespace Sh
theorem tag_key (k k' t : List Nat) (h : key k = key k') : tag k t = tag k' t := by unfold tag; rw [h]
theorem tag_mask (k k' t : List Nat) (h : ∀ c, mask (key k) c = mask (key k') c) : tag k t = tag k' t := by unfold tag; rw [h, h]
/-- A long key's tag is its digest's. -/
theorem tag_long (k t : List Nat) (h : 64 < k.length) : tag k t = tag (sum k) t := by
  refine tag_key _ _ _ ?_
  have h1 : key k = sum k := by unfold key; rw [if_pos h]
  have h2 : key (sum k) = sum k := by unfold key; rw [if_neg (by rw [sum_len]; decide)]
  rw [h1, h2]
/-- A key filled up. -/
theorem tag_fill (k t : List Nat) (h : k.length ≤ 64) : tag k t = tag (k ++ List.replicate (64 - k.length) 0) t := by
  have h1 : key k = k := by unfold key; rw [if_neg (by omega)]
  have h2 : key (k ++ List.replicate (64 - k.length) 0) = k ++ List.replicate (64 - k.length) 0 := by unfold key; rw [if_neg (by simp; omega)]
  refine tag_mask _ _ _ fun c => ?_
  rw [h1, h2]
  unfold mask
  apply List.map_congr_left
  intro i hi
  congr 1
  rw [List.getD_eq_getElem?_getD, List.getD_eq_getElem?_getD, List.getElem?_append]
  by_cases hk : i < k.length
  · rw [if_pos hk]
  · rw [if_neg hk, List.getElem?_eq_none (by omega), List.getElem?_replicate]
    split <;> rfl
theorem exK_mono (s info : List Nat) (k : Nat) : ∀ j, ∃ r, (exK s info (k + j)).2 = (exK s info k).2 ++ r
  | 0 => ⟨[], by simp⟩
  | j + 1 => by
    obtain ⟨r, hr⟩ := exK_mono s info k j
    refine ⟨r ++ tag s ((exK s info (k + j)).1 ++ info ++ [k + j + 1]), ?_⟩
    show (exK s info (k + j)).2 ++ _ = _
    rw [hr, List.append_assoc]; rfl
/-- What is expanded to fewer bytes. -/
theorem expand_take (s info : List Nat) (n m : Nat) (h : n ≤ m) (hl : ∀ k, (exK s info k).2.length = 32 * k) : (expand s info m).take n = expand s info n := by
  unfold expand
  obtain ⟨r, hr⟩ := exK_mono s info ((n + 31) / 32) ((m + 31) / 32 - (n + 31) / 32)
  rw [show (n + 31) / 32 + ((m + 31) / 32 - (n + 31) / 32) = (m + 31) / 32 by omega] at hr
  rw [hr, List.take_take, Nat.min_eq_left h, List.take_append_of_le_length (by rw [hl]; omega)]
theorem expand_len (s info : List Nat) (n : Nat) (hl : ∀ k, (exK s info k).2.length = 32 * k) : (expand s info n).length = n := by
  unfold expand; rw [List.length_take, hl]; omega
end Sh
namespace Go.Proofs.YtanigdadhldceaaDoor
open Go Go.RowKit
set_option linter.unusedVariables false
set_option linter.unusedSimpArgs false

theorem zeroCells_b8 (k : Nat) : (Builtin.zeroCells (Value.int .u8 0).cells k).toList = (List.replicate k 0).map b8 := by
  show (Builtin.zeroCells #[Value.int .u8 0] k).toList = _
  rw [List.map_replicate]
  apply List.ext_getElem?
  intro j
  rw [Array.getElem?_toList, List.getElem?_replicate]
  unfold Builtin.zeroCells
  by_cases hj : j < k
  · rw [if_pos hj]
    simp [hj, Nat.mod_one]
    rfl
  · rw [if_neg hj]
    simp
    omega
theorem own_zeros (w : World) (ty : TypeId) {base n : Nat} {v : Value} {l : List Nat} (hown : w.ownsRow base 5 1 v n (l.map b8)) (k : Nat) (hm : n + k ≤ 1000000) (hbase : base ≤ w.heap.size) :
    ∃ v' w', (Builtin.append_ #[22, 3] ty #[v, .int .i64 (k : Int)]).run Tryd.prog w = .ok v' w' ∧ w'.ownsRow base 5 1 v' (n + k) ((l ++ List.replicate k 0).map b8) ∧ w.grownBy w' v.ownBlock := by
  obtain ⟨i0, hi, hz0, hz1, hz2⟩ := info_parts info8
  have hu := Tryd.underlying22
  have hui := Tryd.underlying3
  have hln := hown.1
  simp only [List.length_map, Nat.mul_one] at hln
  have hw : IntKind.i64.wrap (k : Int) = k := by rw [IntKind.wrap_i64]; omega
  have hneg : ¬ ((k : Int) < 0) := by omega
  have h48 : ¬ (281474976710656 < (k : Int)) := by omega
  by_cases hk : k = 0
  · subst hk
    refine ⟨v, w, ?_, by simpa using hown, ⟨rfl, rfl, rfl, Nat.le_refl _, fun _ _ _ => rfl⟩⟩
    rcases hown.2 with ⟨rfl, h0⟩ | ⟨g, cap, cur, rfl, hb, hg, hn, hcc, hs, ht⟩
    · simp [Builtin.append_, run_underlying hu, run_underlying hui, sizeOf, typeInfo, hi, hz2, asInt, asIntOf, storeCells, IntKind.wrap_i64]
    · simp [Builtin.append_, run_underlying hu, run_underlying hui, sizeOf, typeInfo, hi, hz2, asInt, asIntOf, storeCells, hn, IntKind.wrap_i64]
  · rcases hown.2 with ⟨rfl, h0⟩ | ⟨g, cap, cur, rfl, hb, hg, hn, hcc, hs, ht⟩
    · obtain rfl : l = [] := List.eq_nil_of_length_eq_zero (by omega)
      subst h0
      have hr := Lib.run_append_nil_zeros (P := Tryd.prog) w 22 3 ty 5 i0 (.int .u8 0) .i64 .i64 hu hui hi hz0 k (by omega) (by omega) (by omega) (by rw [hz2]; omega)
      have hge := grownCap_ge w k 0 5
      have hmax := grownCap_le_maxLen w k 0 5 (by unfold maxLen; omega)
      rw [Nat.zero_add]
      refine ⟨_, _, hr, ⟨by simp, .inr ⟨w.heap.size, _, _, rfl, hbase, heap_alloc_new w.drew _, by omega, hmax, ?_, ?_⟩⟩, ⟨rfl, rfl, rfl, by simp, fun j hj _ => Below.heap_alloc w.drew _ j hj⟩⟩
      · rw [Array.size_append, size_zeroCells, size_zeroCells]
        show k * 1 + (_ - k) * 1 = _ * 1
        omega
      · rw [Array.toList_append, zeroCells_b8, List.take_append_of_le_length (by simp), List.take_of_length_le (by simp), List.nil_append]
    · have hcur : (cur.toList.take n).length = n := by rw [List.length_take, Array.length_toList, hs]; omega
      simp only [Nat.mul_one] at ht
      by_cases hroom : n + k ≤ cap
      · obtain ⟨Z, hZ⟩ : ∃ Z, Builtin.zeroCells (Value.int .u8 0).cells k = Z := ⟨_, rfl⟩
        have hZl : Z.toList = (List.replicate k 0).map b8 := by rw [← hZ]; exact zeroCells_b8 k
        have hZs : Z.size = k := by rw [← Array.length_toList, hZl, List.length_map, List.length_replicate]
        have hst := run_storeCells_at Tryd.prog g n 5 Z.toList 0 cur w hg (by simp [hZs]; omega) (fun u hu => by
          rw [hZl] at hu
          obtain ⟨x, _, rfl⟩ := List.mem_map.1 hu
          rfl)
        simp only [Nat.add_zero] at hst
        refine ⟨.slice (some ⟨g, 0, none⟩) (n + k) cap, w.setRow g (cur.toList.take n ++ Z.toList ++ cur.toList.drop (n + Z.toList.length)).toArray, ?_, ⟨by simp [hln], .inr ⟨g, cap, _, rfl, hb, setRow_heap w g cur _ 5 _ hg, hroom, hcc, ?_, ?_⟩⟩, ⟨rfl, rfl, rfl, by simp, fun j _ hj => setRow_other w g j _ (fun e => hj (by simp [Value.ownBlock, e]))⟩⟩
        · simp [Builtin.append_, run_underlying hu, run_underlying hui, sizeOf, typeInfo, zeroValue, hi, hz0, hz1, hz2, asInt, asIntOf, hw, hneg, h48, hk, hroom, Addr.add_lit, hZ]
          simp only [List.append_assoc, Array.length_toList] at hst
          rw [hst]
          rfl
        · simp only [List.size_toArray, List.length_append, hcur, List.length_drop, Array.length_toList, hZs]
          omega
        · rw [ht, hZl]
          simp only [Nat.mul_one]
          rw [List.take_append_of_le_length (by simp [hln]), ← List.map_append, List.take_of_length_le (by simp [hln])]
      · have hold : (Builtin.firstCells i0.size n (.slice (some ⟨g, 0, none⟩) n cap)).run Tryd.prog w.drew = .ok (l.map b8).toArray w.drew := by
          rw [hz1]
          refine run_firstCells_some w.drew 1 n ⟨g, 0, none⟩ n cap (l.map b8) (by simp [hln]) (fun j u hu' => ?_)
          have hj : j < n := by have := (List.getElem?_eq_some_iff.1 hu').1; simpa [hln] using this
          rw [add_mid, Nat.zero_add, show w.drew.cell? ⟨g, j, none⟩ = cur[j]? from cell_of_row w g j cur _ _ hg]
          have h3 : (cur.toList.take n)[j]? = cur[j]? := by rw [List.getElem?_take]; simp [hj]
          rw [← h3, ht]; exact hu'
        have hcl : cap ≤ n + k := by omega
        have hnx : Builtin.nextslicecap (n + k) cap * i0.bytes ≤ 281474976710656 := by
          rw [hz2, Nat.mul_one]
          have := nextslicecap_le (need := n + k) (old := cap) (by omega)
          omega
        have hr := Lib.run_append_grow_zeros (P := Tryd.prog) w 22 3 ty 5 i0 (.int .u8 0) .i64 .i64 hu hui hi hz0 (some ⟨g, 0, none⟩) n cap (l.map b8) hold k (by omega) (by omega) (by omega) (by omega) (by rw [hz2]; omega) hnx
        have hge := grownCap_ge w (n + k) cap 5
        have hmax := grownCap_le_maxLen w (n + k) cap 5 (by unfold maxLen; omega)
        refine ⟨_, _, hr, ⟨by simp [hln], .inr ⟨w.heap.size, _, _, rfl, hbase, heap_alloc_new w.drew _, hge, hmax, ?_, ?_⟩⟩, ⟨rfl, rfl, rfl, by simp, fun j hj _ => Below.heap_alloc w.drew _ j hj⟩⟩
        · rw [Array.size_append, Array.size_append, size_zeroCells, size_zeroCells]
          show (l.map b8).toArray.size + k * 1 + (_ - (n + k)) * 1 = _ * 1
          simp only [List.size_toArray, List.length_map, hln]
          omega
        · rw [Array.toList_append, Array.toList_append, zeroCells_b8, List.map_append]
          rw [List.take_append_of_le_length (by simp [hln]), List.take_of_length_le (by simp [hln])]
end Go.Proofs.YtanigdadhldceaaDoor
