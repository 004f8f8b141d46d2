/- Joined: Zeros appended to bytes of the law's own; the plain laws of tags and of what is expanded. | Layer 7's Sum of the document, walked. | Layer 7's Tag of the document, walked. | Layer 7's Expand and Label of the document, walked. | Layer 7's Label of the document, walked; what both Expands and both Labels hand back, in one word. | Layer 7's alive, walked. -/
import Derived.WalkKit
import Derived.OwnWalk
import Derived.Laws.AppendOwn
import Derived.Lib.AppendZeros
import Derived.Lib.AppendZerosOnto
import Derived.Handy
import Derived.Lib.Hide
import Derived.Test.YtabfcaidioohfaaDoorRows
import Derived.Test.YtabfcaidioohfaaDoorZp
import Derived.Test.YtabfcaidioohfaaDoorZt
import Derived.Test.YtabfcaidioohfaaDoorZs
import Derived.WalkSpells
import Derived.WalkLawsBesides
import Derived.BigQuiet
import Derived.Deep.QuietTactic
import Derived.Laws.IdiomStrings
import Derived.Lib.SlBytesConst
import Derived.StillTailTactics
import Derived.Deep.RegionHeld3
import Derived.Deep.WholeRow
import Derived.Stop.BytesEq
import Derived.IntWalk
namespace Sh
open List (getElem?_toArray getElem?_cons_zero getElem?_cons_succ setIfInBounds_toArray set_cons_zero set_cons_succ)
set_option maxRecDepth 100000
theorem tag_key (k k' t : List Nat) (h : key k = key k') : tag k t = tag k' t := by unfold tag; rw [h]
theorem tag_mask (k k' t : List Nat) (h : ∀ c, mask (key k) c = mask (key k') c) : tag k t = tag k' t := by unfold tag; rw [h, h]
/-- A long key's tag is its digest's. -/
theorem tag_long (k t : List Nat) (h : 64 < k.length) : tag k t = tag (sum k) t := by
 refine tag_key _ _ _ ?_
 have h1 : key k = sum k := by unfold key; rw [if_pos h]
 have h2 : key (sum k) = sum k := by unfold key; rw [if_neg (by rw [sum_len]; decide)]
 rw [h1, h2]
/-- A key filled up. -/
theorem tag_fill (k t : List Nat) (h : k.length ≤ 64) : tag k t = tag (k ++ List.replicate (64 - k.length) 0) t := by
 have h1 : key k = k := by unfold key; rw [if_neg (by omega)]
 have h2 : key (k ++ List.replicate (64 - k.length) 0) = k ++ List.replicate (64 - k.length) 0 := by unfold key; rw [if_neg (by simp; omega)]
 refine tag_mask _ _ _ fun c => ?_
 rw [h1, h2]
 unfold mask
 apply List.map_congr_left
 intro i hi
 congr 1
 rw [List.getD_eq_getElem?_getD, List.getD_eq_getElem?_getD, List.getElem?_append]
 by_cases hk : i < k.length
 ·rw [if_pos hk]
 ·rw [if_neg hk, List.getElem?_eq_none (by omega), List.getElem?_replicate]
  split <;> rfl
theorem exK_mono (s info : List Nat) (k : Nat) : ∀ j, ∃ r, (exK s info (k + j)).2 = (exK s info k).2 ++ r
 | 0 => ⟨[], by simp⟩
 | j + 1 => by
  obtain ⟨r, hr⟩ := exK_mono s info k j
  refine ⟨r ++ tag s ((exK s info (k + j)).1 ++ info ++ [k + j + 1]), ?_⟩
  show (exK s info (k + j)).2 ++ _ = _
  rw [hr, List.append_assoc]; rfl
/-- What is expanded to fewer bytes. -/
theorem expand_take (s info : List Nat) (n m : Nat) (h : n ≤ m) (hl : ∀ k, (exK s info k).2.length = 32 * k) : (expand s info m).take n = expand s info n := by
 unfold expand
 obtain ⟨r, hr⟩ := exK_mono s info ((n + 31) / 32) ((m + 31) / 32 - (n + 31) / 32)
 rw [show (n + 31) / 32 + ((m + 31) / 32 - (n + 31) / 32) = (m + 31) / 32 by omega] at hr
 rw [hr, List.take_take, Nat.min_eq_left h, List.take_append_of_le_length (by rw [hl]; omega)]
theorem expand_len (s info : List Nat) (n : Nat) (hl : ∀ k, (exK s info k).2.length = 32 * k) : (expand s info n).length = n := by
 unfold expand; rw [List.length_take, hl]; omega
end Sh
namespace Go.Proofs.YtabfcaidioohfaaDoor
open List (getElem?_toArray getElem?_cons_zero getElem?_cons_succ setIfInBounds_toArray set_cons_zero set_cons_succ)
set_option maxRecDepth 100000
open Go Go.RowKit
set_option linter.unusedVariables false
set_option linter.unusedSimpArgs false
theorem zeroCells_b8 (k : Nat) : (Builtin.zeroCells (Value.int .u8 0).cells k).toList = (List.replicate k 0).map b8 := by
 show (Builtin.zeroCells #[Value.int .u8 0] k).toList = _
 rw [List.map_replicate]
 apply List.ext_getElem?
 intro j
 rw [Array.getElem?_toList, List.getElem?_replicate]
 unfold Builtin.zeroCells
 by_cases hj : j < k
 ·rw [if_pos hj]
  simp [hj, Nat.mod_one]
  rfl
 ·rw [if_neg hj]
  simp
  omega
theorem own_zeros (w : World) (ty : TypeId) {base n : Nat} {v : Value} {l : List Nat} (hown : w.ownsRow base 5 1 v n (l.map b8)) (k : Nat) (hm : n + k ≤ 1000000) (hbase : base ≤ w.heap.size) :
  ∃ v' w', (Builtin.append_ #[24, 3] ty #[v, .int .i64 (k : Int)]).run Tryd.prog w = .ok v' w' ∧ w'.ownsRow base 5 1 v' (n + k) ((l ++ List.replicate k 0).map b8) ∧ w.grownBy w' v.ownBlock := by
 obtain ⟨i0, hi, hz0, hz1, hz2⟩ := info_parts h_info8
 have hu := Tryd.underlying24
 have hui := Tryd.underlying3
 have hln := hown.1
 simp only [List.length_map, Nat.mul_one] at hln
 have hw : IntKind.i64.wrap (k : Int) = k := by rw [IntKind.wrap_i64]; omega
 have hneg : ¬ ((k : Int) < 0) := by omega
 have h48 : ¬ (281474976710656 < (k : Int)) := by omega
 by_cases hk : k = 0
 ·subst hk
  refine ⟨v, w, ?_, by simpa using hown, ⟨rfl, rfl, rfl, Nat.le_refl _, fun _ _ _ => rfl⟩⟩
  rcases hown.2 with ⟨rfl, h0⟩ | ⟨g, cap, cur, rfl, hb, hg, hn, hcc, hs, ht⟩
  ·simp [Builtin.append_, run_underlying hu, run_underlying hui, sizeOf, typeInfo, hi, hz2, asInt, asIntOf, storeCells, IntKind.wrap_i64]
  ·simp [Builtin.append_, run_underlying hu, run_underlying hui, sizeOf, typeInfo, hi, hz2, asInt, asIntOf, storeCells, hn, IntKind.wrap_i64]
 ·rcases hown.2 with ⟨rfl, h0⟩ | ⟨g, cap, cur, rfl, hb, hg, hn, hcc, hs, ht⟩
  ·obtain rfl : l = [] := List.eq_nil_of_length_eq_zero (by omega)
   subst h0
   have hr := Lib.run_append_nil_zeros (P := Tryd.prog) w 24 3 ty 5 i0 (.int .u8 0) .i64 .i64 hu hui hi hz0 k (by omega) (by omega) (by omega) (by rw [hz2]; omega)
   have hge := grownCap_ge w k 0 5
   have hmax := grownCap_le_maxLen w k 0 5 (by unfold maxLen; omega)
   rw [Nat.zero_add]
   refine ⟨_, _, hr, ⟨by simp, .inr ⟨w.heap.size, _, _, rfl, hbase, heap_alloc_new w.drew _, by omega, hmax, ?_, ?_⟩⟩, ⟨rfl, rfl, rfl, by simp, fun j hj _ => Below.heap_alloc w.drew _ j hj⟩⟩
   ·rw [Array.size_append, size_zeroCells, size_zeroCells]
    show k * 1 + (_ - k) * 1 = _ * 1
    omega
   ·rw [Array.toList_append, zeroCells_b8, List.take_append_of_le_length (by simp), List.take_of_length_le (by simp), List.nil_append]
  ·have hcur : (cur.toList.take n).length = n := by rw [List.length_take, Array.length_toList, hs]; omega
   simp only [Nat.mul_one] at ht
   by_cases hroom : n + k ≤ cap
   ·obtain ⟨Z, hZ⟩ : ∃ Z, Builtin.zeroCells (Value.int .u8 0).cells k = Z := ⟨_, rfl⟩
    have hZl : Z.toList = (List.replicate k 0).map b8 := by rw [← hZ]; exact zeroCells_b8 k
    have hZs : Z.size = k := by rw [← Array.length_toList, hZl, List.length_map, List.length_replicate]
    have hst := run_storeCells_at Tryd.prog g n 5 Z.toList 0 cur w hg (by simp [hZs]; omega) (fun u hu => by
     rw [hZl] at hu
     obtain ⟨x, _, rfl⟩ := List.mem_map.1 hu
     rfl)
    simp only [Nat.add_zero] at hst
    refine ⟨.slice (some ⟨g, 0, none⟩) (n + k) cap, w.setRow g (cur.toList.take n ++ Z.toList ++ cur.toList.drop (n + Z.toList.length)).toArray, ?_, ⟨by simp [hln], .inr ⟨g, cap, _, rfl, hb, setRow_heap w g cur _ 5 _ hg, hroom, hcc, ?_, ?_⟩⟩, ⟨rfl, rfl, rfl, by simp, fun j _ hj => setRow_other w g j _ (fun e => hj (by simp [Value.ownBlock, e]))⟩⟩
    ·simp [Builtin.append_, run_underlying hu, run_underlying hui, sizeOf, typeInfo, zeroValue, hi, hz0, hz1, hz2, asInt, asIntOf, hw, hneg, h48, hk, hroom, Addr.add_lit, hZ]
     simp only [List.append_assoc, Array.length_toList] at hst
     rw [hst]
     rfl
    ·simp only [List.size_toArray, List.length_append, hcur, List.length_drop, Array.length_toList, hZs]
     omega
    ·rw [ht, hZl]
     simp only [Nat.mul_one]
     rw [List.take_append_of_le_length (by simp [hln]), ← List.map_append, List.take_of_length_le (by simp [hln])]
   ·have hold : (Builtin.firstCells i0.size n (.slice (some ⟨g, 0, none⟩) n cap)).run Tryd.prog w.drew = .ok (l.map b8).toArray w.drew := by
     rw [hz1]
     refine run_firstCells_some w.drew 1 n ⟨g, 0, none⟩ n cap (l.map b8) (by simp [hln]) (fun j u hu' => ?_)
     have hj : j < n := by have := (List.getElem?_eq_some_iff.1 hu').1; simpa [hln] using this
     rw [add_mid, Nat.zero_add, show w.drew.cell? ⟨g, j, none⟩ = cur[j]? from cell_of_row w g j cur _ _ hg]
     have h3 : (cur.toList.take n)[j]? = cur[j]? := by rw [List.getElem?_take]; simp [hj]
     rw [← h3, ht]; exact hu'
    have hcl : cap ≤ n + k := by omega
    have hnx : Builtin.nextslicecap (n + k) cap * i0.bytes ≤ 281474976710656 := by
     rw [hz2, Nat.mul_one]
     have := nextslicecap_le (need := n + k) (old := cap) (by omega)
     omega
    have hr := Lib.run_append_grow_zeros (P := Tryd.prog) w 24 3 ty 5 i0 (.int .u8 0) .i64 .i64 hu hui hi hz0 (some ⟨g, 0, none⟩) n cap (l.map b8) hold k (by omega) (by omega) (by omega) (by omega) (by rw [hz2]; omega) hnx
    have hge := grownCap_ge w (n + k) cap 5
    have hmax := grownCap_le_maxLen w (n + k) cap 5 (by unfold maxLen; omega)
    refine ⟨_, _, hr, ⟨by simp [hln], .inr ⟨w.heap.size, _, _, rfl, hbase, heap_alloc_new w.drew _, hge, hmax, ?_, ?_⟩⟩, ⟨rfl, rfl, rfl, by simp, fun j hj _ => Below.heap_alloc w.drew _ j hj⟩⟩
    ·rw [Array.size_append, Array.size_append, size_zeroCells, size_zeroCells]
     show (l.map b8).toArray.size + k * 1 + (_ - (n + k)) * 1 = _ * 1
     simp only [List.size_toArray, List.length_map, hln]
     omega
    ·rw [Array.toList_append, Array.toList_append, zeroCells_b8, List.map_append]
     rw [List.take_append_of_le_length (by simp [hln]), List.take_of_length_le (by simp [hln])]
end Go.Proofs.YtabfcaidioohfaaDoor
namespace Go.Proofs.YtabfcaidioohfaaDoor
open List (getElem?_toArray getElem?_cons_zero getElem?_cons_succ setIfInBounds_toArray set_cons_zero set_cons_succ)
set_option maxRecDepth 100000
open Go Go.RowKit Go.Shelf
set_option linter.unusedVariables false
set_option linter.unusedSimpArgs false
attribute [local go_sem] Oper.semAt_some
/-- A text that grows. -/
structure Gw (w0 : World) (B : Nat) (l : List Nat) (v : Value) (V : World) : Prop where
 rO : Obj V B 23 Z32
 own : V.ownsRow (B + 1) 5 1 v l.length (l.map b8)
 bel : Below B w0 V
theorem Gw.kept {w0 V V' : World} {B : Nat} {l : List Nat} {v : Value} (h : Gw w0 B l v V) (hb : Below V.heap.size V V') : Gw w0 B l v V' :=
 ⟨h.rO.kept hb, ownsRow_kept h.own hb, h.bel.trans (hb.mono (Nat.le_of_lt h.rO.lt))⟩
theorem Gw.app {w0 V : World} {B : Nat} {l : List Nat} {v : Value} (h : Gw w0 B l v V) (ty : TypeId) (A : Option Addr) (m c : Nat) (X : List Nat) (hl : X.length = m) (hR : Rb V A X) (hm : l.length + m ≤ 1000000) :
  ∃ A' c' w', (Builtin.append_ #[24, 24] ty #[v, .slice A m c]).run Tryd.prog V = .ok (.slice A' (l.length + m) c') w' ∧ (l.length + m ≤ c' ∧ c' ≤ maxLen) ∧ Gw w0 B (l ++ X) (.slice A' (l.length + m) c') w' := by
 have hlt := h.rO.lt
 obtain ⟨v', w', h1, h2, h3⟩ := own_app V ty h.own A m c X hl hR (by omega) hlt
 obtain ⟨A', c', rfl, hl2, hc1, hc2, _, _⟩ := own_rb h2
 refine ⟨A', c', w', h1, ⟨hc1, hc2⟩, (h3.block B hlt (fun e => by have := (h.own.lt B e.symm).1; omega)).trans h.rO, by rw [hl2]; exact h2, h.bel.grown h3 (Nat.le_of_lt hlt) (fun k e => by have := (h.own.lt k e).1; omega)⟩
theorem litL_rb (V : World) (l : List Nat) : Rb (V.alloc (.cells (l.map b8).toArray 5)) (some ⟨V.heap.size, 0, none⟩) l := fun _ => ⟨V.heap.size, 0, rfl, by simp, fun i hi => by rw [Nat.zero_add]; exact Obj.getK (k := .u8) (Obj.new V 5 (cellsK .u8 l)) i hi⟩
theorem Gw.app1 {w0 V : World} {B : Nat} {l : List Nat} {v : Value} (h : Gw w0 B l v V) (ty : TypeId) (x : Int) (k : Nat) (hx : x = k) (hm : l.length ≤ 900000) :
  ∃ A' c' w', (Builtin.append_ #[24, 24] ty #[v, .slice (some ⟨V.heap.size, 0, none⟩) 1 1]).run Tryd.prog (V.alloc (.cells #[.int .u8 x] 5)) = .ok (.slice A' (l.length + 1) c') w' ∧ (l.length + 1 ≤ c' ∧ c' ≤ maxLen) ∧ Gw w0 B (l ++ [k]) (.slice A' (l.length + 1) c') w' := by
 subst hx
 exact (h.kept ((Below.refl _ V).alloc (Nat.le_refl _) _)).app ty _ 1 1 [k] rfl (litL_rb V [k]) (by omega)
theorem first_app (w : World) (ty : TypeId) (A : Option Addr) (n c : Nat) (t : List Nat) (hl : t.length = n) (hR : Rb w A t) (hn : n ≤ 900000) :
  ∃ A' c' w', (Builtin.append_ #[24, 24] ty #[.slice (some ⟨w.heap.size + 1, 0, none⟩) 0 0, .slice A n c]).run Tryd.prog ((w.alloc (.cells Z32 23)).alloc (.cells #[] 5)) = .ok (.slice A' n c') w' ∧ (n ≤ c' ∧ c' ≤ maxLen) ∧ Gw w w.heap.size t (.slice A' n c') w' := by
 have o1 := Obj.new w 23 Z32
 have b1 : Below w.heap.size w (w.alloc (.cells Z32 23)) := (Below.refl _ w).alloc (Nat.le_refl _) _
 have b2 : Below w.heap.size w ((w.alloc (.cells Z32 23)).alloc (.cells #[] 5)) := b1.alloc b1.size _
 have h2 := own_made (w.alloc (.cells Z32 23)) (w.heap.size + 1) (by simp)
 rw [World.size_alloc] at h2
 have hG : Gw w w.heap.size [] (.slice (some ⟨w.heap.size + 1, 0, none⟩) 0 0) ((w.alloc (.cells Z32 23)).alloc (.cells #[] 5)) := ⟨o1.alloc _, h2, b2⟩
 obtain ⟨A', c', w', h3, h4, h5⟩ := hG.app ty A n c t hl (hR.below b2) (by simp; omega)
 simp only [List.length_nil, Nat.zero_add, List.nil_append] at h3 h4 h5
 exact ⟨A', c', w', h3, h4, h5⟩
/-- Between two turns. -/
structure SmR (w0 : World) (B Hb g : Nat) (p : List Nat) (i : Nat) (V : World) : Prop where
 rO : Obj V B 23 Z32
 hO : Obj V Hb 112 (cellsK .u32 (Sh.turns Sh.first p i))
 rb : Rb V (some ⟨g, 0, none⟩) p
 bel : Below B w0 V
 ne : B < Hb ∧ g < Hb ∧ w0.heap.size ≤ B
theorem SmR.next {w0 W w' : World} {B Hb g i : Nat} {p : List Nat} (h : SmR w0 B Hb g p i W) (hb : Below W.heap.size W w') :
  SmR w0 B Hb g p (i + 1) (w'.setRow Hb (cellsK .u32 (Sh.turns Sh.first p (i + 1)))) := by
 have hne := h.ne
 have u : Upd Hb w' (w'.setRow Hb (cellsK .u32 (Sh.turns Sh.first p (i + 1)))) := (Upd.refl _ _).row _
 refine ⟨(h.rO.kept hb).upd u (by omega), (h.hO.kept hb).row _, ?_, ?_, hne⟩
 ·intro hp
  obtain ⟨b, o, e, h1, h2⟩ := (h.rb.below hb) hp
  cases e
  exact ⟨_, _, rfl, Nat.lt_of_lt_of_le h1 u.size, fun q hq => (World.cell?_of_block (a := ⟨g, 0 + q, none⟩) (u.block g h1 (by omega))).trans (h2 q hq)⟩
 ·have hl := h.rO.lt
  exact ⟨u.os.trans (hb.os.trans h.bel.os), u.tape.trans (hb.tape.trans h.bel.tape), u.output.trans (hb.output.trans h.bel.output), by have := h.bel.size; have := hb.size; have := u.size; omega, fun k hk => (u.block k (by have := hb.size; omega) (by omega)).trans ((hb.block k (by omega)).trans (h.bel.block k hk))⟩
theorem SmR.drewN {w0 V : World} {B Hb g i : Nat} {p : List Nat} (h : SmR w0 B Hb g p i V) (n : Nat) : SmR w0 B Hb g p i (V.drewN n) := ⟨h.rO, h.hO, h.rb, ⟨h.bel.os, h.bel.tape, h.bel.output, h.bel.size, h.bel.block⟩, h.ne⟩
theorem SmR.start {w w4 : World} {B g c4 : Nat} {p : List Nat} (h : Gw w B p (.slice (some ⟨g, 0, none⟩) p.length c4) w4) (hB : w.heap.size = B) (hg : g < w4.heap.size) :
  SmR w B w4.heap.size g p 0 ((w4.alloc (.cells #[.int .u32 0, .int .u32 0, .int .u32 0, .int .u32 0, .int .u32 0, .int .u32 0, .int .u32 0, .int .u32 0] 112)).setRow w4.heap.size #[.int .u32 1779033703, .int .u32 3144134277, .int .u32 1013904242, .int .u32 2773480762, .int .u32 1359893119, .int .u32 2600822924, .int .u32 528734635, .int .u32 1541459225]) := by
 have k1 : Below w4.heap.size w4 (w4.alloc (.cells #[.int .u32 0, .int .u32 0, .int .u32 0, .int .u32 0, .int .u32 0, .int .u32 0, .int .u32 0, .int .u32 0] 112)) := (Below.refl _ w4).alloc (Nat.le_refl _) _
 have o1 : Obj (w4.alloc (.cells #[.int .u32 0, .int .u32 0, .int .u32 0, .int .u32 0, .int .u32 0, .int .u32 0, .int .u32 0, .int .u32 0] 112)) w4.heap.size 112 #[.int .u32 0, .int .u32 0, .int .u32 0, .int .u32 0, .int .u32 0, .int .u32 0, .int .u32 0, .int .u32 0] := Obj.new w4 _ _
 have u2 : Upd w4.heap.size (w4.alloc (.cells #[.int .u32 0, .int .u32 0, .int .u32 0, .int .u32 0, .int .u32 0, .int .u32 0, .int .u32 0, .int .u32 0] 112)) _ := (Upd.refl w4.heap.size _).row #[.int .u32 1779033703, .int .u32 3144134277, .int .u32 1013904242, .int .u32 2773480762, .int .u32 1359893119, .int .u32 2600822924, .int .u32 528734635, .int .u32 1541459225]
 have o2 := o1.row #[.int .u32 1779033703, .int .u32 3144134277, .int .u32 1013904242, .int .u32 2773480762, .int .u32 1359893119, .int .u32 2600822924, .int .u32 528734635, .int .u32 1541459225]
 have b2 : Below w4.heap.size w4 ((w4.alloc (.cells #[.int .u32 0, .int .u32 0, .int .u32 0, .int .u32 0, .int .u32 0, .int .u32 0, .int .u32 0, .int .u32 0] 112)).setRow w4.heap.size #[.int .u32 1779033703, .int .u32 3144134277, .int .u32 1013904242, .int .u32 2773480762, .int .u32 1359893119, .int .u32 2600822924, .int .u32 528734635, .int .u32 1541459225]) := Upd.below k1 (Nat.le_refl _) u2
 obtain ⟨_, _, e, _, _, _, hr, _⟩ := own_rb h.own
 cases e
 exact ⟨h.rO.kept b2, o2.as rfl, hr.below b2, h.bel.trans (b2.mono (Nat.le_of_lt h.rO.lt)), h.rO.lt, hg, by omega⟩
/-- A row that is filled from its beginning. -/
def fillK (l : List Nat) (k : Nat) : List Nat := l.take k ++ List.replicate (l.length - k) 0
theorem fillK_len (l : List Nat) (k : Nat) (h : k ≤ l.length) : (fillK l k).length = l.length := by unfold fillK; rw [List.length_append, List.length_take, List.length_replicate]; omega
theorem fillK_full (l : List Nat) : fillK l l.length = l := by unfold fillK; rw [List.take_of_length_le (Nat.le_refl _), Nat.sub_self]; simp
theorem fillK_set (l : List Nat) (k : Nat) (h : k < l.length) : (fillK l k).set k (l.getD k 0) = fillK l (k + 1) := by
 unfold fillK
 rw [List.set_append_right _ _ (by rw [List.length_take]; omega), List.length_take, Nat.min_eq_left (by omega), Nat.sub_self, show l.length - k = (l.length - (k + 1)) + 1 by omega, List.replicate_succ, set_cons_zero, List.take_succ_eq_append_getElem h, List.append_assoc, List.getD_eq_getElem?_getD, List.getElem?_eq_getElem h]
 rfl
theorem byte_of (s : List Nat) (hs : s.length = 8) (i : Nat) (hi : i < 32) : (Sh.bytes s).getD i 0 = gt s (i / 4) / 256 ^ (3 - i % 4) % 256 := by
 rcases s with _ | ⟨a0, _ | ⟨a1, _ | ⟨a2, _ | ⟨a3, _ | ⟨a4, _ | ⟨a5, _ | ⟨a6, _ | ⟨a7, _ | ⟨a8, r⟩⟩⟩⟩⟩⟩⟩⟩⟩ <;> (try (simp at hs; done))
 have key : ∀ j, j < 32 → (Sh.bytes [a0, a1, a2, a3, a4, a5, a6, a7]).getD j 0 = gt [a0, a1, a2, a3, a4, a5, a6, a7] (j / 4) / 256 ^ (3 - j % 4) % 256 := by
  intro j hj
  have : j = 0 ∨ j = 1 ∨ j = 2 ∨ j = 3 ∨ j = 4 ∨ j = 5 ∨ j = 6 ∨ j = 7 ∨ j = 8 ∨ j = 9 ∨ j = 10 ∨ j = 11 ∨ j = 12 ∨ j = 13 ∨ j = 14 ∨ j = 15 ∨ j = 16 ∨ j = 17 ∨ j = 18 ∨ j = 19 ∨ j = 20 ∨ j = 21 ∨ j = 22 ∨ j = 23 ∨ j = 24 ∨ j = 25 ∨ j = 26 ∨ j = 27 ∨ j = 28 ∨ j = 29 ∨ j = 30 ∨ j = 31 := by omega
  rcases this with rfl | rfl | rfl | rfl | rfl | rfl | rfl | rfl | rfl | rfl | rfl | rfl | rfl | rfl | rfl | rfl | rfl | rfl | rfl | rfl | rfl | rfl | rfl | rfl | rfl | rfl | rfl | rfl | rfl | rfl | rfl | rfl <;> simp [Sh.bytes, Sh.four, gt]
 exact key i hi
/-- The digest's bytes so far. -/
structure SmO (w0 : World) (B Hb Ob : Nat) (s l : List Nat) (k : Nat) (V : World) : Prop where
 rO : Obj V B 23 Z32
 hO : Obj V Hb 112 (cellsK .u32 s)
 oO : Obj V Ob 23 (cellsK .u8 (fillK l k))
 bel : Below B w0 V
 ne : B < Ob ∧ Hb < Ob ∧ w0.heap.size ≤ B
theorem SmO.start {w0 V : World} {B Hb g i : Nat} {p s l : List Nat} (h : SmR w0 B Hb g p i V) (hs : Sh.turns Sh.first p i = s) (hl : l.length = 32) : SmO w0 B Hb V.heap.size s l 0 (V.alloc (.cells Z32 23)) := by
 have hr := h.rO.lt
 have hh := h.hO.lt
 refine ⟨h.rO.alloc _, hs ▸ h.hO.alloc _, (Obj.new V _ _).as ?_, h.bel.alloc (Nat.le_of_lt hr) _, hr, hh, h.ne.2.2⟩
 unfold fillK; rw [hl]; rfl
theorem SmO.set {w0 V : World} {B Hb Ob k : Nat} {s l : List Nat} (h : SmO w0 B Hb Ob s l k V) (hk : k < l.length) : SmO w0 B Hb Ob s l (k + 1) (V.setCell ⟨Ob, k, none⟩ (.int .u8 ((l.getD k 0 : Nat) : Int))) := by
 have hne := h.ne
 have hu : Upd Ob V (V.setCell ⟨Ob, k, none⟩ (.int .u8 ((l.getD k 0 : Nat) : Int))) := (Upd.refl _ V).set _ _
 refine ⟨h.rO.upd hu (by omega), h.hO.upd hu (by omega), ?_, ⟨hu.os.trans h.bel.os, hu.tape.trans h.bel.tape, hu.output.trans h.bel.output, Nat.le_trans h.bel.size hu.size, fun j hj => (hu.block j (by have := h.rO.lt; omega) (by omega)).trans (h.bel.block j hj)⟩, hne⟩
 rw [← fillK_set l k hk]
 exact h.oO.setK k _
set_option maxRecDepth 100000 in
set_option maxHeartbeats 8000000 in
theorem rsum_any (A : Option Addr) (n c : Nat) (t : List Nat) (w : World) (ht : Tabs w) (hA : Rb w A t) (hl : t.length = n) (hb : ∀ x ∈ t, x < 256) (hn : n ≤ 2000) (hc : n ≤ c ∧ c ≤ maxLen) :
  Calls Tryd.prog 61 #[.slice A n c] w fun e w' => e = .returned (.agg (cellsK .u8 (Sh.sum t))) ∧ Below w.heap.size w w' := by
 obtain ⟨B, hB⟩ : ∃ B, w.heap.size = B := ⟨_, rfl⟩
 obtain ⟨A1, c1, w1, hr1, hc1, hG1⟩ := first_app w 24 A n c t hl hA (by omega)
 obtain ⟨A2, c2, w2, hr2, hc2, hG2⟩ := hG1.app1 24 128 128 rfl (by omega)
 obtain ⟨z, hz⟩ : ∃ z, Sh.zeros t.length = z := ⟨_, rfl⟩
 have HZ := Lib.hid hz
 have HR1 := Lib.hid hr1
 have HG2 := Lib.hid hG2
 rw [hl] at hr2
 have HR2 := Lib.hid hr2
 have HT := Lib.hid ht
 have HL := Lib.hid hl
 have HBY := Lib.hid hb
 have HB := Lib.hid hB
 have hzn : (n + 1 + z) % 64 = 56 ∧ ∀ k, k < z → (n + 1 + k) % 64 ≠ 56 := by
  rw [hl] at hz; unfold Sh.zeros at hz
  refine ⟨by omega, fun k hk => ?_⟩
  omega
 have hz64 : z < 64 := by rw [hl] at hz; unfold Sh.zeros at hz; omega
 have HZN := Lib.hid hzn
 obtain ⟨n8, hn8⟩ : ∃ r, n * 8 = r := ⟨_, rfl⟩
 have hn8i : (n : Int) * 8 = (n8 : Int) := by omega
 have hn8b : n8 ≤ 16000 := by omega
 have HN8 := Lib.hid hn8
 clear ht hl hb hB hz hzn hr1 hr2 hG1 hG2 hc hA hc1 hc2 hn8
 go_enter Tryd.func61, Tryd.ntmps61
 go_wp2_with (first
  | (at_builtin; refine Lib.wpList_append_run _ rfl (.tmp 11) (.tmp 12) _ _ rfl _ _ rfl rfl _ _ HR1.out ?_)
  | (at_builtin; refine Lib.wpList_append_run _ rfl (.tmp 13) (.tmp 14) _ _ rfl _ _ rfl rfl _ _ HR2.out ?_))
 go_loopw [3] (fun v wx => ∃ k A c, k ≤ z ∧ v = .slice A (n + 1 + k) c ∧ Gw w w.heap.size (t ++ [128] ++ List.replicate k 0) v wx) (fun v _ => match v with | .slice _ q _ => n + 1 + z - q | _ => 0)
 case atStart =>
  refine ⟨0, _, _, by omega, rfl, ?_⟩
  have := HG2.out
  rw [HL.out] at this
  simpa using this
 case round =>
  obtain ⟨k, Ak, ck, hk, rfl, hG⟩ := hrel
  have hlk : (t ++ [128] ++ List.replicate k 0).length = n + 1 + k := by rw [List.length_append, List.length_append, HL.out, List.length_replicate]; rfl
  clear HG2 HR1 HR2
  obtain ⟨q, hq⟩ : ∃ q, n + 1 + k = q := ⟨_, rfl⟩
  have hqb : q ≤ 2100 := by omega
  by_cases hlt : k < z
  ·have hne := HZN.out.2 k hlt
   rw [hq] at hne
   obtain ⟨r, hr⟩ : ∃ r, q % 64 = r := ⟨_, rfl⟩
   rw [hr] at hne
   have e1 : (q : Int) % 64 = (r : Int) := by omega
   have e1i : ¬ ((r : Int) = 56) := by omega
   obtain ⟨A3, c3, w3, hr3, hc3, hG3⟩ := hG.app1 24 0 0 rfl (by omega)
   rw [hlk, hq] at hr3 hG3
   have HR3 := Lib.hid hr3
   have HG3 : Hid (Gw w w.heap.size (t ++ [128] ++ List.replicate (k + 1) 0) (.slice A3 (q + 1) c3) w3) := by
    unfold Hid; rw [List.replicate_succ', ← List.append_assoc]; exact hG3
   have HQ := Lib.hid hq
   rw [hq]
   clear hr3 hG3 hG hlk hr hne hq
   go_wp2_with (at_builtin; refine Lib.wpList_append_run _ rfl (.tmp 20) (.tmp 21) _ _ rfl _ _ rfl rfl _ _ HR3.out ?_)
   go_roundw
   case rel => exact ⟨k + 1, _, _, by omega, by have := HQ.out; rw [← this]; rfl, HG3.out⟩
   case measure => have := HQ.out; (try dsimp only); omega
  ·obtain rfl : k = z := by omega
   have hne := HZN.out.1
   rw [hq] at hne
   have e1 : (q : Int) % 64 = 56 := by omega
   obtain ⟨a, ha⟩ : ∃ a, n8 / 256 = a := ⟨_, rfl⟩
   obtain ⟨b, hb⟩ : ∃ b, n8 % 256 = b := ⟨_, rfl⟩
   have g0 : (n8 : Int) / 16777216 = 0 := by omega
   have g1 : (n8 : Int) / 65536 = 0 := by omega
   have g2 : (n8 : Int) / 256 = (a : Int) := by omega
   have g3 : (a : Int) % 256 = (a : Int) := by omega
   have g4 : (n8 : Int) % 256 = (b : Int) := by omega
   have g5 : IntKind.u8.wrap (a : Int) = (a : Int) := by rw [IntKind.wrap_u8]; omega
   have g6 : IntKind.u8.wrap (b : Int) = (b : Int) := by rw [IntKind.wrap_u8]; omega
   obtain ⟨A5, c5, w5, hr5, hc5, hG5⟩ := (hG.kept ((Below.refl _ wr).alloc (Nat.le_refl _) (.cells #[.int .u8 0, .int .u8 0, .int .u8 0, .int .u8 0, .int .u8 0, .int .u8 0, .int .u8 (a : Int), .int .u8 (b : Int)] 5))).app 24 (some ⟨wr.heap.size, 0, none⟩) 8 8 [0, 0, 0, 0, 0, 0, a, b] rfl (litL_rb wr [0, 0, 0, 0, 0, 0, a, b]) (by omega)
   have HPAD : Hid (t ++ [128] ++ List.replicate k 0 ++ [0, 0, 0, 0, 0, 0, a, b] = Sh.pad t) := by
    have h8 := HN8.out
    unfold Hid Sh.pad
    rw [HZ.out, HL.out, h8, show n8 / 4294967296 = 0 by omega, show n8 % 4294967296 = n8 by omega]
    simp only [Sh.four, List.append_assoc]
    rw [show n8 / 16777216 = 0 by omega, show n8 / 65536 = 0 by omega, show n8 / 256 % 256 = a by omega, hb]
    rfl
   rw [HPAD.out] at hG5
   obtain ⟨tot, htot⟩ : ∃ x, (Sh.pad t).length = x := ⟨_, rfl⟩
   have hlt5 : (t ++ [128] ++ List.replicate k 0).length + 8 = tot := by rw [← htot, ← HPAD.out, @List.length_append _ (t ++ [128] ++ List.replicate k 0)]; rfl
   rw [hlt5, hq] at hr5
   rw [hlt5] at hG5 hc5
   rw [hlk, hq] at hlt5
   obtain ⟨N, hN⟩ : ∃ N, 64 * N = tot := ⟨tot / 64, by have := Sh.pad_len t; rw [htot] at this; omega⟩
   have htb : tot ≤ 2200 := by omega
   have hp : 0 < (Sh.pad t).length := by omega
   obtain ⟨g, hA5, hg5⟩ : ∃ g, A5 = some ⟨g, 0, none⟩ ∧ g < w5.heap.size := by
    obtain ⟨_, _, e, _, _, _, hrb, hA'⟩ := own_rb hG5.own
    cases e
    obtain ⟨b', off, e', hlt', _⟩ := hrb hp
    rcases hA' with e | ⟨g, e, hg⟩
    ·rw [e] at e'; cases e'
    ·rw [e] at e'; cases e'
     exact ⟨_, e, hlt'⟩
   subst hA5
   have HR5 := Lib.hid hr5
   rw [← htot] at hG5
   have HS5 := Lib.hid (SmR.start hG5 rfl hg5)
   have HT5 := HT.out.below hG5.bel
   have f0 : w5.cell? ⟨1, 0, none⟩ = some (.int .u32 1779033703) := HT5.f 0 (by omega)
   have f1 : w5.cell? ⟨1, 1, none⟩ = some (.int .u32 3144134277) := HT5.f 1 (by omega)
   have f2 : w5.cell? ⟨1, 2, none⟩ = some (.int .u32 1013904242) := HT5.f 2 (by omega)
   have f3 : w5.cell? ⟨1, 3, none⟩ = some (.int .u32 2773480762) := HT5.f 3 (by omega)
   have f4 : w5.cell? ⟨1, 4, none⟩ = some (.int .u32 1359893119) := HT5.f 4 (by omega)
   have f5 : w5.cell? ⟨1, 5, none⟩ = some (.int .u32 2600822924) := HT5.f 5 (by omega)
   have f6 : w5.cell? ⟨1, 6, none⟩ = some (.int .u32 528734635) := HT5.f 6 (by omega)
   have f7 : w5.cell? ⟨1, 7, none⟩ = some (.int .u32 1541459225) := HT5.f 7 (by omega)
   have HO8 : Hid (Obj (w5.alloc (.cells #[.int .u32 0, .int .u32 0, .int .u32 0, .int .u32 0, .int .u32 0, .int .u32 0, .int .u32 0, .int .u32 0] 112)) w5.heap.size 112 (cellsK .u32 (List.replicate 8 0))) := Obj.new w5 _ _
   have HQ := Lib.hid hq
   have HTOT := Lib.hid htot
   have HN := Lib.hid hN
   have hc5i : tot ≤ c5 ∧ c5 ≤ 9223372036854775807 := ⟨hc5.1, by have := hc5.2; simp only [maxLen] at this; omega⟩
   rw [hq]
   clear hr5 hG5 hG hlk hne hq HT5 hlt5 hp htot hN ha hb hc5
   go_wp2_with (first
    | (at_builtin; refine Lib.wpList_append_run _ rfl (.tmp 26) (.tmp 41) _ _ rfl _ _ rfl rfl _ _ HR5.out ?_)
    | (refine wpList_store8 rfl (.tmp 5) (.tmp 43) rfl _ _ _ _ _ _ _ _ _ rfl rfl (List.replicate 8 0) HO8.out rfl ?_))
   clear f0 f1 f2 f3 f4 f5 f6 f7 HR5 HO8
   obtain ⟨Hb, hHb⟩ : ∃ Hb, w5.heap.size = Hb := ⟨_, rfl⟩
   rw [hHb] at HS5 ⊢
   go_loopw [6] (fun i wx => ∃ j : Nat, j ≤ N ∧ i = .int .i64 ((64 * j : Nat) : Int) ∧ SmR w w.heap.size Hb g (Sh.pad t) j wx) (fun i _ => tot + 1 - (intOf i).toNat)
   case atStart => exact ⟨0, by omega, rfl, HS5.out⟩
   case round =>
    clear HS5
    obtain ⟨j, hj, rfl, hR⟩ := hrel
    have HRS := Lib.hid hR
    obtain ⟨p, hp⟩ : ∃ p, 64 * j = p := ⟨_, rfl⟩
    have HP := Lib.hid hp
    rw [hp]
    by_cases hlt2 : j < N
    ·have hpt : p + 64 ≤ tot := by have := HN.out; omega
     have h8 := Sh.turns_len Sh.first (Sh.pad t) Sh.first_lt.1 j
     have h9 := Sh.turns_len Sh.first (Sh.pad t) Sh.first_lt.1 (j + 1)
     obtain ⟨cc, hcc⟩ : ∃ cc, c5 - p = cc := ⟨_, rfl⟩
     obtain ⟨p2, hp2⟩ : ∃ p2, p + 64 = p2 := ⟨_, rfl⟩
     have q1 : (p : Int) + 64 = (p2 : Int) := by omega
     have q2 : IntKind.i64.wrap (p2 : Int) = (p2 : Int) := by rw [IntKind.wrap_i64]; omega
     have q3 : (p2 : Int) ≤ (c5 : Int) := by omega
     have q4 : p ≤ p2 := by omega
     have q5 : p2 - p = 64 := by omega
     have q6 : ¬ c5 = p := by omega
     have HTU : Hid (Calls Tryd.prog 77 #[.agg (cellsK .u32 (Sh.turns Sh.first (Sh.pad t) j)), .slice (some ⟨g, p, none⟩) 64 cc] wr.drew fun e w' => e = .returned (.agg (cellsK .u32 (Sh.turns Sh.first (Sh.pad t) (j + 1)))) ∧ Below wr.drew.heap.size wr.drew w') := by
      have hr0 : Rb wr.drew (some ⟨g, p, none⟩) ((Sh.pad t).drop (64 * j)) := by
       have := (hR.drewN 1).rb.drop (64 * j)
       rw [Nat.zero_add] at this
       rw [← hp]; exact this
      refine h_turn_any (Sh.turns Sh.first (Sh.pad t) j) _ cc (((Sh.pad t).drop (64 * j)).take 64) wr.drew (HT.out.below (hR.drewN 1).bel) h8 (Sh.turns_lt _ _ Sh.first_lt.2 j) (hr0.take 64) ?_ ?_ ⟨by omega, by unfold maxLen; omega⟩
      ·rw [List.length_take, List.length_drop, HTOT.out]
       omega
      ·intro x hx
       exact pad_lt t HBY.out x (List.mem_of_mem_drop (List.mem_of_mem_take hx))
     have HNX : Hid (∀ w', Below wr.drew.heap.size wr.drew w' → SmR w w.heap.size Hb g (Sh.pad t) (j + 1) (w'.setRow Hb (cellsK .u32 (Sh.turns Sh.first (Sh.pad t) (j + 1))))) := fun w' hb => (hR.drewN 1).next hb
     have hHO : Obj wr Hb 112 (cellsK .u32 (Sh.turns Sh.first (Sh.pad t) j)) := hR.hO
     have HSI := Lib.hid (size32x8 h8)
     have HSN := Lib.hid (size32x8 h9)
     have HS8 := Lib.hid h8
     have HS9 := Lib.hid h9
     clear hR hp h8 h9
     generalize Sh.turns Sh.first (Sh.pad t) (j + 1) = s1 at *
     generalize Sh.turns Sh.first (Sh.pad t) j = s0 at *
     have hpi : (p : Int) < (tot : Int) := by omega
     go_wp2
     refine wp_region_T 7 (fun wq => Obj wq Hb 112 (cellsK .u32 s0)) (by kernel_rfl) hHO (fun hHeld => ?_)
     refine wpAnyT_take (i := 0) (oi := ?_) (v := ?_) ?_ ?_ ?_ ?_ ?_ ?_ ?_ (by assumption) ?_
     rotate_left 2
     ·simp only [getElem?_toArray, getElem?_cons_zero, getElem?_cons_succ]
      rfl
     ·kernel_rfl
     ·kernel_rfl
     ·kernel_rfl
     ·kernel_rfl
     ·exact fun _ _ _ h => h
     ·refine h_yieldsIf_load_row (g := Hb) (t := 112) (cs := cellsK .u32 s0) (ty := 112) (x := .tmp 5) ?_ ?_ ?_ ?_ Tryd.underlying112 rfl HSI.out
      ·rfl
      ·rfl
      ·rfl
      ·exact fun w hSw => hSw
     simp only [Act.put, setIfInBounds_toArray, set_cons_zero, set_cons_succ]
     refine wpAnyT_take (i := 1) (oi := ?_) (v := ?_) ?_ ?_ ?_ ?_ ?_ ?_ ?_ (by assumption) ?_
     rotate_left 2
     ·simp only [getElem?_toArray, getElem?_cons_zero, getElem?_cons_succ]
      rfl
     ·kernel_rfl
     ·kernel_rfl
     ·kernel_rfl
     ·kernel_rfl
     ·exact fun _ _ _ h => h
     ·refine Or.inl ⟨by rfl, ?_⟩
      intro w hSw
      (try dsimp only at hSw)
      go_simp
      all_goals with_reducible rfl
     simp only [Act.put, setIfInBounds_toArray, set_cons_zero, set_cons_succ]
     refine wpAnyT_take (i := 2) (oi := ?_) (v := ?_) ?_ ?_ ?_ ?_ ?_ ?_ ?_ (by assumption) ?_
     rotate_left 2
     ·simp only [getElem?_toArray, getElem?_cons_zero, getElem?_cons_succ]
      rfl
     ·kernel_rfl
     ·kernel_rfl
     ·kernel_rfl
     ·kernel_rfl
     ·exact fun _ _ _ h => h
     ·refine Or.inl ⟨by rfl, ?_⟩
      intro w hSw
      (try dsimp only at hSw)
      go_simp
      all_goals with_reducible rfl
     simp only [Act.put, setIfInBounds_toArray, set_cons_zero, set_cons_succ]
     refine wpAnyT_take (i := 3) (oi := ?_) (v := ?_) ?_ ?_ ?_ ?_ ?_ ?_ ?_ (by assumption) ?_
     rotate_left 2
     ·simp only [getElem?_toArray, getElem?_cons_zero, getElem?_cons_succ]
      rfl
     ·kernel_rfl
     ·kernel_rfl
     ·kernel_rfl
     ·kernel_rfl
     ·exact fun _ _ _ h => h
     ·refine Or.inl ⟨by rfl, ?_⟩
      intro w hSw
      (try dsimp only at hSw)
      go_simp
      all_goals with_reducible rfl
     simp only [Act.put, setIfInBounds_toArray, set_cons_zero, set_cons_succ]
     refine wpAnyT_take (i := 4) (oi := ?_) (v := ?_) ?_ ?_ ?_ ?_ ?_ ?_ ?_ (by assumption) ?_
     rotate_left 2
     ·simp only [getElem?_toArray, getElem?_cons_zero, getElem?_cons_succ]
      rfl
     ·kernel_rfl
     ·kernel_rfl
     ·kernel_rfl
     ·kernel_rfl
     ·exact fun _ _ _ h => h
     ·refine Or.inl ⟨by rfl, ?_⟩
      intro w hSw
      (try dsimp only at hSw)
      go_simp
      all_goals with_reducible rfl
     simp only [Act.put, setIfInBounds_toArray, set_cons_zero, set_cons_succ]
     refine wpAnyT_take (i := 5) (oi := ?_) (v := ?_) ?_ ?_ ?_ ?_ ?_ ?_ ?_ (by assumption) ?_
     rotate_left 2
     ·simp only [getElem?_toArray, getElem?_cons_zero, getElem?_cons_succ]
      rfl
     ·kernel_rfl
     ·kernel_rfl
     ·kernel_rfl
     ·kernel_rfl
     ·exact fun _ _ _ h => h
     ·refine Or.inl ⟨by rfl, ?_⟩
      intro w hSw
      (try dsimp only at hSw)
      go_simp
      all_goals with_reducible rfl
     simp only [Act.put, setIfInBounds_toArray, set_cons_zero, set_cons_succ]
     refine wpAnyT_one (i := 6) (o := ?_) (by kernel_rfl) ?_ (fun KK hKK => ?_)
     rotate_left
     ·simp only [getElem?_toArray, getElem?_cons_zero, getElem?_cons_succ]
      rfl
     go_simp
     refine HTU.out.mono ?_; rintro e wD ⟨rfl, hbD⟩
     try go_wp2_with fail
     refine hKK.out _ _ ?_ (fun hh1 => ?_)
     ·(try dsimp only)
      exact Obj.kept hHeld hbD
     clear hKK KK
     try simp only [Act.put, setIfInBounds_toArray, set_cons_zero, set_cons_succ]
     refine wpAnyT_last (o := ?_) (by kernel_rfl) ?_ (fun KK hKK => ?_)
     rotate_left
     ·simp only [getElem?_toArray, getElem?_cons_zero, getElem?_cons_succ]
      rfl
     rw [if_pos (by rfl)]
     refine wp_store_row 112 (.tmp 5) (.tmp 56) rfl _ _ rfl rfl _ _ hh1 HSN.out (by rw [cellsK_size, cellsK_size, HS8.out, HS9.out]) (one_cellsK _ _) ?_
     refine hKK.out _ _ ?_
     clear hKK KK
     try simp only [Act.put, setIfInBounds_toArray, set_cons_zero, set_cons_succ]
     refine wpAnyT_done (by kernel_rfl) ?_ _
     go_wp2
     go_roundw
     case rel => exact ⟨j + 1, by omega, by have := HP.out; go_num, HNX.out _ hbD⟩
     case measure => simp [intOf]; omega
    ·obtain rfl : j = N := by omega
     have hpt : p = tot := by have := HN.out; omega
     subst hpt
     have HSUM : Hid (Sh.sum t = Sh.bytes (Sh.turns Sh.first (Sh.pad t) j)) := by
      unfold Hid Sh.sum
      rw [HTOT.out, ← HN.out, Nat.mul_div_cancel_left j (by omega)]
     have h8 := Sh.turns_len Sh.first (Sh.pad t) Sh.first_lt.1 j
     have hlt8 := Sh.turns_lt Sh.first (Sh.pad t) Sh.first_lt.2 j
     generalize hs0 : Sh.turns Sh.first (Sh.pad t) j = s0 at *
     have hl32 : (Sh.bytes s0).length = 32 := by rw [Sh.bytes_len, h8]
     have HOS := Lib.hid (SmO.start hR hs0 hl32)
     have HS8 := Lib.hid h8
     have HLT := Lib.hid hlt8
     have HL32 := Lib.hid hl32
     have HBO := Lib.hid (byte_of s0 h8)
     clear hR hs0 h8 hlt8 hl32 HRS HTOT HN
     go_wp2
     obtain ⟨Ob, hOb⟩ : ∃ Ob, wr.heap.size = Ob := ⟨_, rfl⟩
     rw [hOb] at HOS ⊢
     generalize hbs : Sh.bytes s0 = bs at *
     go_loopw [8, 9, 10] (fun i _ _ wx => ∃ e : Nat, e ≤ 32 ∧ i = .int .i64 (e : Int) ∧ SmO w w.heap.size Hb Ob s0 bs e wx) (fun i _ _ _ => 32 - (intOf i).toNat)
     case atStart => exact ⟨0, by omega, rfl, HOS.out⟩
     case round =>
      clear HOS
      obtain ⟨e, he, rfl, hO⟩ := hrel
      have HO := Lib.hid hO
      by_cases hlt3 : e < 32
      ·obtain ⟨e4, he4⟩ : ∃ r, e / 4 = r := ⟨_, rfl⟩
       obtain ⟨em, hem⟩ : ∃ r, e % 4 = r := ⟨_, rfl⟩
       have i4 : (e : Int) / 4 = (e4 : Int) := by omega
       have im : (e : Int) % 4 = (em : Int) := by omega
       have hei : (e : Int) < 32 := by omega
       have he48 : e4 < 8 := by omega
       have hem4 : em < 4 := by omega
       have g0 : wr.cell? ⟨Hb, e4, none⟩ = some (.int .u32 ((gt s0 e4 : Nat) : Int)) := hO.hO.getK e4 (by rw [HS8.out]; exact he48)
       have hx := gt_lt HLT.out e4
       have HBE : Hid (bs.getD e 0 = gt s0 e4 / 256 ^ (3 - em) % 256) := by
        have := HBO.out e hlt3
        rwa [he4, hem] at this
       have HNX := Lib.hid (hO.set (by rw [HL32.out]; exact hlt3))
       have hfree := hO.oO.free e
       have hcur := hO.oO.getK e (by rw [fillK_len _ _ (by rw [HL32.out]; exact he), HL32.out]; exact hlt3)
       clear hO he4 hem
       generalize gt s0 e4 = x at *
       go_wp2
       go_loopw [9, 10] (fun xv kv wx => ∃ q y : Nat, q + em ≤ 3 ∧ kv = .int .i64 ((em + q : Nat) : Int) ∧ xv = .int .u32 (y : Int) ∧ x / 256 ^ q = y ∧ wx = wr) (fun _ kv _ => 3 - (intOf kv).toNat)
       case atStart => exact ⟨0, x, by omega, by rw [im]; rfl, rfl, by simp, rfl⟩
       case round =>
        obtain ⟨q, y, hq, rfl, rfl, hy, rfl⟩ := hrel
        obtain ⟨d, hd⟩ : ∃ d, em + q = d := ⟨_, rfl⟩
        rw [hd]
        have HY := Lib.hid hy
        have hyl : y < 4294967296 := by rw [← hy]; exact Nat.lt_of_le_of_lt (Nat.div_le_self _ _) hx
        clear hy
        by_cases hlt4 : d < 3
        ·obtain ⟨y2, hy2⟩ : ∃ y2, y / 256 = y2 := ⟨_, rfl⟩
         have iy : (y : Int) / 256 = (y2 : Int) := by omega
         have hdi : (d : Int) < 3 := by omega
         have HY2 : Hid (x / 256 ^ (q + 1) = y2) := by unfold Hid; rw [Nat.pow_succ, ← Nat.div_div_eq_div_mul, HY.out, hy2]
         clear hy2
         go_wp2
         go_roundw
         case rel => exact ⟨q + 1, y2, by omega, by go_num, by go_num, HY2.out, trivial⟩
         case measure => simp [intOf]; omega
        ·have hd3 : d = 3 := by omega
         subst hd3
         obtain ⟨v, hv⟩ : ∃ v, y % 256 = v := ⟨_, rfl⟩
         have iv : (y : Int) % 256 = (v : Int) := by omega
         have ivw : IntKind.u8.wrap (v : Int) = (v : Int) := by rw [IntKind.wrap_u8]; omega
         have HV : Hid (bs.getD e 0 = v) := by
          unfold Hid
          rw [HBE.out, show 3 - em = q by omega, HY.out, hv]
         rw [HV.out] at HNX
         clear hv
         go_wp2
         go_roundw
         case rel => exact ⟨e + 1, by omega, by go_num, HNX.out⟩
         case measure => simp [intOf]; omega
      ·obtain rfl : e = 32 := by omega
       have hf : fillK bs 32 = bs := by rw [← HL32.out]; exact fillK_full bs
       have hOO := hO.oO
       rw [hf] at hOO
       have HOO := Lib.hid hOO
       have HRO := Lib.hid hO.rO
       have HBL := Lib.hid hO.bel
       have HSZ := Lib.hid (sizeH HL32.out)
       have HROW := Lib.hid (hO.rO.row (cellsK .u8 bs))
       clear hO HO hOO hf
       go_wp2_with (first
        | (refine wpList_load_row rfl 23 (.tmp 7) rfl _ rfl _ _ _ _ HOO.out Tryd.underlying23 rfl HSZ.out ?_)
        | (refine wpList_store_row rfl 23 (.tmp 2) (.tmp 78) rfl _ _ rfl rfl _ _ HRO.out HSZ.out (by rw [cellsK_size, HL32.out]; rfl) (one_cellsK _ _) ?_))
       exact bodyPost_ret (v := .agg (cellsK .u8 bs)) (results_cell_row rfl _ _ _ _ _ _ _ rfl HROW.out Tryd.underlying23 rfl HSZ.out) rfl ⟨by rw [HSUM.out], row_belowB HBL.out HRO.out.lt _⟩
end Go.Proofs.YtabfcaidioohfaaDoor
namespace Go.Proofs.YtabfcaidioohfaaDoor
open List (getElem?_toArray getElem?_cons_zero getElem?_cons_succ setIfInBounds_toArray set_cons_zero set_cons_succ)
set_option maxRecDepth 100000
open Go Go.RowKit Go.Shelf
set_option linter.unusedVariables false
set_option linter.unusedSimpArgs false
/-- Appending turns the row's own block, or makes a new one. -/
theorem own_app2 (w : World) (ty : TypeId) {base n : Nat} {v : Value} {l : List Nat} (hown : w.ownsRow base 5 1 v n (l.map b8)) (b o : Nat) (m c : Nat) (X : List Nat) (hl : X.length = m) (hR : Rb w (some ⟨b, o, none⟩) X) (hm : n + m ≤ 1000000) (hm1 : 1 ≤ m) (hbase : base ≤ w.heap.size) :
  ∃ v' w', (Builtin.append_ #[24, 24] ty #[v, .slice (some ⟨b, o, none⟩) m c]).run Tryd.prog w = .ok v' w' ∧ w'.ownsRow base 5 1 v' (n + m) ((l ++ X).map b8) ∧ w.grownBy w' v.ownBlock ∧ (∀ g, v'.ownBlock = some g → v.ownBlock = some g ∨ w.heap.size ≤ g) := by
 obtain ⟨v', w', h1, h2, h3⟩ := own_app w ty hown (some ⟨b, o, none⟩) m c X hl hR (by omega) hbase
 refine ⟨v', w', h1, h2, h3, fun g hg => ?_⟩
 obtain ⟨i0, hi, hz0, hz1, hz2⟩ := info_parts h_info8
 have hu := Tryd.underlying24
 have hsrc : ∀ j u, (X.map b8)[j]? = some u → w.cell? ((⟨b, o, none⟩ : Addr).add j) = some u := by
  intro j u hu'
  rw [List.getElem?_map, Option.map_eq_some_iff] at hu'
  obtain ⟨y, hy, rfl⟩ := hu'
  have hj := (List.getElem?_eq_some_iff.1 hy).1
  obtain ⟨b', o', e, hlt, hc⟩ := hR (by omega)
  cases e
  rw [add_mid, hc j hj]
  simp [b8, List.getD_eq_getElem?_getD, hy]
 rcases hown.2 with ⟨rfl, h0⟩ | ⟨g0, cap, cur, rfl, hbg, hg0, hnc, hcm, hcs, htk⟩
 ·obtain ⟨v'', w'', k1, k2, _⟩ := own_app w ty (base := w.heap.size) (n := n) (v := .slice none 0 0) (l := l) ⟨hown.1, .inl ⟨rfl, h0⟩⟩ (some ⟨b, o, none⟩) m c X hl hR (by omega) (Nat.le_refl _)
  rw [h1] at k1
  cases k1
  exact .inr (k2.lt g hg).1
 ·by_cases hroom : n + m ≤ cap
  ·have hO : Obj w g0 5 cur := hg0
   have hr := run_append_room_cells (P := Tryd.prog) w 24 ty 5 i0 hu hi g0 0 n cap ⟨b, o, none⟩ m c (X.map b8) (by rw [List.length_map, hl, hz1, Nat.mul_one]) hsrc
    (fun u hu' => by obtain ⟨x, _, rfl⟩ := List.mem_map.1 hu'; rfl) hroom
    (fun j hj => by
     rw [List.length_map, hl] at hj
     rw [hz1, hO.cell, Array.getElem?_eq_getElem (by omega)]; rfl)
    (fun j hj => hO.free _)
   rw [h1] at hr
   cases hr
   exact .inl hg
  ·obtain ⟨v'', w'', k1, k2, _⟩ := run_append_arg_grows (P := Tryd.prog) w 24 ty 5 i0 (.int .u8 0) 1 1 hu hi hz0 hz1 hz2 rfl (by decide) ⟨g0, 0, none⟩ n cap (l.map b8) hown.1
    (fun j u hu' => by
     have hO : Obj w g0 5 cur := hg0
     have hj := (List.getElem?_eq_some_iff.1 hu').1
     rw [← htk, List.getElem?_take_of_lt (by have := hown.1; omega)] at hu'
     rw [add_mid, Nat.zero_add, hO.cell]
     simpa using hu') ⟨b, o, none⟩ m c (X.map b8) (by rw [List.length_map, hl, Nat.mul_one]) hsrc (by omega) (by unfold maxLen; omega) (by omega)
   rw [h1] at k1
   cases k1
   exact .inr (k2.lt g hg).1
/-- Two texts that grow. -/
structure Tw (wc : World) (D : Nat) (l1 l2 : List Nat) (v1 v2 : Value) (V : World) : Prop where
 o1 : V.ownsRow D 5 1 v1 l1.length (l1.map b8)
 o2 : V.ownsRow D 5 1 v2 l2.length (l2.map b8)
 ne : ∀ g, v1.ownBlock = some g → v2.ownBlock = some g → False
 bel : Below D wc V
 le : D ≤ V.heap.size
theorem Tw.symm {wc V : World} {D : Nat} {l1 l2 : List Nat} {v1 v2 : Value} (h : Tw wc D l1 l2 v1 v2 V) : Tw wc D l2 l1 v2 v1 V := ⟨h.o2, h.o1, fun g a b => h.ne g b a, h.bel, h.le⟩
theorem Tw.kept {wc V V' : World} {D : Nat} {l1 l2 : List Nat} {v1 v2 : Value} (h : Tw wc D l1 l2 v1 v2 V) (hb : Below V.heap.size V V') : Tw wc D l1 l2 v1 v2 V' :=
 ⟨ownsRow_kept h.o1 hb, ownsRow_kept h.o2 hb, h.ne, h.bel.trans (hb.mono h.le), Nat.le_trans h.le hb.size⟩
theorem own_other {V V' : World} {base n : Nat} {v : Value} {xs : List Value} {r : Option Nat} (h : V.ownsRow base 5 1 v n xs) (hg : V.grownBy V' r) (hne : ∀ g, r = some g → v.ownBlock = some g → False) : V'.ownsRow base 5 1 v n xs := by
 refine ⟨h.1, ?_⟩
 rcases h.2 with h0 | ⟨g, cap, cur, e, hb1, hg1, h3⟩
 ·exact .inl h0
 ·exact .inr ⟨g, cap, cur, e, hb1, (hg.block g (Array.getElem?_eq_some_iff.1 hg1).1 (fun e2 => hne g e2.symm (by rw [e]; rfl))).trans hg1, h3⟩
theorem Tw.app1 {wc V : World} {D : Nat} {l1 l2 : List Nat} {v1 v2 : Value} (h : Tw wc D l1 l2 v1 v2 V) (ty : TypeId) (x : Int) (k : Nat) (hx : x = k) (hm : l1.length ≤ 1000) :
  ∃ A' c' w', (Builtin.append_ #[24, 24] ty #[v1, .slice (some ⟨V.heap.size, 0, none⟩) 1 1]).run Tryd.prog (V.alloc (.cells #[.int .u8 x] 5)) = .ok (.slice A' (l1.length + 1) c') w' ∧ Tw wc D (l1 ++ [k]) l2 (.slice A' (l1.length + 1) c') v2 w' := by
 subst hx
 have hk := h.kept ((Below.refl _ V).alloc (Nat.le_refl _) (.cells #[.int .u8 ((k : Nat) : Int)] 5))
 obtain ⟨v', w', h1, h2, h3, h4⟩ := own_app2 (V.alloc (.cells #[.int .u8 ((k : Nat) : Int)] 5)) ty hk.o1 V.heap.size 0 1 1 [k] rfl (litL_rb V [k]) (by omega) (Nat.le_refl _) hk.le
 obtain ⟨A', c', rfl, hl2, hc1, hc2, _, _⟩ := own_rb h2
 refine ⟨A', c', w', h1, by rw [hl2]; exact h2, own_other hk.o2 h3 hk.ne, fun g e1 e2 => ?_, hk.bel.grown h3 hk.le (fun q e => (hk.o1.lt q e).1), Nat.le_trans hk.le h3.size⟩
 rcases h4 g e1 with e | e
 ·exact hk.ne g e e2
 ·have := (hk.o2.lt g e2).2
  omega
theorem mask_next (kk : List Nat) (c j : Nat) (hj : j < 64) : (Sh.mask kk c).take (j + 1) = (Sh.mask kk c).take j ++ [kk.getD j 0 ^^^ c] := by
 have hl : (Sh.mask kk c).length = 64 := by rw [← mskK_full]; exact mskK_len _ _ _
 rw [List.take_succ_eq_append_getElem (by omega)]
 have := mskK_get kk c 64 j hj
 rw [mskK_full, if_pos hj, List.getD_eq_getElem?_getD, List.getElem?_eq_getElem (by omega)] at this
 rw [← this]; rfl
set_option maxRecDepth 100000 in
set_option maxHeartbeats 8000000 in
theorem rtag_any (A A2 : Option Addr) (n c m d : Nat) (k t : List Nat) (w : World) (ht : Tabs w) (hA : Rb w A k) (hl : k.length = n) (hb : ∀ x ∈ k, x < 256) (hn : n ≤ 1900) (hc : n ≤ c ∧ c ≤ maxLen)
  (hA2 : Rb w A2 t) (hl2 : t.length = m) (hb2 : ∀ x ∈ t, x < 256) (hm : m ≤ 1900) :
  Calls Tryd.prog 47 #[.slice A n c, .slice A2 m d] w fun e w' => e = .returned (.agg (cellsK .u8 (Sh.tag k t))) ∧ Below w.heap.size w w' := by
 obtain ⟨B, hB⟩ : ∃ B, w.heap.size = B := ⟨_, rfl⟩
 have HB := Lib.hid hB
 have HT := Lib.hid ht
 have HA := Lib.hid hA
 have HL := Lib.hid hl
 have HBY := Lib.hid hb
 have HC := Lib.hid hc
 have HA2 := Lib.hid hA2
 have HL2 := Lib.hid hl2
 have HBY2 := Lib.hid hb2
 have O1 : Obj (w.alloc (.cells Z32 23)) B 23 Z32 := hB ▸ Obj.new w _ _
 have L1 : Below B w (w.alloc (.cells Z32 23)) := hB ▸ (Below.refl _ w).alloc (Nat.le_refl _) _
 have HO1 := Lib.hid O1
 have HL1 := Lib.hid L1
 clear ht hA hl hb hc hA2 hl2 hb2 O1 L1 hB
 have hn64 : n ≤ 9223372036854775807 := by omega
 go_enter Tryd.func47, Tryd.ntmps47
 go_upto_if 13 with fail
 go_cut [0] (fun s wx => TgK w B k s wx)
 case first =>
  by_cases h64 : 64 < n
  ·have h64' : 64 < (n : Int) := by omega
   have HS : Hid (Calls Tryd.prog 61 #[.slice A n c] (w.alloc (.cells Z32 23)) fun e w' => e = .returned (.agg (cellsK .u8 (Sh.sum k))) ∧ Below (w.alloc (.cells Z32 23)).heap.size (w.alloc (.cells Z32 23)) w') :=
    rsum_any A n c k _ (HT.out.below (HB.out ▸ HL1.out)) (HA.out.below (HB.out ▸ HL1.out)) HL.out HBY.out (by omega) HC.out
   have HKEY : Hid (Sh.key k = Sh.sum k) := by unfold Hid Sh.key; rw [if_pos (by rw [HL.out]; exact h64)]
   have HFIN : Hid (∀ w1, Below (w.alloc (.cells Z32 23)).heap.size (w.alloc (.cells Z32 23)) w1 → Obj (w1.alloc (.cells Z32 23)) w1.heap.size 23 Z32 ∧ TgK w B k (.slice (some ⟨w1.heap.size, 0, none⟩) 32 32) ((w1.alloc (.cells Z32 23)).setRow w1.heap.size (cellsK .u8 (Sh.sum k)))) := by
    intro w1 h1
    have o1 := HO1.out.kept h1
    have o2 := Obj.new w1 23 Z32
    have u := (Upd.refl w1.heap.size (w1.alloc (.cells Z32 23))).row (cellsK .u8 (Sh.sum k))
    have o3 := o2.row (cellsK .u8 (Sh.sum k))
    have hb1 : Below B w w1 := HL1.out.trans (h1.mono (by have := HO1.out.lt; omega))
    refine ⟨o2, _, _, _, rfl, by rw [HKEY.out, Sh.sum_len], ?_, (o1.alloc _).upd u (by have := o1.lt; omega), ?_⟩
    ·rw [HKEY.out]
     exact fun _ => ⟨_, _, rfl, o3.lt, fun i hi => by rw [Nat.zero_add]; exact o3.getK i hi⟩
    ·have hs1 := o1.lt
     exact ⟨u.os.trans hb1.os, u.tape.trans hb1.tape, u.output.trans hb1.output, Nat.le_trans hb1.size (by simp [row_size]), fun j hj => (u.block j (by simp; omega) (by omega)).trans ((Below.heap_alloc _ _ _ (by omega)).trans (hb1.block j hj))⟩
   have hsl := fun g w' => slice32all g w'
   have HSZ := Lib.hid (sizeH (Sh.sum_len k))
   have HSL := Lib.hid (Sh.sum_len k)
   go_wp2_with (first
    | (go_at_call 61; refine HS.out.mono ?_; rintro e w1 ⟨rfl, hb1⟩; have HX := Lib.hid (HFIN.out w1 hb1); clear hb1)
    | (refine wpList_store_row rfl 23 (.tmp 5) (.tmp 15) rfl _ _ rfl rfl _ _ HX.out.1 HSZ.out (by rw [cellsK_size, HSL.out]; rfl) (one_cellsK _ _) ?_))
   go_meet
   exact HX.out.2
  ·have h64' : ¬ 64 < (n : Int) := by omega
   have HFIN : Hid (TgK w B k (.slice A n c) (w.alloc (.cells Z32 23))) := by
    have hk : Sh.key k = k := by unfold Sh.key; rw [if_neg (by rw [HL.out]; exact h64)]
    exact ⟨_, _, _, rfl, by rw [hk, HL.out], by rw [hk]; exact HA.out.below (HB.out ▸ HL1.out), HO1.out, HL1.out⟩
   go_wp2
   go_meet
   exact HFIN.out
 obtain ⟨A', kn, kc, rfl, hkl, hkr, hO, hbc⟩ := hcut
 have hk64 := key_len k
 have hklt := key_lt k HBY.out
 have HTAG : Hid (Sh.tag k t = Sh.sum (Sh.mask (Sh.key k) 92 ++ Sh.sum (Sh.mask (Sh.key k) 54 ++ t))) := rfl
 have HTW : Hid (Tw wc wc.heap.size [] [] (.slice none 0 0) (.slice none 0 0) wc) := ⟨World.ownsRow_nil _ _ _ _, World.ownsRow_nil _ _ _ _, (fun g e => by cases e), Below.refl _ _, Nat.le_refl _⟩
 have HRC := Lib.hid hkr
 have HOC := Lib.hid hO
 have HBC := Lib.hid hbc
 have HKL := Lib.hid hkl
 have HKLT := Lib.hid hklt
 have hkn : kn ≤ 64 := by omega
 clear hkl hkr hO hbc hk64 hklt HO1 HL1
 generalize Sh.key k = kk at *
 go_wp2
 go_loopw [6, 7, 8, 9] (fun v1 v2 i _ wr => ∃ j : Nat, j ≤ 64 ∧ i = .int .i64 (j : Int) ∧ Tw wc wc.heap.size ((Sh.mask kk 54).take j) ((Sh.mask kk 92).take j) v1 v2 wr) (fun _ _ i _ _ => 64 - (intOf i).toNat)
 case atStart => exact ⟨0, by omega, rfl, HTW.out⟩
 case round =>
  clear HTW
  obtain ⟨j, hj, rfl, hR⟩ := hrel
  have hm1 : (Sh.mask kk 54).length = 64 := by rw [← mskK_full]; exact mskK_len _ _ _
  have hm2 : (Sh.mask kk 92).length = 64 := by rw [← mskK_full]; exact mskK_len _ _ _
  by_cases hlt : j < 64
  ·have hji : (j : Int) < 64 := by omega
   have hx := getD_lt8 HKLT.out j
   obtain ⟨Aa, ca, rfl, hla, _, _, _, _⟩ := own_rb hR.o1
   obtain ⟨Ab, cb, rfl, hlb, _, _, _, _⟩ := own_rb hR.o2
   have hq1 : ((Sh.mask kk 54).take j).length = j := by rw [List.length_take]; omega
   have hq2 : ((Sh.mask kk 92).take j).length = j := by rw [List.length_take]; omega
   by_cases hjk : j < kn
   ·have hjki : (j : Int) < (kn : Int) := by omega
    obtain ⟨A3, c3, w3, hr3, hT3⟩ := hR.app1 24 _ (kk.getD j 0 ^^^ 54) rfl (by omega)
    obtain ⟨A4, c4, w4, hr4, hT4⟩ := hT3.symm.app1 24 _ (kk.getD j 0 ^^^ 92) rfl (by omega)
    rw [hq1] at hr3 hT4 ⊢
    rw [hq2] at hr4 hT4 ⊢
    have HN := hT4.symm
    rw [← mask_next kk 54 j hlt, ← mask_next kk 92 j hlt] at HN
    have HNX := Lib.hid HN
    have HR3 := Lib.hid hr3
    have HR4 := Lib.hid hr4
    have hx1 : kk.getD j 0 ^^^ 54 < 256 := Nat.xor_lt_two_pow (n := 8) hx (by decide)
    have hx2 : kk.getD j 0 ^^^ 92 < 256 := Nat.xor_lt_two_pow (n := 8) hx (by decide)
    have e1 : bits .xor .u8 ((kk.getD j 0 : Nat) : Int) 54 = ((kk.getD j 0 ^^^ 54 : Nat) : Int) := u8_xor_nat _ 54 hx (by decide)
    have e2 : bits .xor .u8 ((kk.getD j 0 : Nat) : Int) 92 = ((kk.getD j 0 ^^^ 92 : Nat) : Int) := u8_xor_nat _ 92 hx (by decide)
    obtain ⟨bk, ok, hAk, hbk, hck⟩ := (HRC.out.below hR.bel) (by rw [HKL.out]; omega)
    have g0 : wr.cell? ⟨bk, ok + j, none⟩ = some (.int .u8 ((kk.getD j 0 : Nat) : Int)) := hck j (by rw [HKL.out]; exact hjk)
    subst hAk
    clear hR hT3 hT4 HN hr3 hr4 hck hbk
    generalize kk.getD j 0 ^^^ 54 = y1 at *
    generalize kk.getD j 0 ^^^ 92 = y2 at *
    generalize kk.getD j 0 = x at *
    go_wp2_with (first
     | (at_builtin; refine Lib.wpList_append_run _ rfl (.tmp 29) (.tmp 32) _ _ rfl _ _ rfl rfl _ _ HR3.out ?_)
     | (at_builtin; refine Lib.wpList_append_run _ rfl (.tmp 34) (.tmp 37) _ _ rfl _ _ rfl rfl _ _ HR4.out ?_))
    go_roundw
    case rel => exact ⟨j + 1, by omega, by go_num, HNX.out⟩
    case measure => simp [intOf]; omega
   ·have hjki : ¬ (j : Int) < (kn : Int) := by omega
    have h0 : kk.getD j 0 = 0 := by rw [List.getD_eq_getElem?_getD, List.getElem?_eq_none (by rw [HKL.out]; omega)]; rfl
    obtain ⟨A3, c3, w3, hr3, hT3⟩ := hR.app1 24 54 54 rfl (by omega)
    obtain ⟨A4, c4, w4, hr4, hT4⟩ := hT3.symm.app1 24 92 92 rfl (by omega)
    rw [hq1] at hr3 hT4 ⊢
    rw [hq2] at hr4 hT4 ⊢
    have HN := hT4.symm
    have m1 : (Sh.mask kk 54).take (j + 1) = (Sh.mask kk 54).take j ++ [54] := by rw [mask_next kk 54 j hlt, h0]; rfl
    have m2 : (Sh.mask kk 92).take (j + 1) = (Sh.mask kk 92).take j ++ [92] := by rw [mask_next kk 92 j hlt, h0]; rfl
    rw [← m1, ← m2] at HN
    have HNX := Lib.hid HN
    have HR3 := Lib.hid hr3
    have HR4 := Lib.hid hr4
    have e1 : bits .xor .u8 0 54 = 54 := by decide
    have e2 : bits .xor .u8 0 92 = 92 := by decide
    clear hR hT3 hT4 HN hr3 hr4 m1 m2 h0 hx
    go_wp2_with (first
     | (at_builtin; refine Lib.wpList_append_run _ rfl (.tmp 29) (.tmp 32) _ _ rfl _ _ rfl rfl _ _ HR3.out ?_)
     | (at_builtin; refine Lib.wpList_append_run _ rfl (.tmp 34) (.tmp 37) _ _ rfl _ _ rfl rfl _ _ HR4.out ?_))
    go_roundw
    case rel => exact ⟨j + 1, by omega, by go_num, HNX.out⟩
    case measure => simp [intOf]; omega
  ·obtain rfl : j = 64 := by omega
   rw [List.take_of_length_le (by omega), List.take_of_length_le (by omega)] at hR
   have q1 : ∀ x ∈ Sh.mask kk 54, x < 256 := by rw [← mskK_full]; exact mskK_lt kk HKLT.out 54 (by decide) 64
   have q2 : ∀ x ∈ Sh.mask kk 92, x < 256 := by rw [← mskK_full]; exact mskK_lt kk HKLT.out 92 (by decide) 64
   have hbw : Below B w wr := HBC.out.trans (hR.bel.mono (Nat.le_of_lt HOC.out.lt))
   have hBw : B = w.heap.size := HB.out.symm
   obtain ⟨Aa, ca, rfl, _, _, _, _, _⟩ := own_rb hR.o1
   obtain ⟨Ab, cb, rfl, _, _, _, _, _⟩ := own_rb hR.o2
   obtain ⟨v5, w5, hr5, ho5, hg5⟩ := own_app wr 24 hR.o1 A2 m d t HL2.out (HA2.out.below (hBw ▸ hbw)) (by omega) hR.le
   obtain ⟨A5, c5, rfl, _, hc5, hc5', hR5, _⟩ := own_rb ho5
   have ho2 := own_other hR.o2 hg5 hR.ne
   have hb5 : Below wc.heap.size wc w5 := hR.bel.grown hg5 hR.le (fun q e => (hR.o1.lt q e).1)
   have hbw5 : Below B w w5 := HBC.out.trans (hb5.mono (Nat.le_of_lt HOC.out.lt))
   rw [hm1] at hr5 hc5
   rw [hm2] at ho2
   rw [hm1, hm2]
   obtain ⟨q, hq⟩ : ∃ q, 64 + m = q := ⟨_, rfl⟩
   rw [hq] at hr5 hc5
   have HS1 : Hid (Calls Tryd.prog 61 #[.slice A5 q c5] w5 fun e w' => e = .returned (.agg (cellsK .u8 (Sh.sum (Sh.mask kk 54 ++ t)))) ∧ Below w5.heap.size w5 w') :=
    rsum_any A5 q c5 (Sh.mask kk 54 ++ t) w5 (HT.out.below (hBw ▸ hbw5)) hR5 (by rw [List.length_append, hm1, HL2.out]; exact hq) (fun x hx => by rcases List.mem_append.1 hx with h | h; exact q1 x h; exact HBY2.out x h) (by omega) ⟨hc5, hc5'⟩
   have hs1 := Sh.sum_len (Sh.mask kk 54 ++ t)
   have q3 := Sh.sum_lt (Sh.mask kk 54 ++ t)
   have HTG2 : Hid (Sh.tag k t = Sh.sum (Sh.mask kk 92 ++ Sh.sum (Sh.mask kk 54 ++ t))) := HTAG.out
   generalize Sh.sum (Sh.mask kk 54 ++ t) = s1 at *
   have hOC5 : Obj w5 B 23 Z32 := HOC.out.kept hb5
   have HF : Hid (∀ w6, Below w5.heap.size w5 w6 → Obj (w6.alloc (.cells Z32 23)) w6.heap.size 23 Z32 ∧ ∃ A8 c8 w8, (Builtin.append_ #[24, 24] 24 #[.slice Ab 64 cb, .slice (some ⟨w6.heap.size, 0, none⟩) 32 32]).run Tryd.prog ((w6.alloc (.cells Z32 23)).setRow w6.heap.size (cellsK .u8 s1)) = .ok (.slice A8 96 c8) w8 ∧
     Calls Tryd.prog 61 #[.slice A8 96 c8] w8 (fun e w' => e = .returned (.agg (cellsK .u8 (Sh.sum (Sh.mask kk 92 ++ s1)))) ∧ Below w8.heap.size w8 w') ∧ Obj w8 B 23 Z32 ∧ Below B w w8) := fun w6 h6 => by
    have o2 := Obj.new w6 23 Z32
    have u := (Upd.refl w6.heap.size (w6.alloc (.cells Z32 23))).row (cellsK .u8 s1)
    have hbel : Below w6.heap.size w6 ((w6.alloc (.cells Z32 23)).setRow w6.heap.size (cellsK .u8 s1)) := Upd.below ((Below.refl _ w6).alloc (Nat.le_refl _) _) (Nat.le_refl _) u
    have h7 : Below w5.heap.size w5 ((w6.alloc (.cells Z32 23)).setRow w6.heap.size (cellsK .u8 s1)) := h6.trans (hbel.mono h6.size)
    have o7 := o2.row (cellsK .u8 s1)
    obtain ⟨W7, hW7⟩ : ∃ W7, (w6.alloc (.cells Z32 23)).setRow w6.heap.size (cellsK .u8 s1) = W7 := ⟨_, rfl⟩
    rw [hW7] at h7 o7 ⊢
    have hw7 := ownsRow_kept ho2 h7
    have hle7 : wc.heap.size ≤ W7.heap.size := Nat.le_trans hb5.size h7.size
    obtain ⟨v8, w8, hr8, ho8, hg8⟩ := own_app W7 24 hw7 (some ⟨w6.heap.size, 0, none⟩) 32 32 s1 hs1 (fun _ => ⟨_, 0, rfl, o7.lt, fun i hi => by rw [Nat.zero_add]; exact o7.getK i hi⟩) (by omega) hle7
    obtain ⟨A8, c8, rfl, _, hc8, hc8', hR8, _⟩ := own_rb ho8
    have hb8 : Below wc.heap.size wc w8 := (hb5.trans (h7.mono hb5.size)).grown hg8 hle7 (fun q e => (hw7.lt q e).1)
    have hbw8 : Below B w w8 := HBC.out.trans (hb8.mono (Nat.le_of_lt HOC.out.lt))
    exact ⟨o2, A8, c8, w8, hr8, rsum_any A8 96 c8 _ w8 (HT.out.below (hBw ▸ hbw8)) hR8 (by rw [List.length_append, hm2, hs1]) (fun x hx => by rcases List.mem_append.1 hx with h | h; exact q2 x h; exact q3 x h) (by omega) ⟨hc8, hc8'⟩, HOC.out.kept hb8, hbw8⟩
   have HSZ := Lib.hid (sizeH hs1)
   have HSL := Lib.hid hs1
   have HSZ2 := Lib.hid (sizeH (Sh.sum_len (Sh.mask kk 92 ++ s1)))
   have HSL2 := Lib.hid (Sh.sum_len (Sh.mask kk 92 ++ s1))
   have HR5 := Lib.hid hr5
   have hsl := fun g w' => slice32all g w'
   clear hR q1 q2 q3 hbw hr5 ho5 hg5 hc5 hc5' hR5 ho2 hb5 hbw5 hs1 hOC5 hm1 hm2 hq
   generalize Sh.sum (Sh.mask kk 92 ++ s1) = s2 at *
   have hBB := HB.out
   subst hBB
   go_wp2_with (first
    | (at_builtin; refine Lib.wpList_append_run _ rfl (.tmp 39) (.tmp 40) _ _ rfl _ _ rfl rfl _ _ HR5.out ?_)
    | (go_at_call 61; refine HS1.out.mono ?_; rintro e w6 ⟨rfl, hb6⟩; obtain ⟨o6, A8, c8, w8, hr8, hs8, hO8, hB8⟩ := HF.out w6 hb6; have HO6 := Lib.hid o6; have HR8 := Lib.hid hr8; have HS8 := Lib.hid hs8; have HO8 := Lib.hid hO8; have HB8 := Lib.hid hB8; clear o6 hr8 hs8 hO8 hB8 hb6 HS1)
    | (refine wpList_store_row rfl 23 (.tmp 10) (.tmp 42) rfl _ _ rfl rfl _ _ HO6.out HSZ.out (by rw [cellsK_size, HSL.out]; rfl) (one_cellsK _ _) ?_)
    | (at_builtin; refine Lib.wpList_append_run _ rfl (.tmp 43) (.tmp 44) _ _ rfl _ _ rfl rfl _ _ HR8.out ?_)
    | (go_at_call 61; refine HS8.out.mono ?_; rintro e w9 ⟨rfl, hb9⟩; have HO9 := Lib.hid (HO8.out.kept hb9); have HB9 := Lib.hid (HB8.out.trans (hb9.mono (Nat.le_of_lt HO8.out.lt))); clear hb9 HS8)
    | (refine wpList_store_row rfl 23 (.tmp 4) (.tmp 46) rfl _ _ rfl rfl _ _ HO9.out HSZ2.out (by rw [cellsK_size, HSL2.out]; rfl) (one_cellsK _ _) ?_))
   exact bodyPost_ret (v := .agg (cellsK .u8 s2)) (results_cell_row rfl _ _ _ _ _ _ _ rfl (HO9.out.row _) Tryd.underlying23 rfl HSZ2.out) rfl ⟨by rw [HTG2.out], row_belowB HB9.out HO9.out.lt _⟩
end Go.Proofs.YtabfcaidioohfaaDoor
namespace Go.Proofs.YtabfcaidioohfaaDoor
open List (getElem?_toArray getElem?_cons_zero getElem?_cons_succ setIfInBounds_toArray set_cons_zero set_cons_succ)
set_option maxRecDepth 100000
open Go Go.RowKit Go.Shelf
set_option linter.unusedVariables false
set_option linter.unusedSimpArgs false
theorem trio (V : World) (ty1 ty2 ty3 : TypeId) (A : Option Addr) (L c : Nat) (l : List Nat) (hl : l.length = L) (hR : Rb V A l) (A2 : Option Addr) (m d : Nat) (info : List Nat) (hi : info.length = m) (hRi : Rb V A2 info) (i : Nat) (hL : L ≤ 1000) (hm : m ≤ 100000) :
  ∃ A1 c1 w1, (Builtin.append_ #[24, 24] ty1 #[.slice (some ⟨V.heap.size, 0, none⟩) 0 0, .slice A L c]).run Tryd.prog (V.alloc (.cells #[] 5)) = .ok (.slice A1 L c1) w1 ∧
  ∃ A3 c3 w2, (Builtin.append_ #[24, 24] ty2 #[.slice A1 L c1, .slice A2 m d]).run Tryd.prog w1 = .ok (.slice A3 (L + m) c3) w2 ∧
  ∃ A4 c4 w3, (Builtin.append_ #[24, 24] ty3 #[.slice A3 (L + m) c3, .slice (some ⟨w2.heap.size, 0, none⟩) 1 1]).run Tryd.prog (w2.alloc (.cells #[.int .u8 (i : Int)] 5)) = .ok (.slice A4 (L + m + 1) c4) w3 ∧ Rb w3 A4 (l ++ info ++ [i]) ∧ Below V.heap.size V w3 := by
 have b1 : Below V.heap.size V (V.alloc (.cells #[] 5)) := (Below.refl _ V).alloc (Nat.le_refl _) _
 obtain ⟨v1, w1, h1, h2, h3⟩ := own_app (V.alloc (.cells #[] 5)) ty1 (own_made V V.heap.size (Nat.le_refl _)) A L c l hl (hR.below b1) (by omega) (by simp)
 have b2 := b1.grown h3 (by simp) (fun k e => by cases e; exact Nat.le_refl _)
 rw [Nat.zero_add, List.nil_append] at h2
 obtain ⟨A1, c1, rfl, _, _, _, _, _⟩ := own_rb h2
 obtain ⟨v3, w2, h4, h5, h6⟩ := own_app w1 ty2 h2 A2 m d info hi (hRi.below b2) (by omega) b2.size
 have b3 := b2.grown h6 b2.size (fun k e => (h2.lt k e).1)
 obtain ⟨A3, c3, rfl, _, _, _, _, _⟩ := own_rb h5
 have b4 : Below V.heap.size V (w2.alloc (.cells #[.int .u8 (i : Int)] 5)) := b3.alloc b3.size _
 have h7 := ownsRow_kept h5 ((Below.refl _ w2).alloc (Nat.le_refl _) (.cells #[.int .u8 (i : Int)] 5))
 obtain ⟨v4, w3, h8, h9, h10⟩ := own_app (w2.alloc (.cells #[.int .u8 (i : Int)] 5)) ty3 h7 (some ⟨w2.heap.size, 0, none⟩) 1 1 [i] rfl (litL_rb w2 [i]) (by omega) b4.size
 obtain ⟨A4, c4, rfl, _, _, _, hr, _⟩ := own_rb h9
 exact ⟨A1, c1, w1, h1, A3, c3, w2, h4, A4, c4, w3, h8, hr, b4.grown h10 b4.size (fun k e => (h7.lt k e).1)⟩
set_option maxRecDepth 100000 in
set_option maxHeartbeats 400000 in
theorem rexpand_no (s : List Nat) (A : Option Addr) (m d : Nat) (n : Int) (w : World) (hn : n < 0 ∨ 255 < n) :
  Calls Tryd.prog 62 #[.agg (cellsK .u8 s), .slice A m d, .int .i64 n] w fun e w' => e = .returned (.slice none 0 0) ∧ Below w.heap.size w w' := by
 rcases hn with h | h
 ·go_enter Tryd.func62, Tryd.ntmps62
  go_wp2
  go_ret
  exact ⟨rfl, (Below.refl _ _).alloc (Nat.le_refl _) _⟩
 ·have h' : ¬ n < 0 := by omega
  go_enter Tryd.func62, Tryd.ntmps62
  go_wp2
  go_ret
  exact ⟨rfl, (Below.refl _ _).alloc (Nat.le_refl _) _⟩
set_option maxRecDepth 100000 in
set_option maxHeartbeats 8000000 in
theorem rexpand_any (s info : List Nat) (A2 : Option Addr) (m d n : Nat) (w : World) (ht : Tabs w) (hs : s.length = 32) (hs2 : ∀ x ∈ s, x < 256) (hA2 : Rb w A2 info) (hl2 : info.length = m) (hb2 : ∀ x ∈ info, x < 256) (hm : m ≤ 1800) (hn : n ≤ 255) :
  Calls Tryd.prog 62 #[.agg (cellsK .u8 s), .slice A2 m d, .int .i64 (n : Int)] w fun e w' => ∃ A c, e = .returned (.slice A n c) ∧ Rb w' A (Sh.expand s info n) ∧ Below w.heap.size w w' ∧ Fr w.heap.size A := by
 have HT := Lib.hid ht
 have HS := Lib.hid hs
 have HS2 := Lib.hid hs2
 have HA2 := Lib.hid hA2
 have HL2 := Lib.hid hl2
 have HBY2 := Lib.hid hb2
 have hni : (n : Int) ≤ 255 := by omega
 obtain ⟨wc, hwc⟩ : ∃ wc, w.alloc (.cells (cellsK .u8 s) 23) = wc := ⟨_, rfl⟩
 have hO0 : Obj wc w.heap.size 23 (cellsK .u8 s) := hwc ▸ Obj.new w _ _
 have hB0 : Below w.heap.size w wc := hwc ▸ (Below.refl _ w).alloc (Nat.le_refl _) _
 have HO0 := Lib.hid hO0
 have HB0 := Lib.hid hB0
 have HTW : Hid (Tw wc (w.heap.size + 1) [] [] (.slice none 0 0) (.slice none 0 0) wc) := ⟨World.ownsRow_nil _ _ _ _, World.ownsRow_nil _ _ _ _, (fun g e => by cases e), Below.refl _ _, hO0.lt⟩
 clear ht hs hs2 hA2 hl2 hb2 hO0 hB0
 go_enter Tryd.func62, Tryd.ntmps62
 go_wp2
 try rw [hwc]
 clear hwc
 obtain ⟨B, hB⟩ : ∃ B, w.heap.size = B := ⟨_, rfl⟩
 have HB := Lib.hid hB
 rw [hB] at HTW HO0 ⊢
 clear hB
 go_loopw [7, 8, 9, 10, 11] (fun ov lv i _ _ wr => ∃ k : Nat, k ≤ 8 ∧ (k = 0 ∨ 32 * (k - 1) < n) ∧ i = .int .i64 ((k + 1 : Nat) : Int) ∧ Tw wc (B + 1) (Sh.exK s info k).2 (Sh.exK s info k).1 ov lv wr) (fun _ _ i _ _ _ => 9 - (intOf i).toNat)
 case atStart => exact ⟨0, by omega, .inl rfl, rfl, HTW.out⟩
 case round =>
  clear HTW
  obtain ⟨k, hk, hkn, rfl, hR⟩ := hrel
  have hlk := exK_len s info k
  obtain ⟨q, hq⟩ : ∃ q, 32 * k = q := ⟨_, rfl⟩
  obtain ⟨Ao, co, rfl, _, hoc, hcm, hro, hAo⟩ := own_rb hR.o1
  obtain ⟨Al, cl, rfl, _, _, _, hrl, _⟩ := own_rb hR.o2
  have hbw : Below B w wr := (HB.out ▸ HB0.out).trans (hR.bel.mono (by omega))
  rw [hlk, hq] at hoc ⊢
  have hco : co ≤ 9223372036854775807 := by simp only [maxLen] at hcm; omega
  by_cases hlt : q < n
  ·have hd1 : decide ((q : Int) < (n : Int)) = true := by simp; omega
   obtain ⟨i1, hi1⟩ : ∃ i1, k + 1 = i1 := ⟨_, rfl⟩
   have hk8 : i1 ≤ 8 := by omega
   have HL := Lib.hid (exK_next s info k)
   have hlt1 := exK_lt s info k
   rw [hi1] at HL ⊢
   have hl1 : (Sh.exK s info k).1.length ≤ 32 := by
    cases k with
    | zero => simp [Sh.exK]
    | succ k => rw [(exK_next s info k).1, tag_len]; omega
   have HQ2 : (Sh.exK s info k).2.length = q := by rw [exK_len]; exact hq
   have HKK : Hid (k + 1 = i1 ∧ 32 * k = q) := ⟨hi1, hq⟩
   clear hlk hq
   generalize (Sh.exK s info k).2 = o at *
   generalize (Sh.exK s info k).1 = l at *
   obtain ⟨L, hL⟩ : ∃ L, l.length = L := ⟨_, rfl⟩
   rw [hL]
   have hu8 : IntKind.u8.wrap (i1 : Int) = (i1 : Int) := by rw [IntKind.wrap_u8]; omega
   obtain ⟨A1, c1, w1, hr1, A3, c3, w2, hr2, A4, c4, w3, hr3, hrt, hb3⟩ := trio wr 24 24 24 Al L cl l hL (by rw [hL] at *; exact hrl) A2 m d info HL2.out (HA2.out.below (HB.out.symm ▸ hbw)) i1 (by omega) (by omega)
   have hbw3 : Below B w w3 := hbw.trans (hb3.mono (by have := hbw.size; have := HB.out; omega))
   have hB3 : Below (B + 1) wc w3 := hR.bel.trans (hb3.mono hR.le)
   have hO3 : Obj w3 B 23 (cellsK .u8 s) := (hB3.block B (by omega)).trans HO0.out
   obtain ⟨nt, hnt⟩ : ∃ nt, L + m + 1 = nt := ⟨_, rfl⟩
   rw [hnt] at hr3
   have HTC : Hid (Calls Tryd.prog 47 #[.slice (some ⟨B, 0, none⟩) 32 32, .slice A4 nt c4] w3 fun e w' => e = .returned (.agg (cellsK .u8 (Sh.tag s (l ++ info ++ [i1])))) ∧ Below w3.heap.size w3 w') :=
    rtag_any (some ⟨B, 0, none⟩) A4 32 32 nt c4 s (l ++ info ++ [i1]) w3 (HT.out.below (HB.out.symm ▸ hbw3)) (fun _ => ⟨B, 0, rfl, hO3.lt, fun j hj => by rw [Nat.zero_add]; exact hO3.getK j hj⟩) HS.out HS2.out (by omega) ⟨Nat.le_refl _, by unfold maxLen; omega⟩ hrt (by rw [List.length_append, List.length_append, hL, HL2.out]; exact hnt) (fun x hx => by
     rcases List.mem_append.1 hx with hx | hx
     ·rcases List.mem_append.1 hx with hx | hx
      ·exact hlt1.1 x hx
      ·exact HBY2.out x hx
     ·rw [List.mem_singleton.1 hx]; omega) (by omega)
   have htl := tag_len s (l ++ info ++ [i1])
   generalize Sh.tag s (l ++ info ++ [i1]) = tg at *
   have ho3 := ownsRow_kept hR.o1 hb3
   rw [HQ2] at ho3
   have HF : Hid (∀ w4, Below w3.heap.size w3 w4 → Obj (w4.alloc (.cells Z32 23)) w4.heap.size 23 Z32 ∧ ∃ A5 c5 w6,
     (Builtin.append_ #[24, 24] 24 #[.slice (some ⟨w4.heap.size + 1, 0, none⟩) 0 0, .slice (some ⟨w4.heap.size, 0, none⟩) 32 32]).run Tryd.prog (((w4.alloc (.cells Z32 23)).setRow w4.heap.size (cellsK .u8 tg)).alloc (.cells #[] 5)) = .ok (.slice A5 32 c5) w6 ∧ ∃ A7 c7 w7,
     (Builtin.append_ #[24, 24] 24 #[.slice Ao q co, .slice A5 32 c5]).run Tryd.prog w6 = .ok (.slice A7 (q + 32) c7) w7 ∧ Tw wc (B + 1) (o ++ tg) tg (.slice A7 (q + 32) c7) (.slice A5 32 c5) w7) := fun w4 h4 => by
    have o2 := Obj.new w4 23 Z32
    have u := (Upd.refl w4.heap.size (w4.alloc (.cells Z32 23))).row (cellsK .u8 tg)
    have hbel : Below w4.heap.size w4 ((w4.alloc (.cells Z32 23)).setRow w4.heap.size (cellsK .u8 tg)) := Upd.below ((Below.refl _ w4).alloc (Nat.le_refl _) _) (Nat.le_refl _) u
    have o5 := o2.row (cellsK .u8 tg)
    have hsz : ((w4.alloc (.cells Z32 23)).setRow w4.heap.size (cellsK .u8 tg)).heap.size = w4.heap.size + 1 := by simp [row_size]
    have h5 : Below w3.heap.size w3 ((w4.alloc (.cells Z32 23)).setRow w4.heap.size (cellsK .u8 tg)) := h4.trans (hbel.mono h4.size)
    generalize (w4.alloc (.cells Z32 23)).setRow w4.heap.size (cellsK .u8 tg) = W5 at *
    have hm := own_made W5 W5.heap.size (Nat.le_refl _)
    have b5 : Below W5.heap.size W5 (W5.alloc (.cells #[] 5)) := (Below.refl _ W5).alloc (Nat.le_refl _) _
    have hro5 : Rb W5 (some ⟨w4.heap.size, 0, none⟩) tg := fun _ => ⟨_, 0, rfl, o5.lt, fun i hi => by rw [Nat.zero_add]; exact o5.getK i hi⟩
    obtain ⟨v6, w6, hr6, ho6, hg6⟩ := own_app (W5.alloc (.cells #[] 5)) 24 hm (some ⟨w4.heap.size, 0, none⟩) 32 32 tg htl (hro5.below b5) (by omega) (by simp)
    rw [Nat.zero_add, List.nil_append] at ho6
    obtain ⟨A5, c5, rfl, _, _, _, hR6, hA6⟩ := own_rb ho6
    have b6 : Below W5.heap.size W5 w6 := b5.grown hg6 (by simp) (fun k e => by cases e; exact Nat.le_refl _)
    have h36 : Below w3.heap.size w3 w6 := h5.trans (b6.mono h5.size)
    have hoo := ownsRow_kept ho3 h36
    have hB6 : Below (B + 1) wc w6 := hB3.trans (h36.mono (Nat.le_trans hR.le hb3.size))
    have hle6 : B + 1 ≤ w6.heap.size := Nat.le_trans hR.le (Nat.le_trans hb3.size h36.size)
    have hlw : wr.heap.size ≤ W5.heap.size := Nat.le_trans hb3.size h5.size
    obtain ⟨b', o', e', hlt', hc'⟩ := hR6 (by omega)
    subst e'
    obtain ⟨v7, w7, hr7, ho7, hg7, hne7⟩ := own_app2 w6 24 hoo b' o' 32 c5 tg htl hR6 (by omega) (by omega) hle6
    obtain ⟨A7, c7, rfl, _, _, _, _, _⟩ := own_rb ho7
    have hnb : ∀ g, (Value.slice Ao q co).ownBlock = some g → g < wr.heap.size := fun g e => (hR.o1.lt g (by rw [HQ2]; exact e)).2
    have hfb : ∀ g, (Value.slice (some ⟨b', o', none⟩) 32 c5).ownBlock = some g → W5.heap.size ≤ g ∧ g < w6.heap.size := fun g e => ho6.lt g e
    refine ⟨o2, some ⟨b', o', none⟩, c5, w6, by rw [← hsz]; exact hr6, A7, c7, w7, hr7, ?_, ?_, ?_, hB6.grown hg7 hle6 (fun g e => (hoo.lt g e).1), Nat.le_trans hle6 hg7.size⟩
    ·rw [List.length_append, HQ2, htl]; exact ho7
    ·rw [htl]
     have := own_other ho6 hg7 (fun g e1 e2 => by have := hnb g e1; have := (hfb g e2).1; omega)
     refine ⟨this.1, ?_⟩
     rcases this.2 with h0 | ⟨g, cap, cur, e, hb1, h3⟩
     ·exact .inl h0
     ·exact .inr ⟨g, cap, cur, e, by have := Nat.le_trans hR.le hlw; omega, h3⟩
    ·intro g e1 e2
     have hf := hfb g e2
     rcases hne7 g e1 with e | e
     ·have := hnb g e; omega
     ·omega
   have HSZ := Lib.hid (sizeH htl)
   have HTL := Lib.hid htl
   have HR1 := Lib.hid hr1
   have HR2 := Lib.hid hr2
   have HR3 := Lib.hid hr3
   have hsl := fun g w' => slice32all g w'
   clear hR hoc hcm hro hAo hrl hr1 hr2 hr3 hrt hb3 hbw hbw3 hB3 hO3 ho3 htl hi1 hlt1 hnt hl1 HQ2 hL
   go_wp2_with (first
    | (at_builtin; refine Lib.wpList_append_run _ rfl (.tmp 24) (.tmp 25) _ _ rfl _ _ rfl rfl _ _ HR1.out ?_)
    | (at_builtin; refine Lib.wpList_append_run _ rfl (.tmp 26) (.tmp 27) _ _ rfl _ _ rfl rfl _ _ HR2.out ?_)
    | (at_builtin; refine Lib.wpList_append_run _ rfl (.tmp 28) (.tmp 31) _ _ rfl _ _ rfl rfl _ _ HR3.out ?_)
    | (go_at_call 47; refine HTC.out.mono ?_; rintro e w4 ⟨rfl, hb4⟩; obtain ⟨o4, A5, c5, w6, hr6, A7, c7, w7, hr7, hT7⟩ := HF.out w4 hb4; have HO4 := Lib.hid o4; have HR6 := Lib.hid hr6; have HR7 := Lib.hid hr7; have HT7 := Lib.hid hT7; clear o4 hr6 hr7 hT7 hb4 HTC)
    | (refine wpList_store_row rfl 23 (.tmp 11) (.tmp 35) rfl _ _ rfl rfl _ _ HO4.out HSZ.out (by rw [cellsK_size, HTL.out]; rfl) (one_cellsK _ _) ?_)
    | (at_builtin; refine Lib.wpList_append_run _ rfl (.tmp 36) (.tmp 37) _ _ rfl _ _ rfl rfl _ _ HR6.out ?_)
    | (at_builtin; refine Lib.wpList_append_run _ rfl (.tmp 39) (.tmp 40) _ _ rfl _ _ rfl rfl _ _ HR7.out ?_))
   have HN := HT7.out
   rw [← HL.out.2, ← HL.out.1] at HN
   have HNX := Lib.hid HN
   clear HN HF
   go_roundw
   case rel => exact ⟨i1, hk8, .inr (by have := HKK.out; omega), by go_num, HNX.out⟩
   case measure => have := HKK.out.1; simp [intOf]; omega
  ·have hd1 : decide ((q : Int) < (n : Int)) = false := by simp; omega
   have hnq : n ≤ q := by omega
   have HFIN : Hid (Rb wr Ao (Sh.expand s info n)) := by
    have hk2 : (n + 31) / 32 = k := by omega
    unfold Hid Sh.expand
    rw [hk2]
    exact hro.take n
   have HBL := Lib.hid hbw
   have hnc : (n : Int) ≤ (co : Int) := by omega
   have HFR : Hid (Fr w.heap.size Ao) := by rw [HB.out]; exact hAo.imp id fun ⟨g, h1, h2⟩ => ⟨g, h1, by omega⟩
   have hzc : 0 < n → ∃ b, Ao = some ⟨b, 0, none⟩ := fun h => by
    obtain ⟨b, off, e, _, _⟩ := hro (by rw [hlk]; omega)
    rcases hAo with e2 | ⟨g, e2, _⟩
    ·rw [e2] at e; cases e
    ·exact ⟨g, e2⟩
   rcases hAo with rfl | ⟨g, rfl, _⟩
   ·have hn0 : n = 0 := by
     rcases Nat.eq_zero_or_pos n with h | h
     ·exact h
     ·obtain ⟨b, e⟩ := hzc h; cases e
    subst hn0
    clear hR hoc hcm hro hlk hq hbw hzc hrl
    go_wp2
    go_ret
    exact ⟨_, ⟨_, rfl⟩, HFIN.out, by rw [HB.out]; exact HBL.out, HFR.out⟩
   ·clear hR hoc hcm hro hlk hq hbw hzc hrl
    go_wp2
    go_ret
    exact ⟨_, ⟨_, rfl⟩, HFIN.out, by rw [HB.out]; exact HBL.out, HFR.out⟩
end Go.Proofs.YtabfcaidioohfaaDoor
namespace Go.Proofs.YtabfcaidioohfaaDoor
open List (getElem?_toArray getElem?_cons_zero getElem?_cons_succ setIfInBounds_toArray set_cons_zero set_cons_succ)
set_option maxRecDepth 100000
open Go Go.RowKit Go.Shelf
set_option linter.unusedVariables false
set_option linter.unusedSimpArgs false
def exS (s info : List Nat) (n : Int) : List Nat := if n < 0 ∨ 255 < n then [] else Sh.expand s info n.toNat
def RV (b0 : Nat) (l : List Nat) (v : Value) (w : World) : Prop := ∃ A c, v = .slice A l.length c ∧ Rb w A l ∧ l.length ≤ 300 ∧ Fr b0 A
theorem RV.nil {b0 : Nat} (w : World) : RV b0 [] (.slice none 0 0) w := ⟨none, 0, rfl, fun h => (by cases h), by simp, .inl rfl⟩
theorem RV.mono {b b0 : Nat} {l : List Nat} {v : Value} {w : World} (h : RV b l v w) (hb : b0 ≤ b) : RV b0 l v w := by
 obtain ⟨A, c, h1, h2, h3, h4⟩ := h
 exact ⟨A, c, h1, h2, h3, h4.mono hb⟩
theorem RV.below {b0 : Nat} {l : List Nat} {v : Value} {w w' : World} (h : RV b0 l v w) (hb : Below w.heap.size w w') : RV b0 l v w' := by
 obtain ⟨A, c, h1, h2, h3⟩ := h
 exact ⟨A, c, h1, h2.below hb, h3⟩
theorem ExV.rv {b0 : Nat} {s info : List Nat} {n : Int} {v : Value} {w : World} (h : ExV b0 s info n v w) : RV b0 (exS s info n) v w := by
 rcases h with ⟨h1, rfl⟩ | ⟨k, rfl, hk, A, rfl, hr, hf⟩
 ·unfold exS; rw [if_pos h1]; exact RV.nil w
 ·have : exS s info (k : Int) = Sh.expand s info k := by unfold exS; rw [if_neg (by omega)]; simp
  rw [this]
  have hl := Sh.expand_len s info k (exK_len s info)
  exact ⟨A, k, by rw [hl], hr, by rw [hl]; omega, hf⟩
theorem rexpand_all (s info : List Nat) (A2 : Option Addr) (m d : Nat) (n : Int) (w : World) (ht : Tabs w) (hs : s.length = 32) (hs2 : ∀ x ∈ s, x < 256) (hA2 : Rb w A2 info) (hl2 : info.length = m) (hb2 : ∀ x ∈ info, x < 256) (hm : m ≤ 1800) :
  Calls Tryd.prog 62 #[.agg (cellsK .u8 s), .slice A2 m d, .int .i64 n] w fun e w' => ∃ v, e = .returned v ∧ RV w.heap.size (exS s info n) v w' ∧ Below w.heap.size w w' := by
 by_cases h : n < 0 ∨ 255 < n
 ·refine (rexpand_no s A2 m d n w h).mono fun e w' ⟨h1, h2⟩ => ⟨_, h1, ?_, h2⟩
  unfold exS; rw [if_pos h]; exact RV.nil w'
 ·obtain ⟨k, rfl⟩ := Int.eq_ofNat_of_zero_le (show 0 ≤ n by omega)
  refine (rexpand_any s info A2 m d k w ht hs hs2 hA2 hl2 hb2 hm (by omega)).mono fun e w' ⟨A, c, h1, h2, h3, h4⟩ => ⟨_, h1, ?_, h3⟩
  have : exS s info (k : Int) = Sh.expand s info k := by unfold exS; rw [if_neg (by omega)]; simp
  rw [this]
  have hl := Sh.expand_len s info k (exK_len s info)
  exact ⟨A, c, by rw [hl], h2, by rw [hl]; omega, h4⟩
def labS (s : List Nat) (lab : ByteArray) (n : Int) : List Nat := if 60 < lab.size then [] else exS s (infoL (bl lab) (n / 256 % 256).toNat (n % 256).toNat) n
theorem label_all (s : List Nat) (lab : ByteArray) (n : Int) (w : World) (ht : Tabs w) (hs : s.length = 32) (hs2 : ∀ x ∈ s, x < 256) (hlab : lab.size ≤ maxLen) :
  Calls Tryd.prog 39 #[.agg (cellsK .u8 s), .string lab, .int .i64 n] w fun e w' => ∃ v, e = .returned v ∧ RV w.heap.size (labS s lab n) v w' ∧ Below w.heap.size w w' := by
 by_cases h : 60 < lab.size
 ·refine (label_no s lab n w h hlab).mono fun e w' ⟨h1, h2⟩ => ⟨_, h1, ?_, h2⟩
  unfold labS; rw [if_pos h]; exact RV.nil w'
 ·refine (label_any s lab n w ht hs hs2 (by omega)).mono fun e w' ⟨v, h1, h2, h3⟩ => ⟨_, h1, ?_, h3⟩
  unfold labS; rw [if_neg h]; exact h2.rv
theorem lit_own (V : World) (B : Nat) (hB : B ≤ V.heap.size) (l : List Nat) (hl : l.length ≤ 1000) : (V.alloc (.cells (l.map b8).toArray 5)).ownsRow B 5 1 (.slice (some ⟨V.heap.size, 0, none⟩) l.length l.length) l.length (l.map b8) :=
 ⟨by simp, .inr ⟨V.heap.size, l.length, (l.map b8).toArray, rfl, hB, Obj.new V _ _, Nat.le_refl _, by unfold maxLen; omega, by simp, by simp [List.take_of_length_le]⟩⟩
set_option maxRecDepth 100000 in
set_option maxHeartbeats 400000 in
theorem rlabel_no (s : List Nat) (lab : ByteArray) (n : Int) (w : World) (h1 : 60 < lab.size ∨ n < 0 ∨ 255 < n) (h2 : lab.size ≤ maxLen) :
  Calls Tryd.prog 49 #[.agg (cellsK .u8 s), .string lab, .int .i64 n] w fun e w' => e = .returned (.slice none 0 0) ∧ Below w.heap.size w w' := by
 unfold maxLen at h2
 by_cases g1 : 60 < lab.size
 ·have d1 : decide (60 < (lab.size : Int)) = true := by simp; omega
  go_enter Tryd.func49, Tryd.ntmps49
  go_wp2
  go_ret
  exact ⟨rfl, (Below.refl _ _).alloc (Nat.le_refl _) _⟩
 ·have d1 : decide (60 < (lab.size : Int)) = false := by simp; omega
  by_cases g2 : n < 0
  ·have d2 : decide (n < 0) = true := by simp; omega
   go_enter Tryd.func49, Tryd.ntmps49
   go_wp2
   go_ret
   exact ⟨rfl, (Below.refl _ _).alloc (Nat.le_refl _) _⟩
  ·have d2 : decide (n < 0) = false := by simp; omega
   have d3 : decide (255 < n) = true := by simp; omega
   go_enter Tryd.func49, Tryd.ntmps49
   go_wp2
   go_ret
   exact ⟨rfl, (Below.refl _ _).alloc (Nat.le_refl _) _⟩
set_option maxRecDepth 100000 in
set_option maxHeartbeats 8000000 in
theorem rlabel_any (s : List Nat) (lab : ByteArray) (n : Nat) (w : World) (ht : Tabs w) (hs : s.length = 32) (hs2 : ∀ x ∈ s, x < 256) (hlab : lab.size ≤ 60) (hn : n ≤ 255) :
  Calls Tryd.prog 49 #[.agg (cellsK .u8 s), .string lab, .int .i64 (n : Int)] w fun e w' => ∃ v, e = .returned v ∧ RV w.heap.size (exS s (infoL (bl lab) 0 n) (n : Int)) v w' ∧ Below w.heap.size w w' := by
 have HT := Lib.hid ht
 have HS := Lib.hid hs
 have HS2 := Lib.hid hs2
 have e1 : IntKind.u8.wrap (n : Int) = (n : Int) := by rw [IntKind.wrap_u8]; omega
 have d1 : decide (60 < (lab.size : Int)) = false := by simp; omega
 have d2 : decide ((n : Int) < 0) = false := by simp
 have d3 : decide (255 < (n : Int)) = false := by simp; omega
 obtain ⟨full, hfull⟩ : ∃ f, full6 lab = f := ⟨_, rfl⟩
 have HFU : Hid ((⟨#[116, 108, 115, 49, 51, 32]⟩ : ByteArray) ++ lab = full) := hfull
 have hfu : (⟨#[116, 108, 115, 49, 51, 32]⟩ : ByteArray) ++ lab = full := hfull
 obtain ⟨x2, hx2⟩ : ∃ x, full.size = x := ⟨_, rfl⟩
 have hx2e : x2 = 6 + lab.size := by rw [← hx2, ← hfull, full6_size]
 have b2 : x2 ≤ 66 := by omega
 have e2 : IntKind.u8.wrap (x2 : Int) = (x2 : Int) := by rw [IntKind.wrap_u8]; omega
 have e3 : 6 + (lab.size : Int) = (x2 : Int) := by omega
 have hcv : ∀ w : World, (convert 9 24 (.string full)).run Tryd.prog w = .ok (.slice (some ⟨w.heap.size, 0, none⟩) x2 (grownCap w x2 0 5))
   (w.drew.alloc (.cells (bytesRow full (grownCap w x2 0 5)) 5 ((bytesRow full (grownCap w x2 0 5)).size, (bytesRow full (grownCap w x2 0 5)).size + 1))) := fun w => by
  rw [← hx2]
  exact run_bytes_of_string w _ _ _ full Tryd.underlying9 Tryd.underlying24 Tryd.underlying5
 have HBL : Hid ((bl full).length = x2) := by unfold Hid; rw [bl_len]; exact hx2
 have HINF : Hid ([0, n, x2] ++ bl full ++ [0] = infoL (bl lab) 0 n) := by
  unfold Hid infoL
  rw [← hx2, ← hfull, full6_size, full6_bl, bl_len]
 have HBI : Hid (∀ x ∈ [0, n, x2] ++ bl full ++ [0], x < 256) := fun x hx => by
  rcases List.mem_append.1 hx with hx | hx
  ·rcases List.mem_append.1 hx with hx | hx
   ·simp at hx; omega
   ·exact bl_lt _ x hx
  ·simp at hx; omega
 have HSX := Lib.hid hx2
 obtain ⟨wr, hwr⟩ : ∃ wr, w.alloc (.cells (cellsK .u8 s) 23) = wr := ⟨_, rfl⟩
 have HE0 : Hid (LbP w w.heap.size s wr) := hwr ▸ ⟨Obj.new w _ _, (Below.refl _ w).alloc (Nat.le_refl _) _⟩
 have HSZ := Lib.hid (sizeH hs)
 -- what region 3 makes
 obtain ⟨cp, hcp⟩ : ∃ cp, grownCap (wr.alloc (.cells #[.int .u8 0, .int .u8 (n : Int), .int .u8 (x2 : Int)] 5)) x2 0 5 = cp := ⟨_, rfl⟩
 have hlt := HE0.out.sO.lt
 have ho1 := lit_own wr (w.heap.size + 1) hlt [0, n, x2] (by simp)
 have ho2 := ownsRow_kept ho1 (drew_alloc_below _ (.cells (bytesRow full cp) 5 ((bytesRow full cp).size, (bytesRow full cp).size + 1)))
 have hE1 := HE0.out.kept (((Below.refl _ wr).alloc (Nat.le_refl _) (.cells ([0, n, x2].map b8).toArray 5)))
 have hE2 := hE1.kept (drew_alloc_below _ (.cells (bytesRow full cp) 5 ((bytesRow full cp).size, (bytesRow full cp).size + 1)))
 obtain ⟨v3, w3, hr3, ho3, hg3⟩ := own_app _ 24 ho2 (some ⟨wr.heap.size + 1, 0, none⟩) x2 cp (bl full) HBL.out (by
  have := bytes_rb (wr.alloc (.cells ([0, n, x2].map b8).toArray 5)) full cp ((bytesRow full cp).size, (bytesRow full cp).size + 1)
  rw [World.size_alloc] at this
  exact this) (by simp; omega) hE2.sO.lt
 have hE3 : LbP w w.heap.size s w3 := ⟨(hg3.block _ hE2.sO.lt (fun e => by have := (ho2.lt _ e.symm).1; omega)).trans hE2.sO, hE2.bel.grown hg3 (Nat.le_of_lt hE2.sO.lt) (fun q e => by have := (ho2.lt q e).1; omega)⟩
 obtain ⟨A3, c3, rfl, _, _, _, _, _⟩ := own_rb ho3
 -- what region 4 makes
 have hE4 : LbP w w.heap.size s w3.drew := hE3.kept (Below.refl _ w3).drew
 have ho4 := ownsRow_kept ho3 (Below.refl _ w3).drew
 have hE5 := hE4.kept ((Below.refl _ w3.drew).alloc (Nat.le_refl _) (.cells #[.int .u8 0] 5))
 have ho5 := ownsRow_kept ho4 ((Below.refl _ w3.drew).alloc (Nat.le_refl _) (.cells #[.int .u8 0] 5))
 obtain ⟨v6, w6, hr6, ho6, hg6⟩ := own_app _ 24 ho5 (some ⟨w3.heap.size, 0, none⟩) 1 1 [0] rfl (litL_rb w3.drew [0]) (by simp; omega) hE5.sO.lt
 have hE6 : LbP w w.heap.size s w6 := ⟨(hg6.block _ hE5.sO.lt (fun e => by have := (ho5.lt _ e.symm).1; omega)).trans hE5.sO, hE5.bel.grown hg6 (Nat.le_of_lt hE5.sO.lt) (fun q e => by have := (ho5.lt q e).1; omega)⟩
 obtain ⟨A6, c6, rfl, hl6, _, _, hR6, _⟩ := own_rb ho6
 obtain ⟨n3, hn3⟩ : ∃ n3, [0, n, x2].length + x2 = n3 := ⟨_, rfl⟩
 have hn3b : n3 ≤ 80 := by rw [← hn3]; simp; omega
 rw [hn3] at hr3 hr6 hl6
 have HEX : Hid (Calls Tryd.prog 62 #[.agg (cellsK .u8 s), .slice A6 (n3 + 1) c6, .int .i64 (n : Int)] w6 fun e w' => ∃ v, e = .returned v ∧ RV w.heap.size (exS s (infoL (bl lab) 0 n) (n : Int)) v w' ∧ Below w6.heap.size w6 w') := by
  rw [← HINF.out]
  exact (rexpand_all s _ A6 (n3 + 1) c6 (n : Int) w6 (HT.out.below hE6.bel) HS.out HS2.out hR6 hl6 HBI.out (by omega)).mono fun e w' ⟨v, g1, g2, g3⟩ => ⟨v, g1, g2.mono hE6.bel.size, g3⟩
 have HR3 := Lib.hid hr3
 have HR6 := Lib.hid hr6
 have HO4 := Lib.hid hE4.sO
 have HO5 := Lib.hid hE5.sO
 have HE6 := Lib.hid hE6
 clear ht hs hs2 hfull hx2 hx2e hlt ho1 ho2 hE1 hE2 hr3 ho3 hg3 hE3 hE4 ho4 hE5 ho5 hr6 ho6 hg6 hE6 hl6 hR6 hn3
 have hxs : full.size = x2 := HSX.out
 go_enter Tryd.func49, Tryd.ntmps49
 go_wp2_with (at_builtin; refine Lib.wpList_append_run _ rfl (.tmp 25) (.tmp 28) _ _ rfl _ _ rfl rfl _ _ HR3.out ?_)
 refine wp_region_held_drew (S := (fun wq => Obj wq w.heap.size 23 (cellsK .u8 s))) (by kernel_rfl) HO4.out (fun hHeld => ?_)
 refine tkH 0 ?_ (hy := by
  refine h_yieldsIf_load_row (g := w.heap.size) (t := 23) (cs := (cellsK .u8 s)) (ty := 23) (x := (.tmp 3)) ?_ ?_ ?_ ?_ Tryd.underlying23 rfl HSZ.out
  ·rfl
  ·rfl
  ·rfl
  ·exact fun w hSw => hSw)
 refine tkH 1 ?_
 refine tkH 4 ?_
 refine onH 2 (fun KK hKK => ?_)
 go_simp
 refine hKK.out _ _ ?_ (fun hh1 => ?_)
 ·(try dsimp only)
  exact HO5.out
 clear hKK KK
 try simp only [Act.put, setIfInBounds_toArray, set_cons_zero, set_cons_succ]
 refine onH 3 (fun KK hKK => ?_)
 rw [if_pos (by rfl)]
 refine Lib.wp_append_run _ _ _ _ _ rfl _ _ rfl rfl _ _ HR6.out ?_
 refine hKK.out _ _ ?_ (fun hh2 => ?_)
 ·(try dsimp only)
  exact HE6.out.sO
 clear hKK KK
 try simp only [Act.put, setIfInBounds_toArray, set_cons_zero, set_cons_succ]
 refine onH 5 (fun KK hKK => ?_)
 go_simp
 refine HEX.out.mono ?_; rintro e w7 ⟨v7, rfl, hv7, hb7⟩
 try go_wp2_with fail
 have HE7 := Lib.hid (HE6.out.kept hb7)
 refine hKK.out _ _ ?_ (fun hh3 => ?_)
 ·(try dsimp only)
  exact HE7.out.sO
 clear hKK KK
 try simp only [Act.put, setIfInBounds_toArray, set_cons_zero, set_cons_succ]
 refine onH 6 (fun KK hKK => ?_)
 go_simp
 refine hKK.out _ _ ?_ (fun hh4 => ?_)
 ·(try dsimp only)
  exact HE7.out.sO
 clear hKK KK
 try simp only [Act.put, setIfInBounds_toArray, set_cons_zero, set_cons_succ]
 refine wpAnyH_done (by kernel_rfl) ?_ _
 go_wp2
 go_ret
 exact ⟨_, rfl, hv7, HE7.out.bel⟩
end Go.Proofs.YtabfcaidioohfaaDoor
namespace Go.Proofs.YtabfcaidioohfaaDoor
open List (getElem?_toArray getElem?_cons_zero getElem?_cons_succ setIfInBounds_toArray set_cons_zero set_cons_succ)
set_option maxRecDepth 100000
open Go Go.RowKit
set_option linter.unusedVariables false
set_option linter.unusedSimpArgs false
def jefe : List Nat := [74, 101, 102, 101]
def what : List Nat := [119, 104, 97, 116, 32, 100, 111, 32, 121, 97, 32, 119, 97, 110, 116, 32, 102, 111, 114, 32, 110, 111, 116, 104, 105, 110, 103, 63]
/-- A slice's conversion to its own type: its block is marked. -/
theorem conv_self {w : World} {g n c : Nat} {C : Array Value} (hO : Obj w g 5 C) : ∃ w', (convert 24 24 (.slice (some ⟨g, 0, none⟩) n c)).run Tryd.prog w = .ok (.slice (some ⟨g, 0, none⟩) n c) w' ∧ Upd g w w' ∧ ∀ i, w'.cell? ⟨g, i, none⟩ = C[i]? := by
 have hsh : w.shape? g = some (5, C.size) := by
  unfold World.shape?
  have : w.heap[g]? = _ := hO
  rw [this]
 refine ⟨w.freeze ⟨g, C.size, none⟩ 1, ?_, ?_, ?_⟩
 ·simp [convert, run_underlying Tryd.underlying24, run_underlying Tryd.underlying5, markStringish, hsh]
 ·unfold World.freeze
  rw [if_neg (by decide)]
  refine ⟨rfl, rfl, rfl, by simp, fun k hk hne => ?_⟩
  show (w.heap.modify g _)[k]? = _
  rw [Array.getElem?_modify, if_neg (fun e => hne e.symm)]
 ·intro i
  unfold World.freeze
  rw [if_neg (by decide)]
  unfold World.cell?
  have : w.heap[g]? = _ := hO
  dsimp only
  rw [Array.getElem?_modify, if_pos rfl, this]
  rfl
theorem h_conv_at (w : World) (C : Array Value) (n c g : Nat) (hg : g = w.heap.size) :
  (convert 24 24 (.slice (some ⟨g, 0, none⟩) n c)).run Tryd.prog (w.alloc (.cells C 5)) = .ok (.slice (some ⟨g, 0, none⟩) n c) (w.alloc (.cells C 5 (C.size, C.size + 1))) := by
 subst hg; exact Lib.run_convert_bytes_const w 24 5 C n c Tryd.underlying24 Tryd.underlying5
theorem Rb.upd {w w' : World} {b g : Nat} {l : List Nat} (h : Rb w (some ⟨b, 0, none⟩) l) (hu : Upd g w w') (hne : b ≠ g) : Rb w' (some ⟨b, 0, none⟩) l := fun hp => by
 obtain ⟨b', o, e, h1, h2⟩ := h hp
 cases e
 exact ⟨_, _, rfl, Nat.lt_of_lt_of_le h1 hu.size, fun i hi => (World.cell?_of_block (a := ⟨b, 0 + i, none⟩) (hu.block b h1 hne)).trans (h2 i hi)⟩
theorem cells_rb {w : World} {g : Nat} {l : List Nat} (hg : g < w.heap.size) (h : ∀ i, w.cell? ⟨g, i, none⟩ = (cellsK .u8 l)[i]?) : Rb w (some ⟨g, 0, none⟩) l := fun _ =>
 ⟨g, 0, rfl, hg, fun i hi => by rw [Nat.zero_add, h i, cellsK_get _ _ _ hi]; rfl⟩
theorem lit_rb (w : World) (l : List Nat) (fr : Nat × Nat) : Rb (w.alloc (.cells (cellsK .u8 l) 5 fr)) (some ⟨w.heap.size, 0, none⟩) l :=
 cells_rb (by simp) (fun i => World.cell?_alloc_mark w (cellsK .u8 l) 5 fr i)
theorem cellsK_u8 {l : List Nat} (h : ∀ x ∈ l, x < 256) : cellsK .u8 l = ((l.map UInt8.ofNat).map Extern.Stop.cell).toArray := by
 unfold cellsK
 rw [List.map_map]
 congr 1
 refine List.map_congr_left fun c hc => ?_
 have := h c hc
 show Value.int .u8 (c : Int) = Extern.Stop.cell (UInt8.ofNat c)
 unfold Extern.Stop.cell
 rw [UInt8.toNat_ofNat', Nat.mod_eq_of_lt (by omega)]
 rfl
/-- A digest is equal to itself. -/
theorem eqH {x : List Nat} (hx : x.length = 32) (qx : ∀ c ∈ x, c < 256) (w : World) :
  (binOp .eql 23 (.agg (cellsK .u8 x)) (.agg (cellsK .u8 x))).run Tryd.prog w = .ok (.bool true) w := by
 rw [cellsK_u8 qx, run_eql_bytes w 23 5 32 Tryd.underlying23 Tryd.underlying5 (fun w => by kernel_rfl) _ _ (by simpa using hx) (by simpa using hx)]
 simp
theorem eqgH : Tryd.prog.eqGuardType Tryd.prog.depth 23 = false := by kernel_rfl
/-- alive's two digests. -/
structure AlP (w0 : World) (p1 p2 : Nat) (S1 S2 : List Nat) (V : World) : Prop where
 o1 : Obj V p1 23 (cellsK .u8 S1)
 o2 : Obj V p2 23 (cellsK .u8 S2)
 bel : Below w0.heap.size w0 V
theorem AlP.kept {w0 V V' : World} {p1 p2 : Nat} {S1 S2 : List Nat} (h : AlP w0 p1 p2 S1 S2 V) (hb : Below V.heap.size V V') : AlP w0 p1 p2 S1 S2 V' := ⟨h.o1.kept hb, h.o2.kept hb, h.bel.trans (hb.mono h.bel.size)⟩
theorem AlP.new {w0 V : World} {p1 p2 : Nat} {S1 S2 : List Nat} (h : AlP w0 p1 p2 S1 S2 V) (T : TypeId) (cs : Array Value) : Obj (V.alloc (.cells cs T)) V.heap.size T cs := Obj.new V T cs
theorem AlP.upd {w0 V V' : World} {p1 p2 g : Nat} {S1 S2 : List Nat} (h : AlP w0 p1 p2 S1 S2 V) (hu : Upd g V V') (h1 : p1 < g) (h2 : p2 < g) (hg : w0.heap.size ≤ g) : AlP w0 p1 p2 S1 S2 V' :=
 ⟨h.o1.upd hu (by omega), h.o2.upd hu (by omega), ⟨hu.os.trans h.bel.os, hu.tape.trans h.bel.tape, hu.output.trans h.bel.output, Nat.le_trans h.bel.size hu.size, fun k hk => (hu.block k (by have := h.bel.size; omega) (by omega)).trans (h.bel.block k hk)⟩⟩
end Go.Proofs.YtabfcaidioohfaaDoor
