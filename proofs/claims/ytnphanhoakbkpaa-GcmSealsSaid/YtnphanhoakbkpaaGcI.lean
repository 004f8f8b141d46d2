/- Layer 9's gcm, walked: begin and tag. -/
import Derived.RangeFuncNested
import Derived.RangeFuncBound
import Derived.RangeFuncCalls
import Derived.RangeFuncLeaves
import Derived.RangeFuncBox
import Derived.Shelf.Abstract
import Derived.Shelf.RegionOpen
import Derived.WalkKit
import Derived.OwnWalkIn
import Derived.TacticsInMore
import Derived.LoopN
import Derived.LoopNIn
import Derived.LoopIn
import Derived.WalkSpells
import Derived.WalkLawsBesides
import Derived.Laws.Rows
import Derived.Laws.EntriesVeiled
import Derived.Laws.BitsAllLaws
import Derived.Handy
import Derived.BigQuiet
import Derived.Deep.QuietTactic
import Derived.IntWalk
import Derived.Lib.Hide
import Derived.Outline
import Derived.Test.YtnphanhoakbkpaaRows
import Derived.Test.YtnphanhoakbkpaaAid
import Derived.Test.YtnphanhoakbkpaaPlainAe
import Derived.Test.YtnphanhoakbkpaaPlainAe2
import Derived.Test.YtnphanhoakbkpaaPlainGc
import Derived.Test.YtnphanhoakbkpaaPlainGc2
import Derived.Test.YtnphanhoakbkpaaAesB
import Derived.Test.YtnphanhoakbkpaaAesBox
import Derived.Test.YtnphanhoakbkpaaAesW
import Derived.Test.YtnphanhoakbkpaaAesE
import Derived.Test.YtnphanhoakbkpaaAesK
import Derived.Test.YtnphanhoakbkpaaAesS
import Derived.Test.YtnphanhoakbkpaaAesT
import Derived.Test.YtnphanhoakbkpaaBl
import Derived.Test.YtnphanhoakbkpaaItF
import Derived.Test.YtnphanhoakbkpaaGcA
import Derived.Test.YtnphanhoakbkpaaGcB
import Derived.Test.YtnphanhoakbkpaaGcD
import Derived.Test.YtnphanhoakbkpaaGcE
import Derived.Test.YtnphanhoakbkpaaGcF
import Derived.Test.YtnphanhoakbkpaaGcG
import Derived.Test.YtnphanhoakbkpaaGcH
import Derived.Laws.CopyOwn
namespace Go.Proofs.Ytnphanhoakbkpaa
open Go Go.RowKit Go.Shelf
set_option linter.unusedVariables false
set_option linter.unusedSimpArgs false
/-- Two rows behind results that are cells. -/
theorem two_cells {P : Program} {fn : Func} {p q : Tmp} {ty : TypeId} (h : fn.results = #[.cell p ty, .cell q ty]) (tmps : Array Value) (w : World) (g g' : Nat) (t t' : TypeId) (cs cs' : Array Value) (d : TypeDesc)
    (hp : tmps.getD p undef = .pointer (some ⟨g, 0, none⟩)) (hq : tmps.getD q undef = .pointer (some ⟨g', 0, none⟩)) (hg : Obj w g t cs) (hg' : Obj w g' t' cs')
    (hu : P.underlying ty = some d) (hd : (match d with | .struct _ | .array _ _ => true | _ => false) = true) (hi : (P.info? ty).map (·.size) = some cs.size) (hi' : (P.info? ty).map (·.size) = some cs'.size) :
    (results fn tmps).run P w = .ok (.tuple #[.agg cs, .agg cs']) w := by
  have hp' : tmps[p]?.getD undef = .pointer (some ⟨g, 0, none⟩) := by simpa using hp
  have hq' : tmps[q]?.getD undef = .pointer (some ⟨g', 0, none⟩) := by simpa using hq
  simp [results, h, hp', hq', asAddr, run_loadVar_row w g t ty cs _ d hg hu hd hi, run_loadVar_row w g' t' ty cs' _ d hg' hu hd hi', Result.andThen]
theorem b1_set {n : List Nat} (h : n.length = 12) : (Gc.pad n).set 15 1 = Gc.b1 n := by
  unfold Gc.pad Gc.b1
  rw [h, List.set_append_right _ _ (by omega), h]
  rfl
theorem b2_set {n : List Nat} (h : n.length = 12) : (Gc.b1 n).set 15 2 = Gc.b2 n := by
  unfold Gc.b1 Gc.b2
  rw [List.set_append_right _ _ (by omega), h]
  rfl
theorem b1_len {n : List Nat} (h : n.length = 12) : (Gc.b1 n).length = 16 := by simp [Gc.b1, h]
theorem b2_len {n : List Nat} (h : n.length = 12) : (Gc.b2 n).length = 16 := by simp [Gc.b2, h]
theorem info12 : (Try.prog.info? 28).map (·.size) = some 12 := by kernel_rfl
theorem size12 {l : List Nat} (h : l.length = 12) : (Try.prog.info? 28).map (·.size) = some (cellsN l).size := by rw [cellsN_size, h]; exact info12
theorem slice12all (g : Nat) (w : World) :
    (Instr.sliceAt 28 (.pointer (some ⟨g, 0, none⟩)) none none none).run Try.prog w = .ok (.slice (some ⟨g, 0, none⟩) 12 12) w := by kernel_rfl
theorem src12 {w : World} {g : Nat} {t : TypeId} {l : List Nat} (h : Obj w g t (cellsN l)) : ∀ j v, (l.map u8v)[j]? = some v → w.cell? ((⟨g, 0, none⟩ : Addr).add j) = some v := fun j v hv => by
  rw [List.getElem?_map] at hv
  obtain ⟨x, hx, rfl⟩ := Option.map_eq_some_iff.1 hv
  obtain ⟨hj, rfl⟩ := List.getElem?_eq_some_iff.1 hx
  have := h.getN j hj
  rw [show (⟨g, 0, none⟩ : Addr).add j = ⟨g, j, none⟩ by rcases Nat.eq_zero_or_pos j with h0 | h0 <;> simp [Addr.add, h0]; try omega]
  rw [this]
  simp [List.getD_eq_getElem?_getD, hj, u8v]

set_option maxRecDepth 100000 in
set_option maxHeartbeats 4000000 in
theorem begin_any (n : List Nat) (w : World) (hl : n.length = 12) (hb : Ae.bytes n) :
    Calls Try.prog 27 #[.agg (cellsN n)] w fun e w' => e = .returned (.tuple #[.agg (cellsN (Gc.b1 n)), .agg (cellsN (Gc.b2 n))]) ∧ Below w.heap.size w w' := by
  obtain ⟨B, hB⟩ : ∃ B, w.heap.size = B := ⟨_, rfl⟩
  obtain ⟨W4, hW4⟩ : ∃ W4, (((w.alloc (.cells (cellsN n) 28)).alloc (.cells #[.int .u8 0, .int .u8 0, .int .u8 0, .int .u8 0, .int .u8 0, .int .u8 0, .int .u8 0, .int .u8 0, .int .u8 0, .int .u8 0, .int .u8 0, .int .u8 0, .int .u8 0, .int .u8 0, .int .u8 0, .int .u8 0] 22)).alloc (.cells #[.int .u8 0, .int .u8 0, .int .u8 0, .int .u8 0, .int .u8 0, .int .u8 0, .int .u8 0, .int .u8 0, .int .u8 0, .int .u8 0, .int .u8 0, .int .u8 0, .int .u8 0, .int .u8 0, .int .u8 0, .int .u8 0] 22)).alloc (.cells #[.int .u8 0, .int .u8 0, .int .u8 0, .int .u8 0, .int .u8 0, .int .u8 0, .int .u8 0, .int .u8 0, .int .u8 0, .int .u8 0, .int .u8 0, .int .u8 0, .int .u8 0, .int .u8 0, .int .u8 0, .int .u8 0] 22) = W4 := ⟨_, rfl⟩
  have hb4 : Below B w W4 := hW4 ▸ hB ▸ ((((Below.refl _ w).alloc (Nat.le_refl _) _).alloc (by simp) _).alloc (by simp; omega) _).alloc (by simp; omega) _
  have s4 : W4.heap.size = B + 4 := by rw [← hW4]; simp [hB]
  have o0 : Obj W4 B 28 (cellsN n) := hW4 ▸ hB ▸ (((Obj.new w _ _).alloc _).alloc _).alloc _
  have o1 : Obj W4 (B + 1) 22 (cellsN (List.replicate 16 0)) := by
    have := ((new2 w (.cells (cellsN n) 28) 22 #[.int .u8 0, .int .u8 0, .int .u8 0, .int .u8 0, .int .u8 0, .int .u8 0, .int .u8 0, .int .u8 0, .int .u8 0, .int .u8 0, .int .u8 0, .int .u8 0, .int .u8 0, .int .u8 0, .int .u8 0, .int .u8 0]).alloc (.cells #[.int .u8 0, .int .u8 0, .int .u8 0, .int .u8 0, .int .u8 0, .int .u8 0, .int .u8 0, .int .u8 0, .int .u8 0, .int .u8 0, .int .u8 0, .int .u8 0, .int .u8 0, .int .u8 0, .int .u8 0, .int .u8 0] 22)).alloc (.cells #[.int .u8 0, .int .u8 0, .int .u8 0, .int .u8 0, .int .u8 0, .int .u8 0, .int .u8 0, .int .u8 0, .int .u8 0, .int .u8 0, .int .u8 0, .int .u8 0, .int .u8 0, .int .u8 0, .int .u8 0, .int .u8 0] 22)
    rw [hB, hW4] at this; exact this
  have o2 : Obj W4 (B + 2) 22 (cellsN (List.replicate 16 0)) := by
    have := (Obj.new ((w.alloc (.cells (cellsN n) 28)).alloc (.cells #[.int .u8 0, .int .u8 0, .int .u8 0, .int .u8 0, .int .u8 0, .int .u8 0, .int .u8 0, .int .u8 0, .int .u8 0, .int .u8 0, .int .u8 0, .int .u8 0, .int .u8 0, .int .u8 0, .int .u8 0, .int .u8 0] 22)) 22 #[.int .u8 0, .int .u8 0, .int .u8 0, .int .u8 0, .int .u8 0, .int .u8 0, .int .u8 0, .int .u8 0, .int .u8 0, .int .u8 0, .int .u8 0, .int .u8 0, .int .u8 0, .int .u8 0, .int .u8 0, .int .u8 0]).alloc (.cells #[.int .u8 0, .int .u8 0, .int .u8 0, .int .u8 0, .int .u8 0, .int .u8 0, .int .u8 0, .int .u8 0, .int .u8 0, .int .u8 0, .int .u8 0, .int .u8 0, .int .u8 0, .int .u8 0, .int .u8 0, .int .u8 0] 22)
    simp only [World.size_alloc, hB] at this; rw [hW4] at this; exact this
  have o3 : Obj W4 (B + 3) 22 (cellsN (List.replicate 16 0)) := by
    have := Obj.new (((w.alloc (.cells (cellsN n) 28)).alloc (.cells #[.int .u8 0, .int .u8 0, .int .u8 0, .int .u8 0, .int .u8 0, .int .u8 0, .int .u8 0, .int .u8 0, .int .u8 0, .int .u8 0, .int .u8 0, .int .u8 0, .int .u8 0, .int .u8 0, .int .u8 0, .int .u8 0] 22)).alloc (.cells #[.int .u8 0, .int .u8 0, .int .u8 0, .int .u8 0, .int .u8 0, .int .u8 0, .int .u8 0, .int .u8 0, .int .u8 0, .int .u8 0, .int .u8 0, .int .u8 0, .int .u8 0, .int .u8 0, .int .u8 0, .int .u8 0] 22)) 22 #[.int .u8 0, .int .u8 0, .int .u8 0, .int .u8 0, .int .u8 0, .int .u8 0, .int .u8 0, .int .u8 0, .int .u8 0, .int .u8 0, .int .u8 0, .int .u8 0, .int .u8 0, .int .u8 0, .int .u8 0, .int .u8 0]
    simp only [World.size_alloc, hB] at this; rw [hW4] at this; exact this
  have HW4 := Lib.hid hW4
  have HB := Lib.hid hB
  have HL := Lib.hid hl
  have hsl := fun w => slice16all (B + 1 + 1 + 1) w
  have hsl2 := fun w => slice12all B w
  clear hW4
  go_enter Try.func27, Try.ntmps27
  go_wp2
  rw [HW4.out]
  refine wp_nopanic0 ?_
  refine wp_region_held_drew (S := (fun _ => True)) (by kernel_rfl) trivial (fun hHeld => ?_)
  refine wpAnyH_take (i := 0) (oi := ?_) (v := ?_) ?_ ?_ ?_ ?_ ?_ ?_ (by assumption) ?_
  rotate_left 2
  · simp only [List.getElem?_toArray, List.getElem?_cons_zero, List.getElem?_cons_succ]
    rfl
  · kernel_rfl
  · kernel_rfl
  · kernel_rfl
  · exact fun _ _ _ h => h
  · refine Or.inl ⟨by rfl, ?_⟩
    intro w hSw
    (try dsimp only at hSw)
    go_simp
    all_goals with_reducible rfl
  simp only [Act.put, List.setIfInBounds_toArray, List.set_cons_zero, List.set_cons_succ]
  refine wpAnyH_take (i := 1) (oi := ?_) (v := ?_) ?_ ?_ ?_ ?_ ?_ ?_ (by assumption) ?_
  rotate_left 2
  · simp only [List.getElem?_toArray, List.getElem?_cons_zero, List.getElem?_cons_succ]
    rfl
  · kernel_rfl
  · kernel_rfl
  · kernel_rfl
  · exact fun _ _ _ h => h
  · refine Or.inl ⟨by rfl, ?_⟩
    intro w hSw
    (try dsimp only at hSw)
    go_simp
    all_goals with_reducible rfl
  simp only [Act.put, List.setIfInBounds_toArray, List.set_cons_zero, List.set_cons_succ]
  refine wpAnyH_ready (rs := [2]) (by kernel_rfl) (by simp) ?_
  refine AllReadyH.cons (o := ?_) ?_ (fun KK hKK => ?_) AllReadyH.nil
  rotate_left
  · simp only [List.getElem?_toArray, List.getElem?_cons_zero, List.getElem?_cons_succ]
    rfl
  refine step_copy_splice rfl (.tmp 6) (.tmp 7) 23 23 rfl 5 Try.underlying23 hsz8 _ _ _ _ _ _ rfl rfl (B + 1 + 1 + 1) 0 ((List.replicate 16 0).map u8v) 22 o3.drew (n.map u8v) ?_ (fun _ => ⟨rfl, _, rfl, src12 o0.drew⟩) ?_ ?_ (B + 3) W4.drew (Below.refl _ _) (Nat.le_refl _) ?_
  · rw [List.length_map, HL.out]; rfl
  · rw [List.length_map, HL.out]; decide
  · intro v hv
    obtain ⟨c, _, rfl⟩ := List.mem_map.1 hv
    rfl
  intro w4 hg4 hb4'
  have hg3 : Obj w4 (B + 1 + 1 + 1) 22 (cellsN (Gc.pad n)) := by have h := hg4.out; rw [pad_splice n (by omega)] at h; exact h
  have u3 : Below (B + 3) W4.drew w4 := hb4'
  clear hg4 hb4'
  refine hKK.out _ _ ?_ (fun hh2 => ?_)
  · (try dsimp only)
    try trivial
  clear hKK KK
  try simp only [Act.put, List.setIfInBounds_toArray, List.set_cons_zero, List.set_cons_succ]
  refine wpAnyH_done (by kernel_rfl) ?_ _
  have U3 := Lib.hid u3
  have HPL : Hid ((Gc.pad n).length = 16) := Gc.pad_len (by rw [hl]; omega)
  have c15 := hg3.getN 15 (by rw [HPL.out]; omega)
  have f15 := hg3.free 15
  have og := hg3.setN 15 1
  rw [b1_set hl] at og
  obtain ⟨S, hS⟩ : ∃ S, w4.heap.size = S := ⟨_, rfl⟩
  have hSB : B + 4 ≤ S := by have := u3.size; simp [s4] at this; omega
  obtain ⟨W5, hW5⟩ : ∃ W5, w4.setCell ⟨B + 1 + 1 + 1, 15, none⟩ (.int .u8 1) = W5 := ⟨_, rfl⟩
  have u5 : Below (B + 3) W4 W5 := hW5 ▸ (((Below.refl _ W4).drew).trans u3).setCell (by simp) _
  have s5 : W5.heap.size = S := by rw [← hW5, ← hS]; simp [World.setCell]
  have og5 : Obj W5 (B + 1 + 1 + 1) 22 (cellsN (Gc.b1 n)) := hW5 ▸ og
  have HI1 := Lib.hid (size16 (b1_len hl))
  have HI2 := Lib.hid (size16 (b2_len hl))
  have HSZ : Hid ((cellsN (List.replicate 16 0)).size = (cellsN (Gc.b1 n)).size) := by unfold Hid; rw [cellsN_size, cellsN_size, b1_len hl]; rfl
  have HO6 : Hid (Obj (W5.alloc (.cells #[.int .u8 0, .int .u8 0, .int .u8 0, .int .u8 0, .int .u8 0, .int .u8 0, .int .u8 0, .int .u8 0, .int .u8 0, .int .u8 0, .int .u8 0, .int .u8 0, .int .u8 0, .int .u8 0, .int .u8 0, .int .u8 0] 22)) S 22 (cellsN (List.replicate 16 0))) := s5 ▸ Obj.new W5 _ _
  have HG5 := Lib.hid og5
  have HW5 := Lib.hid hW5
  have HS5 := Lib.hid s5
  obtain ⟨W7, hW7⟩ : ∃ W7, (W5.alloc (.cells #[.int .u8 0, .int .u8 0, .int .u8 0, .int .u8 0, .int .u8 0, .int .u8 0, .int .u8 0, .int .u8 0, .int .u8 0, .int .u8 0, .int .u8 0, .int .u8 0, .int .u8 0, .int .u8 0, .int .u8 0, .int .u8 0] 22)).setRow S (cellsN (Gc.b1 n)) = W7 := ⟨_, rfl⟩
  have o7 : Obj W7 S 22 (cellsN (Gc.b1 n)) := hW7 ▸ HO6.out.row _
  have u57 : Upd S (W5.alloc (.cells #[.int .u8 0, .int .u8 0, .int .u8 0, .int .u8 0, .int .u8 0, .int .u8 0, .int .u8 0, .int .u8 0, .int .u8 0, .int .u8 0, .int .u8 0, .int .u8 0, .int .u8 0, .int .u8 0, .int .u8 0, .int .u8 0] 22)) W7 := hW7 ▸ (Upd.refl S _).row _
  have g7 : Obj W7 (B + 1 + 1 + 1) 22 (cellsN (Gc.b1 n)) := (og5.alloc _).upd u57 (by omega)
  have c7 := o7.getN 15 (by rw [b1_len hl]; omega)
  have f7 := o7.free 15
  have o8 := o7.setN 15 2
  rw [b2_set hl] at o8
  have g8 := g7.far (p := ⟨S, 15, none⟩) (by simp; omega) (.int .u8 ((2 : Nat) : Int))
  have u8' : Below (B + 3) W4 (W7.setCell ⟨S, 15, none⟩ (.int .u8 2)) := by
    have h1 : Below W5.heap.size W5 W7 := Upd.below ((Below.refl _ W5).alloc (Nat.le_refl _) _) (by omega) u57
    exact (u5.trans (h1.mono (by omega))).setCell (by simp; omega) _
  have HW7 := Lib.hid hW7
  obtain ⟨W8, hW8⟩ : ∃ W8, W7.setCell ⟨S, 15, none⟩ (.int .u8 2) = W8 := ⟨_, rfl⟩
  have o8' : Obj W8 S 22 (cellsN (Gc.b2 n)) := hW8 ▸ o8
  have g8' : Obj W8 (B + 1 + 1 + 1) 22 (cellsN (Gc.b1 n)) := hW8 ▸ g8
  rw [hW8] at u8'
  have o81 := o1.below u8' (by omega)
  have o82 := o2.below u8' (by omega)
  have HW8 := Lib.hid hW8
  clear hW5 hW7 hW8 s5 o7 u57 g7 o8 g8 og og5 u3 U3 hg3 hh2 hHeld
  go_wp2_with (first
    | (refine wpList_load_row rfl 22 (.tmp 4) rfl _ rfl _ _ _ _ (HW5.out.symm ▸ HG5.out) Try.underlying22 rfl HI1.out ?_)
    | (refine wpList_store_row rfl 22 (.tmp 5) (.tmp 10) rfl _ _ rfl rfl _ _ (HW5.out.symm ▸ HO6.out) HI1.out HSZ.out (one_cellsN _) ?_; rw [HW5.out, HW7.out]))
  rw [HW8.out]
  refine wp_nopanic0 ?_
  have HSZ2 : Hid ((cellsN (List.replicate 16 0)).size = (cellsN (Gc.b2 n)).size) := by unfold Hid; rw [cellsN_size, cellsN_size, b2_len hl]; rfl
  have hS0 : Obj W8.drew (B + 1 + 1 + 1) 22 (cellsN (Gc.b1 n)) ∧ Obj W8.drew S 22 (cellsN (Gc.b2 n)) := ⟨g8'.drew, o8'.drew⟩
  refine wp_region_held_drew (S := (fun wq => Obj wq (B + 1 + 1 + 1) 22 (cellsN (Gc.b1 n)) ∧ Obj wq S 22 (cellsN (Gc.b2 n)))) (by kernel_rfl) hS0 (fun hHeld => ?_)
  refine wpAnyH_take (i := 0) (oi := ?_) (v := ?_) ?_ ?_ ?_ ?_ ?_ ?_ (by assumption) ?_
  rotate_left 2
  · simp only [List.getElem?_toArray, List.getElem?_cons_zero, List.getElem?_cons_succ]
    rfl
  · kernel_rfl
  · kernel_rfl
  · kernel_rfl
  · exact fun _ _ _ h => h
  · refine yieldsIf_load_row (g := (B + 1 + 1 + 1)) (t := 22) (cs := cellsN (Gc.b1 n)) (ty := 22) (x := (.tmp 4)) ?_ ?_ ?_ ?_ Try.underlying22 rfl HI1.out
    · rfl
    · rfl
    · rfl
    · exact fun w hSw => hSw.1
  simp only [Act.put, List.setIfInBounds_toArray, List.set_cons_zero, List.set_cons_succ]
  refine wpAnyH_take (i := 1) (oi := ?_) (v := ?_) ?_ ?_ ?_ ?_ ?_ ?_ (by assumption) ?_
  rotate_left 2
  · simp only [List.getElem?_toArray, List.getElem?_cons_zero, List.getElem?_cons_succ]
    rfl
  · kernel_rfl
  · kernel_rfl
  · kernel_rfl
  · exact fun _ _ _ h => h
  · refine yieldsIf_load_row (g := S) (t := 22) (cs := cellsN (Gc.b2 n)) (ty := 22) (x := (.tmp 5)) ?_ ?_ ?_ ?_ Try.underlying22 rfl HI2.out
    · rfl
    · rfl
    · rfl
    · exact fun w hSw => hSw.2
  simp only [Act.put, List.setIfInBounds_toArray, List.set_cons_zero, List.set_cons_succ]
  refine wpAnyH_ready (rs := [2]) (by kernel_rfl) (by simp) ?_
  refine AllReadyH.cons (o := ?_) ?_ (fun KK hKK => ?_) AllReadyH.nil
  rotate_left
  · simp only [List.getElem?_toArray, List.getElem?_cons_zero, List.getElem?_cons_succ]
    rfl
  rw [if_pos (by rfl)]
  refine wp_store_row 22 (.tmp 2) (.tmp 12) rfl (B + 1) _ rfl rfl 22 _ o81.drew HI1.out HSZ.out (one_cellsN _) ?_
  refine hKK.out _ _ ?_ (fun hh2 => ?_)
  · (try dsimp only)
    exact ⟨hS0.1.upd ((Upd.refl (B + 1) _).row _) (by omega), hS0.2.upd ((Upd.refl (B + 1) _).row _) (by omega)⟩
  clear hKK KK
  try simp only [Act.put, List.setIfInBounds_toArray, List.set_cons_zero, List.set_cons_succ]
  refine wpAnyH_ready (rs := [3]) (by kernel_rfl) (by simp) ?_
  refine AllReadyH.cons (o := ?_) ?_ (fun KK hKK => ?_) AllReadyH.nil
  rotate_left
  · simp only [List.getElem?_toArray, List.getElem?_cons_zero, List.getElem?_cons_succ]
    rfl
  rw [if_pos (by rfl)]
  refine wp_store_row 22 (.tmp 3) (.tmp 13) rfl (B + 1 + 1) _ rfl rfl 22 _ (o82.drew.upd ((Upd.refl (B + 1) _).row (cellsN (Gc.b1 n))) (by omega)) HI2.out HSZ2.out (one_cellsN _) ?_
  refine hKK.out _ _ ?_ (fun hh3 => ?_)
  · (try dsimp only)
    exact ⟨hh2.1.upd ((Upd.refl (B + 1 + 1) _).row _) (by omega), hh2.2.upd ((Upd.refl (B + 1 + 1) _).row _) (by omega)⟩
  clear hKK KK
  try simp only [Act.put, List.setIfInBounds_toArray, List.set_cons_zero, List.set_cons_succ]
  refine wpAnyH_done (by kernel_rfl) ?_ _
  have p1 : Obj ((W8.drew.setRow (B + 1) (cellsN (Gc.b1 n))).setRow (B + 1 + 1) (cellsN (Gc.b2 n))) (B + 1) 22 (cellsN (Gc.b1 n)) := (o81.drew.row (cellsN (Gc.b1 n))).upd ((Upd.refl (B + 1 + 1) _).row _) (by omega)
  have p2 : Obj ((W8.drew.setRow (B + 1) (cellsN (Gc.b1 n))).setRow (B + 1 + 1) (cellsN (Gc.b2 n))) (B + 1 + 1) 22 (cellsN (Gc.b2 n)) := (o82.drew.upd ((Upd.refl (B + 1) _).row (cellsN (Gc.b1 n))) (by omega)).row _
  have pb : Below w.heap.size w ((W8.drew.setRow (B + 1) (cellsN (Gc.b1 n))).setRow (B + 1 + 1) (cellsN (Gc.b2 n))) := by
    have h0 : Below w.heap.size w W8.drew := by rw [hB]; exact (hb4.trans (u8'.mono (by omega))).drew
    exact Upd.below (Upd.below h0 (by omega) ((Upd.refl (B + 1) _).row _)) (by omega) ((Upd.refl (B + 1 + 1) _).row _)
  generalize (W8.drew.setRow (B + 1) (cellsN (Gc.b1 n))).setRow (B + 1 + 1) (cellsN (Gc.b2 n)) = W9 at *
  have HP1 := Lib.hid p1
  have HP2 := Lib.hid p2
  have HPB := Lib.hid pb
  clear p1 p2 pb hh2 hh3 hHeld
  go_wp2
  refine bodyPost_ret (v := .tuple #[.agg (cellsN (Gc.b1 n)), .agg (cellsN (Gc.b2 n))]) ?_ rfl ⟨rfl, HPB.out⟩
  exact two_cells rfl _ _ _ _ _ _ _ _ _ rfl rfl HP1.out HP2.out Try.underlying22 rfl HI1.out HI2.out
end Go.Proofs.Ytnphanhoakbkpaa
