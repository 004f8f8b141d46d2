/- Layer 9's gcm, walked: Times. -/
import Derived.Test.YtnphanhoakbkpaaRows
import Derived.Test.YtnphanhoakbkpaaAid
import Derived.Test.YtnphanhoakbkpaaPlainAe
import Derived.Test.YtnphanhoakbkpaaPlainAe2
import Derived.Test.YtnphanhoakbkpaaPlainGc
import Derived.Test.YtnphanhoakbkpaaPlainGc2
import Derived.Test.YtnphanhoakbkpaaHeldT
import Derived.Test.YtnphanhoakbkpaaAesB
import Derived.Test.YtnphanhoakbkpaaAesBox
import Derived.Test.YtnphanhoakbkpaaAesW
import Derived.Test.YtnphanhoakbkpaaAesE
import Derived.Test.YtnphanhoakbkpaaGcA
import Derived.Test.YtnphanhoakbkpaaGcB
import Derived.Test.YtnphanhoakbkpaaGcD
import Derived.WalkKit
import Derived.WalkSpells
import Derived.WalkLawsBesides
import Derived.Laws.Rows
import Derived.Handy
import Derived.Lib.Hide
import Derived.IntWalk
import Derived.Deep.RegionHeld3
namespace Go.Proofs.Ytnphanhoakbkpaa
open Go Go.RowKit
set_option linter.unusedVariables false
set_option linter.unusedSimpArgs false

theorem drew_below (w : World) : Below w.heap.size w w.drew := (Below.refl _ w).drew
/-- of, as pairs' cells. -/
theorem of_prs (b : List Nat) (w : World) (hl : b.length = 16) (hb : Ae.bytes b) :
    Calls Try.prog 20 #[.agg (cellsN b)] w fun e w' => e = .returned (.agg (Rm.prs (Gc.nb b))) ∧ Below w.heap.size w w' := of_any b w hl hb
theorem block_prs (v : Nat) (w : World) (h : v < 2 ^ 128) :
    Calls Try.prog 21 #[.agg (Rm.prs v)] w fun e w' => e = .returned (.agg (cellsN (Gc.bn v))) ∧ Below w.heap.size w w' := block_any _ _ w (Gc.hi_lt h) (Gc.lo_lt v)

set_option maxRecDepth 100000 in
set_option maxHeartbeats 4000000 in
theorem Times_any (a b : List Nat) (w : World) (la : a.length = 16) (lb : b.length = 16) (qa : Ae.bytes a) (qb : Ae.bytes b) :
    Calls Try.prog 10 #[.agg (cellsN a), .agg (cellsN b)] w fun e w' => e = .returned (.agg (cellsN (Gc.bn (Gc.mul (Gc.nb a) (Gc.nb b))))) ∧ Below w.heap.size w w' := by
  obtain ⟨B, hB⟩ : ∃ B, w.heap.size = B := ⟨_, rfl⟩
  obtain ⟨W3, hW3⟩ : ∃ W3, ((w.alloc (.cells (cellsN a) 22)).alloc (.cells (cellsN b) 22)).alloc (.cells #[.int .u8 0, .int .u8 0, .int .u8 0, .int .u8 0, .int .u8 0, .int .u8 0, .int .u8 0, .int .u8 0, .int .u8 0, .int .u8 0, .int .u8 0, .int .u8 0, .int .u8 0, .int .u8 0, .int .u8 0, .int .u8 0] 22) = W3 := ⟨_, rfl⟩
  have hb3 : Below w.heap.size w W3 := hW3 ▸ (((Below.refl _ w).alloc (Nat.le_refl _) _).alloc (by simp) _).alloc (by simp; omega) _
  have o0 : Obj W3 B 22 (cellsN a) := hW3 ▸ hB ▸ ((Obj.new w _ _).alloc _).alloc _
  have o1 : Obj W3 (B + 1) 22 (cellsN b) := by
    have := (new2 w (.cells (cellsN a) 22) 22 (cellsN b)).alloc (.cells #[.int .u8 0, .int .u8 0, .int .u8 0, .int .u8 0, .int .u8 0, .int .u8 0, .int .u8 0, .int .u8 0, .int .u8 0, .int .u8 0, .int .u8 0, .int .u8 0, .int .u8 0, .int .u8 0, .int .u8 0, .int .u8 0] 22)
    rw [hB] at this
    exact hW3 ▸ this
  have o2 : Obj W3 (B + 2) 22 (cellsN (List.replicate 16 0)) := by
    have := Obj.new ((w.alloc (.cells (cellsN a) 22)).alloc (.cells (cellsN b) 22)) 22 #[.int .u8 0, .int .u8 0, .int .u8 0, .int .u8 0, .int .u8 0, .int .u8 0, .int .u8 0, .int .u8 0, .int .u8 0, .int .u8 0, .int .u8 0, .int .u8 0, .int .u8 0, .int .u8 0, .int .u8 0, .int .u8 0]
    simp only [World.size_alloc, hB] at this
    exact hW3 ▸ this
  have HK : Hid (∀ y, Below W3.heap.size W3 y → (Obj y B 22 (cellsN a) ∧ Obj y (B + 1) 22 (cellsN b)) ∧ Obj y (B + 2) 22 (cellsN (List.replicate 16 0)) ∧ Below w.heap.size w y) := fun y hy =>
    ⟨⟨o0.kept hy, o1.kept hy⟩, o2.kept hy, hb3.trans (hy.mono hb3.size)⟩
  have HIA := Lib.hid (size16 la)
  have HIB := Lib.hid (size16 lb)
  have hlt := Gc.nb16_lt la qa
  have hlt2 := Gc.nb16_lt lb qb
  have H1 := Lib.hid (fun w => of_prs a w la qa)
  have H2 := Lib.hid (fun w => of_prs b w lb qb)
  have H3 := Lib.hid (fun w => Rm.times_any (Gc.nb a) (Gc.nb b) w hlt hlt2)
  have H4 := Lib.hid (fun w => block_prs (Gc.mul (Gc.nb a) (Gc.nb b)) w (Gc.mul_lt hlt2))
  have HI := Lib.hid (size16 (Gc.bn_len (Gc.mul (Gc.nb a) (Gc.nb b))))
  have HSZ : Hid ((cellsN (List.replicate 16 0)).size = (cellsN (Gc.bn (Gc.mul (Gc.nb a) (Gc.nb b)))).size) := by unfold Hid; rw [cellsN_size, cellsN_size, Gc.bn_len]; rfl
  have S0 : (Obj W3.drew B 22 (cellsN a) ∧ Obj W3.drew (B + 1) 22 (cellsN b)) := ⟨o0.drew, o1.drew⟩
  generalize Gc.bn (Gc.mul (Gc.nb a) (Gc.nb b)) = r at *
  generalize Rm.prs (Gc.mul (Gc.nb a) (Gc.nb b)) = p3 at *
  generalize Rm.prs (Gc.nb a) = p1 at *
  generalize Rm.prs (Gc.nb b) = p2 at *
  clear hb3 o0 o1 o2 hlt hlt2
  go_enter Try.func10, Try.ntmps10
  go_wp2
  have hb0 := drew_below W3
  refine wp_region_held_drew (S := (fun wq => Obj wq B 22 (cellsN a) ∧ Obj wq (B + 1) 22 (cellsN b))) (by kernel_rfl) S0 (fun hHeld => ?_)
  refine wpAnyH_take (i := 0) (oi := ?_) (v := ?_) ?_ ?_ ?_ ?_ ?_ ?_ (by assumption) ?_
  rotate_left 2
  · simp only [List.getElem?_toArray, List.getElem?_cons_zero, List.getElem?_cons_succ]
    rfl
  · kernel_rfl
  · kernel_rfl
  · kernel_rfl
  · exact fun _ _ _ h => h
  · refine yieldsIf_load_row (g := B) (t := 22) (cs := cellsN a) (ty := 22) (x := (.tmp 2)) ?_ ?_ ?_ ?_ Try.underlying22 rfl HIA.out
    · rfl
    · rfl
    · rfl
    · exact fun w hSw => hSw.1
  simp only [Act.put, List.setIfInBounds_toArray, List.set_cons_zero, List.set_cons_succ]
  refine wpAnyH_take (i := 2) (oi := ?_) (v := ?_) ?_ ?_ ?_ ?_ ?_ ?_ (by assumption) ?_
  rotate_left 2
  · simp only [List.getElem?_toArray, List.getElem?_cons_zero, List.getElem?_cons_succ]
    rfl
  · kernel_rfl
  · kernel_rfl
  · kernel_rfl
  · exact fun _ _ _ h => h
  · refine yieldsIf_load_row (g := (B + 1)) (t := 22) (cs := cellsN b) (ty := 22) (x := (.tmp 3)) ?_ ?_ ?_ ?_ Try.underlying22 rfl HIB.out
    · rfl
    · rfl
    · rfl
    · exact fun w hSw => hSw.2
  simp only [Act.put, List.setIfInBounds_toArray, List.set_cons_zero, List.set_cons_succ]
  refine wpAnyH_ready (rs := [1]) (by kernel_rfl) (by simp) ?_
  refine AllReadyH.cons (o := ?_) ?_ (fun KK hKK => ?_) AllReadyH.nil
  rotate_left
  · simp only [List.getElem?_toArray, List.getElem?_cons_zero, List.getElem?_cons_succ]
    rfl
  go_simp
  refine (H1.out _).mono ?_; rintro e y1 ⟨rfl, hy1⟩
  try go_wp2_with fail
  have hb1 := hb0.trans (hy1.mono hb0.size)
  refine hKK.out _ _ ?_ (fun hh1 => ?_)
  · (try dsimp only)
    exact (HK.out _ hb1).1
  clear hKK KK
  try simp only [Act.put, List.setIfInBounds_toArray, List.set_cons_zero, List.set_cons_succ]
  refine wpAnyH_ready (rs := [3]) (by kernel_rfl) (by simp) ?_
  refine AllReadyH.cons (o := ?_) ?_ (fun KK hKK => ?_) AllReadyH.nil
  rotate_left
  · simp only [List.getElem?_toArray, List.getElem?_cons_zero, List.getElem?_cons_succ]
    rfl
  go_simp
  refine (H2.out _).mono ?_; rintro e y2 ⟨rfl, hy2⟩
  try go_wp2_with fail
  have hb2 := hb1.trans (hy2.mono hb1.size)
  refine hKK.out _ _ ?_ (fun hh2 => ?_)
  · (try dsimp only)
    exact (HK.out _ hb2).1
  clear hKK KK
  try simp only [Act.put, List.setIfInBounds_toArray, List.set_cons_zero, List.set_cons_succ]
  refine wpAnyH_ready (rs := [4]) (by kernel_rfl) (by simp) ?_
  refine AllReadyH.cons (o := ?_) ?_ (fun KK hKK => ?_) AllReadyH.nil
  rotate_left
  · simp only [List.getElem?_toArray, List.getElem?_cons_zero, List.getElem?_cons_succ]
    rfl
  go_simp
  refine (H3.out _).mono ?_; rintro e y3 ⟨rfl, hy3⟩
  try go_wp2_with fail
  have hb3 := hb2.trans (hy3.mono hb2.size)
  refine hKK.out _ _ ?_ (fun hh3 => ?_)
  · (try dsimp only)
    exact (HK.out _ hb3).1
  clear hKK KK
  try simp only [Act.put, List.setIfInBounds_toArray, List.set_cons_zero, List.set_cons_succ]
  refine wpAnyH_ready (rs := [5]) (by kernel_rfl) (by simp) ?_
  refine AllReadyH.cons (o := ?_) ?_ (fun KK hKK => ?_) AllReadyH.nil
  rotate_left
  · simp only [List.getElem?_toArray, List.getElem?_cons_zero, List.getElem?_cons_succ]
    rfl
  go_simp
  refine (H4.out _).mono ?_; rintro e y4 ⟨rfl, hy4⟩
  try go_wp2_with fail
  have hb4 := hb3.trans (hy4.mono hb3.size)
  refine hKK.out _ _ ?_ (fun hh4 => ?_)
  · (try dsimp only)
    exact (HK.out _ hb4).1
  clear hKK KK
  try simp only [Act.put, List.setIfInBounds_toArray, List.set_cons_zero, List.set_cons_succ]
  have hb5 := hb4
  have O5 := Lib.hid (HK.out _ hb5).2.1
  refine wpAnyH_ready (rs := [6]) (by kernel_rfl) (by simp) ?_
  refine AllReadyH.cons (o := ?_) ?_ (fun KK hKK => ?_) AllReadyH.nil
  rotate_left
  · simp only [List.getElem?_toArray, List.getElem?_cons_zero, List.getElem?_cons_succ]
    rfl
  rw [if_pos (by rfl)]
  refine wp_store_row 22 (.tmp 4) (.tmp 10) rfl (B + 2) _ rfl rfl 22 _ O5.out HI.out HSZ.out (one_cellsN _) ?_
  refine hKK.out _ _ ?_ (fun hh6 => ?_)
  · (try dsimp only)
    exact ⟨(HK.out _ hb5).1.1.upd ((Upd.refl (B + 2) _).row _) (by omega), (HK.out _ hb5).1.2.upd ((Upd.refl (B + 2) _).row _) (by omega)⟩
  clear hKK KK
  try simp only [Act.put, List.setIfInBounds_toArray, List.set_cons_zero, List.set_cons_succ]
  refine wpAnyH_done (by kernel_rfl) ?_ _
  go_wp2
  exact bodyPost_ret (v := .agg (cellsN r)) (results_cell_row rfl _ _ _ _ _ _ _ rfl ((HK.out _ hb5).2.1.row _) Try.underlying22 rfl HI.out) rfl ⟨rfl, Upd.below (HK.out _ hb5).2.2 (by omega) ((Upd.refl _ _).row _)⟩
end Go.Proofs.Ytnphanhoakbkpaa
