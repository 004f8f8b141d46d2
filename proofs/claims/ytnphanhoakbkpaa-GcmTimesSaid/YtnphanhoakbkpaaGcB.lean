/- Layer 9's gcm, walked: a pair's block. -/
import Derived.Test.YtnphanhoakbkpaaRows
import Derived.Test.YtnphanhoakbkpaaAid
import Derived.Test.YtnphanhoakbkpaaPlainAe
import Derived.Test.YtnphanhoakbkpaaPlainAe2
import Derived.Test.YtnphanhoakbkpaaPlainGc
import Derived.Test.YtnphanhoakbkpaaPlainGc2
import Derived.Test.YtnphanhoakbkpaaAesB
import Derived.Test.YtnphanhoakbkpaaAesBox
import Derived.Test.YtnphanhoakbkpaaAesW
import Derived.Test.YtnphanhoakbkpaaGcA
import Derived.WalkKit
import Derived.WalkSpells
import Derived.WalkLawsBesides
import Derived.Laws.BitsAllLaws
import Derived.Handy
import Derived.Lib.Hide
import Derived.IntWalk
namespace Go.Proofs.Ytnphanhoakbkpaa
open Go Go.RowKit
set_option linter.unusedVariables false
set_option linter.unusedSimpArgs false

/-- The bytes that were laid so far, the last ones first. -/
def blk (h l k : Nat) : List Nat := (List.range 16).map fun i => if i < 8 then (if 8 - k ≤ i then h / 2 ^ (8 * (7 - i)) % 256 else 0) else (if 16 - k ≤ i then l / 2 ^ (8 * (15 - i)) % 256 else 0)
theorem blk_zero (h l : Nat) : blk h l 0 = List.replicate 16 0 := by
  have : blk h l 0 = (List.range 16).map fun _ => 0 := by
    unfold blk
    refine List.map_congr_left fun i hi => ?_
    have := List.mem_range.1 hi
    split
    · rw [if_neg (by omega)]
    · rw [if_neg (by omega)]
  rw [this]; rfl
theorem blk_full (h l : Nat) : blk h l 8 = Gc.by8 h ++ Gc.by8 l := rfl
theorem blk_len (h l k : Nat) : (blk h l k).length = 16 := by simp [blk]
theorem blk_next (h l k : Nat) (hk : k < 8) : ((blk h l k).set (7 - k) (h / 2 ^ (8 * k) % 256)).set (15 - k) (l / 2 ^ (8 * k) % 256) = blk h l (k + 1) := by
  refine List.ext_getElem (by simp [blk]) fun i h1 h2 => ?_
  have hi : i < 16 := by simpa [blk] using h2
  rw [List.getElem_set, List.getElem_set]
  simp only [blk, List.getElem_map, List.getElem_range]
  by_cases e1 : 15 - k = i
  · rw [if_pos e1, if_neg (by omega), if_pos (by omega), show 15 - i = k by omega]
  · rw [if_neg e1]
    by_cases e2 : 7 - k = i
    · rw [if_pos e2, if_pos (by omega), if_pos (by omega), show 7 - i = k by omega]
    · rw [if_neg e2]
      by_cases h8 : i < 8
      · rw [if_pos h8, if_pos h8]
        by_cases h9 : 8 - k ≤ i
        · rw [if_pos h9, if_pos (by omega)]
        · rw [if_neg h9, if_neg (by omega)]
      · rw [if_neg h8, if_neg h8]
        by_cases h9 : 16 - k ≤ i
        · rw [if_pos h9, if_pos (by omega)]
        · rw [if_neg h9, if_neg (by omega)]

set_option maxRecDepth 100000 in
set_option maxHeartbeats 4000000 in
theorem block_any (h l : Nat) (w : World) (hh : h < 18446744073709551616) (hl : l < 18446744073709551616) :
    Calls Try.prog 21 #[.agg #[.int .u64 (h : Int), .int .u64 (l : Int)]] w fun e w' => e = .returned (.agg (cellsN (Gc.by8 h ++ Gc.by8 l))) ∧ Below w.heap.size w w' := by
  obtain ⟨B, hB⟩ : ∃ B, w.heap.size = B := ⟨_, rfl⟩
  have hba : Below w.heap.size w (((w.alloc (.cells #[.int .u64 (h : Int), .int .u64 (l : Int)] 45)).alloc (.cells #[.int .u8 0, .int .u8 0, .int .u8 0, .int .u8 0, .int .u8 0, .int .u8 0, .int .u8 0, .int .u8 0, .int .u8 0, .int .u8 0, .int .u8 0, .int .u8 0, .int .u8 0, .int .u8 0, .int .u8 0, .int .u8 0] 22)).alloc (.cells #[.int .u8 0, .int .u8 0, .int .u8 0, .int .u8 0, .int .u8 0, .int .u8 0, .int .u8 0, .int .u8 0, .int .u8 0, .int .u8 0, .int .u8 0, .int .u8 0, .int .u8 0, .int .u8 0, .int .u8 0, .int .u8 0] 22)) := (((Below.refl _ w).alloc (Nat.le_refl _) _).alloc (by simp) _).alloc (by simp; omega) _
  have H0 : Hid (Obj (((w.alloc (.cells #[.int .u64 (h : Int), .int .u64 (l : Int)] 45)).alloc (.cells #[.int .u8 0, .int .u8 0, .int .u8 0, .int .u8 0, .int .u8 0, .int .u8 0, .int .u8 0, .int .u8 0, .int .u8 0, .int .u8 0, .int .u8 0, .int .u8 0, .int .u8 0, .int .u8 0, .int .u8 0, .int .u8 0] 22)).alloc (.cells #[.int .u8 0, .int .u8 0, .int .u8 0, .int .u8 0, .int .u8 0, .int .u8 0, .int .u8 0, .int .u8 0, .int .u8 0, .int .u8 0, .int .u8 0, .int .u8 0, .int .u8 0, .int .u8 0, .int .u8 0, .int .u8 0] 22)) B 45 #[.int .u64 (h : Int), .int .u64 (l : Int)] ∧ Obj (((w.alloc (.cells #[.int .u64 (h : Int), .int .u64 (l : Int)] 45)).alloc (.cells #[.int .u8 0, .int .u8 0, .int .u8 0, .int .u8 0, .int .u8 0, .int .u8 0, .int .u8 0, .int .u8 0, .int .u8 0, .int .u8 0, .int .u8 0, .int .u8 0, .int .u8 0, .int .u8 0, .int .u8 0, .int .u8 0] 22)).alloc (.cells #[.int .u8 0, .int .u8 0, .int .u8 0, .int .u8 0, .int .u8 0, .int .u8 0, .int .u8 0, .int .u8 0, .int .u8 0, .int .u8 0, .int .u8 0, .int .u8 0, .int .u8 0, .int .u8 0, .int .u8 0, .int .u8 0] 22)) (B + 1) 22 (cellsN (List.replicate 16 0)) ∧
      Obj (((w.alloc (.cells #[.int .u64 (h : Int), .int .u64 (l : Int)] 45)).alloc (.cells #[.int .u8 0, .int .u8 0, .int .u8 0, .int .u8 0, .int .u8 0, .int .u8 0, .int .u8 0, .int .u8 0, .int .u8 0, .int .u8 0, .int .u8 0, .int .u8 0, .int .u8 0, .int .u8 0, .int .u8 0, .int .u8 0] 22)).alloc (.cells #[.int .u8 0, .int .u8 0, .int .u8 0, .int .u8 0, .int .u8 0, .int .u8 0, .int .u8 0, .int .u8 0, .int .u8 0, .int .u8 0, .int .u8 0, .int .u8 0, .int .u8 0, .int .u8 0, .int .u8 0, .int .u8 0] 22)) (B + 2) 22 (cellsN (blk h l 0)) ∧ Below w.heap.size w (((w.alloc (.cells #[.int .u64 (h : Int), .int .u64 (l : Int)] 45)).alloc (.cells #[.int .u8 0, .int .u8 0, .int .u8 0, .int .u8 0, .int .u8 0, .int .u8 0, .int .u8 0, .int .u8 0, .int .u8 0, .int .u8 0, .int .u8 0, .int .u8 0, .int .u8 0, .int .u8 0, .int .u8 0, .int .u8 0] 22)).alloc (.cells #[.int .u8 0, .int .u8 0, .int .u8 0, .int .u8 0, .int .u8 0, .int .u8 0, .int .u8 0, .int .u8 0, .int .u8 0, .int .u8 0, .int .u8 0, .int .u8 0, .int .u8 0, .int .u8 0, .int .u8 0, .int .u8 0] 22))) := by
    refine ⟨hB ▸ ((Obj.new w _ _).alloc _).alloc _, ?_, ?_, hba⟩
    · have := (new2 w (.cells #[.int .u64 (h : Int), .int .u64 (l : Int)] 45) 22 #[.int .u8 0, .int .u8 0, .int .u8 0, .int .u8 0, .int .u8 0, .int .u8 0, .int .u8 0, .int .u8 0, .int .u8 0, .int .u8 0, .int .u8 0, .int .u8 0, .int .u8 0, .int .u8 0, .int .u8 0, .int .u8 0]).alloc (.cells #[.int .u8 0, .int .u8 0, .int .u8 0, .int .u8 0, .int .u8 0, .int .u8 0, .int .u8 0, .int .u8 0, .int .u8 0, .int .u8 0, .int .u8 0, .int .u8 0, .int .u8 0, .int .u8 0, .int .u8 0, .int .u8 0] 22)
      rw [hB] at this
      exact this
    · have := Obj.new ((w.alloc (.cells #[.int .u64 (h : Int), .int .u64 (l : Int)] 45)).alloc (.cells #[.int .u8 0, .int .u8 0, .int .u8 0, .int .u8 0, .int .u8 0, .int .u8 0, .int .u8 0, .int .u8 0, .int .u8 0, .int .u8 0, .int .u8 0, .int .u8 0, .int .u8 0, .int .u8 0, .int .u8 0, .int .u8 0] 22)) 22 #[.int .u8 0, .int .u8 0, .int .u8 0, .int .u8 0, .int .u8 0, .int .u8 0, .int .u8 0, .int .u8 0, .int .u8 0, .int .u8 0, .int .u8 0, .int .u8 0, .int .u8 0, .int .u8 0, .int .u8 0, .int .u8 0]
      simp only [World.size_alloc, hB] at this
      rw [blk_zero]
      exact this
  clear hba
  go_enter Try.func21, Try.ntmps21
  go_wp2
  go_loopw [4, 5] (fun _ i wr => ∃ k : Nat, k ≤ 8 ∧ i = .int .i64 (k : Int) ∧ Obj wr B 45 #[.int .u64 (h : Int), .int .u64 (l : Int)] ∧ Obj wr (B + 1) 22 (cellsN (List.replicate 16 0)) ∧ Obj wr (B + 2) 22 (cellsN (blk h l k)) ∧ Below w.heap.size w wr) (fun _ i _ => 8 - (intOf i).toNat)
  case atStart => exact ⟨0, Nat.zero_le _, rfl, H0.out.1, H0.out.2.1, H0.out.2.2.1, H0.out.2.2.2⟩
  case round =>
    clear H0
    obtain ⟨k, hk, rfl, o0, o1, o2, hb2⟩ := hrel
    by_cases hlt : k < 8
    · have hki : (k : Int) < 8 := by omega
      have f0 : wr.cell? ⟨B, 0, none⟩ = some (.int .u64 (h : Int)) := by rw [o0.cell]; rfl
      have f1 : wr.cell? ⟨B, 1, none⟩ = some (.int .u64 (l : Int)) := by rw [o0.cell]; rfl
      have r0 := o2.getN (7 - k) (by simp [blk]; omega)
      have r1 := o2.getN (15 - k) (by simp [blk]; omega)
      have z0 := o2.free (7 - k)
      have z1 := o2.free (15 - k)
      obtain ⟨a, ha⟩ : ∃ a, 7 - k = a := ⟨_, rfl⟩
      obtain ⟨c, hc⟩ : ∃ c, 15 - k = c := ⟨_, rfl⟩
      obtain ⟨s, hs⟩ : ∃ s, 8 * k = s := ⟨_, rfl⟩
      have e1 : 7 - (k : Int) = (a : Int) := by omega
      have e2 : 15 - (k : Int) = (c : Int) := by omega
      have e3 : 8 * (k : Int) = (s : Int) := by omega
      have hn := blk_next h l k hlt
      rw [ha, hc, hs] at hn
      rw [ha] at r0 z0
      rw [hc] at r1 z1
      have v0 : (h : Int) / 2 ^ s % 256 = ((h / 2 ^ s % 256 : Nat) : Int) := by simp
      have v1 : (l : Int) / 2 ^ s % 256 = ((l / 2 ^ s % 256 : Nat) : Int) := by simp
      have u2 : Upd (B + 2) wr ((wr.setCell ⟨B + 1 + 1, a, none⟩ (.int .u8 ((h : Int) / 2 ^ s % 256))).setCell ⟨B + 1 + 1, c, none⟩ (.int .u8 ((l : Int) / 2 ^ s % 256))).drew := (((Upd.refl _ wr).set a _).set c _).drew
      have HFI : Hid (Obj ((wr.setCell ⟨B + 1 + 1, a, none⟩ (.int .u8 ((h : Int) / 2 ^ s % 256))).setCell ⟨B + 1 + 1, c, none⟩ (.int .u8 ((l : Int) / 2 ^ s % 256))).drew B 45 #[.int .u64 (h : Int), .int .u64 (l : Int)] ∧ Obj ((wr.setCell ⟨B + 1 + 1, a, none⟩ (.int .u8 ((h : Int) / 2 ^ s % 256))).setCell ⟨B + 1 + 1, c, none⟩ (.int .u8 ((l : Int) / 2 ^ s % 256))).drew (B + 1) 22 (cellsN (List.replicate 16 0)) ∧ Obj ((wr.setCell ⟨B + 1 + 1, a, none⟩ (.int .u8 ((h : Int) / 2 ^ s % 256))).setCell ⟨B + 1 + 1, c, none⟩ (.int .u8 ((l : Int) / 2 ^ s % 256))).drew (B + 2) 22 (cellsN (blk h l (k + 1))) ∧ Below w.heap.size w ((wr.setCell ⟨B + 1 + 1, a, none⟩ (.int .u8 ((h : Int) / 2 ^ s % 256))).setCell ⟨B + 1 + 1, c, none⟩ (.int .u8 ((l : Int) / 2 ^ s % 256))).drew) := by
        refine ⟨o0.upd u2 (by omega), o1.upd u2 (by omega), ?_, Upd.below hb2 (by omega) u2⟩
        rw [v0, v1, ← hn]
        exact (o2.setN a _).setN c _
      clear o0 o1 o2 ha hc hs hn v0 v1 u2 hb2
      generalize (blk h l k).getD a 0 = x at *
      generalize (blk h l k).getD c 0 = y at *
      go_wp2
      go_region
      go_wp2
      go_roundw
      case rel => exact ⟨k + 1, by omega, by go_num, HFI.out⟩
      case measure => simp [intOf]; omega
    · obtain rfl : k = 8 := by omega
      rw [blk_full] at o2
      have hlen : (Gc.by8 h ++ Gc.by8 l).length = 16 := by rw [List.length_append, Gc.by8_len, Gc.by8_len]
      have HI := Lib.hid (size16 hlen)
      have HO1 := Lib.hid o1
      have HO2 := Lib.hid o2
      have HB2 := Lib.hid hb2
      have HSZ : Hid ((cellsN (List.replicate 16 0)).size = (cellsN (Gc.by8 h ++ Gc.by8 l)).size) := by unfold Hid; rw [cellsN_size, cellsN_size, hlen]; rfl
      clear o0 o1 o2 hb2 hlen
      go_wp2_with (first
        | (refine wpList_load_row rfl 22 (.tmp 3) rfl _ rfl _ _ _ _ HO2.out Try.underlying22 rfl HI.out ?_)
        | (refine wpList_store_row rfl 22 (.tmp 2) (.tmp 27) rfl _ _ rfl rfl _ _ HO1.out HI.out HSZ.out (one_cellsN _) ?_))
      exact bodyPost_ret (v := .agg (cellsN (Gc.by8 h ++ Gc.by8 l))) (results_cell_row rfl _ _ _ _ _ _ _ rfl (HO1.out.row _) Try.underlying22 rfl HI.out) rfl ⟨rfl, Upd.below HB2.out (by omega) ((Upd.refl _ _).row _)⟩
end Go.Proofs.Ytnphanhoakbkpaa
