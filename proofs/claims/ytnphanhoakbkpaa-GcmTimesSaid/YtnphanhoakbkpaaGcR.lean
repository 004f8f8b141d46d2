/- Layer 9's gcm, the document's full and number. -/
import Derived.RangeFuncNested
import Derived.RangeFuncBound
import Derived.RangeFuncCalls
import Derived.RangeFuncLeaves
import Derived.RangeFuncBox
import Derived.Shelf.Abstract
import Derived.Shelf.RegionOpen
import Derived.WalkKit
import Derived.OwnWalkIn
import Derived.TacticsInMore
import Derived.LoopN
import Derived.LoopNIn
import Derived.LoopIn
import Derived.WalkSpells
import Derived.WalkLawsBesides
import Derived.Laws.Rows
import Derived.Laws.EntriesVeiled
import Derived.Laws.BitsAllLaws
import Derived.Handy
import Derived.BigQuiet
import Derived.Deep.QuietTactic
import Derived.IntWalk
import Derived.Lib.Hide
import Derived.Outline
import Derived.Test.YtnphanhoakbkpaaRows
import Derived.Test.YtnphanhoakbkpaaAid
import Derived.Test.YtnphanhoakbkpaaPlainAe
import Derived.Test.YtnphanhoakbkpaaPlainAe2
import Derived.Test.YtnphanhoakbkpaaPlainGc
import Derived.Test.YtnphanhoakbkpaaPlainGc2
import Derived.Test.YtnphanhoakbkpaaAesB
import Derived.Test.YtnphanhoakbkpaaAesBox
import Derived.Test.YtnphanhoakbkpaaAesW
import Derived.Test.YtnphanhoakbkpaaAesE
import Derived.Test.YtnphanhoakbkpaaAesK
import Derived.Test.YtnphanhoakbkpaaAesS
import Derived.Test.YtnphanhoakbkpaaAesT
import Derived.Test.YtnphanhoakbkpaaBl
import Derived.Test.YtnphanhoakbkpaaItF
import Derived.Test.YtnphanhoakbkpaaGcA
import Derived.Test.YtnphanhoakbkpaaGcB
import Derived.Test.YtnphanhoakbkpaaGcD
import Derived.Test.YtnphanhoakbkpaaGcE
import Derived.Test.YtnphanhoakbkpaaGcF
import Derived.Test.YtnphanhoakbkpaaGcG
import Derived.Test.YtnphanhoakbkpaaGcH
import Derived.Test.YtnphanhoakbkpaaGcI
import Derived.Test.YtnphanhoakbkpaaGcJ
namespace Go.Gc
open Go.Proofs.Ytnphanhoakbkpaa
/-- Filled up to whole blocks. -/
def up (n : Nat) : Nat := 16 * ((n + 15) / 16)
def fullL (l : List Nat) : List Nat := l ++ List.replicate (up l.length - l.length) 0
theorem up_le (n : Nat) : n ≤ up n := by unfold up; omega
theorem fullL_len (l : List Nat) : (fullL l).length = up l.length := by unfold fullL; rw [List.length_append, List.length_replicate]; have := up_le l.length; omega
end Go.Gc
namespace Go.Proofs.Ytnphanhoakbkpaa
open Go Go.RowKit Go.Shelf
set_option linter.unusedVariables false
set_option linter.unusedSimpArgs false
def lenV : Value → Nat
  | .slice _ n _ => n
  | _ => 0

/-- A text that is being filled up. -/
def FuI (w : World) (n : Nat) (l : List Nat) (u : Nat) (v : Value) (V : World) : Prop :=
  ∃ k, n ≤ k ∧ k ≤ u ∧ V.ownsRow w.heap.size 5 1 v k ((l ++ List.replicate (k - n) 0).map u8v) ∧ Below w.heap.size w V

set_option maxHeartbeats 1000000 in
theorem full_any (A : Option Addr) (n c : Nat) (l : List Nat) (w : World) (h : Rd w A l) (hl : l.length = n) (hm : n ≤ 1000000) :
    Calls Try.prog 25 #[.slice A n c] w fun e w' => ∃ v, e = .returned v ∧ w'.ownsRow w.heap.size 5 1 v (Gc.up n) ((Gc.fullL l).map u8v) ∧ Below w.heap.size w w' := by
  have HBS : Hid (w.heap.size ≤ (w.alloc (.cells #[] 5)).heap.size) := by unfold Hid; simp
  have HOW := Lib.hid (World.ownsRow_made (base := w.heap.size) (e := 5) (size := 1) w #[] 0 (Nat.le_refl _) (Nat.zero_le _) rfl)
  have hup := Gc.up_le n
  have hup2 : Gc.up n ≤ n + 15 := by unfold Gc.up; omega
  have HUP : Hid (∀ k, n ≤ k → k ≤ Gc.up n → (k % 16 = 0 ↔ k = Gc.up n)) := by
    unfold Hid Gc.up; intro k h1 h2; omega
  have HFU : Hid (l ++ List.replicate (Gc.up n - n) 0 = Gc.fullL l) := by unfold Hid Gc.fullL; rw [hl]
  have HL := Lib.hid hl
  have tail : ∀ (v1 : Value) (w1 : World), w1.ownsRow w.heap.size 5 1 v1 n (l.map u8v) → Below w.heap.size w w1 → Hid (FuI w n l (Gc.up n) v1 w1) := fun v1 w1 h1 h2 => ⟨n, Nat.le_refl _, hup, by rw [Nat.sub_self, List.replicate_zero, List.append_nil]; exact h1, h2⟩
  rcases A with _ | a
  · have h0 : n = 0 := by
      rcases Nat.eq_zero_or_pos n with h0 | h0
      · exact h0
      · obtain ⟨_, _, e, _⟩ := h (by omega)
        cases e
    subst h0
    obtain rfl : l = [] := List.eq_nil_of_length_eq_zero hl
    have HF := tail (.slice (some ⟨w.heap.size, 0, none⟩) 0 0) (w.alloc (.cells #[] 5)) HOW.out ((Below.refl _ w).alloc (Nat.le_refl _) _)
    clear tail h
    go_enter Try.func25, Try.ntmps25
    go_wp2
    go_loopw [3] (fun v wr => FuI w 0 [] (Gc.up 0) v wr) (fun v _ => Gc.up 0 - lenV v)
    case atStart => exact HF.out
    case round =>
      clear HF
      obtain ⟨k, hk1, hk2, hown, hbel⟩ := hrel
      obtain ⟨A', c', rfl, _, _, _, _⟩ := own_cap hown
      have hup4 : Gc.up 0 ≤ 1000015 := by omega
      have hkm : k ≤ 1000015 := by omega
      by_cases hku : k = Gc.up 0
      · have hmz : ((k : Int) % 16) = 0 := by have := (HUP.out k hk1 hk2).2 hku; omega
        have HO := Lib.hid hown
        have HBL := Lib.hid hbel
        clear hown hbel
        go_wp2
        go_ret
        refine ⟨_, rfl, ?_, HBL.out⟩
        rw [← HFU.out, ← hku]
        exact HO.out
      · have hmz : ¬ ((k : Int) % 16) = 0 := fun e => hku ((HUP.out k hk1 hk2).1 (by omega))
        have HO := Lib.hid (own_below hown ((Below.refl _ wr).alloc (Nat.le_refl _) (.cells #[.int .u8 0] 5)))
        have HBL := Lib.hid (hbel.alloc hbel.size (.cells #[.int .u8 0] 5))
        have HR1 : Hid (Rd (wr.alloc (.cells #[.int .u8 0] 5)) (some ⟨wr.heap.size, 0, none⟩) [0]) := Rd.new wr [0] 5
        have HM1 : Hid (k + 1 ≤ 100000000) := by unfold Hid; omega
        clear hown hbel
        go_wp2_with (at_builtin; refine wpList_app8 rfl _ _ rfl w.heap.size _ _ _ rfl HO.out ⟨wr.heap.size, 0, none⟩ 1 1 [0] rfl rfl HR1.out HM1.out HBL.out.size ?_; intro v2 w2 hown2 hgrow2)
        have HB2 := Below.grown HBL.out hgrow2 HBL.out.size (fun k hk => (HO.out.lt k hk).1)
        have e : ([] ++ List.replicate (k - 0) 0).map u8v ++ [0].map u8v = ([] ++ List.replicate (k + 1 - 0) 0).map u8v := by
          rw [← List.map_append, List.append_assoc, show k + 1 - 0 = (k - 0) + 1 by omega, List.replicate_succ']
        rw [e] at hown2
        have HF2 : Hid (FuI w 0 [] (Gc.up 0) v2 w2) := ⟨k + 1, by omega, by omega, hown2, HB2⟩
        obtain ⟨A2, c2, rfl, _⟩ := own_cap hown2
        clear hown2 hgrow2 HB2 e
        go_wp2
        go_roundw
        case rel => exact HF2.out
        case measure => simp [lenV]; omega
  · have HR := Lib.hid (Rd.below h ((Below.refl _ w).alloc (Nat.le_refl _) (.cells #[] 5)))
    have HM := Lib.hid (show 0 + n ≤ 100000000 by omega)
    clear h hl
    go_enter Try.func25, Try.ntmps25
    go_wp2_with (at_builtin; refine wpList_app8 rfl _ _ rfl w.heap.size _ _ _ rfl HOW.out a n c l rfl HL.out HR.out HM.out HBS.out ?_; intro v' w1 hown1 hgrow1)
    rw [Nat.zero_add, List.nil_append] at hown1
    have HF := tail v' w1 hown1 (Below.grown ((Below.refl _ w).alloc (Nat.le_refl _) _) hgrow1 HBS.out (fun k hk => by cases hk; exact Nat.le_refl _))
    clear tail hown1 hgrow1
    go_loopw [3] (fun v wr => FuI w n l (Gc.up n) v wr) (fun v _ => Gc.up n - lenV v)
    case atStart => exact HF.out
    case round =>
      clear HF
      obtain ⟨k, hk1, hk2, hown, hbel⟩ := hrel
      obtain ⟨A', c', rfl, _, _, _, _⟩ := own_cap hown
      have hup4 : Gc.up n ≤ 1000015 := by omega
      have hkm : k ≤ 1000015 := by omega
      by_cases hku : k = Gc.up n
      · have hmz : ((k : Int) % 16) = 0 := by have := (HUP.out k hk1 hk2).2 hku; omega
        have HO := Lib.hid hown
        have HBL := Lib.hid hbel
        clear hown hbel
        go_wp2
        go_ret
        refine ⟨_, rfl, ?_, HBL.out⟩
        rw [← HFU.out, ← hku]
        exact HO.out
      · have hmz : ¬ ((k : Int) % 16) = 0 := fun e => hku ((HUP.out k hk1 hk2).1 (by omega))
        have HO := Lib.hid (own_below hown ((Below.refl _ wr).alloc (Nat.le_refl _) (.cells #[.int .u8 0] 5)))
        have HBL := Lib.hid (hbel.alloc hbel.size (.cells #[.int .u8 0] 5))
        have HR1 : Hid (Rd (wr.alloc (.cells #[.int .u8 0] 5)) (some ⟨wr.heap.size, 0, none⟩) [0]) := Rd.new wr [0] 5
        have HM1 : Hid (k + 1 ≤ 100000000) := by unfold Hid; omega
        clear hown hbel
        go_wp2_with (at_builtin; refine wpList_app8 rfl _ _ rfl w.heap.size _ _ _ rfl HO.out ⟨wr.heap.size, 0, none⟩ 1 1 [0] rfl rfl HR1.out HM1.out HBL.out.size ?_; intro v2 w2 hown2 hgrow2)
        have HB2 := Below.grown HBL.out hgrow2 HBL.out.size (fun k hk => (HO.out.lt k hk).1)
        have e : (l ++ List.replicate (k - n) 0).map u8v ++ [0].map u8v = (l ++ List.replicate (k + 1 - n) 0).map u8v := by
          rw [← List.map_append, List.append_assoc, show k + 1 - n = (k - n) + 1 by omega, List.replicate_succ']
        rw [e] at hown2
        have HF2 : Hid (FuI w n l (Gc.up n) v2 w2) := ⟨k + 1, by omega, by omega, hown2, HB2⟩
        obtain ⟨A2, c2, rfl, _⟩ := own_cap hown2
        clear hown2 hgrow2 HB2 e
        go_wp2
        go_roundw
        case rel => exact HF2.out
        case measure => simp [lenV]; omega

/-- A number's bytes, so many of them laid. -/
def nuL (N j : Nat) : List Nat := (List.range 8).map fun p => if 8 ≤ p + j then N / 256 ^ (7 - p) % 256 else 0
theorem nuL_len (N j : Nat) : (nuL N j).length = 8 := by simp [nuL]
theorem nuL_zero (N : Nat) : nuL N 0 = List.replicate 8 0 := by
  unfold nuL
  refine List.ext_getElem (by simp) fun i h1 h2 => ?_
  rw [List.length_replicate] at h2
  simp only [List.getElem_map, List.getElem_range, List.getElem_replicate]
  rw [if_neg (by omega)]
theorem nuL_set (N j : Nat) (h : j < 8) : (nuL N j).set (7 - j) (N / 256 ^ j % 256) = nuL N (j + 1) := by
  refine List.ext_getElem (by simp [nuL]) fun i h1 h2 => ?_
  rw [List.length_set, nuL_len] at h1
  rw [List.getElem_set]
  by_cases e : 7 - j = i
  · rw [if_pos e]
    simp only [nuL, List.getElem_map, List.getElem_range]
    rw [if_pos (by omega), show 7 - i = j by omega]
  · rw [if_neg e]
    simp only [nuL, List.getElem_map, List.getElem_range]
    by_cases h8 : 8 ≤ i + j
    · rw [if_pos h8, if_pos (by omega)]
    · rw [if_neg h8, if_neg (by omega)]
theorem nuL_full (N : Nat) : nuL N 8 = Gc.by8 N := by
  unfold nuL Gc.by8
  simp [List.range, List.range.loop]

set_option maxRecDepth 100000 in
set_option maxHeartbeats 1000000 in
theorem number_any (N : Nat) (w : World) (hN : N < 4611686018427387904) :
    Calls Try.prog 26 #[.int .i64 (N : Int)] w fun e w' => e = .returned (.slice (some ⟨w.heap.size, 0, none⟩) 8 8) ∧ Rd w' (some ⟨w.heap.size, 0, none⟩) (Gc.by8 N) ∧ Below w.heap.size w w' := by
  have hmk : ∀ w, (Instr.makeSlice 23 (.int .i64 8) (.int .i64 8)).run Try.prog w = .ok (.slice (some ⟨w.heap.size, 0, none⟩) 8 8) (w.alloc (.cells (cellsN (List.replicate 8 0)) 5)) := fun w => mk16 8 (by omega) w
  have HO : Hid (Obj (w.alloc (.cells (cellsN (List.replicate 8 0)) 5)) w.heap.size 5 (cellsN (nuL N 0))) := by rw [nuL_zero]; exact Obj.new w _ _
  have HB : Hid (Below w.heap.size w (w.alloc (.cells (cellsN (List.replicate 8 0)) 5))) := (Below.refl _ w).alloc (Nat.le_refl _) _
  go_enter Try.func26, Try.ntmps26
  go_wp2
  go_loopw [0, 4] (fun x i wr => ∃ j : Nat, j ≤ 8 ∧ i = .int .i64 (7 - (j : Int)) ∧ x = .int .i64 ((N / 256 ^ j : Nat) : Int) ∧ Obj wr w.heap.size 5 (cellsN (nuL N j)) ∧ Below w.heap.size w wr) (fun _ i _ => ((intOf i) + 1).toNat)
  case atStart => exact ⟨0, by omega, rfl, by simp, HO.out, HB.out⟩
  case round =>
    clear HO HB hmk
    obtain ⟨j, hj, rfl, rfl, hO, hB⟩ := hrel
    by_cases hlt : j < 8
    · obtain ⟨p, hp⟩ : ∃ p, 7 - j = p := ⟨_, rfl⟩
      have hpi : (7 : Int) - (j : Int) = (p : Int) := by omega
      have hp0 : (0 : Int) ≤ (p : Int) := by omega
      have hp8 : (p : Int) < 8 := by omega
      have hp8n : p < 8 := by omega
      obtain ⟨v, hv⟩ : ∃ v, wr.cell? ⟨w.heap.size, p, none⟩ = some v := ⟨_, hO.getN p (by rw [nuL_len]; exact hp8n)⟩
      have hf := hO.free p
      have hM : N / 256 ^ j ≤ N := Nat.div_le_self _ _
      have HN : Hid (Obj (wr.setCell ⟨w.heap.size, p, none⟩ (.int .u8 ((N / 256 ^ j % 256 : Nat) : Int))) w.heap.size 5 (cellsN (nuL N (j + 1)))) := by
        have := hO.setN p (N / 256 ^ j % 256)
        rw [← hp, nuL_set N j hlt, hp] at this
        exact this
      have HB2 : Hid (Below w.heap.size w (wr.setCell ⟨w.heap.size, p, none⟩ (.int .u8 ((N / 256 ^ j % 256 : Nat) : Int)))) := hB.setCell (Nat.le_refl _) _
      have HD : Hid (N / 256 ^ j / 256 = N / 256 ^ (j + 1)) := by unfold Hid; rw [Nat.div_div_eq_div_mul, ← Nat.pow_succ]
      generalize hX : N / 256 ^ j = X at *
      have hX2 : X < 4611686018427387904 := by omega
      obtain ⟨r, hr⟩ : ∃ r, X % 256 = r := ⟨_, rfl⟩
      obtain ⟨q, hq⟩ : ∃ q, X / 256 = q := ⟨_, rfl⟩
      have hri : (X : Int) % 256 = (r : Int) := by omega
      have hqi : (X : Int) / 256 = (q : Int) := by omega
      have hr8 : r < 256 := by omega
      rw [hr] at HN HB2
      rw [hq] at HD
      clear hO hB hM hX hr hq hp
      rw [hpi]
      go_wp2
      go_roundw
      case rel => exact ⟨j + 1, by omega, by go_num, by rw [← HD.out], HN.out, HB2.out⟩
      case measure => simp [intOf] <;> omega
    · obtain rfl : j = 8 := by omega
      rw [nuL_full] at hO
      have HO := Lib.hid hO
      have HB := Lib.hid hB
      clear hO hB
      go_wp2
      go_ret
      exact ⟨rfl, HO.out.rd, HB.out⟩
end Go.Proofs.Ytnphanhoakbkpaa
