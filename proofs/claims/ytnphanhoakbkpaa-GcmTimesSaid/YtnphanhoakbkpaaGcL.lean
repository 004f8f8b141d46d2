/- Layer 9's gcm, walked: Open. -/
import Derived.RangeFuncNested
import Derived.RangeFuncBound
import Derived.RangeFuncCalls
import Derived.RangeFuncLeaves
import Derived.RangeFuncBox
import Derived.Shelf.Abstract
import Derived.Shelf.RegionOpen
import Derived.WalkKit
import Derived.OwnWalkIn
import Derived.TacticsInMore
import Derived.LoopN
import Derived.LoopNIn
import Derived.LoopIn
import Derived.WalkSpells
import Derived.WalkLawsBesides
import Derived.Laws.Rows
import Derived.Laws.EntriesVeiled
import Derived.Laws.BitsAllLaws
import Derived.Handy
import Derived.BigQuiet
import Derived.Deep.QuietTactic
import Derived.IntWalk
import Derived.Lib.Hide
import Derived.Outline
import Derived.Test.YtnphanhoakbkpaaRows
import Derived.Test.YtnphanhoakbkpaaAid
import Derived.Test.YtnphanhoakbkpaaPlainAe
import Derived.Test.YtnphanhoakbkpaaPlainAe2
import Derived.Test.YtnphanhoakbkpaaPlainGc
import Derived.Test.YtnphanhoakbkpaaPlainGc2
import Derived.Test.YtnphanhoakbkpaaAesB
import Derived.Test.YtnphanhoakbkpaaAesBox
import Derived.Test.YtnphanhoakbkpaaAesW
import Derived.Test.YtnphanhoakbkpaaAesE
import Derived.Test.YtnphanhoakbkpaaAesK
import Derived.Test.YtnphanhoakbkpaaAesS
import Derived.Test.YtnphanhoakbkpaaAesT
import Derived.Test.YtnphanhoakbkpaaBl
import Derived.Test.YtnphanhoakbkpaaItF
import Derived.Test.YtnphanhoakbkpaaGcA
import Derived.Test.YtnphanhoakbkpaaGcB
import Derived.Test.YtnphanhoakbkpaaGcD
import Derived.Test.YtnphanhoakbkpaaGcE
import Derived.Test.YtnphanhoakbkpaaGcF
import Derived.Test.YtnphanhoakbkpaaGcG
import Derived.Test.YtnphanhoakbkpaaGcH
import Derived.Test.YtnphanhoakbkpaaGcI
import Derived.Test.YtnphanhoakbkpaaGcJ
import Derived.Test.YtnphanhoakbkpaaGcK
namespace Go.Gc
open Go.Proofs.Ytnphanhoakbkpaa
/-- What is opened, and the error's number. -/
def openC (key nonce more s : List Nat) : Nat × List Nat :=
  if s.length < 16 then (2, []) else match openT key nonce more s with
    | none => (7, [])
    | some t => (0, t)
end Go.Gc
namespace Go.Proofs.Ytnphanhoakbkpaa
open Go Go.RowKit Go.Shelf
set_option linter.unusedVariables false
set_option linter.unusedSimpArgs false

set_option maxRecDepth 100000 in
set_option maxHeartbeats 4000000 in
theorem Open_any (key nonce : List Nat) (A1 : Option Addr) (n1 c1 : Nat) (more : List Nat) (A2 : Option Addr) (n2 c2 : Nat) (text : List Nat) (w : World) (l1 : key.length = 16) (q1 : Ae.bytes key) (l2 : nonce.length = 12) (q2 : Ae.bytes nonce) (r1 : Rd w A1 more) (m1 : more.length = n1) (b1 : Ae.bytes more) (k1 : n1 ≤ 1000000 ∧ n1 ≤ c1 ∧ c1 ≤ 9223372036854775807) (r2 : Rd w A2 text) (m2 : text.length = n2) (b2 : Ae.bytes text) (k2 : n2 ≤ 1000000 ∧ n2 ≤ c2 ∧ c2 ≤ 9223372036854775807) :
    Calls Try.prog 14 #[.agg (cellsN key), .agg (cellsN nonce), .slice A1 n1 c1, .slice A2 n2 c2] w fun e w' => ∃ A n c, e = .returned (.tuple #[.slice A n c, .int .i64 ((Gc.openC key nonce more text).1 : Int)]) ∧ Rd w' A (Gc.openC key nonce more text).2 ∧ (Gc.openC key nonce more text).2.length = n ∧ n ≤ c ∧ Below w.heap.size w w' := by
  obtain ⟨B, hB⟩ : ∃ B, w.heap.size = B := ⟨_, rfl⟩
  obtain ⟨W2, hW2⟩ : ∃ W2, (w.alloc (.cells (cellsN key) 22)).alloc (.cells (cellsN nonce) 28) = W2 := ⟨_, rfl⟩
  have hb2 : Below w.heap.size w W2 := hW2 ▸ ((Below.refl _ w).alloc (Nat.le_refl _) _).alloc (by simp) _
  have s2 : W2.heap.size = B + 2 := by rw [← hW2]; simp [hB]
  by_cases h16 : n2 < 16
  · have hC : Gc.openC key nonce more text = (2, []) := by unfold Gc.openC; rw [if_pos (by omega)]
    rw [hC]
    have h16i : (n2 : Int) < 16 := by omega
    have HW2 := Lib.hid hW2
    have HB2 := Lib.hid hb2
    clear hW2 hC hb2
    go_enter Try.func14, Try.ntmps14
    go_wp2
    rw [HW2.out]
    refine bodyPost_ret (results_tmp2 rfl _ _ _) rfl ?_
    exact ⟨none, 0, 0, rfl, fun hp => by simp at hp, rfl, Nat.le_refl _, HB2.out⟩
  obtain ⟨K, hK⟩ : ∃ K, n2 = K + 16 := ⟨n2 - 16, by omega⟩
  obtain ⟨b, o, rfl, hbl, hbc⟩ := r2 (by omega)
  have hKi : (n2 : Int) - 16 = (K : Int) := by omega
  have h16i : ¬ (n2 : Int) < 16 := by omega
  have o0 : Obj W2 B 22 (cellsN key) := hW2 ▸ hB ▸ (Obj.new w _ _).alloc _
  have o1 : Obj W2 (B + 1) 28 (cellsN nonce) := by
    have := Obj.new (w.alloc (.cells (cellsN key) 22)) 28 (cellsN nonce)
    rw [World.size_alloc, hB, hW2] at this; exact this
  have l3 := b1_len l2
  have l4 := b2_len l2
  have q3 := Gc.b1_bytes q2
  have q4 := Gc.b2_bytes q2
  have r3 := r2.take K (by omega)
  have r4 := r2.drop K
  have l5 : (text.take K).length = K := by rw [List.length_take]; omega
  have l6 : (text.drop K).length = 16 := by rw [List.length_drop]; omega
  have q5 : Ae.bytes (text.take K) := fun x hx => b2 x (List.mem_of_mem_take hx)
  have HBE := Lib.hid (fun w => begin_any nonce w l2 q2)
  have HTG : Hid (∀ W, Below w.heap.size w W → Calls Try.prog 29 #[.agg (cellsN key), .agg (cellsN (Gc.b1 nonce)), .slice A1 n1 c1, .slice (some ⟨b, o, none⟩) K c2] W fun e w' => ∃ A c', e = .returned (.slice A 16 c') ∧ Rd w' A (Gc.tag key (Gc.b1 nonce) more (text.take K)) ∧ Below W.heap.size W w') := fun W hb =>
    (tag_any key (Gc.b1 nonce) A1 n1 c1 more _ K c2 _ W l1 q1 l3 q3 (r1.below hb) m1 b1 k1 (r3.below hb) l5 q5 ⟨by omega, by omega, k2.2.2⟩).mono fun e w' ⟨A', c', e1, _, e3, e4⟩ => ⟨_, c', e1, e3, e4⟩
  have HEQ : Hid (∀ W A c, Below w.heap.size w W → Rd W A (Gc.tag key (Gc.b1 nonce) more (text.take K)) → Calls Try.prog 28 #[.slice A 16 c, .slice (some ⟨b, o + K, none⟩) 16 (c2 - K)] W fun e w' => e = .returned (.bool (decide (Gc.tag key (Gc.b1 nonce) more (text.take K) = text.drop K))) ∧ ∃ q, w' = W.drewN q) := fun W A c hb hr =>
    equal_any A _ c (c2 - K) 16 16 _ _ W hr (r4.below hb) (Gc.tag_len _ _ _ _) l6 (by omega)
  have HST : Hid (∀ W, Below w.heap.size w W → Calls Try.prog 30 #[.agg (cellsN key), .agg (cellsN (Gc.b2 nonce)), .slice (some ⟨b, o, none⟩) K c2] W fun e w' => ∃ A c', e = .returned (.slice A K c') ∧ K ≤ c' ∧ Rd w' A (Gc.ciph key nonce (text.take K)) ∧ Below W.heap.size W w') := fun W hb =>
    stream_at key (Gc.b2 nonce) _ c2 K _ W l1 l4 q1 q4 l5 (r3.below hb) q5 (by omega)
  have hCf : ∀ f, decide (Gc.tag key (Gc.b1 nonce) more (text.take K) = text.drop K) = f → Gc.openC key nonce more text = if f = true then (0, Gc.ciph key nonce (text.take K)) else (7, []) := fun f hf => by
    unfold Gc.openC Gc.openT
    rw [if_neg (by omega), show text.length - 16 = K by omega]
    cases f
    · rw [if_neg (of_decide_eq_false hf)]; rfl
    · rw [if_pos (of_decide_eq_true hf)]; rfl
  have HCF := Lib.hid hCf
  have HCL : Hid ((Gc.ciph key nonce (text.take K)).length = K) := by unfold Hid; rw [Gc.ciph_len, l5]
  have HIK := Lib.hid (size16 l1)
  have HIN := Lib.hid (size12 l2)
  have HI1 := Lib.hid (size16 l3)
  have HI2 := Lib.hid (size16 l4)
  have HS1 : Hid ((cellsN (List.replicate 16 0)).size = (cellsN (Gc.b1 nonce)).size) := by unfold Hid; rw [cellsN_size, cellsN_size, l3]; rfl
  have HS2 : Hid ((cellsN (List.replicate 16 0)).size = (cellsN (Gc.b2 nonce)).size) := by unfold Hid; rw [cellsN_size, cellsN_size, l4]; rfl
  have hKc : K ≤ c2 := by omega
  have hKne : ¬ c2 = K := by omega
  have hK16 : (K : Int) ≤ (K : Int) + 16 := by omega
  generalize Gc.openC key nonce more text = Z at *
  generalize decide (Gc.tag key (Gc.b1 nonce) more (text.take K) = text.drop K) = f at *
  generalize Gc.tag key (Gc.b1 nonce) more (text.take K) = T at *
  generalize Gc.ciph key nonce (text.take K) = C at *
  generalize Gc.b1 nonce = f1 at *
  generalize Gc.b2 nonce = f2 at *
  have HW2 := Lib.hid hW2
  have HB := Lib.hid hB
  have HO0 := Lib.hid o0
  have HO1 := Lib.hid o1
  have HB2 := Lib.hid hb2
  clear hW2 o0 o1 hb2 r1 r2 r3 r4 b1 b2 l1 l2 l3 l4 l5 l6 q1 q2 q3 q4 q5 m1 m2 hCf hbl hbc
  go_enter Try.func14, Try.ntmps14
  go_wp2_with (refine wpList_load_row rfl 28 (.tmp 5) rfl _ rfl _ _ _ _ (HW2.out.symm ▸ HO1.out) Try.underlying28 rfl HIN.out ?_)
  rw [HW2.out]
  refine (HBE.out _).mono ?_
  rintro e W3 ⟨rfl, hb3⟩
  obtain ⟨S, hS⟩ : ∃ S, W3.heap.size = S := ⟨_, rfl⟩
  have hSB : B + 2 ≤ S := by have := hb3.size; omega
  have b3 := HB2.out.trans (hb3.mono HB2.out.size)
  have p0 := HO0.out.kept hb3
  obtain ⟨W4, hW4⟩ : ∃ W4, (W3.alloc (.cells #[.int .u8 0, .int .u8 0, .int .u8 0, .int .u8 0, .int .u8 0, .int .u8 0, .int .u8 0, .int .u8 0, .int .u8 0, .int .u8 0, .int .u8 0, .int .u8 0, .int .u8 0, .int .u8 0, .int .u8 0, .int .u8 0] 22)).alloc (.cells #[.int .u8 0, .int .u8 0, .int .u8 0, .int .u8 0, .int .u8 0, .int .u8 0, .int .u8 0, .int .u8 0, .int .u8 0, .int .u8 0, .int .u8 0, .int .u8 0, .int .u8 0, .int .u8 0, .int .u8 0, .int .u8 0] 22) = W4 := ⟨_, rfl⟩
  have t1 : Obj W4 S 22 (cellsN (List.replicate 16 0)) := hW4 ▸ hS ▸ (Obj.new W3 _ _).alloc _
  have t2 : Obj W4 (S + 1) 22 (cellsN (List.replicate 16 0)) := by
    have := Obj.new (W3.alloc (.cells #[.int .u8 0, .int .u8 0, .int .u8 0, .int .u8 0, .int .u8 0, .int .u8 0, .int .u8 0, .int .u8 0, .int .u8 0, .int .u8 0, .int .u8 0, .int .u8 0, .int .u8 0, .int .u8 0, .int .u8 0, .int .u8 0] 22)) 22 #[.int .u8 0, .int .u8 0, .int .u8 0, .int .u8 0, .int .u8 0, .int .u8 0, .int .u8 0, .int .u8 0, .int .u8 0, .int .u8 0, .int .u8 0, .int .u8 0, .int .u8 0, .int .u8 0, .int .u8 0, .int .u8 0]
    rw [World.size_alloc, hS, hW4] at this; exact this
  have b4 : Below w.heap.size w W4 := hW4 ▸ (b3.alloc b3.size _).alloc (by simp; have := b3.size; omega) _
  have p4 : Obj W4 B 22 (cellsN key) := hW4 ▸ (p0.alloc _).alloc _
  have u5 : Upd S W4 (W4.setRow S (cellsN f1)) := (Upd.refl S _).row _
  have u6 : Upd (S + 1) (W4.setRow S (cellsN f1)) ((W4.setRow S (cellsN f1)).setRow (S + 1) (cellsN f2)) := (Upd.refl (S + 1) _).row _
  have t1' : Obj ((W4.setRow S (cellsN f1)).setRow (S + 1) (cellsN f2)) S 22 (cellsN f1) := (t1.row _).upd u6 (by omega)
  have t2a : Obj (W4.setRow S (cellsN f1)) (S + 1) 22 (cellsN (List.replicate 16 0)) := t2.upd u5 (by omega)
  have t2' : Obj ((W4.setRow S (cellsN f1)).setRow (S + 1) (cellsN f2)) (S + 1) 22 (cellsN f2) := t2a.row _
  have p6 : Obj ((W4.setRow S (cellsN f1)).setRow (S + 1) (cellsN f2)) B 22 (cellsN key) := (p4.upd u5 (by omega)).upd u6 (by omega)
  have b6 : Below w.heap.size w ((W4.setRow S (cellsN f1)).setRow (S + 1) (cellsN f2)) := Upd.below (Upd.below b4 (by omega) u5) (by omega) u6
  obtain ⟨W6, hW6⟩ : ∃ W6, (W4.setRow S (cellsN f1)).setRow (S + 1) (cellsN f2) = W6 := ⟨_, rfl⟩
  rw [hW6] at t1' t2' p6 b6
  have HW4 := Lib.hid hW4
  have HW6 := Lib.hid hW6
  have HS := Lib.hid hS
  have HT1 := Lib.hid t1
  have HT2 := Lib.hid t2a
  have hS0 : Obj W6.drew B 22 (cellsN key) ∧ Obj W6.drew S 22 (cellsN f1) ∧ Obj W6.drew (S + 1) 22 (cellsN f2) := ⟨p6.drew, t1'.drew, t2'.drew⟩
  have HB6 := Lib.hid b6.drew
  clear hb3 b3 p0 hW4 t1 t2 b4 p4 u5 u6 t1' t2a t2' p6 b6 hW6 hS
  go_wp2_with (first
    | (refine wpList_store_row rfl 22 (.tmp 10) (.tmp 19) rfl S _ (by rw [← HS.out]; rfl) rfl _ _ (HW4.out.symm ▸ HT1.out) HI1.out HS1.out (one_cellsN _) ?_)
    | (refine wpList_store_row rfl 22 (.tmp 11) (.tmp 20) rfl (S + 1) _ (by rw [← HS.out]; rfl) rfl _ _ (HW4.out.symm ▸ HT2.out) HI2.out HS2.out (one_cellsN _) ?_; rw [HW4.out, HW6.out, HS.out]))
  refine wp_nopanic0 ?_
  refine wp_region_held_drew (S := (fun wq => Obj wq B 22 (cellsN key) ∧ Obj wq S 22 (cellsN f1) ∧ Obj wq (S + 1) 22 (cellsN f2))) (by kernel_rfl) hS0 (fun hHeld => ?_)
  refine wpAnyH_take (i := 0) (oi := ?_) (v := ?_) ?_ ?_ ?_ ?_ ?_ ?_ (by assumption) ?_
  rotate_left 2
  · simp only [List.getElem?_toArray, List.getElem?_cons_zero, List.getElem?_cons_succ]
    rfl
  · kernel_rfl
  · kernel_rfl
  · kernel_rfl
  · exact fun _ _ _ h => h
  · refine yieldsIf_load_row (g := B) (t := 22) (cs := cellsN key) (ty := 22) (x := (.tmp 4)) ?_ ?_ ?_ ?_ Try.underlying22 rfl HIK.out
    · rfl
    · rfl
    · rfl
    · exact fun w hSw => hSw.1
  simp only [Act.put, List.setIfInBounds_toArray, List.set_cons_zero, List.set_cons_succ]
  refine wpAnyH_take (i := 1) (oi := ?_) (v := ?_) ?_ ?_ ?_ ?_ ?_ ?_ (by assumption) ?_
  rotate_left 2
  · simp only [List.getElem?_toArray, List.getElem?_cons_zero, List.getElem?_cons_succ]
    rfl
  · kernel_rfl
  · kernel_rfl
  · kernel_rfl
  · exact fun _ _ _ h => h
  · refine yieldsIf_load_row (g := S) (t := 22) (cs := cellsN f1) (ty := 22) (x := (.tmp 10)) ?_ ?_ ?_ ?_ Try.underlying22 rfl HI1.out
    · rfl
    · rfl
    · rfl
    · exact fun w hSw => hSw.2.1
  simp only [Act.put, List.setIfInBounds_toArray, List.set_cons_zero, List.set_cons_succ]
  refine wpAnyH_take (i := 2) (oi := ?_) (v := ?_) ?_ ?_ ?_ ?_ ?_ ?_ (by assumption) ?_
  rotate_left 2
  · simp only [List.getElem?_toArray, List.getElem?_cons_zero, List.getElem?_cons_succ]
    rfl
  · kernel_rfl
  · kernel_rfl
  · kernel_rfl
  · exact fun _ _ _ h => h
  · refine Or.inl ⟨by rfl, ?_⟩
    intro w hSw
    (try dsimp only at hSw)
    go_simp
    all_goals with_reducible rfl
  simp only [Act.put, List.setIfInBounds_toArray, List.set_cons_zero, List.set_cons_succ]
  refine wpAnyH_take (i := 3) (oi := ?_) (v := ?_) ?_ ?_ ?_ ?_ ?_ ?_ (by assumption) ?_
  rotate_left 2
  · simp only [List.getElem?_toArray, List.getElem?_cons_zero, List.getElem?_cons_succ]
    rfl
  · kernel_rfl
  · kernel_rfl
  · kernel_rfl
  · exact fun _ _ _ h => h
  · refine Or.inl ⟨by rfl, ?_⟩
    intro w hSw
    (try dsimp only at hSw)
    go_simp
    all_goals with_reducible rfl
  simp only [Act.put, List.setIfInBounds_toArray, List.set_cons_zero, List.set_cons_succ]
  refine wpAnyH_take (i := 4) (oi := ?_) (v := ?_) ?_ ?_ ?_ ?_ ?_ ?_ (by assumption) ?_
  rotate_left 2
  · simp only [List.getElem?_toArray, List.getElem?_cons_zero, List.getElem?_cons_succ]
    rfl
  · kernel_rfl
  · kernel_rfl
  · kernel_rfl
  · exact fun _ _ _ h => h
  · refine Or.inl ⟨by rfl, ?_⟩
    intro w hSw
    (try dsimp only at hSw)
    go_simp
    all_goals with_reducible rfl
  simp only [Act.put, List.setIfInBounds_toArray, List.set_cons_zero, List.set_cons_succ]
  refine wpAnyH_take (i := 5) (oi := ?_) (v := ?_) ?_ ?_ ?_ ?_ ?_ ?_ (by assumption) ?_
  rotate_left 2
  · simp only [List.getElem?_toArray, List.getElem?_cons_zero, List.getElem?_cons_succ]
    rfl
  · kernel_rfl
  · kernel_rfl
  · kernel_rfl
  · exact fun _ _ _ h => h
  · refine Or.inl ⟨by rfl, ?_⟩
    intro w hSw
    (try dsimp only at hSw)
    go_simp
    all_goals with_reducible rfl
  simp only [Act.put, List.setIfInBounds_toArray, List.set_cons_zero, List.set_cons_succ]
  refine wpAnyH_take (i := 7) (oi := ?_) (v := ?_) ?_ ?_ ?_ ?_ ?_ ?_ (by assumption) ?_
  rotate_left 2
  · simp only [List.getElem?_toArray, List.getElem?_cons_zero, List.getElem?_cons_succ]
    rfl
  · kernel_rfl
  · kernel_rfl
  · kernel_rfl
  · exact fun _ _ _ h => h
  · refine Or.inl ⟨by rfl, ?_⟩
    intro w hSw
    (try dsimp only at hSw)
    go_simp
    all_goals with_reducible rfl
  simp only [Act.put, List.setIfInBounds_toArray, List.set_cons_zero, List.set_cons_succ]
  refine wpAnyH_take (i := 8) (oi := ?_) (v := ?_) ?_ ?_ ?_ ?_ ?_ ?_ (by assumption) ?_
  rotate_left 2
  · simp only [List.getElem?_toArray, List.getElem?_cons_zero, List.getElem?_cons_succ]
    rfl
  · kernel_rfl
  · kernel_rfl
  · kernel_rfl
  · exact fun _ _ _ h => h
  · refine Or.inl ⟨by rfl, ?_⟩
    intro w hSw
    (try dsimp only at hSw)
    go_simp
    all_goals with_reducible rfl
  simp only [Act.put, List.setIfInBounds_toArray, List.set_cons_zero, List.set_cons_succ]
  refine wpAnyH_take (i := 9) (oi := ?_) (v := ?_) ?_ ?_ ?_ ?_ ?_ ?_ (by assumption) ?_
  rotate_left 2
  · simp only [List.getElem?_toArray, List.getElem?_cons_zero, List.getElem?_cons_succ]
    rfl
  · kernel_rfl
  · kernel_rfl
  · kernel_rfl
  · exact fun _ _ _ h => h
  · refine Or.inl ⟨by rfl, ?_⟩
    intro w hSw
    (try dsimp only at hSw)
    go_simp
    all_goals with_reducible rfl
  simp only [Act.put, List.setIfInBounds_toArray, List.set_cons_zero, List.set_cons_succ]
  refine wpAnyH_ready (rs := [6]) (by kernel_rfl) (by simp) ?_
  refine AllReadyH.cons (o := ?_) ?_ (fun KK hKK => ?_) AllReadyH.nil
  rotate_left
  · simp only [List.getElem?_toArray, List.getElem?_cons_zero, List.getElem?_cons_succ]
    rfl
  go_simp
  refine (HTG.out _ HB6.out).mono ?_
  rintro e W7 ⟨A7, c7, rfl, hr7, hb7⟩
  have hS7 : Obj W7 B 22 (cellsN key) ∧ Obj W7 S 22 (cellsN f1) ∧ Obj W7 (S + 1) 22 (cellsN f2) := ⟨hS0.1.kept hb7, hS0.2.1.kept hb7, hS0.2.2.kept hb7⟩
  have HB7 := Lib.hid (HB6.out.trans (hb7.mono HB6.out.size))
  try go_wp2_with fail
  refine hKK.out _ _ ?_ (fun hh6 => ?_)
  · (try dsimp only)
    exact hS7
  clear hKK KK
  try simp only [Act.put, List.setIfInBounds_toArray, List.set_cons_zero, List.set_cons_succ]
  refine wpAnyH_ready (rs := [10]) (by kernel_rfl) (by simp) ?_
  refine AllReadyH.cons (o := ?_) ?_ (fun KK hKK => ?_) AllReadyH.nil
  rotate_left
  · simp only [List.getElem?_toArray, List.getElem?_cons_zero, List.getElem?_cons_succ]
    rfl
  go_simp
  refine (HEQ.out _ A7 c7 HB7.out hr7).mono ?_
  rintro e W8 ⟨rfl, q8, hq8⟩
  have hS8 : Obj W8 B 22 (cellsN key) ∧ Obj W8 S 22 (cellsN f1) ∧ Obj W8 (S + 1) 22 (cellsN f2) := by rw [hq8]; exact ⟨hS7.1.drewN _, hS7.2.1.drewN _, hS7.2.2.drewN _⟩
  have HB8 : Hid (Below w.heap.size w W8) := by rw [hq8]; exact ⟨HB7.out.os, HB7.out.tape, HB7.out.output, HB7.out.size, HB7.out.block⟩
  clear hq8
  try go_wp2_with fail
  refine hKK.out _ _ ?_ (fun hh10 => ?_)
  · (try dsimp only)
    exact hS8
  clear hKK KK
  try simp only [Act.put, List.setIfInBounds_toArray, List.set_cons_zero, List.set_cons_succ]
  refine wpAnyH_take (i := 11) (oi := ?_) (v := ?_) ?_ ?_ ?_ ?_ ?_ ?_ (by assumption) ?_
  rotate_left 2
  · simp only [List.getElem?_toArray, List.getElem?_cons_zero, List.getElem?_cons_succ]
    rfl
  · kernel_rfl
  · kernel_rfl
  · kernel_rfl
  · exact fun _ _ _ h => h
  · refine Or.inl ⟨by rfl, ?_⟩
    intro w hSw
    (try dsimp only at hSw)
    go_simp
    all_goals with_reducible rfl
  simp only [Act.put, List.setIfInBounds_toArray, List.set_cons_zero, List.set_cons_succ]
  refine wpAnyH_done (by kernel_rfl) ?_ _
  cases f
  · have hz := HCF.out false rfl
    rw [if_neg (by decide)] at hz
    have HZ := Lib.hid hz
    clear hz HCF
    go_wp2
    refine bodyPost_ret (results_tmp2 rfl _ _ _) rfl ?_
    rw [HZ.out]
    exact ⟨none, 0, 0, rfl, fun hp => by simp at hp, rfl, Nat.le_refl _, HB8.out⟩
  · have hz := HCF.out true rfl
    rw [if_pos rfl] at hz
    have HZ := Lib.hid hz
    clear hz HCF
    go_wp2
    have HB9 := Lib.hid HB8.out.drew
    have hS9 : Obj W8.drew B 22 (cellsN key) ∧ Obj W8.drew S 22 (cellsN f1) ∧ Obj W8.drew (S + 1) 22 (cellsN f2) := ⟨hS8.1.drew, hS8.2.1.drew, hS8.2.2.drew⟩
    refine wp_nopanic0 ?_
    refine wp_region_held_drew (S := (fun wq => Obj wq B 22 (cellsN key) ∧ Obj wq S 22 (cellsN f1) ∧ Obj wq (S + 1) 22 (cellsN f2))) (by kernel_rfl) hS9 (fun hHeld => ?_)
    refine wpAnyH_take (i := 0) (oi := ?_) (v := ?_) ?_ ?_ ?_ ?_ ?_ ?_ (by assumption) ?_
    rotate_left 2
    · simp only [List.getElem?_toArray, List.getElem?_cons_zero, List.getElem?_cons_succ]
      rfl
    · kernel_rfl
    · kernel_rfl
    · kernel_rfl
    · exact fun _ _ _ h => h
    · refine yieldsIf_load_row (g := B) (t := 22) (cs := cellsN key) (ty := 22) (x := (.tmp 4)) ?_ ?_ ?_ ?_ Try.underlying22 rfl HIK.out
      · rfl
      · rfl
      · rfl
      · exact fun w hSw => hSw.1
    simp only [Act.put, List.setIfInBounds_toArray, List.set_cons_zero, List.set_cons_succ]
    refine wpAnyH_take (i := 1) (oi := ?_) (v := ?_) ?_ ?_ ?_ ?_ ?_ ?_ (by assumption) ?_
    rotate_left 2
    · simp only [List.getElem?_toArray, List.getElem?_cons_zero, List.getElem?_cons_succ]
      rfl
    · kernel_rfl
    · kernel_rfl
    · kernel_rfl
    · exact fun _ _ _ h => h
    · refine yieldsIf_load_row (g := (S + 1)) (t := 22) (cs := cellsN f2) (ty := 22) (x := (.tmp 11)) ?_ ?_ ?_ ?_ Try.underlying22 rfl HI2.out
      · rfl
      · rfl
      · rfl
      · exact fun w hSw => hSw.2.2
    simp only [Act.put, List.setIfInBounds_toArray, List.set_cons_zero, List.set_cons_succ]
    refine wpAnyH_take (i := 2) (oi := ?_) (v := ?_) ?_ ?_ ?_ ?_ ?_ ?_ (by assumption) ?_
    rotate_left 2
    · simp only [List.getElem?_toArray, List.getElem?_cons_zero, List.getElem?_cons_succ]
      rfl
    · kernel_rfl
    · kernel_rfl
    · kernel_rfl
    · exact fun _ _ _ h => h
    · refine Or.inl ⟨by rfl, ?_⟩
      intro w hSw
      (try dsimp only at hSw)
      go_simp
      all_goals with_reducible rfl
    simp only [Act.put, List.setIfInBounds_toArray, List.set_cons_zero, List.set_cons_succ]
    refine wpAnyH_take (i := 3) (oi := ?_) (v := ?_) ?_ ?_ ?_ ?_ ?_ ?_ (by assumption) ?_
    rotate_left 2
    · simp only [List.getElem?_toArray, List.getElem?_cons_zero, List.getElem?_cons_succ]
      rfl
    · kernel_rfl
    · kernel_rfl
    · kernel_rfl
    · exact fun _ _ _ h => h
    · refine Or.inl ⟨by rfl, ?_⟩
      intro w hSw
      (try dsimp only at hSw)
      go_simp
      all_goals with_reducible rfl
    simp only [Act.put, List.setIfInBounds_toArray, List.set_cons_zero, List.set_cons_succ]
    refine wpAnyH_take (i := 4) (oi := ?_) (v := ?_) ?_ ?_ ?_ ?_ ?_ ?_ (by assumption) ?_
    rotate_left 2
    · simp only [List.getElem?_toArray, List.getElem?_cons_zero, List.getElem?_cons_succ]
      rfl
    · kernel_rfl
    · kernel_rfl
    · kernel_rfl
    · exact fun _ _ _ h => h
    · refine Or.inl ⟨by rfl, ?_⟩
      intro w hSw
      (try dsimp only at hSw)
      go_simp
      all_goals with_reducible rfl
    simp only [Act.put, List.setIfInBounds_toArray, List.set_cons_zero, List.set_cons_succ]
    refine wpAnyH_ready (rs := [5]) (by kernel_rfl) (by simp) ?_
    refine AllReadyH.cons (o := ?_) ?_ (fun KK hKK => ?_) AllReadyH.nil
    rotate_left
    · simp only [List.getElem?_toArray, List.getElem?_cons_zero, List.getElem?_cons_succ]
      rfl
    go_simp
    refine (HST.out _ HB9.out).mono ?_
    rintro e W10 ⟨A10, c10, rfl, hc10, hr10, hb10⟩
    try go_wp2_with fail
    refine hKK.out _ _ ?_ (fun hh5 => ?_)
    · (try dsimp only)
      exact ⟨hS9.1.kept hb10, hS9.2.1.kept hb10, hS9.2.2.kept hb10⟩
    clear hKK KK
    try simp only [Act.put, List.setIfInBounds_toArray, List.set_cons_zero, List.set_cons_succ]
    refine wpAnyH_take (i := 6) (oi := ?_) (v := ?_) ?_ ?_ ?_ ?_ ?_ ?_ (by assumption) ?_
    rotate_left 2
    · simp only [List.getElem?_toArray, List.getElem?_cons_zero, List.getElem?_cons_succ]
      rfl
    · kernel_rfl
    · kernel_rfl
    · kernel_rfl
    · exact fun _ _ _ h => h
    · refine Or.inl ⟨by rfl, ?_⟩
      intro w hSw
      (try dsimp only at hSw)
      go_simp
      all_goals with_reducible rfl
    simp only [Act.put, List.setIfInBounds_toArray, List.set_cons_zero, List.set_cons_succ]
    refine wpAnyH_take (i := 7) (oi := ?_) (v := ?_) ?_ ?_ ?_ ?_ ?_ ?_ (by assumption) ?_
    rotate_left 2
    · simp only [List.getElem?_toArray, List.getElem?_cons_zero, List.getElem?_cons_succ]
      rfl
    · kernel_rfl
    · kernel_rfl
    · kernel_rfl
    · exact fun _ _ _ h => h
    · refine Or.inl ⟨by rfl, ?_⟩
      intro w hSw
      (try dsimp only at hSw)
      go_simp
      all_goals with_reducible rfl
    simp only [Act.put, List.setIfInBounds_toArray, List.set_cons_zero, List.set_cons_succ]
    refine wpAnyH_done (by kernel_rfl) ?_ _
    go_wp2
    refine bodyPost_ret (results_tmp2 rfl _ _ _) rfl ?_
    rw [HZ.out]
    exact ⟨_, K, _, rfl, hr10, HCL.out, hc10, HB9.out.trans (hb10.mono HB9.out.size)⟩
end Go.Proofs.Ytnphanhoakbkpaa
