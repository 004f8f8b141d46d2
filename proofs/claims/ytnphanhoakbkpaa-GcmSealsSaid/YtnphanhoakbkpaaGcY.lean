/- Layer 9's gcm, GcmSeals. -/
import Derived.RangeFuncNested
import Derived.RangeFuncBound
import Derived.RangeFuncCalls
import Derived.RangeFuncLeaves
import Derived.RangeFuncBox
import Derived.Shelf.Abstract
import Derived.Shelf.RegionOpen
import Derived.WalkKit
import Derived.OwnWalkIn
import Derived.TacticsInMore
import Derived.LoopN
import Derived.LoopNIn
import Derived.LoopIn
import Derived.WalkSpells
import Derived.WalkLawsBesides
import Derived.Laws.Rows
import Derived.Laws.EntriesVeiled
import Derived.Laws.BitsAllLaws
import Derived.Handy
import Derived.BigQuiet
import Derived.Deep.QuietTactic
import Derived.IntWalk
import Derived.Lib.Hide
import Derived.Outline
import Derived.Test.YtnphanhoakbkpaaRows
import Derived.Test.YtnphanhoakbkpaaAid
import Derived.Test.YtnphanhoakbkpaaPlainAe
import Derived.Test.YtnphanhoakbkpaaPlainAe2
import Derived.Test.YtnphanhoakbkpaaPlainGc
import Derived.Test.YtnphanhoakbkpaaPlainGc2
import Derived.Test.YtnphanhoakbkpaaAesB
import Derived.Test.YtnphanhoakbkpaaAesBox
import Derived.Test.YtnphanhoakbkpaaAesW
import Derived.Test.YtnphanhoakbkpaaAesE
import Derived.Test.YtnphanhoakbkpaaAesK
import Derived.Test.YtnphanhoakbkpaaAesS
import Derived.Test.YtnphanhoakbkpaaAesT
import Derived.Test.YtnphanhoakbkpaaBl
import Derived.Test.YtnphanhoakbkpaaItF
import Derived.Test.YtnphanhoakbkpaaGcA
import Derived.Test.YtnphanhoakbkpaaGcB
import Derived.Test.YtnphanhoakbkpaaGcD
import Derived.Test.YtnphanhoakbkpaaGcE
import Derived.Test.YtnphanhoakbkpaaGcF
import Derived.Test.YtnphanhoakbkpaaGcG
import Derived.Test.YtnphanhoakbkpaaGcR
import Derived.Test.YtnphanhoakbkpaaPlainGc3
import Derived.Test.YtnphanhoakbkpaaPlainGc6
import Derived.Test.YtnphanhoakbkpaaGcT
import Derived.Test.YtnphanhoakbkpaaGcI
import Derived.Test.YtnphanhoakbkpaaGcJ
import Derived.Test.YtnphanhoakbkpaaRfI
import Derived.Test.YtnphanhoakbkpaaRfJ
import Derived.Test.YtnphanhoakbkpaaGcU
import Derived.Test.YtnphanhoakbkpaaGcK
import Derived.Test.YtnphanhoakbkpaaGcL
import Derived.Test.YtnphanhoakbkpaaGcM
import Derived.Test.YtnphanhoakbkpaaGcV
import Derived.Test.YtnphanhoakbkpaaGcH
import Derived.Test.YtnphanhoakbkpaaGcP
import Derived.Test.YtnphanhoakbkpaaGcW
import Derived.Deep.Upon
import Derived.Lib.AppendZeros
namespace Go.Proofs.Ytnphanhoakbkpaa
open Go Go.RowKit Go.Shelf
set_option linter.unusedVariables false
set_option linter.unusedSimpArgs false
set_option maxRecDepth 100000 in
set_option maxHeartbeats 4000000 in
theorem gcmSeals_small (k n : List Nat) (A1 : Option Addr) (n1 c1 : Nat) (more : List Nat) (A3 : Option Addr) (n3 c3 : Nat) (text : List Nat) (w : World) (hk : k.length = 16) (qk : Ae.bytes k) (hn : n.length = 12) (qn : Ae.bytes n)
    (r1 : Rd w A1 more) (m1 : more.length = n1) (q1 : Ae.bytes more) (k1 : n1 ≤ 200 ∧ n1 ≤ c1 ∧ c1 ≤ 9223372036854775807) (r3 : Rd w A3 text) (m3 : text.length = n3) (q3 : Ae.bytes text) (k3 : n3 ≤ 200 ∧ n3 ≤ c3 ∧ c3 ≤ 9223372036854775807) :
    Calls Try.prog 4 #[.agg (cellsN k), .agg (cellsN n), .slice A1 n1 c1, .slice A3 n3 c3] w fun e w' => e = .returned (.bool true) ∧ Below w.heap.size w w' := by
  have t1 : ¬ (n1 : Int) > 200 := by omega
  have t3 : ¬ (n3 : Int) > 200 := by omega
  have t1' : ¬ 200 < (n1 : Int) := by omega
  have t3' : ¬ 200 < (n3 : Int) := by omega
  obtain ⟨s, hs⟩ : ∃ s, Gc.sealT k n more text = s := ⟨_, rfl⟩
  have ls : s.length = n3 + 16 := by rw [← hs, Gc.sealT_len, m3]
  obtain ⟨E, hE⟩ : ∃ E, (Gc.openC k n more text).1 = E := ⟨_, rfl⟩
  obtain ⟨t, ht⟩ : ∃ t, (Gc.openC k n more text).2 = t := ⟨_, rfl⟩
  obtain ⟨N, hN⟩ : ∃ N, t.length = N := ⟨_, rfl⟩
  have hNb : N ≤ 1000 := by
    have hl : (Gc.openC k n more text).2.length ≤ 200 := by
      unfold Gc.openC Gc.openT
      split
      · simp
      · split
        · simp
        · next h =>
          split at h
          · cases h
            show (Gc.ciph k n _).length ≤ 200
            rw [Gc.ciph_len, List.length_take]; omega
          · cases h
    rw [ht, hN] at hl
    omega
  have HSE : Hid (∀ W, Below w.heap.size w W → Calls Try.prog 17 #[.agg (cellsN k), .agg (cellsN n), .slice A1 n1 c1, .slice A3 n3 c3] W fun e w' => ∃ A c, e = .returned (.slice A (n3 + 16) c) ∧ Rd w' A s ∧ Below W.heap.size W w') := fun W hb =>
    (Seal_any k n A1 n1 c1 more A3 n3 c3 text W hk qk hn qn (r1.below hb) m1 q1 ⟨by omega, k1.2⟩ (r3.below hb) m3 q3 (by omega)).mono fun e w' ⟨v, e1, hown, h3⟩ => by
      rw [hs] at hown
      obtain ⟨A, c, rfl, _, _, _, hr⟩ := own_cap hown
      exact ⟨A, c, e1, hr, h3⟩
  have HSF : Hid (∀ W, Below w.heap.size w W → Calls Try.prog 18 #[.agg (cellsN k), .agg (cellsN n), .slice A1 n1 c1, .slice A3 n3 c3] W fun e w' => ∃ A c, e = .returned (.slice A (n3 + 16) c) ∧ Rd w' A s ∧ Below W.heap.size W w') := fun W hb =>
    (refSeal_any k n A1 n1 c1 more A3 n3 c3 text W hk qk hn qn (r1.below hb) m1 q1 (by omega) (r3.below hb) m3 q3 (by omega)).mono fun e w' ⟨v, e1, hown, h3⟩ => by
      rw [hs] at hown
      obtain ⟨A, c, rfl, _, _, _, hr⟩ := own_cap hown
      exact ⟨A, c, e1, hr, h3⟩
  have HOE : Hid (∀ W, Below w.heap.size w W → Calls Try.prog 14 #[.agg (cellsN k), .agg (cellsN n), .slice A1 n1 c1, .slice A3 n3 c3] W fun e w' => ∃ A c, e = .returned (.tuple #[.slice A N c, .int .i64 (E : Int)]) ∧ Rd w' A t ∧ Below W.heap.size W w') := fun W hb =>
    (Open_any k n A1 n1 c1 more A3 n3 c3 text W hk qk hn qn (r1.below hb) m1 q1 ⟨by omega, k1.2⟩ (r3.below hb) m3 q3 ⟨by omega, k3.2⟩).mono fun e w' ⟨A', n', c', e1, h5, h6, h7, h8⟩ => by
      rw [hE] at e1
      rw [ht] at h5 h6
      obtain rfl : n' = N := h6.symm.trans hN
      exact ⟨A', c', e1, h5, h8⟩
  have HOF : Hid (∀ W, Below w.heap.size w W → Calls Try.prog 15 #[.agg (cellsN k), .agg (cellsN n), .slice A1 n1 c1, .slice A3 n3 c3] W fun e w' => ∃ A c, e = .returned (.tuple #[.slice A N c, .int .i64 (E : Int)]) ∧ Rd w' A t ∧ Below W.heap.size W w') := fun W hb =>
    (refOpen_any k n A1 n1 c1 more A3 n3 c3 text W hk qk hn qn (r1.below hb) m1 q1 (by omega) (r3.below hb) m3 q3 ⟨by omega, k3.2⟩).mono fun e w' ⟨A', n', c', e1, h5, h6, h7, h8⟩ => by
      rw [hE] at e1
      rw [ht] at h5 h6
      obtain rfl : n' = N := h6.symm.trans hN
      exact ⟨A', c', e1, h5, h8⟩
  have HM1 : Hid (∀ W A c B d, Rd W A s → Rd W B s → Calls Try.prog 16 #[.slice A (n3 + 16) c, .slice B (n3 + 16) d] W fun e w' => e = .returned (.bool true) ∧ Below W.heap.size W w') := fun W A c B d ra rb =>
    (same_any A B c d (n3 + 16) (n3 + 16) s s W ra rb ls ls (by omega)).mono fun e w' ⟨h3, q, h4⟩ => ⟨by rw [h3, decide_eq_true rfl], below_drewN' h4⟩
  have HM2 : Hid (∀ W A c B d, Rd W A t → Rd W B t → Calls Try.prog 16 #[.slice A N c, .slice B N d] W fun e w' => e = .returned (.bool true) ∧ Below W.heap.size W w') := fun W A c B d ra rb =>
    (same_any A B c d N N t t W ra rb hN hN (by omega)).mono fun e w' ⟨h3, q, h4⟩ => ⟨by rw [h3, decide_eq_true rfl], below_drewN' h4⟩
  obtain ⟨W2, hW2⟩ : ∃ W2, (w.alloc (.cells (cellsN k) 22)).alloc (.cells (cellsN n) 28) = W2 := ⟨_, rfl⟩
  have HT0 : Hid (TxS w k n W2) := ⟨hW2 ▸ (Obj.new w _ _).alloc _, hW2 ▸ new2 w _ _ _, hW2 ▸ ((Below.refl _ w).alloc (Nat.le_refl _) _).alloc (by simp) _⟩
  have HIK := Lib.hid (size16 hk)
  have HIN := Lib.hid (size12 hn)
  have HW2 := Lib.hid hW2
  clear hW2 hk qk hn qn r1 m1 q1 r3 m3 q3 hs ls hE ht hN hNb k1 k3
  go_enter Try.func4, Try.ntmps4
  go_wp2_with fail
  rw [HW2.out]
  refine (alive_true _).mono ?_
  rintro e w1 ⟨rfl, hb1⟩
  have HT1 := Lib.hid (HT0.out.kept hb1)
  clear hb1 HT0
  go_wp2_with (first
    | (refine wpList_load_row rfl 22 (.tmp 4) rfl _ rfl _ _ _ _ HT1.out.1 Try.underlying22 rfl HIK.out ?_)
    | (refine wpList_load_row rfl 28 (.tmp 5) rfl _ rfl _ _ _ _ HT1.out.2.1 Try.underlying28 rfl HIN.out ?_))
  refine (HOE.out _ HT1.out.2.2).mono ?_
  rintro e w2 ⟨Aa, ca, rfl, ha2, hb2⟩
  have HT2 := Lib.hid (HT1.out.kept hb2)
  have HA2 := Lib.hid ha2
  clear hb2 ha2 HT1
  go_wp2_with (first
    | (refine wpList_load_row rfl 22 (.tmp 4) rfl _ rfl _ _ _ _ HT2.out.1 Try.underlying22 rfl HIK.out ?_)
    | (refine wpList_load_row rfl 28 (.tmp 5) rfl _ rfl _ _ _ _ HT2.out.2.1 Try.underlying28 rfl HIN.out ?_))
  refine (HOF.out _ HT2.out.2.2).mono ?_
  rintro e w3 ⟨Ab, cb, rfl, ha3, hb3⟩
  have HT3 := Lib.hid (HT2.out.kept hb3).drew
  have HA3 : Hid (Rd w3.drew Aa t) := HA2.out.below hb3.drew
  have HB3 : Hid (Rd w3.drew Ab t) := ha3
  clear hb3 ha3 HT2 HA2
  go_wp2
  refine wp_region_held_drew (S := (fun wq => TxS w k n wq)) (by kernel_rfl) HT3.out (fun hHeld => ?_)
  refine wpAnyH_take (i := 0) (oi := ?_) (v := ?_) ?_ ?_ ?_ ?_ ?_ ?_ (by assumption) ?_
  rotate_left 2
  · simp only [List.getElem?_toArray, List.getElem?_cons_zero, List.getElem?_cons_succ]
    rfl
  · kernel_rfl
  · kernel_rfl
  · kernel_rfl
  · exact fun _ _ _ h => h
  · refine yieldsIf_load_row (g := w.heap.size) (t := 22) (cs := cellsN k) (ty := 22) (x := (.tmp 4)) ?_ ?_ ?_ ?_ Try.underlying22 rfl HIK.out
    · rfl
    · rfl
    · rfl
    · exact fun w hSw => hSw.1
  simp only [Act.put, List.setIfInBounds_toArray, List.set_cons_zero, List.set_cons_succ]
  refine wpAnyH_take (i := 1) (oi := ?_) (v := ?_) ?_ ?_ ?_ ?_ ?_ ?_ (by assumption) ?_
  rotate_left 2
  · simp only [List.getElem?_toArray, List.getElem?_cons_zero, List.getElem?_cons_succ]
    rfl
  · kernel_rfl
  · kernel_rfl
  · kernel_rfl
  · exact fun _ _ _ h => h
  · refine yieldsIf_load_row (g := (w.heap.size + 1)) (t := 28) (cs := cellsN n) (ty := 28) (x := (.tmp 5)) ?_ ?_ ?_ ?_ Try.underlying28 rfl HIN.out
    · rfl
    · rfl
    · rfl
    · exact fun w hSw => hSw.2.1
  simp only [Act.put, List.setIfInBounds_toArray, List.set_cons_zero, List.set_cons_succ]
  refine wpAnyH_take (i := 2) (oi := ?_) (v := ?_) ?_ ?_ ?_ ?_ ?_ ?_ (by assumption) ?_
  rotate_left 2
  · simp only [List.getElem?_toArray, List.getElem?_cons_zero, List.getElem?_cons_succ]
    rfl
  · kernel_rfl
  · kernel_rfl
  · kernel_rfl
  · exact fun _ _ _ h => h
  · refine Or.inl ⟨by rfl, ?_⟩
    intro w hSw
    (try dsimp only at hSw)
    go_simp
    all_goals with_reducible rfl
  simp only [Act.put, List.setIfInBounds_toArray, List.set_cons_zero, List.set_cons_succ]
  refine wpAnyH_take (i := 3) (oi := ?_) (v := ?_) ?_ ?_ ?_ ?_ ?_ ?_ (by assumption) ?_
  rotate_left 2
  · simp only [List.getElem?_toArray, List.getElem?_cons_zero, List.getElem?_cons_succ]
    rfl
  · kernel_rfl
  · kernel_rfl
  · kernel_rfl
  · exact fun _ _ _ h => h
  · refine Or.inl ⟨by rfl, ?_⟩
    intro w hSw
    (try dsimp only at hSw)
    go_simp
    all_goals with_reducible rfl
  simp only [Act.put, List.setIfInBounds_toArray, List.set_cons_zero, List.set_cons_succ]
  refine wpAnyH_take (i := 5) (oi := ?_) (v := ?_) ?_ ?_ ?_ ?_ ?_ ?_ (by assumption) ?_
  rotate_left 2
  · simp only [List.getElem?_toArray, List.getElem?_cons_zero, List.getElem?_cons_succ]
    rfl
  · kernel_rfl
  · kernel_rfl
  · kernel_rfl
  · exact fun _ _ _ h => h
  · refine yieldsIf_load_row (g := w.heap.size) (t := 22) (cs := cellsN k) (ty := 22) (x := (.tmp 4)) ?_ ?_ ?_ ?_ Try.underlying22 rfl HIK.out
    · rfl
    · rfl
    · rfl
    · exact fun w hSw => hSw.1
  simp only [Act.put, List.setIfInBounds_toArray, List.set_cons_zero, List.set_cons_succ]
  refine wpAnyH_take (i := 6) (oi := ?_) (v := ?_) ?_ ?_ ?_ ?_ ?_ ?_ (by assumption) ?_
  rotate_left 2
  · simp only [List.getElem?_toArray, List.getElem?_cons_zero, List.getElem?_cons_succ]
    rfl
  · kernel_rfl
  · kernel_rfl
  · kernel_rfl
  · exact fun _ _ _ h => h
  · refine yieldsIf_load_row (g := (w.heap.size + 1)) (t := 28) (cs := cellsN n) (ty := 28) (x := (.tmp 5)) ?_ ?_ ?_ ?_ Try.underlying28 rfl HIN.out
    · rfl
    · rfl
    · rfl
    · exact fun w hSw => hSw.2.1
  simp only [Act.put, List.setIfInBounds_toArray, List.set_cons_zero, List.set_cons_succ]
  refine wpAnyH_take (i := 7) (oi := ?_) (v := ?_) ?_ ?_ ?_ ?_ ?_ ?_ (by assumption) ?_
  rotate_left 2
  · simp only [List.getElem?_toArray, List.getElem?_cons_zero, List.getElem?_cons_succ]
    rfl
  · kernel_rfl
  · kernel_rfl
  · kernel_rfl
  · exact fun _ _ _ h => h
  · refine Or.inl ⟨by rfl, ?_⟩
    intro w hSw
    (try dsimp only at hSw)
    go_simp
    all_goals with_reducible rfl
  simp only [Act.put, List.setIfInBounds_toArray, List.set_cons_zero, List.set_cons_succ]
  refine wpAnyH_take (i := 8) (oi := ?_) (v := ?_) ?_ ?_ ?_ ?_ ?_ ?_ (by assumption) ?_
  rotate_left 2
  · simp only [List.getElem?_toArray, List.getElem?_cons_zero, List.getElem?_cons_succ]
    rfl
  · kernel_rfl
  · kernel_rfl
  · kernel_rfl
  · exact fun _ _ _ h => h
  · refine Or.inl ⟨by rfl, ?_⟩
    intro w hSw
    (try dsimp only at hSw)
    go_simp
    all_goals with_reducible rfl
  simp only [Act.put, List.setIfInBounds_toArray, List.set_cons_zero, List.set_cons_succ]
  refine wpAnyH_ready (rs := [4]) (by kernel_rfl) (by simp) ?_
  refine AllReadyH.cons (o := ?_) ?_ (fun KK hKK => ?_) AllReadyH.nil
  rotate_left
  · simp only [List.getElem?_toArray, List.getElem?_cons_zero, List.getElem?_cons_succ]
    rfl
  go_simp
  refine (HSE.out _ HT3.out.2.2).mono ?_
  rintro e y3 ⟨As, cs, rfl, hs4, hy⟩
  have HT4 := Lib.hid (HT3.out.kept hy)
  have HA4 := Lib.hid (HA3.out.below hy)
  have HB4 := Lib.hid (HB3.out.below hy)
  try go_wp2_with fail
  refine hKK.out _ _ ?_ (fun hh4 => ?_)
  · (try dsimp only)
    exact HT4.out
  clear hKK KK
  try simp only [Act.put, List.setIfInBounds_toArray, List.set_cons_zero, List.set_cons_succ]
  have HS4 := Lib.hid hs4
  refine wpAnyH_ready (rs := [9]) (by kernel_rfl) (by simp) ?_
  refine AllReadyH.cons (o := ?_) ?_ (fun KK hKK => ?_) AllReadyH.nil
  rotate_left
  · simp only [List.getElem?_toArray, List.getElem?_cons_zero, List.getElem?_cons_succ]
    rfl
  go_simp
  refine (HSF.out _ HT4.out.2.2).mono ?_
  rintro e y4 ⟨At, ct, rfl, ht5, hy⟩
  have HT5 := Lib.hid (HT4.out.kept hy)
  have HA5 := Lib.hid (HA4.out.below hy)
  have HB5 := Lib.hid (HB4.out.below hy)
  have HS5 := Lib.hid (HS4.out.below hy)
  try go_wp2_with fail
  refine hKK.out _ _ ?_ (fun hh9 => ?_)
  · (try dsimp only)
    exact HT5.out
  clear hKK KK
  try simp only [Act.put, List.setIfInBounds_toArray, List.set_cons_zero, List.set_cons_succ]
  have HU5 := Lib.hid ht5
  refine wpAnyH_ready (rs := [10]) (by kernel_rfl) (by simp) ?_
  refine AllReadyH.cons (o := ?_) ?_ (fun KK hKK => ?_) AllReadyH.nil
  rotate_left
  · simp only [List.getElem?_toArray, List.getElem?_cons_zero, List.getElem?_cons_succ]
    rfl
  go_simp
  refine (HM1.out _ _ _ _ _ HS5.out HU5.out).mono ?_
  rintro e y5 ⟨rfl, hy⟩
  have HT6 := Lib.hid (HT5.out.kept hy)
  have HA6 := Lib.hid (HA5.out.below hy)
  have HB6 := Lib.hid (HB5.out.below hy)
  try go_wp2_with fail
  refine hKK.out _ _ ?_ (fun hh10 => ?_)
  · (try dsimp only)
    exact HT6.out
  clear hKK KK
  try simp only [Act.put, List.setIfInBounds_toArray, List.set_cons_zero, List.set_cons_succ]
  refine wpAnyH_take (i := 11) (oi := ?_) (v := ?_) ?_ ?_ ?_ ?_ ?_ ?_ (by assumption) ?_
  rotate_left 2
  · simp only [List.getElem?_toArray, List.getElem?_cons_zero, List.getElem?_cons_succ]
    rfl
  · kernel_rfl
  · kernel_rfl
  · kernel_rfl
  · exact fun _ _ _ h => h
  · refine Or.inl ⟨by rfl, ?_⟩
    intro w hSw
    (try dsimp only at hSw)
    go_simp
    all_goals with_reducible rfl
  simp only [Act.put, List.setIfInBounds_toArray, List.set_cons_zero, List.set_cons_succ]
  refine wpAnyH_take (i := 12) (oi := ?_) (v := ?_) ?_ ?_ ?_ ?_ ?_ ?_ (by assumption) ?_
  rotate_left 2
  · simp only [List.getElem?_toArray, List.getElem?_cons_zero, List.getElem?_cons_succ]
    rfl
  · kernel_rfl
  · kernel_rfl
  · kernel_rfl
  · exact fun _ _ _ h => h
  · refine Or.inl ⟨by rfl, ?_⟩
    intro w hSw
    (try dsimp only at hSw)
    go_simp
    all_goals with_reducible rfl
  simp only [Act.put, List.setIfInBounds_toArray, List.set_cons_zero, List.set_cons_succ]
  refine wpAnyH_take (i := 13) (oi := ?_) (v := ?_) ?_ ?_ ?_ ?_ ?_ ?_ (by assumption) ?_
  rotate_left 2
  · simp only [List.getElem?_toArray, List.getElem?_cons_zero, List.getElem?_cons_succ]
    rfl
  · kernel_rfl
  · kernel_rfl
  · kernel_rfl
  · exact fun _ _ _ h => h
  · refine Or.inl ⟨by rfl, ?_⟩
    intro w hSw
    (try dsimp only at hSw)
    go_simp
    all_goals with_reducible rfl
  simp only [Act.put, List.setIfInBounds_toArray, List.set_cons_zero, List.set_cons_succ]
  refine wpAnyH_take (i := 14) (oi := ?_) (v := ?_) ?_ ?_ ?_ ?_ ?_ ?_ (by assumption) ?_
  rotate_left 2
  · simp only [List.getElem?_toArray, List.getElem?_cons_zero, List.getElem?_cons_succ]
    rfl
  · kernel_rfl
  · kernel_rfl
  · kernel_rfl
  · exact fun _ _ _ h => h
  · refine Or.inl ⟨by rfl, ?_⟩
    intro w hSw
    (try dsimp only at hSw)
    go_simp
    all_goals with_reducible rfl
  simp only [Act.put, List.setIfInBounds_toArray, List.set_cons_zero, List.set_cons_succ]
  refine wpAnyH_take (i := 15) (oi := ?_) (v := ?_) ?_ ?_ ?_ ?_ ?_ ?_ (by assumption) ?_
  rotate_left 2
  · simp only [List.getElem?_toArray, List.getElem?_cons_zero, List.getElem?_cons_succ]
    rfl
  · kernel_rfl
  · kernel_rfl
  · kernel_rfl
  · exact fun _ _ _ h => h
  · refine Or.inl ⟨by rfl, ?_⟩
    intro w hSw
    (try dsimp only at hSw)
    go_simp
    all_goals with_reducible rfl
  simp only [Act.put, List.setIfInBounds_toArray, List.set_cons_zero, List.set_cons_succ]
  refine wpAnyH_take (i := 16) (oi := ?_) (v := ?_) ?_ ?_ ?_ ?_ ?_ ?_ (by assumption) ?_
  rotate_left 2
  · simp only [List.getElem?_toArray, List.getElem?_cons_zero, List.getElem?_cons_succ]
    rfl
  · kernel_rfl
  · kernel_rfl
  · kernel_rfl
  · exact fun _ _ _ h => h
  · refine Or.inl ⟨by rfl, ?_⟩
    intro w hSw
    (try dsimp only at hSw)
    go_simp
    all_goals with_reducible rfl
  simp only [Act.put, List.setIfInBounds_toArray, List.set_cons_zero, List.set_cons_succ]
  refine wpAnyH_take (i := 17) (oi := ?_) (v := ?_) ?_ ?_ ?_ ?_ ?_ ?_ (by assumption) ?_
  rotate_left 2
  · simp only [List.getElem?_toArray, List.getElem?_cons_zero, List.getElem?_cons_succ]
    rfl
  · kernel_rfl
  · kernel_rfl
  · kernel_rfl
  · exact fun _ _ _ h => h
  · refine Or.inl ⟨by rfl, ?_⟩
    intro w hSw
    (try dsimp only at hSw)
    go_simp
    all_goals with_reducible rfl
  simp only [Act.put, List.setIfInBounds_toArray, List.set_cons_zero, List.set_cons_succ]
  refine wpAnyH_take (i := 18) (oi := ?_) (v := ?_) ?_ ?_ ?_ ?_ ?_ ?_ (by assumption) ?_
  rotate_left 2
  · simp only [List.getElem?_toArray, List.getElem?_cons_zero, List.getElem?_cons_succ]
    rfl
  · kernel_rfl
  · kernel_rfl
  · kernel_rfl
  · exact fun _ _ _ h => h
  · refine Or.inl ⟨by rfl, ?_⟩
    intro w hSw
    (try dsimp only at hSw)
    go_simp
    all_goals with_reducible rfl
  simp only [Act.put, List.setIfInBounds_toArray, List.set_cons_zero, List.set_cons_succ]
  refine wpAnyH_ready (rs := [19]) (by kernel_rfl) (by simp) ?_
  refine AllReadyH.cons (o := ?_) ?_ (fun KK hKK => ?_) AllReadyH.nil
  rotate_left
  · simp only [List.getElem?_toArray, List.getElem?_cons_zero, List.getElem?_cons_succ]
    rfl
  go_simp
  refine (HM2.out _ _ _ _ _ HA6.out HB6.out).mono ?_
  rintro e y6 ⟨rfl, hy⟩
  have HT7 := Lib.hid (HT6.out.kept hy)
  try go_wp2_with fail
  refine hKK.out _ _ ?_ (fun hh19 => ?_)
  · (try dsimp only)
    exact HT7.out
  clear hKK KK
  try simp only [Act.put, List.setIfInBounds_toArray, List.set_cons_zero, List.set_cons_succ]
  refine wpAnyH_take (i := 20) (oi := ?_) (v := ?_) ?_ ?_ ?_ ?_ ?_ ?_ (by assumption) ?_
  rotate_left 2
  · simp only [List.getElem?_toArray, List.getElem?_cons_zero, List.getElem?_cons_succ]
    rfl
  · kernel_rfl
  · kernel_rfl
  · kernel_rfl
  · exact fun _ _ _ h => h
  · refine Or.inl ⟨by rfl, ?_⟩
    intro w hSw
    (try dsimp only at hSw)
    go_simp
    all_goals with_reducible rfl
  simp only [Act.put, List.setIfInBounds_toArray, List.set_cons_zero, List.set_cons_succ]
  refine wpAnyH_take (i := 21) (oi := ?_) (v := ?_) ?_ ?_ ?_ ?_ ?_ ?_ (by assumption) ?_
  rotate_left 2
  · simp only [List.getElem?_toArray, List.getElem?_cons_zero, List.getElem?_cons_succ]
    rfl
  · kernel_rfl
  · kernel_rfl
  · kernel_rfl
  · exact fun _ _ _ h => h
  · refine Or.inl ⟨by rfl, ?_⟩
    intro w hSw
    (try dsimp only at hSw)
    go_simp
    all_goals with_reducible rfl
  simp only [Act.put, List.setIfInBounds_toArray, List.set_cons_zero, List.set_cons_succ]
  refine wpAnyH_done (by kernel_rfl) ?_ _
  go_wp2
  go_ret
  exact ⟨rfl, HT7.out.2.2⟩
set_option maxRecDepth 100000 in
set_option maxHeartbeats 1000000 in
theorem gcmSeals_walk (k n : List Nat) (A1 : Option Addr) (n1 c1 : Nat) (z1 : List Int) (A2 : Option Addr) (n2 c2 : Nat) (z2 : List Int) (w : World) (hk : k.length = 16) (qk : Ae.bytes k) (hn : n.length = 12) (qn : Ae.bytes n) (i1 : Ints .u8 w A1 n1 z1) (x1 : n1 ≤ c1 ∧ c1 ≤ maxLen) (i2 : Ints .u8 w A2 n2 z2) (x2 : n2 ≤ c2 ∧ c2 ≤ maxLen) :
    Calls Try.prog 4 #[.agg (cellsN k), .agg (cellsN n), .slice A1 n1 c1, .slice A2 n2 c2] w fun e w' => e = .returned (.bool true) ∧ Below w.heap.size w w' := by
  obtain ⟨l1, m1, q1, r1⟩ := i1.rd
  obtain ⟨l2, m2, q2, r2⟩ := i2.rd
  unfold maxLen at x1 x2
  by_cases h1 : 200 < n1
  · have h1i : (n1 : Int) > 200 := by omega
    have h1j : 200 < (n1 : Int) := by omega
    clear hk qk hn qn i1 i2 m1 q1 r1 m2 q2 r2 h1
    have L0 : Below w.heap.size w ((w.alloc (.cells (cellsN k) 22)).alloc (.cells (cellsN n) 28)) := ((Below.refl _ w).alloc (Nat.le_refl _) _).alloc (by simp) _
    have PL := Lib.hid L0
    clear L0
    go_enter Try.func4, Try.ntmps4
    go_wp2_with fail
    refine (alive_true _).mono ?_
    rintro e w1 ⟨rfl, hb1⟩
    have HA := Lib.hid (PL.out.trans (hb1.mono PL.out.size))
    clear hb1 PL
    go_wp2
    go_ret
    exact ⟨rfl, HA.out⟩
  by_cases h2 : 200 < n2
  · have h1i : ¬ (n1 : Int) > 200 := by omega
    have h1j : ¬ 200 < (n1 : Int) := by omega
    have h2i : (n2 : Int) > 200 := by omega
    have h2j : 200 < (n2 : Int) := by omega
    clear hk qk hn qn i1 i2 m1 q1 r1 m2 q2 r2 h1 h2
    have L0 : Below w.heap.size w ((w.alloc (.cells (cellsN k) 22)).alloc (.cells (cellsN n) 28)) := ((Below.refl _ w).alloc (Nat.le_refl _) _).alloc (by simp) _
    have PL := Lib.hid L0
    clear L0
    go_enter Try.func4, Try.ntmps4
    go_wp2_with fail
    refine (alive_true _).mono ?_
    rintro e w1 ⟨rfl, hb1⟩
    have HA := Lib.hid (PL.out.trans (hb1.mono PL.out.size))
    clear hb1 PL
    go_wp2
    go_ret
    exact ⟨rfl, HA.out⟩
  exact gcmSeals_small k n A1 n1 c1 l1 A2 n2 c2 l2 w hk qk hn qn r1 m1 q1 ⟨by omega, x1⟩ r2 m2 q2 ⟨by omega, x2⟩
end Go.Proofs.Ytnphanhoakbkpaa
