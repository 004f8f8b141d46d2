/- Layer 9's gcm, walked: tag and Seal. -/
import Derived.RangeFuncNested
import Derived.RangeFuncBound
import Derived.RangeFuncCalls
import Derived.RangeFuncLeaves
import Derived.RangeFuncBox
import Derived.Shelf.Abstract
import Derived.Shelf.RegionOpen
import Derived.WalkKit
import Derived.OwnWalkIn
import Derived.TacticsInMore
import Derived.LoopN
import Derived.LoopNIn
import Derived.LoopIn
import Derived.WalkSpells
import Derived.WalkLawsBesides
import Derived.Laws.Rows
import Derived.Laws.EntriesVeiled
import Derived.Laws.BitsAllLaws
import Derived.Handy
import Derived.BigQuiet
import Derived.Deep.QuietTactic
import Derived.IntWalk
import Derived.Lib.Hide
import Derived.Outline
import Derived.Test.YtnphanhoakbkpaaRows
import Derived.Test.YtnphanhoakbkpaaAid
import Derived.Test.YtnphanhoakbkpaaPlainAe
import Derived.Test.YtnphanhoakbkpaaPlainAe2
import Derived.Test.YtnphanhoakbkpaaPlainGc
import Derived.Test.YtnphanhoakbkpaaPlainGc2
import Derived.Test.YtnphanhoakbkpaaAesB
import Derived.Test.YtnphanhoakbkpaaAesBox
import Derived.Test.YtnphanhoakbkpaaAesW
import Derived.Test.YtnphanhoakbkpaaAesE
import Derived.Test.YtnphanhoakbkpaaAesK
import Derived.Test.YtnphanhoakbkpaaAesS
import Derived.Test.YtnphanhoakbkpaaAesT
import Derived.Test.YtnphanhoakbkpaaBl
import Derived.Test.YtnphanhoakbkpaaItF
import Derived.Test.YtnphanhoakbkpaaGcA
import Derived.Test.YtnphanhoakbkpaaGcB
import Derived.Test.YtnphanhoakbkpaaGcD
import Derived.Test.YtnphanhoakbkpaaGcE
import Derived.Test.YtnphanhoakbkpaaGcF
import Derived.Test.YtnphanhoakbkpaaGcG
import Derived.Test.YtnphanhoakbkpaaGcH
import Derived.Test.YtnphanhoakbkpaaGcI
namespace Go.Proofs.Ytnphanhoakbkpaa
open Go Go.RowKit Go.Shelf
set_option linter.unusedVariables false
set_option linter.unusedSimpArgs false
theorem own_below {w w' : World} {base n : Nat} {e : TypeId} {v : Value} {xs : List Value} (h : w.ownsRow base e 1 v n xs) (hb : Below w.heap.size w w') : w'.ownsRow base e 1 v n xs :=
  h.kept (row := none) ⟨hb.os, hb.tape, hb.output, hb.size, fun k hk _ => hb.block k hk⟩ (by rcases h : v.ownBlock with _ | k <;> simp)

set_option maxRecDepth 100000 in
set_option maxHeartbeats 4000000 in
theorem tag_any (key first : List Nat) (A1 : Option Addr) (n1 c1 : Nat) (more : List Nat) (A2 : Option Addr) (n2 c2 : Nat) (text : List Nat) (w : World) (l1 : key.length = 16) (q1 : Ae.bytes key) (l2 : first.length = 16) (q2 : Ae.bytes first) (r1 : Rd w A1 more) (m1 : more.length = n1) (b1 : Ae.bytes more) (k1 : n1 ≤ 1000000 ∧ n1 ≤ c1 ∧ c1 ≤ 9223372036854775807) (r2 : Rd w A2 text) (m2 : text.length = n2) (b2 : Ae.bytes text) (k2 : n2 ≤ 1000000 ∧ n2 ≤ c2 ∧ c2 ≤ 9223372036854775807) :
    Calls Try.prog 29 #[.agg (cellsN key), .agg (cellsN first), .slice A1 n1 c1, .slice A2 n2 c2] w fun e w' => ∃ A' c', e = .returned (.slice A' 16 c') ∧ 16 ≤ c' ∧ Rd w' A' (Gc.tag key first more text) ∧ Below w.heap.size w w' := by
  obtain ⟨B, hB⟩ : ∃ B, w.heap.size = B := ⟨_, rfl⟩
  obtain ⟨W2, hW2⟩ : ∃ W2, (w.alloc (.cells (cellsN key) 22)).alloc (.cells (cellsN first) 22) = W2 := ⟨_, rfl⟩
  have hb2 : Below w.heap.size w W2 := hW2 ▸ ((Below.refl _ w).alloc (Nat.le_refl _) _).alloc (by simp) _
  have s2 : W2.heap.size = B + 2 := by rw [← hW2]; simp [hB]
  have o0 : Obj W2 B 22 (cellsN key) := hW2 ▸ hB ▸ (Obj.new w _ _).alloc _
  have o1 : Obj W2 (B + 1) 22 (cellsN first) := by
    have := Obj.new (w.alloc (.cells (cellsN key) 22)) 22 (cellsN first)
    rw [World.size_alloc, hB, hW2] at this; exact this
  have HE : Hid (∀ w, Calls Try.prog 35 #[.agg (cellsN key), .agg #[.int .u8 0, .int .u8 0, .int .u8 0, .int .u8 0, .int .u8 0, .int .u8 0, .int .u8 0, .int .u8 0, .int .u8 0, .int .u8 0, .int .u8 0, .int .u8 0, .int .u8 0, .int .u8 0, .int .u8 0, .int .u8 0]] w fun e w' => e = .returned (.agg (cellsN (Ae.enc (Ae.sched key) (List.replicate 16 0)))) ∧ Below w.heap.size w w') := fun w => encipher_any key (List.replicate 16 0) w l1 (by simp) q1 (Gc.zeros_bytes 16)
  have le := Ae.enc_len (Ae.sched key) (List.replicate 16 0)
  have qe := Ae.enc_bytes (w := Ae.sched key) (Gc.zeros_bytes 16) (Ae.sched_bytes q1)
  have HSU : Hid (∀ W, Below w.heap.size w W → Calls Try.prog 12 #[.agg (cellsN (Ae.enc (Ae.sched key) (List.replicate 16 0))), .slice A1 n1 c1, .slice A2 n2 c2] W fun e w' => e = .returned (.agg (cellsN (Gc.bn (Gc.gsum (Gc.hkey key) more text)))) ∧ Below W.heap.size W w') := fun W hb =>
    sum_any _ A1 n1 c1 more A2 n2 c2 text W le qe (r1.below hb) m1 b1 k1 (r2.below hb) m2 b2 k2
  have HST : Hid (∀ W g, Obj W g 22 (cellsN (Gc.bn (Gc.gsum (Gc.hkey key) more text))) → Calls Try.prog 30 #[.agg (cellsN key), .agg (cellsN first), .slice (some ⟨g, 0, none⟩) 16 16] W fun e w' => ∃ A' c', e = .returned (.slice A' 16 c') ∧ 16 ≤ c' ∧ Rd w' A' (Gc.tag key first more text) ∧ Below W.heap.size W w') := fun W g ho =>
    stream_at key first _ 16 16 _ W l1 l2 q1 q2 (Gc.bn_len _) ho.rd (Gc.bn_bytes _) (by omega)
  have HIK := Lib.hid (size16 l1)
  have HIF := Lib.hid (size16 l2)
  have HIG := Lib.hid (size16 (Gc.bn_len (Gc.gsum (Gc.hkey key) more text)))
  have HSZ : Hid ((cellsN (List.replicate 16 0)).size = (cellsN (Gc.bn (Gc.gsum (Gc.hkey key) more text))).size) := by unfold Hid; rw [cellsN_size, cellsN_size, Gc.bn_len]; rfl
  generalize Gc.bn (Gc.gsum (Gc.hkey key) more text) = G at *
  generalize Gc.tag key first more text = T at *
  generalize Ae.enc (Ae.sched key) (List.replicate 16 0) = hk at *
  have HW2 := Lib.hid hW2
  have HB := Lib.hid hB
  have HO0 := Lib.hid o0
  have HO1 := Lib.hid o1
  have HB2 := Lib.hid hb2
  clear hW2 o0 o1 hb2 le qe r1 r2 b1 b2 l1 l2 q1 q2 m1 m2
  go_enter Try.func29, Try.ntmps29
  go_wp2_with (refine wpList_load_row rfl 22 (.tmp 4) rfl _ rfl _ _ _ _ (HW2.out.symm ▸ HO0.out) Try.underlying22 rfl HIK.out ?_)
  rw [HW2.out]
  refine (HE.out _).mono ?_
  rintro e W3 ⟨rfl, hb3⟩
  have HB3 := Lib.hid (HB2.out.trans (hb3.mono HB2.out.size))
  have HO0' := Lib.hid (HO0.out.kept hb3)
  have HO1' := Lib.hid (HO1.out.kept hb3)
  clear hb3
  go_wp2_with fail
  refine (HSU.out _ HB3.out).mono ?_
  rintro e W4 ⟨rfl, hb4⟩
  obtain ⟨S, hS⟩ : ∃ S, W4.heap.size = S := ⟨_, rfl⟩
  have HB4 := Lib.hid (HB3.out.trans (hb4.mono HB3.out.size))
  have p0 := HO0'.out.kept hb4
  have p1 := HO1'.out.kept hb4
  have p1lt := p1.lt
  have p0lt := p0.lt
  have HO5 : Hid (Obj (W4.alloc (.cells #[.int .u8 0, .int .u8 0, .int .u8 0, .int .u8 0, .int .u8 0, .int .u8 0, .int .u8 0, .int .u8 0, .int .u8 0, .int .u8 0, .int .u8 0, .int .u8 0, .int .u8 0, .int .u8 0, .int .u8 0, .int .u8 0] 22)) S 22 (cellsN (List.replicate 16 0))) := hS ▸ Obj.new W4 _ _
  obtain ⟨W6, hW6⟩ : ∃ W6, (W4.alloc (.cells #[.int .u8 0, .int .u8 0, .int .u8 0, .int .u8 0, .int .u8 0, .int .u8 0, .int .u8 0, .int .u8 0, .int .u8 0, .int .u8 0, .int .u8 0, .int .u8 0, .int .u8 0, .int .u8 0, .int .u8 0, .int .u8 0] 22)).setRow S (cellsN G) = W6 := ⟨_, rfl⟩
  have o6 : Obj W6 S 22 (cellsN G) := hW6 ▸ HO5.out.row _
  have u6 : Upd S (W4.alloc (.cells #[.int .u8 0, .int .u8 0, .int .u8 0, .int .u8 0, .int .u8 0, .int .u8 0, .int .u8 0, .int .u8 0, .int .u8 0, .int .u8 0, .int .u8 0, .int .u8 0, .int .u8 0, .int .u8 0, .int .u8 0, .int .u8 0] 22)) W6 := hW6 ▸ (Upd.refl S _).row _
  have q0 : Obj W6 B 22 (cellsN key) := (p0.alloc _).upd u6 (by omega)
  have q1 : Obj W6 (B + 1) 22 (cellsN first) := (p1.alloc _).upd u6 (by omega)
  have hb6 : Below w.heap.size w W6 := Upd.below (HB4.out.trans (((Below.refl _ W4).alloc (Nat.le_refl _) _).mono HB4.out.size)) (by omega) u6
  have HW6 := Lib.hid hW6
  have HS := Lib.hid hS
  clear hb4 p0 p1 u6 hW6 hS
  go_wp2_with (refine wpList_store_row rfl 22 (.tmp 9) (.tmp 15) rfl _ _ rfl rfl _ _ (HS.out ▸ HO5.out) HIG.out HSZ.out (one_cellsN _) ?_; rw [HS.out, HW6.out])
  try simp only [Act.put]
  have hsl := fun w => slice16all S w
  have hS0 : Obj W6.drew B 22 (cellsN key) ∧ Obj W6.drew (B + 1) 22 (cellsN first) := ⟨q0.drew, q1.drew⟩
  have H6 := Lib.hid hb6
  refine wp_nopanic0 ?_
  refine wp_region_held_drew (S := (fun wq => Obj wq B 22 (cellsN key) ∧ Obj wq (B + 1) 22 (cellsN first))) (by kernel_rfl) hS0 (fun hHeld => ?_)
  refine wpAnyH_take (i := 0) (oi := ?_) (v := ?_) ?_ ?_ ?_ ?_ ?_ ?_ (by assumption) ?_
  rotate_left 2
  · simp only [List.getElem?_toArray, List.getElem?_cons_zero, List.getElem?_cons_succ]
    rfl
  · kernel_rfl
  · kernel_rfl
  · kernel_rfl
  · exact fun _ _ _ h => h
  · refine yieldsIf_load_row (g := B) (t := 22) (cs := cellsN key) (ty := 22) (x := (.tmp 4)) ?_ ?_ ?_ ?_ Try.underlying22 rfl HIK.out
    · rfl
    · rfl
    · rfl
    · exact fun w hSw => hSw.1
  simp only [Act.put, List.setIfInBounds_toArray, List.set_cons_zero, List.set_cons_succ]
  refine wpAnyH_take (i := 1) (oi := ?_) (v := ?_) ?_ ?_ ?_ ?_ ?_ ?_ (by assumption) ?_
  rotate_left 2
  · simp only [List.getElem?_toArray, List.getElem?_cons_zero, List.getElem?_cons_succ]
    rfl
  · kernel_rfl
  · kernel_rfl
  · kernel_rfl
  · exact fun _ _ _ h => h
  · refine yieldsIf_load_row (g := (B + 1)) (t := 22) (cs := cellsN first) (ty := 22) (x := (.tmp 5)) ?_ ?_ ?_ ?_ Try.underlying22 rfl HIF.out
    · rfl
    · rfl
    · rfl
    · exact fun w hSw => hSw.2
  simp only [Act.put, List.setIfInBounds_toArray, List.set_cons_zero, List.set_cons_succ]
  refine wpAnyH_take (i := 2) (oi := ?_) (v := ?_) ?_ ?_ ?_ ?_ ?_ ?_ (by assumption) ?_
  rotate_left 2
  · simp only [List.getElem?_toArray, List.getElem?_cons_zero, List.getElem?_cons_succ]
    rfl
  · kernel_rfl
  · kernel_rfl
  · kernel_rfl
  · exact fun _ _ _ h => h
  · refine Or.inl ⟨by rfl, ?_⟩
    intro w hSw
    (try dsimp only at hSw)
    go_simp
    all_goals with_reducible rfl
  simp only [Act.put, List.setIfInBounds_toArray, List.set_cons_zero, List.set_cons_succ]
  refine wpAnyH_ready (rs := [3]) (by kernel_rfl) (by simp) ?_
  refine AllReadyH.cons (o := ?_) ?_ (fun KK hKK => ?_) AllReadyH.nil
  rotate_left
  · simp only [List.getElem?_toArray, List.getElem?_cons_zero, List.getElem?_cons_succ]
    rfl
  go_simp
  refine (HST.out _ S o6.drew).mono ?_
  rintro e W7 ⟨A7, c7, rfl, hc7, hr7, hb7⟩
  try go_wp2_with fail
  refine hKK.out _ _ ?_ (fun hh3 => ?_)
  · (try dsimp only)
    exact ⟨hS0.1.kept hb7, hS0.2.kept hb7⟩
  clear hKK KK
  try simp only [Act.put, List.setIfInBounds_toArray, List.set_cons_zero, List.set_cons_succ]
  refine wpAnyH_take (i := 4) (oi := ?_) (v := ?_) ?_ ?_ ?_ ?_ ?_ ?_ (by assumption) ?_
  rotate_left 2
  · simp only [List.getElem?_toArray, List.getElem?_cons_zero, List.getElem?_cons_succ]
    rfl
  · kernel_rfl
  · kernel_rfl
  · kernel_rfl
  · exact fun _ _ _ h => h
  · refine Or.inl ⟨by rfl, ?_⟩
    intro w hSw
    (try dsimp only at hSw)
    go_simp
    all_goals with_reducible rfl
  simp only [Act.put, List.setIfInBounds_toArray, List.set_cons_zero, List.set_cons_succ]
  refine wpAnyH_done (by kernel_rfl) ?_ _
  go_wp2
  refine bodyPost_ret (results_tmp rfl _ _ _) rfl ?_
  exact ⟨A7, c7, rfl, hc7, hr7, H6.out.drew.trans (hb7.mono H6.out.drew.size)⟩

theorem own_cap {w : World} {base n : Nat} {v : Value} {l : List Nat} (h : w.ownsRow base 5 1 v n (l.map u8v)) : ∃ A c, v = .slice A n c ∧ l.length = n ∧ n ≤ c ∧ c ≤ 9223372036854775807 ∧ Rd w A l := by
  obtain ⟨A, c, rfl, h1, h2, h3⟩ := own_rd h
  refine ⟨A, c, rfl, h1, h2, ?_, h3⟩
  obtain ⟨_, h4⟩ := h
  rcases h4 with ⟨e, _⟩ | ⟨g, cap, cur, e, hb, hg, hn, hc, hs, ht⟩
  · cases e; omega
  · cases e; unfold maxLen at hc; omega

set_option maxRecDepth 100000 in
set_option maxHeartbeats 4000000 in
theorem Seal_any (key nonce : List Nat) (A1 : Option Addr) (n1 c1 : Nat) (more : List Nat) (A2 : Option Addr) (n2 c2 : Nat) (text : List Nat) (w : World) (l1 : key.length = 16) (q1 : Ae.bytes key) (l2 : nonce.length = 12) (q2 : Ae.bytes nonce) (r1 : Rd w A1 more) (m1 : more.length = n1) (b1 : Ae.bytes more) (k1 : n1 ≤ 1000000 ∧ n1 ≤ c1 ∧ c1 ≤ 9223372036854775807) (r2 : Rd w A2 text) (m2 : text.length = n2) (b2 : Ae.bytes text) (k2 : n2 ≤ 1000000) :
    Calls Try.prog 17 #[.agg (cellsN key), .agg (cellsN nonce), .slice A1 n1 c1, .slice A2 n2 c2] w fun e w' => ∃ v, e = .returned v ∧ w'.ownsRow w.heap.size 5 1 v (n2 + 16) ((Gc.sealT key nonce more text).map u8v) ∧ Below w.heap.size w w' := by
  obtain ⟨B, hB⟩ : ∃ B, w.heap.size = B := ⟨_, rfl⟩
  obtain ⟨W2, hW2⟩ : ∃ W2, (w.alloc (.cells (cellsN key) 22)).alloc (.cells (cellsN nonce) 28) = W2 := ⟨_, rfl⟩
  have hb2 : Below w.heap.size w W2 := hW2 ▸ ((Below.refl _ w).alloc (Nat.le_refl _) _).alloc (by simp) _
  have s2 : W2.heap.size = B + 2 := by rw [← hW2]; simp [hB]
  have o0 : Obj W2 B 22 (cellsN key) := hW2 ▸ hB ▸ (Obj.new w _ _).alloc _
  have o1 : Obj W2 (B + 1) 28 (cellsN nonce) := by
    have := Obj.new (w.alloc (.cells (cellsN key) 22)) 28 (cellsN nonce)
    rw [World.size_alloc, hB, hW2] at this; exact this
  have l3 := b1_len l2
  have l4 := b2_len l2
  have q3 := Gc.b1_bytes q2
  have q4 := Gc.b2_bytes q2
  have lc := Gc.ciph_len key nonce text
  have qc := Gc.ciph_bytes q1 q2 b2
  have HBE := Lib.hid (fun w => begin_any nonce w l2 q2)
  have HST : Hid (∀ W, Below w.heap.size w W → Calls Try.prog 30 #[.agg (cellsN key), .agg (cellsN (Gc.b2 nonce)), .slice A2 n2 c2] W fun e w' => ∃ v, e = .returned v ∧ w'.ownsRow W.heap.size 5 1 v n2 ((Gc.ciph key nonce text).map u8v) ∧ Below W.heap.size W w') := fun W hb => by
    subst m2
    exact stream_any key (Gc.b2 nonce) A2 c2 text W l1 l4 q1 q4 (r2.below hb) b2 k2
  have HTG : Hid (∀ W A c, Below w.heap.size w W → Rd W A (Gc.ciph key nonce text) → n2 ≤ c ∧ c ≤ 9223372036854775807 → Calls Try.prog 29 #[.agg (cellsN key), .agg (cellsN (Gc.b1 nonce)), .slice A1 n1 c1, .slice A n2 c] W fun e w' => ∃ ad c', e = .returned (.slice (some ad) 16 c') ∧ Rd w' (some ad) (Gc.tag key (Gc.b1 nonce) more (Gc.ciph key nonce text)) ∧ Below W.heap.size W w') := fun W A c hb hr hc =>
    (tag_any key (Gc.b1 nonce) A1 n1 c1 more A n2 c _ W l1 q1 l3 q3 (r1.below hb) m1 b1 k1 hr (by rw [lc, m2]) qc ⟨k2, hc⟩).mono fun e w' ⟨A', c', e1, _, e3, e4⟩ => by
      obtain ⟨b, off, rfl, _⟩ := e3 (by rw [Gc.tag_len]; omega)
      exact ⟨_, c', e1, e3, e4⟩
  have HIK := Lib.hid (size16 l1)
  have HIN := Lib.hid (size12 l2)
  have HI1 := Lib.hid (size16 l3)
  have HI2 := Lib.hid (size16 l4)
  have HS1 : Hid ((cellsN (List.replicate 16 0)).size = (cellsN (Gc.b1 nonce)).size) := by unfold Hid; rw [cellsN_size, cellsN_size, l3]; rfl
  have HS2 : Hid ((cellsN (List.replicate 16 0)).size = (cellsN (Gc.b2 nonce)).size) := by unfold Hid; rw [cellsN_size, cellsN_size, l4]; rfl
  have HTL := Lib.hid (Gc.tag_len key (Gc.b1 nonce) more (Gc.ciph key nonce text))
  have HSE : Hid (Gc.sealT key nonce more text = Gc.ciph key nonce text ++ Gc.tag key (Gc.b1 nonce) more (Gc.ciph key nonce text)) := rfl
  generalize Gc.tag key (Gc.b1 nonce) more (Gc.ciph key nonce text) = T at *
  generalize Gc.ciph key nonce text = C at *
  generalize Gc.sealT key nonce more text = Z at *
  generalize Gc.b1 nonce = f1 at *
  generalize Gc.b2 nonce = f2 at *
  have HW2 := Lib.hid hW2
  have HB := Lib.hid hB
  have HO0 := Lib.hid o0
  have HO1 := Lib.hid o1
  have HB2 := Lib.hid hb2
  clear hW2 o0 o1 hb2 r1 r2 b1 b2 l1 l2 l3 l4 q1 q2 q3 q4 qc lc m1 m2
  go_enter Try.func17, Try.ntmps17
  go_wp2_with (refine wpList_load_row rfl 28 (.tmp 5) rfl _ rfl _ _ _ _ (HW2.out.symm ▸ HO1.out) Try.underlying28 rfl HIN.out ?_)
  rw [HW2.out]
  refine (HBE.out _).mono ?_
  rintro e W3 ⟨rfl, hb3⟩
  obtain ⟨S, hS⟩ : ∃ S, W3.heap.size = S := ⟨_, rfl⟩
  have hSB : B + 2 ≤ S := by have := hb3.size; omega
  have b3 := HB2.out.trans (hb3.mono HB2.out.size)
  have p0 := HO0.out.kept hb3
  obtain ⟨W4, hW4⟩ : ∃ W4, (W3.alloc (.cells #[.int .u8 0, .int .u8 0, .int .u8 0, .int .u8 0, .int .u8 0, .int .u8 0, .int .u8 0, .int .u8 0, .int .u8 0, .int .u8 0, .int .u8 0, .int .u8 0, .int .u8 0, .int .u8 0, .int .u8 0, .int .u8 0] 22)).alloc (.cells #[.int .u8 0, .int .u8 0, .int .u8 0, .int .u8 0, .int .u8 0, .int .u8 0, .int .u8 0, .int .u8 0, .int .u8 0, .int .u8 0, .int .u8 0, .int .u8 0, .int .u8 0, .int .u8 0, .int .u8 0, .int .u8 0] 22) = W4 := ⟨_, rfl⟩
  have t1 : Obj W4 S 22 (cellsN (List.replicate 16 0)) := hW4 ▸ hS ▸ (Obj.new W3 _ _).alloc _
  have t2 : Obj W4 (S + 1) 22 (cellsN (List.replicate 16 0)) := by
    have := Obj.new (W3.alloc (.cells #[.int .u8 0, .int .u8 0, .int .u8 0, .int .u8 0, .int .u8 0, .int .u8 0, .int .u8 0, .int .u8 0, .int .u8 0, .int .u8 0, .int .u8 0, .int .u8 0, .int .u8 0, .int .u8 0, .int .u8 0, .int .u8 0] 22)) 22 #[.int .u8 0, .int .u8 0, .int .u8 0, .int .u8 0, .int .u8 0, .int .u8 0, .int .u8 0, .int .u8 0, .int .u8 0, .int .u8 0, .int .u8 0, .int .u8 0, .int .u8 0, .int .u8 0, .int .u8 0, .int .u8 0]
    rw [World.size_alloc, hS, hW4] at this; exact this
  have b4 : Below w.heap.size w W4 := hW4 ▸ (b3.alloc b3.size _).alloc (by simp; have := b3.size; omega) _
  have p4 : Obj W4 B 22 (cellsN key) := hW4 ▸ (p0.alloc _).alloc _
  have u5 : Upd S W4 (W4.setRow S (cellsN f1)) := (Upd.refl S _).row _
  have u6 : Upd (S + 1) (W4.setRow S (cellsN f1)) ((W4.setRow S (cellsN f1)).setRow (S + 1) (cellsN f2)) := (Upd.refl (S + 1) _).row _
  have t1' : Obj ((W4.setRow S (cellsN f1)).setRow (S + 1) (cellsN f2)) S 22 (cellsN f1) := (t1.row _).upd u6 (by omega)
  have t2a : Obj (W4.setRow S (cellsN f1)) (S + 1) 22 (cellsN (List.replicate 16 0)) := t2.upd u5 (by omega)
  have t2' : Obj ((W4.setRow S (cellsN f1)).setRow (S + 1) (cellsN f2)) (S + 1) 22 (cellsN f2) := t2a.row _
  have p6 : Obj ((W4.setRow S (cellsN f1)).setRow (S + 1) (cellsN f2)) B 22 (cellsN key) := (p4.upd u5 (by omega)).upd u6 (by omega)
  have b6 : Below w.heap.size w ((W4.setRow S (cellsN f1)).setRow (S + 1) (cellsN f2)) := Upd.below (Upd.below b4 (by omega) u5) (by omega) u6
  obtain ⟨W6, hW6⟩ : ∃ W6, (W4.setRow S (cellsN f1)).setRow (S + 1) (cellsN f2) = W6 := ⟨_, rfl⟩
  rw [hW6] at t1' t2' p6 b6
  have HW4 := Lib.hid hW4
  have HW6 := Lib.hid hW6
  have HS := Lib.hid hS
  have HT1 := Lib.hid t1
  have HT2 := Lib.hid t2a
  have HQ1 := Lib.hid t1'
  have HQ2 := Lib.hid t2'
  have HQ0 := Lib.hid p6
  have HB6 := Lib.hid b6
  have hSw := b6.size
  clear hb3 b3 p0 hW4 t1 t2 b4 p4 u5 u6 t1' t2a t2' p6 b6 hW6 hS
  go_wp2_with (first
    | (refine wpList_store_row rfl 22 (.tmp 9) (.tmp 15) rfl S _ (by rw [← HS.out]; rfl) rfl _ _ (HW4.out.symm ▸ HT1.out) HI1.out HS1.out (one_cellsN _) ?_)
    | (refine wpList_store_row rfl 22 (.tmp 10) (.tmp 16) rfl (S + 1) _ (by rw [← HS.out]; rfl) rfl _ _ (HW4.out.symm ▸ HT2.out) HI2.out HS2.out (one_cellsN _) ?_; rw [HW4.out, HW6.out, HS.out])
    | (refine wpList_load_row rfl 22 (.tmp 4) rfl B rfl _ _ _ _ HQ0.out Try.underlying22 rfl HIK.out ?_)
    | (refine wpList_load_row rfl 22 (.tmp 10) rfl (S + 1) rfl _ _ _ _ HQ2.out Try.underlying22 rfl HI2.out ?_))
  refine (HST.out _ HB6.out).mono ?_
  rintro e W7 ⟨v, rfl, hown, hb7⟩
  obtain ⟨A, c, rfl, hcl, hc1, hc2, hrd⟩ := own_cap hown
  have HB7 := Lib.hid (HB6.out.trans (hb7.mono HB6.out.size))
  have HX0 := Lib.hid (HQ0.out.kept hb7)
  have HX1 := Lib.hid (HQ1.out.kept hb7)
  have HOW := Lib.hid (own_base hown HB6.out.size)
  have HRD := Lib.hid hrd
  clear hb7 hown hrd
  go_wp2_with (first
    | (refine wpList_load_row rfl 22 (.tmp 4) rfl B rfl _ _ _ _ HX0.out Try.underlying22 rfl HIK.out ?_)
    | (refine wpList_load_row rfl 22 (.tmp 9) rfl S rfl _ _ _ _ HX1.out Try.underlying22 rfl HI1.out ?_))
  refine (HTG.out _ A c HB7.out HRD.out ⟨hc1, hc2⟩).mono ?_
  rintro e W8 ⟨ad, c8, rfl, hr8, hb8⟩
  have HB8 := Lib.hid (HB7.out.trans (hb8.mono HB7.out.size))
  have HOW8 := Lib.hid (own_below HOW.out hb8)
  have HR8 := Lib.hid hr8
  clear hb8 hr8
  go_wp2_with (at_builtin; refine wpList_app8 rfl _ _ rfl w.heap.size _ _ _ rfl HOW8.out ad 16 c8 T rfl HTL.out HR8.out (by omega) HB8.out.size ?_; intro v9 W9 hown9 hgrow9)
  refine bodyPost_ret (results_tmp rfl _ _ _) rfl ?_
  refine ⟨v9, rfl, ?_, Below.grown HB8.out hgrow9 HB8.out.size (fun k hk => (HOW8.out.lt k hk).1)⟩
  rw [HSE.out, List.map_append]
  exact hown9
end Go.Proofs.Ytnphanhoakbkpaa
