/- Layer 9's gcm, GcmTimes. -/
import Derived.RangeFuncNested
import Derived.RangeFuncBound
import Derived.RangeFuncCalls
import Derived.RangeFuncLeaves
import Derived.RangeFuncBox
import Derived.Shelf.Abstract
import Derived.Shelf.RegionOpen
import Derived.WalkKit
import Derived.OwnWalkIn
import Derived.TacticsInMore
import Derived.LoopN
import Derived.LoopNIn
import Derived.LoopIn
import Derived.WalkSpells
import Derived.WalkLawsBesides
import Derived.Laws.Rows
import Derived.Laws.EntriesVeiled
import Derived.Laws.BitsAllLaws
import Derived.Handy
import Derived.BigQuiet
import Derived.Deep.QuietTactic
import Derived.IntWalk
import Derived.Lib.Hide
import Derived.Outline
import Derived.Test.YtnphanhoakbkpaaRows
import Derived.Test.YtnphanhoakbkpaaAid
import Derived.Test.YtnphanhoakbkpaaPlainAe
import Derived.Test.YtnphanhoakbkpaaPlainAe2
import Derived.Test.YtnphanhoakbkpaaPlainGc
import Derived.Test.YtnphanhoakbkpaaPlainGc2
import Derived.Test.YtnphanhoakbkpaaAesB
import Derived.Test.YtnphanhoakbkpaaAesBox
import Derived.Test.YtnphanhoakbkpaaAesW
import Derived.Test.YtnphanhoakbkpaaAesE
import Derived.Test.YtnphanhoakbkpaaAesK
import Derived.Test.YtnphanhoakbkpaaAesS
import Derived.Test.YtnphanhoakbkpaaAesT
import Derived.Test.YtnphanhoakbkpaaBl
import Derived.Test.YtnphanhoakbkpaaItF
import Derived.Test.YtnphanhoakbkpaaGcA
import Derived.Test.YtnphanhoakbkpaaGcB
import Derived.Test.YtnphanhoakbkpaaGcD
import Derived.Test.YtnphanhoakbkpaaGcE
import Derived.Test.YtnphanhoakbkpaaGcF
import Derived.Test.YtnphanhoakbkpaaGcG
import Derived.Test.YtnphanhoakbkpaaGcR
import Derived.Test.YtnphanhoakbkpaaPlainGc3
import Derived.Test.YtnphanhoakbkpaaPlainGc6
import Derived.Test.YtnphanhoakbkpaaGcT
import Derived.Test.YtnphanhoakbkpaaGcI
import Derived.Test.YtnphanhoakbkpaaGcJ
import Derived.Test.YtnphanhoakbkpaaRfI
import Derived.Test.YtnphanhoakbkpaaRfJ
import Derived.Test.YtnphanhoakbkpaaGcU
import Derived.Test.YtnphanhoakbkpaaGcK
import Derived.Test.YtnphanhoakbkpaaGcL
import Derived.Test.YtnphanhoakbkpaaGcM
import Derived.Test.YtnphanhoakbkpaaGcV
import Derived.Test.YtnphanhoakbkpaaGcH
import Derived.Test.YtnphanhoakbkpaaGcO
import Derived.Deep.Upon
import Derived.Lib.AppendZeros
namespace Go.Proofs.Ytnphanhoakbkpaa
open Go Go.RowKit Go.Shelf
set_option linter.unusedVariables false
set_option linter.unusedSimpArgs false
/-- GcmTimes's blocks. -/
def TmS (w : World) (a b : List Nat) (V : World) : Prop := Obj V w.heap.size 22 (cellsN a) ∧ Obj V (w.heap.size + 1) 22 (cellsN b) ∧ Below w.heap.size w V
theorem TmS.kept {w V V' : World} {a b : List Nat} (h : TmS w a b V) (hb : Below V.heap.size V V') : TmS w a b V' := ⟨h.1.kept hb, h.2.1.kept hb, h.2.2.trans (hb.mono h.2.2.size)⟩
theorem TmS.drew {w V : World} {a b : List Nat} (h : TmS w a b V) : TmS w a b V.drew := ⟨h.1, h.2.1, h.2.2.drew⟩

set_option maxRecDepth 100000 in
set_option maxHeartbeats 4000000 in
theorem gcmTimes_small (a b : List Nat) (A1 : Option Addr) (n1 c1 : Nat) (more : List Nat) (A3 : Option Addr) (n3 c3 : Nat) (text : List Nat) (w : World) (ha : a.length = 16) (qa : Ae.bytes a) (hb : b.length = 16) (qb : Ae.bytes b)
    (r1 : Rd w A1 more) (m1 : more.length = n1) (q1 : Ae.bytes more) (k1 : n1 ≤ 200 ∧ n1 ≤ c1 ∧ c1 ≤ 9223372036854775807) (r3 : Rd w A3 text) (m3 : text.length = n3) (q3 : Ae.bytes text) (k3 : n3 ≤ 200 ∧ n3 ≤ c3 ∧ c3 ≤ 9223372036854775807) :
    Calls Try.prog 3 #[.agg (cellsN a), .agg (cellsN b), .slice A1 n1 c1, .slice A3 n3 c3] w fun e w' => e = .returned (.bool true) ∧ Below w.heap.size w w' := by
  have t1 : ¬ (n1 : Int) > 200 := by omega
  have t3 : ¬ (n3 : Int) > 200 := by omega
  have t1' : ¬ 200 < (n1 : Int) := by omega
  have t3' : ¬ 200 < (n3 : Int) := by omega
  obtain ⟨x, hx⟩ : ∃ x, Gc.bn (Gc.mul (Gc.nb a) (Gc.nb b)) = x := ⟨_, rfl⟩
  obtain ⟨y, hy⟩ : ∃ y, Gc.bn (Gc.gsum (Gc.nb a) more text) = y := ⟨_, rfl⟩
  have lx : x.length = 16 := hx ▸ Gc.bn_len _
  have ly : y.length = 16 := hy ▸ Gc.bn_len _
  have qx : Ae.bytes x := hx ▸ Gc.bn_bytes _
  have qy : Ae.bytes y := hy ▸ Gc.bn_bytes _
  have HT1 : Hid (∀ W, Calls Try.prog 10 #[.agg (cellsN a), .agg (cellsN b)] W fun e w' => e = .returned (.agg (cellsN x)) ∧ Below W.heap.size W w') := fun W => hx ▸ Times_any a b W ha hb qa qb
  have HT2 : Hid (∀ W, Calls Try.prog 11 #[.agg (cellsN a), .agg (cellsN b)] W fun e w' => e = .returned (.agg (cellsN x)) ∧ Below W.heap.size W w') := fun W => hx ▸ refProd_any a b W ha hb qa qb
  have HS1 : Hid (∀ W, Below w.heap.size w W → Calls Try.prog 12 #[.agg (cellsN a), .slice A1 n1 c1, .slice A3 n3 c3] W fun e w' => e = .returned (.agg (cellsN y)) ∧ Below W.heap.size W w') := fun W hb =>
    hy ▸ sum_any a A1 n1 c1 more A3 n3 c3 text W ha qa (r1.below hb) m1 q1 ⟨by omega, k1.2⟩ (r3.below hb) m3 q3 ⟨by omega, k3.2⟩
  have HS2 : Hid (∀ W, Below w.heap.size w W → Calls Try.prog 13 #[.agg (cellsN a), .slice A1 n1 c1, .slice A3 n3 c3] W fun e w' => e = .returned (.agg (cellsN y)) ∧ Below W.heap.size W w') := fun W hb =>
    hy ▸ refSum_any a A1 n1 c1 more A3 n3 c3 text W ha qa (r1.below hb) m1 q1 (by omega) (r3.below hb) m3 q3 (by omega)
  have e1 := eq16s lx qx
  have e2 := eq16s ly qy
  have eqg := eqg16
  obtain ⟨W2, hW2⟩ : ∃ W2, (w.alloc (.cells (cellsN a) 22)).alloc (.cells (cellsN b) 22) = W2 := ⟨_, rfl⟩
  have HT0 : Hid (TmS w a b W2) := ⟨hW2 ▸ (Obj.new w _ _).alloc _, hW2 ▸ new2 w _ _ _, hW2 ▸ ((Below.refl _ w).alloc (Nat.le_refl _) _).alloc (by simp) _⟩
  have HIA := Lib.hid (size16 ha)
  have HIB := Lib.hid (size16 hb)
  have HW2 := Lib.hid hW2
  clear hW2 ha qa hb qb r1 m1 q1 r3 m3 q3 hx hy lx ly qx qy k1 k3
  go_enter Try.func3, Try.ntmps3
  go_wp2_with fail
  rw [HW2.out]
  refine (alive_true _).mono ?_
  rintro e w1 ⟨rfl, hb1⟩
  have HF1 := Lib.hid (HT0.out.kept hb1)
  have HF2 : Hid (TmS w a b w1.drew) := HF1.out.drew
  clear hb1 HT0
  go_wp2
  refine wp_region_held_drew (S := (fun wq => TmS w a b wq)) (by kernel_rfl) HF2.out (fun hHeld => ?_)
  refine wpAnyH_take (i := 0) (oi := ?_) (v := ?_) ?_ ?_ ?_ ?_ ?_ ?_ (by assumption) ?_
  rotate_left 2
  · simp only [List.getElem?_toArray, List.getElem?_cons_zero, List.getElem?_cons_succ]
    rfl
  · kernel_rfl
  · kernel_rfl
  · kernel_rfl
  · exact fun _ _ _ h => h
  · refine yieldsIf_load_row (g := w.heap.size) (t := 22) (cs := cellsN a) (ty := 22) (x := (.tmp 4)) ?_ ?_ ?_ ?_ Try.underlying22 rfl HIA.out
    · rfl
    · rfl
    · rfl
    · exact fun w hSw => hSw.1
  simp only [Act.put, List.setIfInBounds_toArray, List.set_cons_zero, List.set_cons_succ]
  refine wpAnyH_take (i := 1) (oi := ?_) (v := ?_) ?_ ?_ ?_ ?_ ?_ ?_ (by assumption) ?_
  rotate_left 2
  · simp only [List.getElem?_toArray, List.getElem?_cons_zero, List.getElem?_cons_succ]
    rfl
  · kernel_rfl
  · kernel_rfl
  · kernel_rfl
  · exact fun _ _ _ h => h
  · refine yieldsIf_load_row (g := (w.heap.size + 1)) (t := 22) (cs := cellsN b) (ty := 22) (x := (.tmp 5)) ?_ ?_ ?_ ?_ Try.underlying22 rfl HIB.out
    · rfl
    · rfl
    · rfl
    · exact fun w hSw => hSw.2.1
  simp only [Act.put, List.setIfInBounds_toArray, List.set_cons_zero, List.set_cons_succ]
  refine wpAnyH_take (i := 3) (oi := ?_) (v := ?_) ?_ ?_ ?_ ?_ ?_ ?_ (by assumption) ?_
  rotate_left 2
  · simp only [List.getElem?_toArray, List.getElem?_cons_zero, List.getElem?_cons_succ]
    rfl
  · kernel_rfl
  · kernel_rfl
  · kernel_rfl
  · exact fun _ _ _ h => h
  · refine yieldsIf_load_row (g := w.heap.size) (t := 22) (cs := cellsN a) (ty := 22) (x := (.tmp 4)) ?_ ?_ ?_ ?_ Try.underlying22 rfl HIA.out
    · rfl
    · rfl
    · rfl
    · exact fun w hSw => hSw.1
  simp only [Act.put, List.setIfInBounds_toArray, List.set_cons_zero, List.set_cons_succ]
  refine wpAnyH_take (i := 4) (oi := ?_) (v := ?_) ?_ ?_ ?_ ?_ ?_ ?_ (by assumption) ?_
  rotate_left 2
  · simp only [List.getElem?_toArray, List.getElem?_cons_zero, List.getElem?_cons_succ]
    rfl
  · kernel_rfl
  · kernel_rfl
  · kernel_rfl
  · exact fun _ _ _ h => h
  · refine yieldsIf_load_row (g := (w.heap.size + 1)) (t := 22) (cs := cellsN b) (ty := 22) (x := (.tmp 5)) ?_ ?_ ?_ ?_ Try.underlying22 rfl HIB.out
    · rfl
    · rfl
    · rfl
    · exact fun w hSw => hSw.2.1
  simp only [Act.put, List.setIfInBounds_toArray, List.set_cons_zero, List.set_cons_succ]
  refine wpAnyH_ready (rs := [2]) (by kernel_rfl) (by simp) ?_
  refine AllReadyH.cons (o := ?_) ?_ (fun KK hKK => ?_) AllReadyH.nil
  rotate_left
  · simp only [List.getElem?_toArray, List.getElem?_cons_zero, List.getElem?_cons_succ]
    rfl
  go_simp
  refine (HT1.out _).mono ?_
  rintro e y2 ⟨rfl, hy⟩
  have HF3 := Lib.hid (HF2.out.kept hy)
  clear hy
  try go_wp2_with fail
  refine hKK.out _ _ ?_ (fun hh2 => ?_)
  · (try dsimp only)
    exact HF3.out
  clear hKK KK
  try simp only [Act.put, List.setIfInBounds_toArray, List.set_cons_zero, List.set_cons_succ]
  refine wpAnyH_ready (rs := [5]) (by kernel_rfl) (by simp) ?_
  refine AllReadyH.cons (o := ?_) ?_ (fun KK hKK => ?_) AllReadyH.nil
  rotate_left
  · simp only [List.getElem?_toArray, List.getElem?_cons_zero, List.getElem?_cons_succ]
    rfl
  go_simp
  refine (HT2.out _).mono ?_
  rintro e y3 ⟨rfl, hy⟩
  have HF4 := Lib.hid (HF3.out.kept hy)
  clear hy
  try go_wp2_with fail
  refine hKK.out _ _ ?_ (fun hh5 => ?_)
  · (try dsimp only)
    exact HF4.out
  clear hKK KK
  try simp only [Act.put, List.setIfInBounds_toArray, List.set_cons_zero, List.set_cons_succ]
  refine wpAnyH_take (i := 6) (oi := ?_) (v := ?_) ?_ ?_ ?_ ?_ ?_ ?_ (by assumption) ?_
  rotate_left 2
  · simp only [List.getElem?_toArray, List.getElem?_cons_zero, List.getElem?_cons_succ]
    rfl
  · kernel_rfl
  · kernel_rfl
  · kernel_rfl
  · exact fun _ _ _ h => h
  · refine Or.inl ⟨by rfl, ?_⟩
    intro w hSw
    (try dsimp only at hSw)
    go_simp
    all_goals with_reducible rfl
  simp only [Act.put, List.setIfInBounds_toArray, List.set_cons_zero, List.set_cons_succ]
  refine wpAnyH_take (i := 7) (oi := ?_) (v := ?_) ?_ ?_ ?_ ?_ ?_ ?_ (by assumption) ?_
  rotate_left 2
  · simp only [List.getElem?_toArray, List.getElem?_cons_zero, List.getElem?_cons_succ]
    rfl
  · kernel_rfl
  · kernel_rfl
  · kernel_rfl
  · exact fun _ _ _ h => h
  · refine Or.inl ⟨by rfl, ?_⟩
    intro w hSw
    (try dsimp only at hSw)
    go_simp
    all_goals with_reducible rfl
  simp only [Act.put, List.setIfInBounds_toArray, List.set_cons_zero, List.set_cons_succ]
  refine wpAnyH_take (i := 8) (oi := ?_) (v := ?_) ?_ ?_ ?_ ?_ ?_ ?_ (by assumption) ?_
  rotate_left 2
  · simp only [List.getElem?_toArray, List.getElem?_cons_zero, List.getElem?_cons_succ]
    rfl
  · kernel_rfl
  · kernel_rfl
  · kernel_rfl
  · exact fun _ _ _ h => h
  · refine yieldsIf_load_row (g := w.heap.size) (t := 22) (cs := cellsN a) (ty := 22) (x := (.tmp 4)) ?_ ?_ ?_ ?_ Try.underlying22 rfl HIA.out
    · rfl
    · rfl
    · rfl
    · exact fun w hSw => hSw.1
  simp only [Act.put, List.setIfInBounds_toArray, List.set_cons_zero, List.set_cons_succ]
  refine wpAnyH_take (i := 9) (oi := ?_) (v := ?_) ?_ ?_ ?_ ?_ ?_ ?_ (by assumption) ?_
  rotate_left 2
  · simp only [List.getElem?_toArray, List.getElem?_cons_zero, List.getElem?_cons_succ]
    rfl
  · kernel_rfl
  · kernel_rfl
  · kernel_rfl
  · exact fun _ _ _ h => h
  · refine Or.inl ⟨by rfl, ?_⟩
    intro w hSw
    (try dsimp only at hSw)
    go_simp
    all_goals with_reducible rfl
  simp only [Act.put, List.setIfInBounds_toArray, List.set_cons_zero, List.set_cons_succ]
  refine wpAnyH_take (i := 10) (oi := ?_) (v := ?_) ?_ ?_ ?_ ?_ ?_ ?_ (by assumption) ?_
  rotate_left 2
  · simp only [List.getElem?_toArray, List.getElem?_cons_zero, List.getElem?_cons_succ]
    rfl
  · kernel_rfl
  · kernel_rfl
  · kernel_rfl
  · exact fun _ _ _ h => h
  · refine Or.inl ⟨by rfl, ?_⟩
    intro w hSw
    (try dsimp only at hSw)
    go_simp
    all_goals with_reducible rfl
  simp only [Act.put, List.setIfInBounds_toArray, List.set_cons_zero, List.set_cons_succ]
  refine wpAnyH_take (i := 12) (oi := ?_) (v := ?_) ?_ ?_ ?_ ?_ ?_ ?_ (by assumption) ?_
  rotate_left 2
  · simp only [List.getElem?_toArray, List.getElem?_cons_zero, List.getElem?_cons_succ]
    rfl
  · kernel_rfl
  · kernel_rfl
  · kernel_rfl
  · exact fun _ _ _ h => h
  · refine yieldsIf_load_row (g := w.heap.size) (t := 22) (cs := cellsN a) (ty := 22) (x := (.tmp 4)) ?_ ?_ ?_ ?_ Try.underlying22 rfl HIA.out
    · rfl
    · rfl
    · rfl
    · exact fun w hSw => hSw.1
  simp only [Act.put, List.setIfInBounds_toArray, List.set_cons_zero, List.set_cons_succ]
  refine wpAnyH_take (i := 13) (oi := ?_) (v := ?_) ?_ ?_ ?_ ?_ ?_ ?_ (by assumption) ?_
  rotate_left 2
  · simp only [List.getElem?_toArray, List.getElem?_cons_zero, List.getElem?_cons_succ]
    rfl
  · kernel_rfl
  · kernel_rfl
  · kernel_rfl
  · exact fun _ _ _ h => h
  · refine Or.inl ⟨by rfl, ?_⟩
    intro w hSw
    (try dsimp only at hSw)
    go_simp
    all_goals with_reducible rfl
  simp only [Act.put, List.setIfInBounds_toArray, List.set_cons_zero, List.set_cons_succ]
  refine wpAnyH_take (i := 14) (oi := ?_) (v := ?_) ?_ ?_ ?_ ?_ ?_ ?_ (by assumption) ?_
  rotate_left 2
  · simp only [List.getElem?_toArray, List.getElem?_cons_zero, List.getElem?_cons_succ]
    rfl
  · kernel_rfl
  · kernel_rfl
  · kernel_rfl
  · exact fun _ _ _ h => h
  · refine Or.inl ⟨by rfl, ?_⟩
    intro w hSw
    (try dsimp only at hSw)
    go_simp
    all_goals with_reducible rfl
  simp only [Act.put, List.setIfInBounds_toArray, List.set_cons_zero, List.set_cons_succ]
  refine wpAnyH_ready (rs := [11]) (by kernel_rfl) (by simp) ?_
  refine AllReadyH.cons (o := ?_) ?_ (fun KK hKK => ?_) AllReadyH.nil
  rotate_left
  · simp only [List.getElem?_toArray, List.getElem?_cons_zero, List.getElem?_cons_succ]
    rfl
  go_simp
  refine (HS1.out _ HF4.out.2.2).mono ?_
  rintro e y4 ⟨rfl, hy⟩
  have HF5 := Lib.hid (HF4.out.kept hy)
  clear hy
  try go_wp2_with fail
  refine hKK.out _ _ ?_ (fun hh11 => ?_)
  · (try dsimp only)
    exact HF5.out
  clear hKK KK
  try simp only [Act.put, List.setIfInBounds_toArray, List.set_cons_zero, List.set_cons_succ]
  refine wpAnyH_ready (rs := [15]) (by kernel_rfl) (by simp) ?_
  refine AllReadyH.cons (o := ?_) ?_ (fun KK hKK => ?_) AllReadyH.nil
  rotate_left
  · simp only [List.getElem?_toArray, List.getElem?_cons_zero, List.getElem?_cons_succ]
    rfl
  go_simp
  refine (HS2.out _ HF5.out.2.2).mono ?_
  rintro e y5 ⟨rfl, hy⟩
  have HF6 := Lib.hid (HF5.out.kept hy)
  clear hy
  try go_wp2_with fail
  refine hKK.out _ _ ?_ (fun hh15 => ?_)
  · (try dsimp only)
    exact HF6.out
  clear hKK KK
  try simp only [Act.put, List.setIfInBounds_toArray, List.set_cons_zero, List.set_cons_succ]
  refine wpAnyH_take (i := 16) (oi := ?_) (v := ?_) ?_ ?_ ?_ ?_ ?_ ?_ (by assumption) ?_
  rotate_left 2
  · simp only [List.getElem?_toArray, List.getElem?_cons_zero, List.getElem?_cons_succ]
    rfl
  · kernel_rfl
  · kernel_rfl
  · kernel_rfl
  · exact fun _ _ _ h => h
  · refine Or.inl ⟨by rfl, ?_⟩
    intro w hSw
    (try dsimp only at hSw)
    go_simp
    all_goals with_reducible rfl
  simp only [Act.put, List.setIfInBounds_toArray, List.set_cons_zero, List.set_cons_succ]
  refine wpAnyH_take (i := 17) (oi := ?_) (v := ?_) ?_ ?_ ?_ ?_ ?_ ?_ (by assumption) ?_
  rotate_left 2
  · simp only [List.getElem?_toArray, List.getElem?_cons_zero, List.getElem?_cons_succ]
    rfl
  · kernel_rfl
  · kernel_rfl
  · kernel_rfl
  · exact fun _ _ _ h => h
  · refine Or.inl ⟨by rfl, ?_⟩
    intro w hSw
    (try dsimp only at hSw)
    go_simp
    all_goals with_reducible rfl
  simp only [Act.put, List.setIfInBounds_toArray, List.set_cons_zero, List.set_cons_succ]
  refine wpAnyH_take (i := 18) (oi := ?_) (v := ?_) ?_ ?_ ?_ ?_ ?_ ?_ (by assumption) ?_
  rotate_left 2
  · simp only [List.getElem?_toArray, List.getElem?_cons_zero, List.getElem?_cons_succ]
    rfl
  · kernel_rfl
  · kernel_rfl
  · kernel_rfl
  · exact fun _ _ _ h => h
  · refine Or.inl ⟨by rfl, ?_⟩
    intro w hSw
    (try dsimp only at hSw)
    go_simp
    all_goals with_reducible rfl
  simp only [Act.put, List.setIfInBounds_toArray, List.set_cons_zero, List.set_cons_succ]
  refine wpAnyH_done (by kernel_rfl) ?_ _
  go_wp2
  go_ret
  exact ⟨rfl, HF6.out.2.2⟩
set_option maxRecDepth 100000 in
set_option maxHeartbeats 1000000 in
theorem gcmTimes_walk (k n : List Nat) (A1 : Option Addr) (n1 c1 : Nat) (z1 : List Int) (A2 : Option Addr) (n2 c2 : Nat) (z2 : List Int) (w : World) (hk : k.length = 16) (qk : Ae.bytes k) (hn : n.length = 16) (qn : Ae.bytes n) (i1 : Ints .u8 w A1 n1 z1) (x1 : n1 ≤ c1 ∧ c1 ≤ maxLen) (i2 : Ints .u8 w A2 n2 z2) (x2 : n2 ≤ c2 ∧ c2 ≤ maxLen) :
    Calls Try.prog 3 #[.agg (cellsN k), .agg (cellsN n), .slice A1 n1 c1, .slice A2 n2 c2] w fun e w' => e = .returned (.bool true) ∧ Below w.heap.size w w' := by
  obtain ⟨l1, m1, q1, r1⟩ := i1.rd
  obtain ⟨l2, m2, q2, r2⟩ := i2.rd
  unfold maxLen at x1 x2
  by_cases h1 : 200 < n1
  · have h1i : (n1 : Int) > 200 := by omega
    have h1j : 200 < (n1 : Int) := by omega
    clear hk qk hn qn i1 i2 m1 q1 r1 m2 q2 r2 h1
    have L0 : Below w.heap.size w ((w.alloc (.cells (cellsN k) 22)).alloc (.cells (cellsN n) 22)) := ((Below.refl _ w).alloc (Nat.le_refl _) _).alloc (by simp) _
    have PL := Lib.hid L0
    clear L0
    go_enter Try.func3, Try.ntmps3
    go_wp2_with fail
    refine (alive_true _).mono ?_
    rintro e w1 ⟨rfl, hb1⟩
    have HA := Lib.hid (PL.out.trans (hb1.mono PL.out.size))
    clear hb1 PL
    go_wp2
    go_ret
    exact ⟨rfl, HA.out⟩
  by_cases h2 : 200 < n2
  · have h1i : ¬ (n1 : Int) > 200 := by omega
    have h1j : ¬ 200 < (n1 : Int) := by omega
    have h2i : (n2 : Int) > 200 := by omega
    have h2j : 200 < (n2 : Int) := by omega
    clear hk qk hn qn i1 i2 m1 q1 r1 m2 q2 r2 h1 h2
    have L0 : Below w.heap.size w ((w.alloc (.cells (cellsN k) 22)).alloc (.cells (cellsN n) 22)) := ((Below.refl _ w).alloc (Nat.le_refl _) _).alloc (by simp) _
    have PL := Lib.hid L0
    clear L0
    go_enter Try.func3, Try.ntmps3
    go_wp2_with fail
    refine (alive_true _).mono ?_
    rintro e w1 ⟨rfl, hb1⟩
    have HA := Lib.hid (PL.out.trans (hb1.mono PL.out.size))
    clear hb1 PL
    go_wp2
    go_ret
    exact ⟨rfl, HA.out⟩
  exact gcmTimes_small k n A1 n1 c1 l1 A2 n2 c2 l2 w hk qk hn qn r1 m1 q1 ⟨by omega, x1⟩ r2 m2 q2 ⟨by omega, x2⟩
end Go.Proofs.Ytnphanhoakbkpaa
