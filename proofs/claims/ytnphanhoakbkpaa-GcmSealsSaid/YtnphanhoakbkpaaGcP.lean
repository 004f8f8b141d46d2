/- Layer 9's gcm, walked: GcmText. -/
import Derived.RangeFuncNested
import Derived.RangeFuncBound
import Derived.RangeFuncCalls
import Derived.RangeFuncLeaves
import Derived.RangeFuncBox
import Derived.Shelf.Abstract
import Derived.Shelf.RegionOpen
import Derived.WalkKit
import Derived.OwnWalkIn
import Derived.TacticsInMore
import Derived.LoopN
import Derived.LoopNIn
import Derived.LoopIn
import Derived.WalkSpells
import Derived.WalkLawsBesides
import Derived.Laws.Rows
import Derived.Laws.EntriesVeiled
import Derived.Laws.BitsAllLaws
import Derived.Handy
import Derived.BigQuiet
import Derived.Deep.QuietTactic
import Derived.IntWalk
import Derived.Lib.Hide
import Derived.Outline
import Derived.Test.YtnphanhoakbkpaaRows
import Derived.Test.YtnphanhoakbkpaaAid
import Derived.Test.YtnphanhoakbkpaaPlainAe
import Derived.Test.YtnphanhoakbkpaaPlainAe2
import Derived.Test.YtnphanhoakbkpaaPlainGc
import Derived.Test.YtnphanhoakbkpaaPlainGc2
import Derived.Test.YtnphanhoakbkpaaAesB
import Derived.Test.YtnphanhoakbkpaaAesBox
import Derived.Test.YtnphanhoakbkpaaAesW
import Derived.Test.YtnphanhoakbkpaaAesE
import Derived.Test.YtnphanhoakbkpaaAesK
import Derived.Test.YtnphanhoakbkpaaAesS
import Derived.Test.YtnphanhoakbkpaaAesT
import Derived.Test.YtnphanhoakbkpaaBl
import Derived.Test.YtnphanhoakbkpaaItF
import Derived.Test.YtnphanhoakbkpaaGcA
import Derived.Test.YtnphanhoakbkpaaGcB
import Derived.Test.YtnphanhoakbkpaaGcD
import Derived.Test.YtnphanhoakbkpaaGcE
import Derived.Test.YtnphanhoakbkpaaGcF
import Derived.Test.YtnphanhoakbkpaaGcG
import Derived.Test.YtnphanhoakbkpaaGcH
import Derived.Test.YtnphanhoakbkpaaGcI
import Derived.Test.YtnphanhoakbkpaaGcJ
import Derived.Test.YtnphanhoakbkpaaGcK
import Derived.Test.YtnphanhoakbkpaaGcL
import Derived.Test.YtnphanhoakbkpaaGcM
namespace Go.Proofs.Ytnphanhoakbkpaa
open Go Go.RowKit Go.Shelf
set_option linter.unusedVariables false
set_option linter.unusedSimpArgs false
theorem sealT_ciph (key nonce more text : List Nat) (N : Nat) (h : text.length = N) : (Gc.sealT key nonce more text).take N = Gc.ciph key nonce text := by
  unfold Gc.sealT
  rw [← h, ← Gc.ciph_len key nonce text, List.take_left]
theorem sealT_half (key nonce more text : List Nat) (K : Nat) (h : K ≤ text.length) : (Gc.sealT key nonce more (text.take K)).take K = (Gc.sealT key nonce more text).take K := by
  rw [sealT_ciph _ _ _ (text.take K) K (by rw [List.length_take]; omega)]
  have h1 : (Gc.sealT key nonce more text).take K = (Gc.ciph key nonce text).take K := by
    unfold Gc.sealT
    rw [List.take_append_of_le_length (by rw [Gc.ciph_len]; exact h)]
  rw [h1]
  exact Ae.stream_take _ _ _ _ h
/-- GcmText's blocks. -/
def TxS (w : World) (k n : List Nat) (V : World) : Prop := Obj V w.heap.size 22 (cellsN k) ∧ Obj V (w.heap.size + 1) 28 (cellsN n) ∧ Below w.heap.size w V
theorem TxS.kept {w V V' : World} {k n : List Nat} (h : TxS w k n V) (hb : Below V.heap.size V V') : TxS w k n V' := ⟨h.1.kept hb, h.2.1.kept hb, h.2.2.trans (hb.mono h.2.2.size)⟩
theorem TxS.drew {w V : World} {k n : List Nat} (h : TxS w k n V) : TxS w k n V.drew := ⟨h.1, h.2.1, h.2.2.drew⟩

set_option maxRecDepth 100000 in
set_option maxHeartbeats 4000000 in
theorem gcmText_small (k n : List Nat) (A1 : Option Addr) (n1 c1 : Nat) (more : List Nat) (A2 : Option Addr) (n2 c2 : Nat) (other : List Nat) (A3 : Option Addr) (n3 c3 : Nat) (text : List Nat) (w : World) (hk : k.length = 16) (qk : Ae.bytes k) (hn : n.length = 12) (qn : Ae.bytes n)
    (r1 : Rd w A1 more) (m1 : more.length = n1) (q1 : Ae.bytes more) (k1 : n1 ≤ 100 ∧ n1 ≤ c1 ∧ c1 ≤ 9223372036854775807) (r2 : Rd w A2 other) (m2 : other.length = n2) (q2 : Ae.bytes other) (k2 : n2 ≤ 100 ∧ n2 ≤ c2 ∧ c2 ≤ 9223372036854775807) (r3 : Rd w A3 text) (m3 : text.length = n3) (q3 : Ae.bytes text) (k3 : n3 ≤ 100 ∧ n3 ≤ c3 ∧ c3 ≤ 9223372036854775807) :
    Calls Try.prog 7 #[.agg (cellsN k), .agg (cellsN n), .slice A1 n1 c1, .slice A2 n2 c2, .slice A3 n3 c3] w fun e w' => e = .returned (.bool true) ∧ Below w.heap.size w w' := by
  obtain ⟨K, hK⟩ : ∃ K, n3 / 2 = K := ⟨_, rfl⟩
  have hKn : K ≤ n3 := by omega
  have hKi : (n3 : Int) / 2 = (K : Int) := by rw [← hK]; push_cast; rfl
  have hKt : (n3 : Int).tdiv 2 = (K : Int) := by rw [Int.tdiv_eq_ediv_of_nonneg (by omega)]; exact hKi
  have t1 : ¬ (n1 : Int) > 100 := by omega
  have t2 : ¬ (n2 : Int) > 100 := by omega
  have t3 : ¬ (n3 : Int) > 100 := by omega
  have t1' : ¬ 100 < (n1 : Int) := by omega
  have t2' : ¬ 100 < (n2 : Int) := by omega
  have t3' : ¬ 100 < (n3 : Int) := by omega
  obtain ⟨sa, hsa⟩ : ∃ s, Gc.sealT k n more text = s := ⟨_, rfl⟩
  obtain ⟨sb, hsb⟩ : ∃ s, Gc.sealT k n other text = s := ⟨_, rfl⟩
  obtain ⟨sc, hsc⟩ : ∃ s, Gc.sealT k n more (text.take K) = s := ⟨_, rfl⟩
  have la : sa.length = n3 + 16 := by rw [← hsa, Gc.sealT_len, m3]
  have lb : sb.length = n3 + 16 := by rw [← hsb, Gc.sealT_len, m3]
  have lt : (text.take K).length = K := by rw [List.length_take]; omega
  have lc : sc.length = K + 16 := by rw [← hsc, Gc.sealT_len, lt]
  have eab : sa.take n3 = sb.take n3 := by rw [← hsa, ← hsb, sealT_ciph _ _ _ _ _ m3, sealT_ciph _ _ _ _ _ m3]
  have eca : sc.take K = sa.take K := by rw [← hsa, ← hsc]; exact sealT_half _ _ _ _ _ (by omega)
  have emo : more = other → sa = sb := fun e => by rw [← hsa, ← hsb, e]
  have HSA : Hid (∀ W, Below w.heap.size w W → Calls Try.prog 17 #[.agg (cellsN k), .agg (cellsN n), .slice A1 n1 c1, .slice A3 n3 c3] W fun e w' => ∃ b o c, e = .returned (.slice (some ⟨b, o, none⟩) (n3 + 16) c) ∧ n3 + 16 ≤ c ∧ Rd w' (some ⟨b, o, none⟩) sa ∧ Below W.heap.size W w') := fun W hb =>
    (Seal_rd k n A1 n1 c1 more A3 n3 c3 text W hk qk hn qn (r1.below hb) m1 q1 ⟨by omega, k1.2⟩ (r3.below hb) m3 q3 (by omega)).mono fun e w' ⟨b, o, c, e1, h1, _, h2, h3⟩ => ⟨b, o, c, e1, h1, hsa ▸ h2, h3⟩
  have HSB : Hid (∀ W, Below w.heap.size w W → Calls Try.prog 17 #[.agg (cellsN k), .agg (cellsN n), .slice A2 n2 c2, .slice A3 n3 c3] W fun e w' => ∃ b o c, e = .returned (.slice (some ⟨b, o, none⟩) (n3 + 16) c) ∧ n3 + 16 ≤ c ∧ Rd w' (some ⟨b, o, none⟩) sb ∧ Below W.heap.size W w') := fun W hb =>
    (Seal_rd k n A2 n2 c2 other A3 n3 c3 text W hk qk hn qn (r2.below hb) m2 q2 ⟨by omega, k2.2⟩ (r3.below hb) m3 q3 (by omega)).mono fun e w' ⟨b, o, c, e1, h1, _, h2, h3⟩ => ⟨b, o, c, e1, h1, hsb ▸ h2, h3⟩
  have HSC : Hid (∀ W, Below w.heap.size w W → Calls Try.prog 17 #[.agg (cellsN k), .agg (cellsN n), .slice A1 n1 c1, .slice A3 K c3] W fun e w' => ∃ b o c, e = .returned (.slice (some ⟨b, o, none⟩) (K + 16) c) ∧ K + 16 ≤ c ∧ Rd w' (some ⟨b, o, none⟩) sc ∧ Below W.heap.size W w') := fun W hb =>
    (Seal_rd k n A1 n1 c1 more A3 K c3 (text.take K) W hk qk hn qn (r1.below hb) m1 q1 ⟨by omega, k1.2⟩ ((r3.below hb).take K (by omega)) lt (bytes_take q3 K) (by omega)).mono fun e w' ⟨b, o, c, e1, h1, _, h2, h3⟩ => ⟨b, o, c, e1, h1, hsc ▸ h2, h3⟩
  have HM1 : Hid (∀ W A B c d, Rd W A sa → Rd W B sb → Calls Try.prog 16 #[.slice A n3 c, .slice B n3 d] W fun e w' => e = .returned (.bool true) ∧ Below W.heap.size W w') := fun W A B c d h1 h2 =>
    (same_any A B c d n3 n3 (sa.take n3) (sb.take n3) W (h1.take n3 (by omega)) (h2.take n3 (by omega)) (by rw [List.length_take]; omega) (by rw [List.length_take]; omega) (by omega)).mono fun e w' ⟨h3, q, h4⟩ => ⟨by rw [h3, decide_eq_true eab], below_drewN' h4⟩
  have HM2 : Hid (∀ W A B c d, Rd W A sc → Rd W B sa → Calls Try.prog 16 #[.slice A K c, .slice B K d] W fun e w' => e = .returned (.bool true) ∧ Below W.heap.size W w') := fun W A B c d h1 h2 =>
    (same_any A B c d K K (sc.take K) (sa.take K) W (h1.take K (by omega)) (h2.take K (by omega)) (by rw [List.length_take]; omega) (by rw [List.length_take]; omega) (by omega)).mono fun e w' ⟨h3, q, h4⟩ => ⟨by rw [h3, decide_eq_true eca], below_drewN' h4⟩
  have HM3 : Hid (∀ W, Below w.heap.size w W → Calls Try.prog 16 #[.slice A1 n1 c1, .slice A2 n2 c2] W fun e w' => e = .returned (.bool (decide (more = other))) ∧ Below W.heap.size W w') := fun W hb =>
    (same_any A1 A2 c1 c2 n1 n2 more other W (r1.below hb) (r2.below hb) m1 m2 (by omega)).mono fun e w' ⟨h3, q, h4⟩ => ⟨h3, below_drewN' h4⟩
  have HM4 : Hid (∀ W A B c d, Rd W A sa → Rd W B sb → more = other → Calls Try.prog 16 #[.slice A (n3 + 16) c, .slice B (n3 + 16) d] W fun e w' => e = .returned (.bool true) ∧ Below W.heap.size W w') := fun W A B c d h1 h2 he =>
    (same_any A B c d (n3 + 16) (n3 + 16) sa sb W h1 h2 la lb (by omega)).mono fun e w' ⟨h3, q, h4⟩ => ⟨by rw [h3, decide_eq_true (emo he)], below_drewN' h4⟩
  obtain ⟨W2, hW2⟩ : ∃ W2, (w.alloc (.cells (cellsN k) 22)).alloc (.cells (cellsN n) 28) = W2 := ⟨_, rfl⟩
  have HT0 : Hid (TxS w k n W2) := ⟨hW2 ▸ (Obj.new w _ _).alloc _, hW2 ▸ new2 w _ _ _, hW2 ▸ ((Below.refl _ w).alloc (Nat.le_refl _) _).alloc (by simp) _⟩
  have HIK := Lib.hid (size16 hk)
  have HIN := Lib.hid (size12 hn)
  have HW2 := Lib.hid hW2
  have hKc : K ≤ c3 := by omega
  have hKw : IntKind.i64.wrap (K : Int) = (K : Int) := by rw [IntKind.wrap_i64]; omega
  clear hW2 hk qk hn qn r1 m1 q1 r2 m2 q2 r3 m3 q3 hsa hsb hsc la lb lc lt eab eca emo
  obtain ⟨k1a, k1b, k1c⟩ := k1
  obtain ⟨k2a, k2b, k2c⟩ := k2
  obtain ⟨k3a, k3b, k3c⟩ := k3
  go_enter Try.func7, Try.ntmps7
  go_wp2_with fail
  rw [HW2.out]
  refine (alive_true _).mono ?_
  rintro e w1 ⟨rfl, hb1⟩
  have HT1 := Lib.hid (HT0.out.kept hb1)
  have HT2 := Lib.hid HT1.out.drew
  clear hb1 HT0 HT1
  go_wp2
  refine wp_nopanic0 ?_
  refine wp_region_held_drew (S := (fun wq => TxS w k n wq)) (by kernel_rfl) HT2.out (fun hHeld => ?_)
  refine wpAnyH_take (i := 0) (oi := ?_) (v := ?_) ?_ ?_ ?_ ?_ ?_ ?_ (by assumption) ?_
  rotate_left 2
  · simp only [List.getElem?_toArray, List.getElem?_cons_zero, List.getElem?_cons_succ]
    rfl
  · kernel_rfl
  · kernel_rfl
  · kernel_rfl
  · exact fun _ _ _ h => h
  · refine yieldsIf_load_row (g := w.heap.size) (t := 22) (cs := cellsN k) (ty := 22) (x := (.tmp 5)) ?_ ?_ ?_ ?_ Try.underlying22 rfl HIK.out
    · rfl
    · rfl
    · rfl
    · exact fun w hSw => hSw.1
  simp only [Act.put, List.setIfInBounds_toArray, List.set_cons_zero, List.set_cons_succ]
  refine wpAnyH_take (i := 1) (oi := ?_) (v := ?_) ?_ ?_ ?_ ?_ ?_ ?_ (by assumption) ?_
  rotate_left 2
  · simp only [List.getElem?_toArray, List.getElem?_cons_zero, List.getElem?_cons_succ]
    rfl
  · kernel_rfl
  · kernel_rfl
  · kernel_rfl
  · exact fun _ _ _ h => h
  · refine yieldsIf_load_row (g := (w.heap.size + 1)) (t := 28) (cs := cellsN n) (ty := 28) (x := (.tmp 6)) ?_ ?_ ?_ ?_ Try.underlying28 rfl HIN.out
    · rfl
    · rfl
    · rfl
    · exact fun w hSw => hSw.2.1
  simp only [Act.put, List.setIfInBounds_toArray, List.set_cons_zero, List.set_cons_succ]
  refine wpAnyH_take (i := 2) (oi := ?_) (v := ?_) ?_ ?_ ?_ ?_ ?_ ?_ (by assumption) ?_
  rotate_left 2
  · simp only [List.getElem?_toArray, List.getElem?_cons_zero, List.getElem?_cons_succ]
    rfl
  · kernel_rfl
  · kernel_rfl
  · kernel_rfl
  · exact fun _ _ _ h => h
  · refine Or.inl ⟨by rfl, ?_⟩
    intro w hSw
    (try dsimp only at hSw)
    go_simp
    all_goals with_reducible rfl
  simp only [Act.put, List.setIfInBounds_toArray, List.set_cons_zero, List.set_cons_succ]
  refine wpAnyH_take (i := 3) (oi := ?_) (v := ?_) ?_ ?_ ?_ ?_ ?_ ?_ (by assumption) ?_
  rotate_left 2
  · simp only [List.getElem?_toArray, List.getElem?_cons_zero, List.getElem?_cons_succ]
    rfl
  · kernel_rfl
  · kernel_rfl
  · kernel_rfl
  · exact fun _ _ _ h => h
  · refine Or.inl ⟨by rfl, ?_⟩
    intro w hSw
    (try dsimp only at hSw)
    go_simp
    all_goals with_reducible rfl
  simp only [Act.put, List.setIfInBounds_toArray, List.set_cons_zero, List.set_cons_succ]
  refine wpAnyH_take (i := 5) (oi := ?_) (v := ?_) ?_ ?_ ?_ ?_ ?_ ?_ (by assumption) ?_
  rotate_left 2
  · simp only [List.getElem?_toArray, List.getElem?_cons_zero, List.getElem?_cons_succ]
    rfl
  · kernel_rfl
  · kernel_rfl
  · kernel_rfl
  · exact fun _ _ _ h => h
  · refine yieldsIf_load_row (g := w.heap.size) (t := 22) (cs := cellsN k) (ty := 22) (x := (.tmp 5)) ?_ ?_ ?_ ?_ Try.underlying22 rfl HIK.out
    · rfl
    · rfl
    · rfl
    · exact fun w hSw => hSw.1
  simp only [Act.put, List.setIfInBounds_toArray, List.set_cons_zero, List.set_cons_succ]
  refine wpAnyH_take (i := 6) (oi := ?_) (v := ?_) ?_ ?_ ?_ ?_ ?_ ?_ (by assumption) ?_
  rotate_left 2
  · simp only [List.getElem?_toArray, List.getElem?_cons_zero, List.getElem?_cons_succ]
    rfl
  · kernel_rfl
  · kernel_rfl
  · kernel_rfl
  · exact fun _ _ _ h => h
  · refine yieldsIf_load_row (g := (w.heap.size + 1)) (t := 28) (cs := cellsN n) (ty := 28) (x := (.tmp 6)) ?_ ?_ ?_ ?_ Try.underlying28 rfl HIN.out
    · rfl
    · rfl
    · rfl
    · exact fun w hSw => hSw.2.1
  simp only [Act.put, List.setIfInBounds_toArray, List.set_cons_zero, List.set_cons_succ]
  refine wpAnyH_take (i := 7) (oi := ?_) (v := ?_) ?_ ?_ ?_ ?_ ?_ ?_ (by assumption) ?_
  rotate_left 2
  · simp only [List.getElem?_toArray, List.getElem?_cons_zero, List.getElem?_cons_succ]
    rfl
  · kernel_rfl
  · kernel_rfl
  · kernel_rfl
  · exact fun _ _ _ h => h
  · refine Or.inl ⟨by rfl, ?_⟩
    intro w hSw
    (try dsimp only at hSw)
    go_simp
    all_goals with_reducible rfl
  simp only [Act.put, List.setIfInBounds_toArray, List.set_cons_zero, List.set_cons_succ]
  refine wpAnyH_take (i := 8) (oi := ?_) (v := ?_) ?_ ?_ ?_ ?_ ?_ ?_ (by assumption) ?_
  rotate_left 2
  · simp only [List.getElem?_toArray, List.getElem?_cons_zero, List.getElem?_cons_succ]
    rfl
  · kernel_rfl
  · kernel_rfl
  · kernel_rfl
  · exact fun _ _ _ h => h
  · refine Or.inl ⟨by rfl, ?_⟩
    intro w hSw
    (try dsimp only at hSw)
    go_simp
    all_goals with_reducible rfl
  simp only [Act.put, List.setIfInBounds_toArray, List.set_cons_zero, List.set_cons_succ]
  refine wpAnyH_ready (rs := [4]) (by kernel_rfl) (by simp) ?_
  refine AllReadyH.cons (o := ?_) ?_ (fun KK hKK => ?_) AllReadyH.nil
  rotate_left
  · simp only [List.getElem?_toArray, List.getElem?_cons_zero, List.getElem?_cons_succ]
    rfl
  go_simp
  refine (HSA.out _ HT2.out.2.2).mono ?_
  rintro e y1 ⟨ba, oa, ca, rfl, hca, hra0, hy1⟩
  have HT3 := Lib.hid (HT2.out.kept hy1)
  clear hy1
  try go_wp2_with fail
  refine hKK.out _ _ ?_ (fun hh4 => ?_)
  · (try dsimp only)
    exact HT3.out
  clear hKK KK
  try simp only [Act.put, List.setIfInBounds_toArray, List.set_cons_zero, List.set_cons_succ]
  refine wpAnyH_ready (rs := [9]) (by kernel_rfl) (by simp) ?_
  refine AllReadyH.cons (o := ?_) ?_ (fun KK hKK => ?_) AllReadyH.nil
  rotate_left
  · simp only [List.getElem?_toArray, List.getElem?_cons_zero, List.getElem?_cons_succ]
    rfl
  go_simp
  refine (HSB.out _ HT3.out.2.2).mono ?_
  rintro e y2 ⟨bb, ob, cb, rfl, hcb, hrb, hy2⟩
  have HT4 := Lib.hid (HT3.out.kept hy2)
  have hra := hra0.below hy2
  clear hy2 hra0
  try go_wp2_with fail
  refine hKK.out _ _ ?_ (fun hh9 => ?_)
  · (try dsimp only)
    exact HT4.out
  clear hKK KK
  try simp only [Act.put, List.setIfInBounds_toArray, List.set_cons_zero, List.set_cons_succ]
  refine wpAnyH_take (i := 10) (oi := ?_) (v := ?_) ?_ ?_ ?_ ?_ ?_ ?_ (by assumption) ?_
  rotate_left 2
  · simp only [List.getElem?_toArray, List.getElem?_cons_zero, List.getElem?_cons_succ]
    rfl
  · kernel_rfl
  · kernel_rfl
  · kernel_rfl
  · exact fun _ _ _ h => h
  · refine Or.inl ⟨by rfl, ?_⟩
    intro w hSw
    (try dsimp only at hSw)
    go_simp
    all_goals with_reducible rfl
  simp only [Act.put, List.setIfInBounds_toArray, List.set_cons_zero, List.set_cons_succ]
  refine wpAnyH_take (i := 11) (oi := ?_) (v := ?_) ?_ ?_ ?_ ?_ ?_ ?_ (by assumption) ?_
  rotate_left 2
  · simp only [List.getElem?_toArray, List.getElem?_cons_zero, List.getElem?_cons_succ]
    rfl
  · kernel_rfl
  · kernel_rfl
  · kernel_rfl
  · exact fun _ _ _ h => h
  · refine Or.inl ⟨by rfl, ?_⟩
    intro w hSw
    (try dsimp only at hSw)
    go_simp
    all_goals with_reducible rfl
  simp only [Act.put, List.setIfInBounds_toArray, List.set_cons_zero, List.set_cons_succ]
  refine wpAnyH_done (by kernel_rfl) ?_ _
  have HT5 := Lib.hid HT4.out.drew
  have HRA : Hid (Rd y2.drew _ _) := hra
  have HRB : Hid (Rd y2.drew _ _) := hrb
  clear hra hrb hh4 hh9 hHeld HT4
  go_wp2
  refine wp_nopanic0 ?_
  refine wp_region_held_drew (S := (fun wq => TxS w k n wq)) (by kernel_rfl) HT5.out (fun hHeld => ?_)
  refine wpAnyH_take (i := 0) (oi := ?_) (v := ?_) ?_ ?_ ?_ ?_ ?_ ?_ (by assumption) ?_
  rotate_left 2
  · simp only [List.getElem?_toArray, List.getElem?_cons_zero, List.getElem?_cons_succ]
    rfl
  · kernel_rfl
  · kernel_rfl
  · kernel_rfl
  · exact fun _ _ _ h => h
  · refine yieldsIf_load_row (g := w.heap.size) (t := 22) (cs := cellsN k) (ty := 22) (x := (.tmp 5)) ?_ ?_ ?_ ?_ Try.underlying22 rfl HIK.out
    · rfl
    · rfl
    · rfl
    · exact fun w hSw => hSw.1
  simp only [Act.put, List.setIfInBounds_toArray, List.set_cons_zero, List.set_cons_succ]
  refine wpAnyH_take (i := 1) (oi := ?_) (v := ?_) ?_ ?_ ?_ ?_ ?_ ?_ (by assumption) ?_
  rotate_left 2
  · simp only [List.getElem?_toArray, List.getElem?_cons_zero, List.getElem?_cons_succ]
    rfl
  · kernel_rfl
  · kernel_rfl
  · kernel_rfl
  · exact fun _ _ _ h => h
  · refine yieldsIf_load_row (g := (w.heap.size + 1)) (t := 28) (cs := cellsN n) (ty := 28) (x := (.tmp 6)) ?_ ?_ ?_ ?_ Try.underlying28 rfl HIN.out
    · rfl
    · rfl
    · rfl
    · exact fun w hSw => hSw.2.1
  simp only [Act.put, List.setIfInBounds_toArray, List.set_cons_zero, List.set_cons_succ]
  refine wpAnyH_take (i := 2) (oi := ?_) (v := ?_) ?_ ?_ ?_ ?_ ?_ ?_ (by assumption) ?_
  rotate_left 2
  · simp only [List.getElem?_toArray, List.getElem?_cons_zero, List.getElem?_cons_succ]
    rfl
  · kernel_rfl
  · kernel_rfl
  · kernel_rfl
  · exact fun _ _ _ h => h
  · refine Or.inl ⟨by rfl, ?_⟩
    intro w hSw
    (try dsimp only at hSw)
    go_simp
    all_goals with_reducible rfl
  simp only [Act.put, List.setIfInBounds_toArray, List.set_cons_zero, List.set_cons_succ]
  refine wpAnyH_take (i := 3) (oi := ?_) (v := ?_) ?_ ?_ ?_ ?_ ?_ ?_ (by assumption) ?_
  rotate_left 2
  · simp only [List.getElem?_toArray, List.getElem?_cons_zero, List.getElem?_cons_succ]
    rfl
  · kernel_rfl
  · kernel_rfl
  · kernel_rfl
  · exact fun _ _ _ h => h
  · refine Or.inl ⟨by rfl, ?_⟩
    intro w hSw
    (try dsimp only at hSw)
    go_simp
    all_goals with_reducible rfl
  simp only [Act.put, List.setIfInBounds_toArray, List.set_cons_zero, List.set_cons_succ]
  refine wpAnyH_take (i := 4) (oi := ?_) (v := ?_) ?_ ?_ ?_ ?_ ?_ ?_ (by assumption) ?_
  rotate_left 2
  · simp only [List.getElem?_toArray, List.getElem?_cons_zero, List.getElem?_cons_succ]
    rfl
  · kernel_rfl
  · kernel_rfl
  · kernel_rfl
  · exact fun _ _ _ h => h
  · refine Or.inl ⟨by rfl, ?_⟩
    intro w hSw
    (try dsimp only at hSw)
    go_simp
    all_goals with_reducible rfl
  simp only [Act.put, List.setIfInBounds_toArray, List.set_cons_zero, List.set_cons_succ]
  refine wpAnyH_take (i := 5) (oi := ?_) (v := ?_) ?_ ?_ ?_ ?_ ?_ ?_ (by assumption) ?_
  rotate_left 2
  · simp only [List.getElem?_toArray, List.getElem?_cons_zero, List.getElem?_cons_succ]
    rfl
  · kernel_rfl
  · kernel_rfl
  · kernel_rfl
  · exact fun _ _ _ h => h
  · refine Or.inl ⟨by rfl, ?_⟩
    intro w hSw
    (try dsimp only at hSw)
    go_simp
    all_goals with_reducible rfl
  simp only [Act.put, List.setIfInBounds_toArray, List.set_cons_zero, List.set_cons_succ]
  refine wpAnyH_take (i := 6) (oi := ?_) (v := ?_) ?_ ?_ ?_ ?_ ?_ ?_ (by assumption) ?_
  rotate_left 2
  · simp only [List.getElem?_toArray, List.getElem?_cons_zero, List.getElem?_cons_succ]
    rfl
  · kernel_rfl
  · kernel_rfl
  · kernel_rfl
  · exact fun _ _ _ h => h
  · refine Or.inl ⟨by rfl, ?_⟩
    intro w hSw
    (try dsimp only at hSw)
    go_simp
    all_goals with_reducible rfl
  simp only [Act.put, List.setIfInBounds_toArray, List.set_cons_zero, List.set_cons_succ]
  refine wpAnyH_ready (rs := [7]) (by kernel_rfl) (by simp) ?_
  refine AllReadyH.cons (o := ?_) ?_ (fun KK hKK => ?_) AllReadyH.nil
  rotate_left
  · simp only [List.getElem?_toArray, List.getElem?_cons_zero, List.getElem?_cons_succ]
    rfl
  go_simp
  refine (HSC.out _ HT5.out.2.2).mono ?_
  rintro e y3 ⟨bc, oc, cc, rfl, hcc, hrc, hy3⟩
  have HT6 := Lib.hid (HT5.out.kept hy3)
  have HRA2 := Lib.hid (HRA.out.below hy3)
  have HRB2 := Lib.hid (HRB.out.below hy3)
  have HRC := Lib.hid hrc
  clear hy3 hrc
  try go_wp2_with fail
  refine hKK.out _ _ ?_ (fun hh7 => ?_)
  · (try dsimp only)
    exact HT6.out
  clear hKK KK
  try simp only [Act.put, List.setIfInBounds_toArray, List.set_cons_zero, List.set_cons_succ]
  refine wpAnyH_take (i := 8) (oi := ?_) (v := ?_) ?_ ?_ ?_ ?_ ?_ ?_ (by assumption) ?_
  rotate_left 2
  · simp only [List.getElem?_toArray, List.getElem?_cons_zero, List.getElem?_cons_succ]
    rfl
  · kernel_rfl
  · kernel_rfl
  · kernel_rfl
  · exact fun _ _ _ h => h
  · refine Or.inl ⟨by rfl, ?_⟩
    intro w hSw
    (try dsimp only at hSw)
    go_simp
    all_goals with_reducible rfl
  simp only [Act.put, List.setIfInBounds_toArray, List.set_cons_zero, List.set_cons_succ]
  refine wpAnyH_done (by kernel_rfl) ?_ _
  have HT7 := Lib.hid HT6.out.drew
  have HRA2' : Hid (Rd y3.drew _ _) := HRA2
  have HRB2' : Hid (Rd y3.drew _ _) := HRB2
  have HRC' : Hid (Rd y3.drew _ _) := HRC
  clear HRA2 HRB2 HRC
  clear HT6 hh7 hHeld HT5
  go_wp2
  have ca1 : n3 ≤ ca := by omega
  have ca2 : K ≤ ca := by omega
  have cb1 : n3 ≤ cb := by omega
  have cc1 : K ≤ cc := by omega
  clear HRA HRB HSA HSB HSC hKc
  refine wp_nopanic0 ?_
  by_cases he : more = other
  · have hd : decide (more = other) = true := decide_eq_true he
    rw [hd] at HM3
    clear hd
    refine wp_region_held_drew (S := (fun wq => TxS w k n wq)) (by kernel_rfl) HT7.out (fun hHeld => ?_)
    refine wpAnyH_take (i := 0) (oi := ?_) (v := ?_) ?_ ?_ ?_ ?_ ?_ ?_ (by assumption) ?_
    rotate_left 2
    · simp only [List.getElem?_toArray, List.getElem?_cons_zero, List.getElem?_cons_succ]
      rfl
    · kernel_rfl
    · kernel_rfl
    · kernel_rfl
    · exact fun _ _ _ h => h
    · refine Or.inl ⟨by rfl, ?_⟩
      intro w hSw
      (try dsimp only at hSw)
      go_simp
      all_goals with_reducible rfl
    simp only [Act.put, List.setIfInBounds_toArray, List.set_cons_zero, List.set_cons_succ]
    refine wpAnyH_take (i := 1) (oi := ?_) (v := ?_) ?_ ?_ ?_ ?_ ?_ ?_ (by assumption) ?_
    rotate_left 2
    · simp only [List.getElem?_toArray, List.getElem?_cons_zero, List.getElem?_cons_succ]
      rfl
    · kernel_rfl
    · kernel_rfl
    · kernel_rfl
    · exact fun _ _ _ h => h
    · refine Or.inl ⟨by rfl, ?_⟩
      intro w hSw
      (try dsimp only at hSw)
      go_simp
      all_goals with_reducible rfl
    simp only [Act.put, List.setIfInBounds_toArray, List.set_cons_zero, List.set_cons_succ]
    refine wpAnyH_take (i := 2) (oi := ?_) (v := ?_) ?_ ?_ ?_ ?_ ?_ ?_ (by assumption) ?_
    rotate_left 2
    · simp only [List.getElem?_toArray, List.getElem?_cons_zero, List.getElem?_cons_succ]
      rfl
    · kernel_rfl
    · kernel_rfl
    · kernel_rfl
    · exact fun _ _ _ h => h
    · refine Or.inl ⟨by rfl, ?_⟩
      intro w hSw
      (try dsimp only at hSw)
      go_simp
      all_goals with_reducible rfl
    simp only [Act.put, List.setIfInBounds_toArray, List.set_cons_zero, List.set_cons_succ]
    refine wpAnyH_take (i := 3) (oi := ?_) (v := ?_) ?_ ?_ ?_ ?_ ?_ ?_ (by assumption) ?_
    rotate_left 2
    · simp only [List.getElem?_toArray, List.getElem?_cons_zero, List.getElem?_cons_succ]
      rfl
    · kernel_rfl
    · kernel_rfl
    · kernel_rfl
    · exact fun _ _ _ h => h
    · refine Or.inl ⟨by rfl, ?_⟩
      intro w hSw
      (try dsimp only at hSw)
      go_simp
      all_goals with_reducible rfl
    simp only [Act.put, List.setIfInBounds_toArray, List.set_cons_zero, List.set_cons_succ]
    refine wpAnyH_take (i := 4) (oi := ?_) (v := ?_) ?_ ?_ ?_ ?_ ?_ ?_ (by assumption) ?_
    rotate_left 2
    · simp only [List.getElem?_toArray, List.getElem?_cons_zero, List.getElem?_cons_succ]
      rfl
    · kernel_rfl
    · kernel_rfl
    · kernel_rfl
    · exact fun _ _ _ h => h
    · refine Or.inl ⟨by rfl, ?_⟩
      intro w hSw
      (try dsimp only at hSw)
      go_simp
      all_goals with_reducible rfl
    simp only [Act.put, List.setIfInBounds_toArray, List.set_cons_zero, List.set_cons_succ]
    refine wpAnyH_take (i := 5) (oi := ?_) (v := ?_) ?_ ?_ ?_ ?_ ?_ ?_ (by assumption) ?_
    rotate_left 2
    · simp only [List.getElem?_toArray, List.getElem?_cons_zero, List.getElem?_cons_succ]
      rfl
    · kernel_rfl
    · kernel_rfl
    · kernel_rfl
    · exact fun _ _ _ h => h
    · refine Or.inl ⟨by rfl, ?_⟩
      intro w hSw
      (try dsimp only at hSw)
      go_simp
      all_goals with_reducible rfl
    simp only [Act.put, List.setIfInBounds_toArray, List.set_cons_zero, List.set_cons_succ]
    refine wpAnyH_ready (rs := [6]) (by kernel_rfl) (by simp) ?_
    refine AllReadyH.cons (o := ?_) ?_ (fun KK hKK => ?_) AllReadyH.nil
    rotate_left
    · simp only [List.getElem?_toArray, List.getElem?_cons_zero, List.getElem?_cons_succ]
      rfl
    go_simp
    refine (HM1.out _ _ _ _ _ HRA2'.out HRB2'.out).mono ?_
    rintro e y8 ⟨rfl, hy⟩
    have HT8 := Lib.hid (HT7.out.kept hy)
    have HRA3 := Lib.hid (HRA2'.out.below hy)
    have HRB3 := Lib.hid (HRB2'.out.below hy)
    have HRC3 := Lib.hid (HRC'.out.below hy)
    clear hy
    try go_wp2_with fail
    refine hKK.out _ _ ?_ (fun hh6 => ?_)
    · (try dsimp only)
      exact HT8.out
    clear hKK KK
    try simp only [Act.put, List.setIfInBounds_toArray, List.set_cons_zero, List.set_cons_succ]
    refine wpAnyH_take (i := 7) (oi := ?_) (v := ?_) ?_ ?_ ?_ ?_ ?_ ?_ (by assumption) ?_
    rotate_left 2
    · simp only [List.getElem?_toArray, List.getElem?_cons_zero, List.getElem?_cons_succ]
      rfl
    · kernel_rfl
    · kernel_rfl
    · kernel_rfl
    · exact fun _ _ _ h => h
    · refine Or.inl ⟨by rfl, ?_⟩
      intro w hSw
      (try dsimp only at hSw)
      go_simp
      all_goals with_reducible rfl
    simp only [Act.put, List.setIfInBounds_toArray, List.set_cons_zero, List.set_cons_succ]
    refine wpAnyH_take (i := 8) (oi := ?_) (v := ?_) ?_ ?_ ?_ ?_ ?_ ?_ (by assumption) ?_
    rotate_left 2
    · simp only [List.getElem?_toArray, List.getElem?_cons_zero, List.getElem?_cons_succ]
      rfl
    · kernel_rfl
    · kernel_rfl
    · kernel_rfl
    · exact fun _ _ _ h => h
    · refine Or.inl ⟨by rfl, ?_⟩
      intro w hSw
      (try dsimp only at hSw)
      go_simp
      all_goals with_reducible rfl
    simp only [Act.put, List.setIfInBounds_toArray, List.set_cons_zero, List.set_cons_succ]
    refine wpAnyH_take (i := 9) (oi := ?_) (v := ?_) ?_ ?_ ?_ ?_ ?_ ?_ (by assumption) ?_
    rotate_left 2
    · simp only [List.getElem?_toArray, List.getElem?_cons_zero, List.getElem?_cons_succ]
      rfl
    · kernel_rfl
    · kernel_rfl
    · kernel_rfl
    · exact fun _ _ _ h => h
    · refine Or.inl ⟨by rfl, ?_⟩
      intro w hSw
      (try dsimp only at hSw)
      go_simp
      all_goals with_reducible rfl
    simp only [Act.put, List.setIfInBounds_toArray, List.set_cons_zero, List.set_cons_succ]
    refine wpAnyH_take (i := 10) (oi := ?_) (v := ?_) ?_ ?_ ?_ ?_ ?_ ?_ (by assumption) ?_
    rotate_left 2
    · simp only [List.getElem?_toArray, List.getElem?_cons_zero, List.getElem?_cons_succ]
      rfl
    · kernel_rfl
    · kernel_rfl
    · kernel_rfl
    · exact fun _ _ _ h => h
    · refine Or.inl ⟨by rfl, ?_⟩
      intro w hSw
      (try dsimp only at hSw)
      go_simp
      all_goals with_reducible rfl
    simp only [Act.put, List.setIfInBounds_toArray, List.set_cons_zero, List.set_cons_succ]
    refine wpAnyH_take (i := 11) (oi := ?_) (v := ?_) ?_ ?_ ?_ ?_ ?_ ?_ (by assumption) ?_
    rotate_left 2
    · simp only [List.getElem?_toArray, List.getElem?_cons_zero, List.getElem?_cons_succ]
      rfl
    · kernel_rfl
    · kernel_rfl
    · kernel_rfl
    · exact fun _ _ _ h => h
    · refine Or.inl ⟨by rfl, ?_⟩
      intro w hSw
      (try dsimp only at hSw)
      go_simp
      all_goals with_reducible rfl
    simp only [Act.put, List.setIfInBounds_toArray, List.set_cons_zero, List.set_cons_succ]
    refine wpAnyH_take (i := 12) (oi := ?_) (v := ?_) ?_ ?_ ?_ ?_ ?_ ?_ (by assumption) ?_
    rotate_left 2
    · simp only [List.getElem?_toArray, List.getElem?_cons_zero, List.getElem?_cons_succ]
      rfl
    · kernel_rfl
    · kernel_rfl
    · kernel_rfl
    · exact fun _ _ _ h => h
    · refine Or.inl ⟨by rfl, ?_⟩
      intro w hSw
      (try dsimp only at hSw)
      go_simp
      all_goals with_reducible rfl
    simp only [Act.put, List.setIfInBounds_toArray, List.set_cons_zero, List.set_cons_succ]
    refine wpAnyH_take (i := 13) (oi := ?_) (v := ?_) ?_ ?_ ?_ ?_ ?_ ?_ (by assumption) ?_
    rotate_left 2
    · simp only [List.getElem?_toArray, List.getElem?_cons_zero, List.getElem?_cons_succ]
      rfl
    · kernel_rfl
    · kernel_rfl
    · kernel_rfl
    · exact fun _ _ _ h => h
    · refine Or.inl ⟨by rfl, ?_⟩
      intro w hSw
      (try dsimp only at hSw)
      go_simp
      all_goals with_reducible rfl
    simp only [Act.put, List.setIfInBounds_toArray, List.set_cons_zero, List.set_cons_succ]
    refine wpAnyH_take (i := 14) (oi := ?_) (v := ?_) ?_ ?_ ?_ ?_ ?_ ?_ (by assumption) ?_
    rotate_left 2
    · simp only [List.getElem?_toArray, List.getElem?_cons_zero, List.getElem?_cons_succ]
      rfl
    · kernel_rfl
    · kernel_rfl
    · kernel_rfl
    · exact fun _ _ _ h => h
    · refine Or.inl ⟨by rfl, ?_⟩
      intro w hSw
      (try dsimp only at hSw)
      go_simp
      all_goals with_reducible rfl
    simp only [Act.put, List.setIfInBounds_toArray, List.set_cons_zero, List.set_cons_succ]
    refine wpAnyH_take (i := 15) (oi := ?_) (v := ?_) ?_ ?_ ?_ ?_ ?_ ?_ (by assumption) ?_
    rotate_left 2
    · simp only [List.getElem?_toArray, List.getElem?_cons_zero, List.getElem?_cons_succ]
      rfl
    · kernel_rfl
    · kernel_rfl
    · kernel_rfl
    · exact fun _ _ _ h => h
    · refine Or.inl ⟨by rfl, ?_⟩
      intro w hSw
      (try dsimp only at hSw)
      go_simp
      all_goals with_reducible rfl
    simp only [Act.put, List.setIfInBounds_toArray, List.set_cons_zero, List.set_cons_succ]
    refine wpAnyH_ready (rs := [16]) (by kernel_rfl) (by simp) ?_
    refine AllReadyH.cons (o := ?_) ?_ (fun KK hKK => ?_) AllReadyH.nil
    rotate_left
    · simp only [List.getElem?_toArray, List.getElem?_cons_zero, List.getElem?_cons_succ]
      rfl
    go_simp
    refine (HM2.out _ _ _ _ _ HRC3.out HRA3.out).mono ?_
    rintro e y9 ⟨rfl, hy⟩
    have HT9 := Lib.hid (HT8.out.kept hy)
    have HRA4 := Lib.hid (HRA3.out.below hy)
    have HRB4 := Lib.hid (HRB3.out.below hy)
    clear hy
    try go_wp2_with fail
    refine hKK.out _ _ ?_ (fun hh16 => ?_)
    · (try dsimp only)
      exact HT9.out
    clear hKK KK
    try simp only [Act.put, List.setIfInBounds_toArray, List.set_cons_zero, List.set_cons_succ]
    refine wpAnyH_take (i := 17) (oi := ?_) (v := ?_) ?_ ?_ ?_ ?_ ?_ ?_ (by assumption) ?_
    rotate_left 2
    · simp only [List.getElem?_toArray, List.getElem?_cons_zero, List.getElem?_cons_succ]
      rfl
    · kernel_rfl
    · kernel_rfl
    · kernel_rfl
    · exact fun _ _ _ h => h
    · refine Or.inl ⟨by rfl, ?_⟩
      intro w hSw
      (try dsimp only at hSw)
      go_simp
      all_goals with_reducible rfl
    simp only [Act.put, List.setIfInBounds_toArray, List.set_cons_zero, List.set_cons_succ]
    refine wpAnyH_take (i := 18) (oi := ?_) (v := ?_) ?_ ?_ ?_ ?_ ?_ ?_ (by assumption) ?_
    rotate_left 2
    · simp only [List.getElem?_toArray, List.getElem?_cons_zero, List.getElem?_cons_succ]
      rfl
    · kernel_rfl
    · kernel_rfl
    · kernel_rfl
    · exact fun _ _ _ h => h
    · refine Or.inl ⟨by rfl, ?_⟩
      intro w hSw
      (try dsimp only at hSw)
      go_simp
      all_goals with_reducible rfl
    simp only [Act.put, List.setIfInBounds_toArray, List.set_cons_zero, List.set_cons_succ]
    refine wpAnyH_take (i := 19) (oi := ?_) (v := ?_) ?_ ?_ ?_ ?_ ?_ ?_ (by assumption) ?_
    rotate_left 2
    · simp only [List.getElem?_toArray, List.getElem?_cons_zero, List.getElem?_cons_succ]
      rfl
    · kernel_rfl
    · kernel_rfl
    · kernel_rfl
    · exact fun _ _ _ h => h
    · refine Or.inl ⟨by rfl, ?_⟩
      intro w hSw
      (try dsimp only at hSw)
      go_simp
      all_goals with_reducible rfl
    simp only [Act.put, List.setIfInBounds_toArray, List.set_cons_zero, List.set_cons_succ]
    refine wpAnyH_take (i := 20) (oi := ?_) (v := ?_) ?_ ?_ ?_ ?_ ?_ ?_ (by assumption) ?_
    rotate_left 2
    · simp only [List.getElem?_toArray, List.getElem?_cons_zero, List.getElem?_cons_succ]
      rfl
    · kernel_rfl
    · kernel_rfl
    · kernel_rfl
    · exact fun _ _ _ h => h
    · refine Or.inl ⟨by rfl, ?_⟩
      intro w hSw
      (try dsimp only at hSw)
      go_simp
      all_goals with_reducible rfl
    simp only [Act.put, List.setIfInBounds_toArray, List.set_cons_zero, List.set_cons_succ]
    refine wpAnyH_ready (rs := [21]) (by kernel_rfl) (by simp) ?_
    refine AllReadyH.cons (o := ?_) ?_ (fun KK hKK => ?_) AllReadyH.nil
    rotate_left
    · simp only [List.getElem?_toArray, List.getElem?_cons_zero, List.getElem?_cons_succ]
      rfl
    go_simp
    refine (HM3.out _ HT9.out.2.2).mono ?_
    rintro e y10 ⟨rfl, hy⟩
    have HT10 := Lib.hid (HT9.out.kept hy)
    have HRA5 := Lib.hid (HRA4.out.below hy)
    have HRB5 := Lib.hid (HRB4.out.below hy)
    clear hy
    try go_wp2_with fail
    refine hKK.out _ _ ?_ (fun hh21 => ?_)
    · (try dsimp only)
      exact HT10.out
    clear hKK KK
    try simp only [Act.put, List.setIfInBounds_toArray, List.set_cons_zero, List.set_cons_succ]
    refine wpAnyH_take (i := 22) (oi := ?_) (v := ?_) ?_ ?_ ?_ ?_ ?_ ?_ (by assumption) ?_
    rotate_left 2
    · simp only [List.getElem?_toArray, List.getElem?_cons_zero, List.getElem?_cons_succ]
      rfl
    · kernel_rfl
    · kernel_rfl
    · kernel_rfl
    · exact fun _ _ _ h => h
    · refine Or.inl ⟨by rfl, ?_⟩
      intro w hSw
      (try dsimp only at hSw)
      go_simp
      all_goals with_reducible rfl
    simp only [Act.put, List.setIfInBounds_toArray, List.set_cons_zero, List.set_cons_succ]
    refine wpAnyH_take (i := 23) (oi := ?_) (v := ?_) ?_ ?_ ?_ ?_ ?_ ?_ (by assumption) ?_
    rotate_left 2
    · simp only [List.getElem?_toArray, List.getElem?_cons_zero, List.getElem?_cons_succ]
      rfl
    · kernel_rfl
    · kernel_rfl
    · kernel_rfl
    · exact fun _ _ _ h => h
    · refine Or.inl ⟨by rfl, ?_⟩
      intro w hSw
      (try dsimp only at hSw)
      go_simp
      all_goals with_reducible rfl
    simp only [Act.put, List.setIfInBounds_toArray, List.set_cons_zero, List.set_cons_succ]
    refine wpAnyH_take (i := 24) (oi := ?_) (v := ?_) ?_ ?_ ?_ ?_ ?_ ?_ (by assumption) ?_
    rotate_left 2
    · simp only [List.getElem?_toArray, List.getElem?_cons_zero, List.getElem?_cons_succ]
      rfl
    · kernel_rfl
    · kernel_rfl
    · kernel_rfl
    · exact fun _ _ _ h => h
    · refine Or.inl ⟨by rfl, ?_⟩
      intro w hSw
      (try dsimp only at hSw)
      go_simp
      all_goals with_reducible rfl
    simp only [Act.put, List.setIfInBounds_toArray, List.set_cons_zero, List.set_cons_succ]
    refine wpAnyH_take (i := 25) (oi := ?_) (v := ?_) ?_ ?_ ?_ ?_ ?_ ?_ (by assumption) ?_
    rotate_left 2
    · simp only [List.getElem?_toArray, List.getElem?_cons_zero, List.getElem?_cons_succ]
      rfl
    · kernel_rfl
    · kernel_rfl
    · kernel_rfl
    · exact fun _ _ _ h => h
    · refine Or.inl ⟨by rfl, ?_⟩
      intro w hSw
      (try dsimp only at hSw)
      go_simp
      all_goals with_reducible rfl
    simp only [Act.put, List.setIfInBounds_toArray, List.set_cons_zero, List.set_cons_succ]
    refine wpAnyH_ready (rs := [26]) (by kernel_rfl) (by simp) ?_
    refine AllReadyH.cons (o := ?_) ?_ (fun KK hKK => ?_) AllReadyH.nil
    rotate_left
    · simp only [List.getElem?_toArray, List.getElem?_cons_zero, List.getElem?_cons_succ]
      rfl
    go_simp
    refine (HM4.out _ _ _ _ _ HRA5.out HRB5.out he).mono ?_
    rintro e y11 ⟨rfl, hy⟩
    have HT11 := Lib.hid (HT10.out.kept hy)
    clear hy
    try go_wp2_with fail
    refine hKK.out _ _ ?_ (fun hh26 => ?_)
    · (try dsimp only)
      exact HT11.out
    clear hKK KK
    try simp only [Act.put, List.setIfInBounds_toArray, List.set_cons_zero, List.set_cons_succ]
    refine wpAnyH_take (i := 27) (oi := ?_) (v := ?_) ?_ ?_ ?_ ?_ ?_ ?_ (by assumption) ?_
    rotate_left 2
    · simp only [List.getElem?_toArray, List.getElem?_cons_zero, List.getElem?_cons_succ]
      rfl
    · kernel_rfl
    · kernel_rfl
    · kernel_rfl
    · exact fun _ _ _ h => h
    · refine Or.inl ⟨by rfl, ?_⟩
      intro w hSw
      (try dsimp only at hSw)
      go_simp
      all_goals with_reducible rfl
    simp only [Act.put, List.setIfInBounds_toArray, List.set_cons_zero, List.set_cons_succ]
    refine wpAnyH_take (i := 28) (oi := ?_) (v := ?_) ?_ ?_ ?_ ?_ ?_ ?_ (by assumption) ?_
    rotate_left 2
    · simp only [List.getElem?_toArray, List.getElem?_cons_zero, List.getElem?_cons_succ]
      rfl
    · kernel_rfl
    · kernel_rfl
    · kernel_rfl
    · exact fun _ _ _ h => h
    · refine Or.inl ⟨by rfl, ?_⟩
      intro w hSw
      (try dsimp only at hSw)
      go_simp
      all_goals with_reducible rfl
    simp only [Act.put, List.setIfInBounds_toArray, List.set_cons_zero, List.set_cons_succ]
    refine wpAnyH_take (i := 29) (oi := ?_) (v := ?_) ?_ ?_ ?_ ?_ ?_ ?_ (by assumption) ?_
    rotate_left 2
    · simp only [List.getElem?_toArray, List.getElem?_cons_zero, List.getElem?_cons_succ]
      rfl
    · kernel_rfl
    · kernel_rfl
    · kernel_rfl
    · exact fun _ _ _ h => h
    · refine Or.inl ⟨by rfl, ?_⟩
      intro w hSw
      (try dsimp only at hSw)
      go_simp
      all_goals with_reducible rfl
    simp only [Act.put, List.setIfInBounds_toArray, List.set_cons_zero, List.set_cons_succ]
    refine wpAnyH_done (by kernel_rfl) ?_ _
    go_wp2
    go_ret
    exact ⟨rfl, HT11.out.2.2⟩
  · have hd : decide (more = other) = false := decide_eq_false he
    rw [hd] at HM3
    clear hd
    refine wp_region_held_drew (S := (fun wq => TxS w k n wq)) (by kernel_rfl) HT7.out (fun hHeld => ?_)
    refine wpAnyH_take (i := 0) (oi := ?_) (v := ?_) ?_ ?_ ?_ ?_ ?_ ?_ (by assumption) ?_
    rotate_left 2
    · simp only [List.getElem?_toArray, List.getElem?_cons_zero, List.getElem?_cons_succ]
      rfl
    · kernel_rfl
    · kernel_rfl
    · kernel_rfl
    · exact fun _ _ _ h => h
    · refine Or.inl ⟨by rfl, ?_⟩
      intro w hSw
      (try dsimp only at hSw)
      go_simp
      all_goals with_reducible rfl
    simp only [Act.put, List.setIfInBounds_toArray, List.set_cons_zero, List.set_cons_succ]
    refine wpAnyH_take (i := 1) (oi := ?_) (v := ?_) ?_ ?_ ?_ ?_ ?_ ?_ (by assumption) ?_
    rotate_left 2
    · simp only [List.getElem?_toArray, List.getElem?_cons_zero, List.getElem?_cons_succ]
      rfl
    · kernel_rfl
    · kernel_rfl
    · kernel_rfl
    · exact fun _ _ _ h => h
    · refine Or.inl ⟨by rfl, ?_⟩
      intro w hSw
      (try dsimp only at hSw)
      go_simp
      all_goals with_reducible rfl
    simp only [Act.put, List.setIfInBounds_toArray, List.set_cons_zero, List.set_cons_succ]
    refine wpAnyH_take (i := 2) (oi := ?_) (v := ?_) ?_ ?_ ?_ ?_ ?_ ?_ (by assumption) ?_
    rotate_left 2
    · simp only [List.getElem?_toArray, List.getElem?_cons_zero, List.getElem?_cons_succ]
      rfl
    · kernel_rfl
    · kernel_rfl
    · kernel_rfl
    · exact fun _ _ _ h => h
    · refine Or.inl ⟨by rfl, ?_⟩
      intro w hSw
      (try dsimp only at hSw)
      go_simp
      all_goals with_reducible rfl
    simp only [Act.put, List.setIfInBounds_toArray, List.set_cons_zero, List.set_cons_succ]
    refine wpAnyH_take (i := 3) (oi := ?_) (v := ?_) ?_ ?_ ?_ ?_ ?_ ?_ (by assumption) ?_
    rotate_left 2
    · simp only [List.getElem?_toArray, List.getElem?_cons_zero, List.getElem?_cons_succ]
      rfl
    · kernel_rfl
    · kernel_rfl
    · kernel_rfl
    · exact fun _ _ _ h => h
    · refine Or.inl ⟨by rfl, ?_⟩
      intro w hSw
      (try dsimp only at hSw)
      go_simp
      all_goals with_reducible rfl
    simp only [Act.put, List.setIfInBounds_toArray, List.set_cons_zero, List.set_cons_succ]
    refine wpAnyH_take (i := 4) (oi := ?_) (v := ?_) ?_ ?_ ?_ ?_ ?_ ?_ (by assumption) ?_
    rotate_left 2
    · simp only [List.getElem?_toArray, List.getElem?_cons_zero, List.getElem?_cons_succ]
      rfl
    · kernel_rfl
    · kernel_rfl
    · kernel_rfl
    · exact fun _ _ _ h => h
    · refine Or.inl ⟨by rfl, ?_⟩
      intro w hSw
      (try dsimp only at hSw)
      go_simp
      all_goals with_reducible rfl
    simp only [Act.put, List.setIfInBounds_toArray, List.set_cons_zero, List.set_cons_succ]
    refine wpAnyH_take (i := 5) (oi := ?_) (v := ?_) ?_ ?_ ?_ ?_ ?_ ?_ (by assumption) ?_
    rotate_left 2
    · simp only [List.getElem?_toArray, List.getElem?_cons_zero, List.getElem?_cons_succ]
      rfl
    · kernel_rfl
    · kernel_rfl
    · kernel_rfl
    · exact fun _ _ _ h => h
    · refine Or.inl ⟨by rfl, ?_⟩
      intro w hSw
      (try dsimp only at hSw)
      go_simp
      all_goals with_reducible rfl
    simp only [Act.put, List.setIfInBounds_toArray, List.set_cons_zero, List.set_cons_succ]
    refine wpAnyH_ready (rs := [6]) (by kernel_rfl) (by simp) ?_
    refine AllReadyH.cons (o := ?_) ?_ (fun KK hKK => ?_) AllReadyH.nil
    rotate_left
    · simp only [List.getElem?_toArray, List.getElem?_cons_zero, List.getElem?_cons_succ]
      rfl
    go_simp
    refine (HM1.out _ _ _ _ _ HRA2'.out HRB2'.out).mono ?_
    rintro e y8 ⟨rfl, hy⟩
    have HT8 := Lib.hid (HT7.out.kept hy)
    have HRA3 := Lib.hid (HRA2'.out.below hy)
    have HRB3 := Lib.hid (HRB2'.out.below hy)
    have HRC3 := Lib.hid (HRC'.out.below hy)
    clear hy
    try go_wp2_with fail
    refine hKK.out _ _ ?_ (fun hh6 => ?_)
    · (try dsimp only)
      exact HT8.out
    clear hKK KK
    try simp only [Act.put, List.setIfInBounds_toArray, List.set_cons_zero, List.set_cons_succ]
    refine wpAnyH_take (i := 7) (oi := ?_) (v := ?_) ?_ ?_ ?_ ?_ ?_ ?_ (by assumption) ?_
    rotate_left 2
    · simp only [List.getElem?_toArray, List.getElem?_cons_zero, List.getElem?_cons_succ]
      rfl
    · kernel_rfl
    · kernel_rfl
    · kernel_rfl
    · exact fun _ _ _ h => h
    · refine Or.inl ⟨by rfl, ?_⟩
      intro w hSw
      (try dsimp only at hSw)
      go_simp
      all_goals with_reducible rfl
    simp only [Act.put, List.setIfInBounds_toArray, List.set_cons_zero, List.set_cons_succ]
    refine wpAnyH_take (i := 8) (oi := ?_) (v := ?_) ?_ ?_ ?_ ?_ ?_ ?_ (by assumption) ?_
    rotate_left 2
    · simp only [List.getElem?_toArray, List.getElem?_cons_zero, List.getElem?_cons_succ]
      rfl
    · kernel_rfl
    · kernel_rfl
    · kernel_rfl
    · exact fun _ _ _ h => h
    · refine Or.inl ⟨by rfl, ?_⟩
      intro w hSw
      (try dsimp only at hSw)
      go_simp
      all_goals with_reducible rfl
    simp only [Act.put, List.setIfInBounds_toArray, List.set_cons_zero, List.set_cons_succ]
    refine wpAnyH_take (i := 9) (oi := ?_) (v := ?_) ?_ ?_ ?_ ?_ ?_ ?_ (by assumption) ?_
    rotate_left 2
    · simp only [List.getElem?_toArray, List.getElem?_cons_zero, List.getElem?_cons_succ]
      rfl
    · kernel_rfl
    · kernel_rfl
    · kernel_rfl
    · exact fun _ _ _ h => h
    · refine Or.inl ⟨by rfl, ?_⟩
      intro w hSw
      (try dsimp only at hSw)
      go_simp
      all_goals with_reducible rfl
    simp only [Act.put, List.setIfInBounds_toArray, List.set_cons_zero, List.set_cons_succ]
    refine wpAnyH_take (i := 10) (oi := ?_) (v := ?_) ?_ ?_ ?_ ?_ ?_ ?_ (by assumption) ?_
    rotate_left 2
    · simp only [List.getElem?_toArray, List.getElem?_cons_zero, List.getElem?_cons_succ]
      rfl
    · kernel_rfl
    · kernel_rfl
    · kernel_rfl
    · exact fun _ _ _ h => h
    · refine Or.inl ⟨by rfl, ?_⟩
      intro w hSw
      (try dsimp only at hSw)
      go_simp
      all_goals with_reducible rfl
    simp only [Act.put, List.setIfInBounds_toArray, List.set_cons_zero, List.set_cons_succ]
    refine wpAnyH_take (i := 11) (oi := ?_) (v := ?_) ?_ ?_ ?_ ?_ ?_ ?_ (by assumption) ?_
    rotate_left 2
    · simp only [List.getElem?_toArray, List.getElem?_cons_zero, List.getElem?_cons_succ]
      rfl
    · kernel_rfl
    · kernel_rfl
    · kernel_rfl
    · exact fun _ _ _ h => h
    · refine Or.inl ⟨by rfl, ?_⟩
      intro w hSw
      (try dsimp only at hSw)
      go_simp
      all_goals with_reducible rfl
    simp only [Act.put, List.setIfInBounds_toArray, List.set_cons_zero, List.set_cons_succ]
    refine wpAnyH_take (i := 12) (oi := ?_) (v := ?_) ?_ ?_ ?_ ?_ ?_ ?_ (by assumption) ?_
    rotate_left 2
    · simp only [List.getElem?_toArray, List.getElem?_cons_zero, List.getElem?_cons_succ]
      rfl
    · kernel_rfl
    · kernel_rfl
    · kernel_rfl
    · exact fun _ _ _ h => h
    · refine Or.inl ⟨by rfl, ?_⟩
      intro w hSw
      (try dsimp only at hSw)
      go_simp
      all_goals with_reducible rfl
    simp only [Act.put, List.setIfInBounds_toArray, List.set_cons_zero, List.set_cons_succ]
    refine wpAnyH_take (i := 13) (oi := ?_) (v := ?_) ?_ ?_ ?_ ?_ ?_ ?_ (by assumption) ?_
    rotate_left 2
    · simp only [List.getElem?_toArray, List.getElem?_cons_zero, List.getElem?_cons_succ]
      rfl
    · kernel_rfl
    · kernel_rfl
    · kernel_rfl
    · exact fun _ _ _ h => h
    · refine Or.inl ⟨by rfl, ?_⟩
      intro w hSw
      (try dsimp only at hSw)
      go_simp
      all_goals with_reducible rfl
    simp only [Act.put, List.setIfInBounds_toArray, List.set_cons_zero, List.set_cons_succ]
    refine wpAnyH_take (i := 14) (oi := ?_) (v := ?_) ?_ ?_ ?_ ?_ ?_ ?_ (by assumption) ?_
    rotate_left 2
    · simp only [List.getElem?_toArray, List.getElem?_cons_zero, List.getElem?_cons_succ]
      rfl
    · kernel_rfl
    · kernel_rfl
    · kernel_rfl
    · exact fun _ _ _ h => h
    · refine Or.inl ⟨by rfl, ?_⟩
      intro w hSw
      (try dsimp only at hSw)
      go_simp
      all_goals with_reducible rfl
    simp only [Act.put, List.setIfInBounds_toArray, List.set_cons_zero, List.set_cons_succ]
    refine wpAnyH_take (i := 15) (oi := ?_) (v := ?_) ?_ ?_ ?_ ?_ ?_ ?_ (by assumption) ?_
    rotate_left 2
    · simp only [List.getElem?_toArray, List.getElem?_cons_zero, List.getElem?_cons_succ]
      rfl
    · kernel_rfl
    · kernel_rfl
    · kernel_rfl
    · exact fun _ _ _ h => h
    · refine Or.inl ⟨by rfl, ?_⟩
      intro w hSw
      (try dsimp only at hSw)
      go_simp
      all_goals with_reducible rfl
    simp only [Act.put, List.setIfInBounds_toArray, List.set_cons_zero, List.set_cons_succ]
    refine wpAnyH_ready (rs := [16]) (by kernel_rfl) (by simp) ?_
    refine AllReadyH.cons (o := ?_) ?_ (fun KK hKK => ?_) AllReadyH.nil
    rotate_left
    · simp only [List.getElem?_toArray, List.getElem?_cons_zero, List.getElem?_cons_succ]
      rfl
    go_simp
    refine (HM2.out _ _ _ _ _ HRC3.out HRA3.out).mono ?_
    rintro e y9 ⟨rfl, hy⟩
    have HT9 := Lib.hid (HT8.out.kept hy)
    have HRA4 := Lib.hid (HRA3.out.below hy)
    have HRB4 := Lib.hid (HRB3.out.below hy)
    clear hy
    try go_wp2_with fail
    refine hKK.out _ _ ?_ (fun hh16 => ?_)
    · (try dsimp only)
      exact HT9.out
    clear hKK KK
    try simp only [Act.put, List.setIfInBounds_toArray, List.set_cons_zero, List.set_cons_succ]
    refine wpAnyH_take (i := 17) (oi := ?_) (v := ?_) ?_ ?_ ?_ ?_ ?_ ?_ (by assumption) ?_
    rotate_left 2
    · simp only [List.getElem?_toArray, List.getElem?_cons_zero, List.getElem?_cons_succ]
      rfl
    · kernel_rfl
    · kernel_rfl
    · kernel_rfl
    · exact fun _ _ _ h => h
    · refine Or.inl ⟨by rfl, ?_⟩
      intro w hSw
      (try dsimp only at hSw)
      go_simp
      all_goals with_reducible rfl
    simp only [Act.put, List.setIfInBounds_toArray, List.set_cons_zero, List.set_cons_succ]
    refine wpAnyH_take (i := 18) (oi := ?_) (v := ?_) ?_ ?_ ?_ ?_ ?_ ?_ (by assumption) ?_
    rotate_left 2
    · simp only [List.getElem?_toArray, List.getElem?_cons_zero, List.getElem?_cons_succ]
      rfl
    · kernel_rfl
    · kernel_rfl
    · kernel_rfl
    · exact fun _ _ _ h => h
    · refine Or.inl ⟨by rfl, ?_⟩
      intro w hSw
      (try dsimp only at hSw)
      go_simp
      all_goals with_reducible rfl
    simp only [Act.put, List.setIfInBounds_toArray, List.set_cons_zero, List.set_cons_succ]
    refine wpAnyH_take (i := 19) (oi := ?_) (v := ?_) ?_ ?_ ?_ ?_ ?_ ?_ (by assumption) ?_
    rotate_left 2
    · simp only [List.getElem?_toArray, List.getElem?_cons_zero, List.getElem?_cons_succ]
      rfl
    · kernel_rfl
    · kernel_rfl
    · kernel_rfl
    · exact fun _ _ _ h => h
    · refine Or.inl ⟨by rfl, ?_⟩
      intro w hSw
      (try dsimp only at hSw)
      go_simp
      all_goals with_reducible rfl
    simp only [Act.put, List.setIfInBounds_toArray, List.set_cons_zero, List.set_cons_succ]
    refine wpAnyH_take (i := 20) (oi := ?_) (v := ?_) ?_ ?_ ?_ ?_ ?_ ?_ (by assumption) ?_
    rotate_left 2
    · simp only [List.getElem?_toArray, List.getElem?_cons_zero, List.getElem?_cons_succ]
      rfl
    · kernel_rfl
    · kernel_rfl
    · kernel_rfl
    · exact fun _ _ _ h => h
    · refine Or.inl ⟨by rfl, ?_⟩
      intro w hSw
      (try dsimp only at hSw)
      go_simp
      all_goals with_reducible rfl
    simp only [Act.put, List.setIfInBounds_toArray, List.set_cons_zero, List.set_cons_succ]
    refine wpAnyH_ready (rs := [21]) (by kernel_rfl) (by simp) ?_
    refine AllReadyH.cons (o := ?_) ?_ (fun KK hKK => ?_) AllReadyH.nil
    rotate_left
    · simp only [List.getElem?_toArray, List.getElem?_cons_zero, List.getElem?_cons_succ]
      rfl
    go_simp
    refine (HM3.out _ HT9.out.2.2).mono ?_
    rintro e y10 ⟨rfl, hy⟩
    have HT10 := Lib.hid (HT9.out.kept hy)
    have HRA5 := Lib.hid (HRA4.out.below hy)
    have HRB5 := Lib.hid (HRB4.out.below hy)
    clear hy
    try go_wp2_with fail
    refine hKK.out _ _ ?_ (fun hh21 => ?_)
    · (try dsimp only)
      exact HT10.out
    clear hKK KK
    try simp only [Act.put, List.setIfInBounds_toArray, List.set_cons_zero, List.set_cons_succ]
    refine wpAnyH_take (i := 22) (oi := ?_) (v := ?_) ?_ ?_ ?_ ?_ ?_ ?_ (by assumption) ?_
    rotate_left 2
    · simp only [List.getElem?_toArray, List.getElem?_cons_zero, List.getElem?_cons_succ]
      rfl
    · kernel_rfl
    · kernel_rfl
    · kernel_rfl
    · exact fun _ _ _ h => h
    · refine Or.inl ⟨by rfl, ?_⟩
      intro w hSw
      (try dsimp only at hSw)
      go_simp
      all_goals with_reducible rfl
    simp only [Act.put, List.setIfInBounds_toArray, List.set_cons_zero, List.set_cons_succ]
    refine wpAnyH_take (i := 23) (oi := ?_) (v := ?_) ?_ ?_ ?_ ?_ ?_ ?_ (by assumption) ?_
    rotate_left 2
    · simp only [List.getElem?_toArray, List.getElem?_cons_zero, List.getElem?_cons_succ]
      rfl
    · kernel_rfl
    · kernel_rfl
    · kernel_rfl
    · exact fun _ _ _ h => h
    · refine Or.inl ⟨by rfl, ?_⟩
      intro w hSw
      (try dsimp only at hSw)
      go_simp
      all_goals with_reducible rfl
    simp only [Act.put, List.setIfInBounds_toArray, List.set_cons_zero, List.set_cons_succ]
    refine wpAnyH_take (i := 24) (oi := ?_) (v := undef) ?_ ?_ ?_ ?_ ?_ ?_ (by assumption) ?_
    rotate_left 1
    · simp only [List.getElem?_toArray, List.getElem?_cons_zero, List.getElem?_cons_succ]
      rfl
    · kernel_rfl
    · kernel_rfl
    · kernel_rfl
    · exact fun _ _ _ h => h
    · exact Or.inr ⟨by rfl, rfl⟩
    simp only [Act.put, List.setIfInBounds_toArray, List.set_cons_zero, List.set_cons_succ]
    refine wpAnyH_take (i := 25) (oi := ?_) (v := undef) ?_ ?_ ?_ ?_ ?_ ?_ (by assumption) ?_
    rotate_left 1
    · simp only [List.getElem?_toArray, List.getElem?_cons_zero, List.getElem?_cons_succ]
      rfl
    · kernel_rfl
    · kernel_rfl
    · kernel_rfl
    · exact fun _ _ _ h => h
    · exact Or.inr ⟨by rfl, rfl⟩
    simp only [Act.put, List.setIfInBounds_toArray, List.set_cons_zero, List.set_cons_succ]
    refine wpAnyH_take (i := 26) (oi := ?_) (v := undef) ?_ ?_ ?_ ?_ ?_ ?_ (by assumption) ?_
    rotate_left 1
    · simp only [List.getElem?_toArray, List.getElem?_cons_zero, List.getElem?_cons_succ]
      rfl
    · kernel_rfl
    · kernel_rfl
    · kernel_rfl
    · exact fun _ _ _ h => h
    · exact Or.inr ⟨by rfl, rfl⟩
    simp only [Act.put, List.setIfInBounds_toArray, List.set_cons_zero, List.set_cons_succ]
    refine wpAnyH_take (i := 27) (oi := ?_) (v := ?_) ?_ ?_ ?_ ?_ ?_ ?_ (by assumption) ?_
    rotate_left 2
    · simp only [List.getElem?_toArray, List.getElem?_cons_zero, List.getElem?_cons_succ]
      rfl
    · kernel_rfl
    · kernel_rfl
    · kernel_rfl
    · exact fun _ _ _ h => h
    · refine Or.inl ⟨by rfl, ?_⟩
      intro w hSw
      (try dsimp only at hSw)
      go_simp
      all_goals with_reducible rfl
    simp only [Act.put, List.setIfInBounds_toArray, List.set_cons_zero, List.set_cons_succ]
    refine wpAnyH_take (i := 28) (oi := ?_) (v := ?_) ?_ ?_ ?_ ?_ ?_ ?_ (by assumption) ?_
    rotate_left 2
    · simp only [List.getElem?_toArray, List.getElem?_cons_zero, List.getElem?_cons_succ]
      rfl
    · kernel_rfl
    · kernel_rfl
    · kernel_rfl
    · exact fun _ _ _ h => h
    · refine Or.inl ⟨by rfl, ?_⟩
      intro w hSw
      (try dsimp only at hSw)
      go_simp
      all_goals with_reducible rfl
    simp only [Act.put, List.setIfInBounds_toArray, List.set_cons_zero, List.set_cons_succ]
    refine wpAnyH_take (i := 29) (oi := ?_) (v := ?_) ?_ ?_ ?_ ?_ ?_ ?_ (by assumption) ?_
    rotate_left 2
    · simp only [List.getElem?_toArray, List.getElem?_cons_zero, List.getElem?_cons_succ]
      rfl
    · kernel_rfl
    · kernel_rfl
    · kernel_rfl
    · exact fun _ _ _ h => h
    · refine Or.inl ⟨by rfl, ?_⟩
      intro w hSw
      (try dsimp only at hSw)
      go_simp
      all_goals with_reducible rfl
    simp only [Act.put, List.setIfInBounds_toArray, List.set_cons_zero, List.set_cons_succ]
    refine wpAnyH_done (by kernel_rfl) ?_ _
    go_wp2
    go_ret
    exact ⟨rfl, HT10.out.2.2⟩

set_option maxRecDepth 100000 in
set_option maxHeartbeats 1000000 in
theorem gcmText_walk (k n : List Nat) (A1 : Option Addr) (n1 c1 : Nat) (z1 : List Int) (A2 : Option Addr) (n2 c2 : Nat) (z2 : List Int) (A3 : Option Addr) (n3 c3 : Nat) (z3 : List Int) (w : World) (hk : k.length = 16) (qk : Ae.bytes k) (hn : n.length = 12) (qn : Ae.bytes n) (i1 : Ints .u8 w A1 n1 z1) (x1 : n1 ≤ c1 ∧ c1 ≤ maxLen) (i2 : Ints .u8 w A2 n2 z2) (x2 : n2 ≤ c2 ∧ c2 ≤ maxLen) (i3 : Ints .u8 w A3 n3 z3) (x3 : n3 ≤ c3 ∧ c3 ≤ maxLen) :
    Calls Try.prog 7 #[.agg (cellsN k), .agg (cellsN n), .slice A1 n1 c1, .slice A2 n2 c2, .slice A3 n3 c3] w fun e w' => e = .returned (.bool true) ∧ Below w.heap.size w w' := by
  obtain ⟨l1, m1, q1, r1⟩ := i1.rd
  obtain ⟨l2, m2, q2, r2⟩ := i2.rd
  obtain ⟨l3, m3, q3, r3⟩ := i3.rd
  unfold maxLen at x1 x2 x3
  by_cases h1 : 100 < n1
  · have h1i : (n1 : Int) > 100 := by omega
    have h1j : 100 < (n1 : Int) := by omega
    clear hk qk hn qn i1 i2 i3 m1 q1 r1 m2 q2 r2 m3 q3 r3 h1
    have L0 : Below w.heap.size w ((w.alloc (.cells (cellsN k) 22)).alloc (.cells (cellsN n) 28)) := ((Below.refl _ w).alloc (Nat.le_refl _) _).alloc (by simp) _
    have PL := Lib.hid L0
    clear L0
    go_enter Try.func7, Try.ntmps7
    go_wp2_with fail
    refine (alive_true _).mono ?_
    rintro e w1 ⟨rfl, hb1⟩
    have HA := Lib.hid (PL.out.trans (hb1.mono PL.out.size))
    clear hb1 PL
    go_wp2
    go_ret
    exact ⟨rfl, HA.out⟩
  by_cases h2 : 100 < n2
  · have h1i : ¬ (n1 : Int) > 100 := by omega
    have h1j : ¬ 100 < (n1 : Int) := by omega
    have h2i : (n2 : Int) > 100 := by omega
    have h2j : 100 < (n2 : Int) := by omega
    clear hk qk hn qn i1 i2 i3 m1 q1 r1 m2 q2 r2 m3 q3 r3 h1 h2
    have L0 : Below w.heap.size w ((w.alloc (.cells (cellsN k) 22)).alloc (.cells (cellsN n) 28)) := ((Below.refl _ w).alloc (Nat.le_refl _) _).alloc (by simp) _
    have PL := Lib.hid L0
    clear L0
    go_enter Try.func7, Try.ntmps7
    go_wp2_with fail
    refine (alive_true _).mono ?_
    rintro e w1 ⟨rfl, hb1⟩
    have HA := Lib.hid (PL.out.trans (hb1.mono PL.out.size))
    clear hb1 PL
    go_wp2
    go_ret
    exact ⟨rfl, HA.out⟩
  by_cases h3 : 100 < n3
  · have h1i : ¬ (n1 : Int) > 100 := by omega
    have h1j : ¬ 100 < (n1 : Int) := by omega
    have h2i : ¬ (n2 : Int) > 100 := by omega
    have h2j : ¬ 100 < (n2 : Int) := by omega
    have h3i : (n3 : Int) > 100 := by omega
    have h3j : 100 < (n3 : Int) := by omega
    clear hk qk hn qn i1 i2 i3 m1 q1 r1 m2 q2 r2 m3 q3 r3 h1 h2 h3
    have L0 : Below w.heap.size w ((w.alloc (.cells (cellsN k) 22)).alloc (.cells (cellsN n) 28)) := ((Below.refl _ w).alloc (Nat.le_refl _) _).alloc (by simp) _
    have PL := Lib.hid L0
    clear L0
    go_enter Try.func7, Try.ntmps7
    go_wp2_with fail
    refine (alive_true _).mono ?_
    rintro e w1 ⟨rfl, hb1⟩
    have HA := Lib.hid (PL.out.trans (hb1.mono PL.out.size))
    clear hb1 PL
    go_wp2
    go_ret
    exact ⟨rfl, HA.out⟩
  exact gcmText_small k n A1 n1 c1 l1 A2 n2 c2 l2 A3 n3 c3 l3 w hk qk hn qn r1 m1 q1 ⟨by omega, x1⟩ r2 m2 q2 ⟨by omega, x2⟩ r3 m3 q3 ⟨by omega, x3⟩
end Go.Proofs.Ytnphanhoakbkpaa
