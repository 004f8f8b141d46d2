/- Layer 9's gcm, the document's Open. -/
import Derived.RangeFuncNested
import Derived.RangeFuncBound
import Derived.RangeFuncCalls
import Derived.RangeFuncLeaves
import Derived.RangeFuncBox
import Derived.Shelf.Abstract
import Derived.Shelf.RegionOpen
import Derived.WalkKit
import Derived.OwnWalkIn
import Derived.TacticsInMore
import Derived.LoopN
import Derived.LoopNIn
import Derived.LoopIn
import Derived.WalkSpells
import Derived.WalkLawsBesides
import Derived.Laws.Rows
import Derived.Laws.EntriesVeiled
import Derived.Laws.BitsAllLaws
import Derived.Handy
import Derived.BigQuiet
import Derived.Deep.QuietTactic
import Derived.IntWalk
import Derived.Lib.Hide
import Derived.Outline
import Derived.Test.YtnphanhoakbkpaaRows
import Derived.Test.YtnphanhoakbkpaaAid
import Derived.Test.YtnphanhoakbkpaaPlainAe
import Derived.Test.YtnphanhoakbkpaaPlainAe2
import Derived.Test.YtnphanhoakbkpaaPlainGc
import Derived.Test.YtnphanhoakbkpaaPlainGc2
import Derived.Test.YtnphanhoakbkpaaAesB
import Derived.Test.YtnphanhoakbkpaaAesBox
import Derived.Test.YtnphanhoakbkpaaAesW
import Derived.Test.YtnphanhoakbkpaaAesE
import Derived.Test.YtnphanhoakbkpaaAesK
import Derived.Test.YtnphanhoakbkpaaAesS
import Derived.Test.YtnphanhoakbkpaaAesT
import Derived.Test.YtnphanhoakbkpaaBl
import Derived.Test.YtnphanhoakbkpaaItF
import Derived.Test.YtnphanhoakbkpaaGcA
import Derived.Test.YtnphanhoakbkpaaGcB
import Derived.Test.YtnphanhoakbkpaaGcD
import Derived.Test.YtnphanhoakbkpaaGcE
import Derived.Test.YtnphanhoakbkpaaGcF
import Derived.Test.YtnphanhoakbkpaaGcG
import Derived.Test.YtnphanhoakbkpaaGcR
import Derived.Test.YtnphanhoakbkpaaPlainGc3
import Derived.Test.YtnphanhoakbkpaaPlainGc6
import Derived.Test.YtnphanhoakbkpaaGcT
import Derived.Test.YtnphanhoakbkpaaGcI
import Derived.Test.YtnphanhoakbkpaaGcJ
import Derived.Test.YtnphanhoakbkpaaRfI
import Derived.Test.YtnphanhoakbkpaaRfJ
import Derived.Test.YtnphanhoakbkpaaGcU
import Derived.Test.YtnphanhoakbkpaaGcK
import Derived.Test.YtnphanhoakbkpaaGcL
import Derived.Test.YtnphanhoakbkpaaGcM
import Derived.Test.YtnphanhoakbkpaaGcV
import Derived.Deep.Upon
import Derived.Lib.AppendZeros
namespace Go.Gc
open Go.Proofs.Ytnphanhoakbkpaa
theorem seal_again (key nonce more s : List Nat) (h : 16 ≤ s.length) : sealT key nonce more (ciph key nonce (s.take (s.length - 16))) = s ↔ tag key (b1 nonce) more (s.take (s.length - 16)) = s.drop (s.length - 16) := by
  unfold sealT
  rw [ciph_twice]
  constructor
  · intro e
    have h2 := congrArg (List.drop (s.length - 16)) e
    rwa [List.drop_left' (by rw [List.length_take]; omega)] at h2
  · intro e
    rw [e, List.take_append_drop]
theorem openC_again (key nonce more s : List Nat) (h : 16 ≤ s.length) : openC key nonce more s = if sealT key nonce more (ciph key nonce (s.take (s.length - 16))) = s then (0, ciph key nonce (s.take (s.length - 16))) else (7, []) := by
  unfold openC openT
  rw [if_neg (by omega)]
  by_cases e : tag key (b1 nonce) more (s.take (s.length - 16)) = s.drop (s.length - 16)
  · rw [if_pos e, if_pos ((seal_again key nonce more s h).2 e)]
  · rw [if_neg e, if_neg (fun e2 => e ((seal_again key nonce more s h).1 e2))]
end Go.Gc
namespace Go.Proofs.Ytnphanhoakbkpaa
open Go Go.RowKit Go.Shelf
set_option linter.unusedVariables false
set_option linter.unusedSimpArgs false
/-- The document's Open: key, nonce, first block. -/
structure RsO (w : World) (B : Nat) (key nonce jl : List Nat) (V : World) : Prop where
  k : Obj V B 22 (cellsN key)
  n : Obj V (B + 1) 28 (cellsN nonce)
  j : Obj V (B + 1 + 1) 22 (cellsN jl)
  bel : Below w.heap.size w V
theorem RsO.drew {w V : World} {B : Nat} {key nonce jl : List Nat} (h : RsO w B key nonce jl V) : RsO w B key nonce jl V.drew := ⟨h.k, h.n, h.j, h.bel.drew⟩
theorem RsO.set {w V : World} {B : Nat} {key nonce jl : List Nat} (h : RsO w B key nonce jl V) (hw : w.heap.size = B) (i v : Nat) : RsO w B key nonce (jl.set i v) (V.setCell ⟨B + 1 + 1, i, none⟩ (.int .u8 (v : Int))) :=
  ⟨h.k.far (by simp <;> omega) _, h.n.far (by simp <;> omega) _, h.j.setN i v, h.bel.setCell (by simp; omega) _⟩
theorem RsO.kept {w V V' : World} {B : Nat} {key nonce jl : List Nat} (h : RsO w B key nonce jl V) (hb : Below V.heap.size V V') : RsO w B key nonce jl V' :=
  ⟨h.k.kept hb, h.n.kept hb, h.j.kept hb, h.bel.trans (hb.mono h.bel.size)⟩

set_option maxRecDepth 100000 in
set_option maxHeartbeats 4000000 in
theorem refOpen_any (key nonce : List Nat) (A1 : Option Addr) (n1 c1 : Nat) (more : List Nat) (A2 : Option Addr) (n2 c2 : Nat) (text : List Nat) (w : World) (l1 : key.length = 16) (q1 : Ae.bytes key) (l2 : nonce.length = 12) (q2 : Ae.bytes nonce) (r1 : Rd w A1 more) (m1 : more.length = n1) (b1 : Ae.bytes more) (k1 : n1 ≤ 100000) (r2 : Rd w A2 text) (m2 : text.length = n2) (b2 : Ae.bytes text) (k2 : n2 ≤ 100000 ∧ n2 ≤ c2 ∧ c2 ≤ 9223372036854775807) :
    Calls Try.prog 15 #[.agg (cellsN key), .agg (cellsN nonce), .slice A1 n1 c1, .slice A2 n2 c2] w fun e w' => ∃ A n c, e = .returned (.tuple #[.slice A n c, .int .i64 ((Gc.openC key nonce more text).1 : Int)]) ∧ Rd w' A (Gc.openC key nonce more text).2 ∧ (Gc.openC key nonce more text).2.length = n ∧ n ≤ c ∧ Below w.heap.size w w' := by
  obtain ⟨B, hB⟩ : ∃ B, w.heap.size = B := ⟨_, rfl⟩
  obtain ⟨W2, hW2⟩ : ∃ W2, (w.alloc (.cells (cellsN key) 22)).alloc (.cells (cellsN nonce) 28) = W2 := ⟨_, rfl⟩
  have hb2 : Below w.heap.size w W2 := hW2 ▸ ((Below.refl _ w).alloc (Nat.le_refl _) _).alloc (by simp) _
  by_cases hs : n2 < 16
  · have hsi : (n2 : Int) < 16 := by omega
    have HE : Hid (Gc.openC key nonce more text = (2, [])) := by unfold Hid Gc.openC; rw [if_pos (by rw [m2]; exact hs)]
    rw [HE.out]
    have HB2 := Lib.hid hb2
    have HW2 := Lib.hid hW2
    clear hb2 hW2 r1 r2 m1 m2 hB
    go_enter Try.func15, Try.ntmps15
    go_wp2
    rw [HW2.out]
    refine bodyPost_ret (results_tmp2 rfl _ _ _) rfl ?_
    exact ⟨none, 0, 0, rfl, Rd.nil _ _, rfl, Nat.le_refl _, HB2.out⟩
  have hsi : ¬ (n2 : Int) < 16 := by omega
  obtain ⟨K, hK⟩ : ∃ K, n2 - 16 = K := ⟨_, rfl⟩
  obtain ⟨W3, hW3⟩ : ∃ W3, ((w.alloc (.cells (cellsN key) 22)).alloc (.cells (cellsN nonce) 28)).alloc (.cells #[.int .u8 0, .int .u8 0, .int .u8 0, .int .u8 0, .int .u8 0, .int .u8 0, .int .u8 0, .int .u8 0, .int .u8 0, .int .u8 0, .int .u8 0, .int .u8 0, .int .u8 0, .int .u8 0, .int .u8 0, .int .u8 0] 22) = W3 := ⟨_, rfl⟩
  have hb3 : Below w.heap.size w W3 := hW3 ▸ (((Below.refl _ w).alloc (Nat.le_refl _) _).alloc (by simp) _).alloc (by simp; omega) _
  have HI0 : Hid (RsO w B key nonce (List.replicate 16 0) W3) := by
    refine ⟨?_, ?_, ?_, hb3⟩
    · exact hW3 ▸ hB ▸ ((Obj.new w _ _).alloc _).alloc _
    · have := (new2 w (.cells (cellsN key) 22) 28 (cellsN nonce)).alloc (.cells #[.int .u8 0, .int .u8 0, .int .u8 0, .int .u8 0, .int .u8 0, .int .u8 0, .int .u8 0, .int .u8 0, .int .u8 0, .int .u8 0, .int .u8 0, .int .u8 0, .int .u8 0, .int .u8 0, .int .u8 0, .int .u8 0] 22)
      rw [hB, hW3] at this; exact this
    · have := Obj.new ((w.alloc (.cells (cellsN key) 22)).alloc (.cells (cellsN nonce) 28)) 22 #[.int .u8 0, .int .u8 0, .int .u8 0, .int .u8 0, .int .u8 0, .int .u8 0, .int .u8 0, .int .u8 0, .int .u8 0, .int .u8 0, .int .u8 0, .int .u8 0, .int .u8 0, .int .u8 0, .int .u8 0, .int .u8 0]
      simp only [World.size_alloc, hB] at this; rw [hW3] at this; exact this
  obtain ⟨C, hC⟩ : ∃ C, Gc.ciph key nonce (text.take K) = C := ⟨_, rfl⟩
  have lT : (text.take K).length = K := by rw [List.length_take]; omega
  have lC : C.length = K := by rw [← hC, Gc.ciph_len, lT]
  have qC : Ae.bytes C := hC ▸ Gc.ciph_bytes q1 q2 (bytes_take b2 K)
  obtain ⟨Z, hZ⟩ : ∃ Z, Gc.sealT key nonce more C = Z := ⟨_, rfl⟩
  have HOP : Hid (Gc.openC key nonce more text = if Z = text then (0, C) else (7, [])) := by
    unfold Hid; rw [Gc.openC_again key nonce more text (by omega), m2, hK, hC, hZ]
  have HST : Hid (∀ W, Below w.heap.size w W → Calls Try.prog 31 #[.agg (cellsN key), .agg (cellsN (Gc.b2 nonce)), .slice A2 K c2] W fun e w' => ∃ v, e = .returned v ∧ w'.ownsRow W.heap.size 5 1 v K (C.map u8v) ∧ Below W.heap.size W w') := fun W hb => by
    have := refStream_any key (Gc.b2 nonce) A2 c2 (text.take K) W l1 (b2_len l2) q1 (Gc.b2_bytes q2) ((r2.take K (by omega)).below hb) (bytes_take b2 K) (by omega)
    rw [lT] at this
    rw [← hC]; exact this
  have HSL : Hid (∀ W F d, Below w.heap.size w W → Rd W F C → Calls Try.prog 18 #[.agg (cellsN key), .agg (cellsN nonce), .slice A1 n1 c1, .slice F K d] W fun e w' => ∃ v, e = .returned v ∧ w'.ownsRow W.heap.size 5 1 v (K + 16) (Z.map u8v) ∧ Below W.heap.size W w') := fun W F d hb hr => by
    rw [← hZ]; exact refSeal_any key nonce A1 n1 c1 more F K d C W l1 q1 l2 q2 (r1.below hb) m1 b1 k1 hr lC qC (by omega)
  have HSA : Hid (∀ W F d, Below w.heap.size w W → Rd W F Z → Calls Try.prog 16 #[.slice F (K + 16) d, .slice A2 n2 c2] W fun e w' => e = .returned (.bool (decide (Z = text))) ∧ ∃ q, w' = W.drewN q) := fun W F d hb hr =>
    same_any F A2 d c2 (K + 16) n2 Z text W hr (r2.below hb) (by rw [← hZ, Gc.sealT_len, lC]) m2 (by omega)
  have HLC := Lib.hid lC
  have HPD := Lib.hid (Gc.pad12 l2)
  have HB2 := Lib.hid (Gc.b2_pad l2)
  have HIK := Lib.hid (size16 l1)
  have HIN := Lib.hid (size12 l2)
  have HI2 := Lib.hid (size16 (b2_len l2))
  have HLN := Lib.hid l2
  have HW3 := Lib.hid hW3
  have HB := Lib.hid hB
  have hKc : K ≤ c2 := by omega
  have hKi : IntKind.i64.wrap ((n2 : Int) - 16) = (K : Int) := by rw [IntWalk.i64_in _ (by omega)]; omega
  have hKn : n2 = K + 16 := by omega
  have HKN := Lib.hid hKn
  clear hb2 hW2 hb3 hW3 lC qC lT hC hZ r1 m1 b1 k1 r2 m2 b2 l1 l2 q1 q2 hKn hK hs
  go_enter Try.func15, Try.ntmps15
  go_wp2
  rw [HW3.out]
  clear hB
  go_loopw [11] (fun p V => ∃ i : Nat, i ≤ 12 ∧ p = .int .i64 i ∧ RsO w B key nonce (Ae.upto (fun i => nonce.getD i 0) (List.replicate 16 0) i) V) (fun p _ => 12 - (intOf p).toNat)
  case atStart => exact ⟨0, by omega, rfl, by rw [Ae.upto_zero]; exact HI0.out⟩
  case round =>
    clear HI0
    obtain ⟨i, hi, rfl, hI⟩ := hrel
    by_cases hlt : i < 12
    · have hji : (i : Int) < 12 := by omega
      have hj16 : (i : Int) < 16 := by omega
      have g0 := hI.n.getN i (by rw [HLN.out]; exact hlt)
      have g2 := hI.j.free i
      obtain ⟨v2, g3⟩ : ∃ v, wr.cell? ⟨B + 1 + 1, i, none⟩ = some v := ⟨_, hI.j.getN i (by rw [Ae.upto_len]; simp; omega)⟩
      have HNX : Hid (RsO w B key nonce (Ae.upto (fun i => nonce.getD i 0) (List.replicate 16 0) (i + 1)) (wr.setCell ⟨B + 1 + 1, i, none⟩ (.int .u8 ((nonce.getD i 0 : Nat) : Int)))) := by
        have := hI.set HB.out i (nonce.getD i 0)
        rwa [Ae.upto_set (fun i => nonce.getD i 0) (List.replicate 16 0) i (by simp; omega)] at this
      clear hI
      generalize nonce.getD i 0 = xx at *
      go_wp2
      go_roundw
      case rel => exact ⟨i + 1, by omega, by go_num, HNX.out⟩
      case measure => simp [intOf]; omega
    · obtain rfl : i = 12 := by omega
      rw [HPD.out] at hI
      have HJ2 : Hid (RsO w B key nonce (Gc.b2 nonce) (wr.setCell ⟨B + 1 + 1, 15, none⟩ (.int .u8 2))) := by
        have := hI.set HB.out 15 2
        rwa [HB2.out] at this
      have g2 := hI.j.free 15
      obtain ⟨v2, g3⟩ : ∃ v, wr.cell? ⟨B + 1 + 1, 15, none⟩ = some v := ⟨_, hI.j.getN 15 (by rw [← HPD.out, Ae.upto_len]; decide)⟩
      clear hI hi hlt
      go_wp2
      obtain ⟨wj, hwj⟩ : ∃ wj, (wr.setCell ⟨B + 1 + 1, 15, none⟩ (.int .u8 2)).drew = wj := ⟨_, rfl⟩
      have HJ3 : Hid (RsO w B key nonce (Gc.b2 nonce) wj) := hwj ▸ HJ2.out.drew
      have HSTj := Lib.hid (HST.out _ HJ3.out.bel)
      clear HJ2 g2 g3 HPD HB2
      refine wp_region_held_drew (S := (fun w' => RsO w B key nonce (Gc.b2 nonce) w')) (by kernel_rfl) (hwj ▸ HJ3.out) (fun hHeld => ?_)
      rw [hwj]
      refine wpAnyH_take (i := 0) (oi := ?_) (v := ?_) ?_ ?_ ?_ ?_ ?_ ?_ (by assumption) ?_
      rotate_left 2
      · simp only [List.getElem?_toArray, List.getElem?_cons_zero, List.getElem?_cons_succ]
        rfl
      · kernel_rfl
      · kernel_rfl
      · kernel_rfl
      · exact fun _ _ _ h => h
      · refine yieldsIf_load_row (g := B) (t := 22) (cs := cellsN key) (ty := 22) (x := (.tmp 4)) ?_ ?_ ?_ ?_ Try.underlying22 rfl HIK.out
        · rfl
        · rfl
        · rfl
        · exact fun w hSw => hSw.k
      simp only [Act.put, List.setIfInBounds_toArray, List.set_cons_zero, List.set_cons_succ]
      refine wpAnyH_take (i := 1) (oi := ?_) (v := ?_) ?_ ?_ ?_ ?_ ?_ ?_ (by assumption) ?_
      rotate_left 2
      · simp only [List.getElem?_toArray, List.getElem?_cons_zero, List.getElem?_cons_succ]
        rfl
      · kernel_rfl
      · kernel_rfl
      · kernel_rfl
      · exact fun _ _ _ h => h
      · refine yieldsIf_load_row (g := (B + 1 + 1)) (t := 22) (cs := cellsN (Gc.b2 nonce)) (ty := 22) (x := (.tmp 10)) ?_ ?_ ?_ ?_ Try.underlying22 rfl HI2.out
        · rfl
        · rfl
        · rfl
        · exact fun w hSw => hSw.j
      simp only [Act.put, List.setIfInBounds_toArray, List.set_cons_zero, List.set_cons_succ]
      refine wpAnyH_take (i := 2) (oi := ?_) (v := ?_) ?_ ?_ ?_ ?_ ?_ ?_ (by assumption) ?_
      rotate_left 2
      · simp only [List.getElem?_toArray, List.getElem?_cons_zero, List.getElem?_cons_succ]
        rfl
      · kernel_rfl
      · kernel_rfl
      · kernel_rfl
      · exact fun _ _ _ h => h
      · refine Or.inl ⟨by rfl, ?_⟩
        intro w hSw
        (try dsimp only at hSw)
        go_simp
        all_goals with_reducible rfl
      simp only [Act.put, List.setIfInBounds_toArray, List.set_cons_zero, List.set_cons_succ]
      refine wpAnyH_take (i := 3) (oi := ?_) (v := ?_) ?_ ?_ ?_ ?_ ?_ ?_ (by assumption) ?_
      rotate_left 2
      · simp only [List.getElem?_toArray, List.getElem?_cons_zero, List.getElem?_cons_succ]
        rfl
      · kernel_rfl
      · kernel_rfl
      · kernel_rfl
      · exact fun _ _ _ h => h
      · refine Or.inl ⟨by rfl, ?_⟩
        intro w hSw
        (try dsimp only at hSw)
        go_simp
        all_goals with_reducible rfl
      simp only [Act.put, List.setIfInBounds_toArray, List.set_cons_zero, List.set_cons_succ]
      refine wpAnyH_take (i := 4) (oi := ?_) (v := ?_) ?_ ?_ ?_ ?_ ?_ ?_ (by assumption) ?_
      rotate_left 2
      · simp only [List.getElem?_toArray, List.getElem?_cons_zero, List.getElem?_cons_succ]
        rfl
      · kernel_rfl
      · kernel_rfl
      · kernel_rfl
      · exact fun _ _ _ h => h
      · refine Or.inl ⟨by rfl, ?_⟩
        intro w hSw
        (try dsimp only at hSw)
        go_simp
        all_goals with_reducible rfl
      simp only [Act.put, List.setIfInBounds_toArray, List.set_cons_zero, List.set_cons_succ]
      refine wpAnyH_take (i := 5) (oi := ?_) (v := ?_) ?_ ?_ ?_ ?_ ?_ ?_ (by assumption) ?_
      rotate_left 2
      · simp only [List.getElem?_toArray, List.getElem?_cons_zero, List.getElem?_cons_succ]
        rfl
      · kernel_rfl
      · kernel_rfl
      · kernel_rfl
      · exact fun _ _ _ h => h
      · refine Or.inl ⟨by rfl, ?_⟩
        intro w hSw
        (try dsimp only at hSw)
        go_simp
        all_goals with_reducible rfl
      simp only [Act.put, List.setIfInBounds_toArray, List.set_cons_zero, List.set_cons_succ]
      refine wpAnyH_take (i := 6) (oi := ?_) (v := ?_) ?_ ?_ ?_ ?_ ?_ ?_ (by assumption) ?_
      rotate_left 2
      · simp only [List.getElem?_toArray, List.getElem?_cons_zero, List.getElem?_cons_succ]
        rfl
      · kernel_rfl
      · kernel_rfl
      · kernel_rfl
      · exact fun _ _ _ h => h
      · refine Or.inl ⟨by rfl, ?_⟩
        intro w hSw
        (try dsimp only at hSw)
        go_simp
        all_goals with_reducible rfl
      simp only [Act.put, List.setIfInBounds_toArray, List.set_cons_zero, List.set_cons_succ]
      refine wpAnyH_ready (rs := [7]) (by kernel_rfl) (by simp) ?_
      refine AllReadyH.cons (o := ?_) ?_ (fun KK hKK => ?_) AllReadyH.nil
      rotate_left
      · simp only [List.getElem?_toArray, List.getElem?_cons_zero, List.getElem?_cons_succ]
        rfl
      go_simp
      refine HSTj.out.mono ?_
      rintro e w5 ⟨v5, rfl, ho5, hb5⟩
      have HJ5 := Lib.hid (HJ3.out.kept hb5)
      have HV5 := Lib.hid ho5
      clear hb5 ho5
      try go_wp2_with fail
      refine hKK.out _ _ ?_ (fun hh => ?_)
      · (try dsimp only)
        exact HJ5.out
      clear hKK KK
      try simp only [Act.put, List.setIfInBounds_toArray, List.set_cons_zero, List.set_cons_succ]
      refine wpAnyH_take (i := 8) (oi := ?_) (v := ?_) ?_ ?_ ?_ ?_ ?_ ?_ (by assumption) ?_
      rotate_left 2
      · simp only [List.getElem?_toArray, List.getElem?_cons_zero, List.getElem?_cons_succ]
        rfl
      · kernel_rfl
      · kernel_rfl
      · kernel_rfl
      · exact fun _ _ _ h => h
      · refine Or.inl ⟨by rfl, ?_⟩
        intro w hSw
        (try dsimp only at hSw)
        go_simp
        all_goals with_reducible rfl
      simp only [Act.put, List.setIfInBounds_toArray, List.set_cons_zero, List.set_cons_succ]
      refine wpAnyH_done (by kernel_rfl) ?_ _
      go_wp2_with (first
        | (refine wpList_load_row rfl 22 (.tmp 4) rfl B rfl _ _ _ _ HJ5.out.k Try.underlying22 rfl HIK.out ?_)
        | (refine wpList_load_row rfl 28 (.tmp 5) rfl (B + 1) rfl _ _ _ _ HJ5.out.n Try.underlying28 rfl HIN.out ?_))
      obtain ⟨F5, d5, e5, hl5, hd5, hD5, hr5⟩ := own_cap HV5.out
      cases e5
      refine (HSL.out _ _ _ HJ5.out.bel hr5).mono ?_
      rintro e w6 ⟨v6, rfl, ho6, hb6⟩
      have HL6 := Lib.hid (HJ5.out.bel.trans (hb6.mono HJ5.out.bel.size))
      have HR6 := Lib.hid (hr5.below hb6)
      obtain ⟨F6, d6, rfl, _, _, _, hr6⟩ := own_cap ho6
      clear ho6 hb6 hr5 HV5 HJ5 HJ3 HSTj hwj
      go_wp2_with fail
      refine (HSA.out _ _ _ HL6.out hr6).mono ?_
      rintro e w7 ⟨rfl, q, hq⟩
      have hb7 := below_drewN' hq
      have HL7 := Lib.hid (HL6.out.trans (hb7.mono HL6.out.size))
      have HR7 := Lib.hid (HR6.out.below hb7)
      clear hq hb7 hr6 HL6 HR6
      obtain ⟨b, hb⟩ : ∃ b, decide (Z = text) = b := ⟨_, rfl⟩
      rw [hb]
      have HD := Lib.hid hb
      cases b
      · have hz : ¬ Z = text := by have := HD.out; simpa using this
        have HZ := Lib.hid (HOP.out.trans (if_neg hz))
        clear hz hb
        go_wp2
        refine bodyPost_ret (results_tmp2 rfl _ _ _) rfl ?_
        rw [HZ.out]
        exact ⟨none, 0, 0, rfl, Rd.nil _ _, rfl, Nat.le_refl _, HL7.out⟩
      · have hz : Z = text := by have := HD.out; simpa using this
        have HZ := Lib.hid (HOP.out.trans (if_pos hz))
        clear hz hb
        go_wp2
        refine bodyPost_ret (results_tmp2 rfl _ _ _) rfl ?_
        rw [HZ.out]
        exact ⟨F5, K, d5, rfl, HR7.out, HLC.out, hd5, HL7.out⟩
end Go.Proofs.Ytnphanhoakbkpaa
