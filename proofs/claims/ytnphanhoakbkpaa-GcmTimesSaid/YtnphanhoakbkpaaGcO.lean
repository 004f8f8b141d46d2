/- Layer 9's gcm, walked: GcmField. -/
import Derived.RangeFuncNested
import Derived.RangeFuncBound
import Derived.RangeFuncCalls
import Derived.RangeFuncLeaves
import Derived.RangeFuncBox
import Derived.Shelf.Abstract
import Derived.Shelf.RegionOpen
import Derived.WalkKit
import Derived.OwnWalkIn
import Derived.TacticsInMore
import Derived.LoopN
import Derived.LoopNIn
import Derived.LoopIn
import Derived.WalkSpells
import Derived.WalkLawsBesides
import Derived.Laws.Rows
import Derived.Laws.EntriesVeiled
import Derived.Laws.BitsAllLaws
import Derived.Handy
import Derived.BigQuiet
import Derived.Deep.QuietTactic
import Derived.IntWalk
import Derived.Lib.Hide
import Derived.Outline
import Derived.Test.YtnphanhoakbkpaaRows
import Derived.Test.YtnphanhoakbkpaaAid
import Derived.Test.YtnphanhoakbkpaaPlainAe
import Derived.Test.YtnphanhoakbkpaaPlainAe2
import Derived.Test.YtnphanhoakbkpaaPlainGc
import Derived.Test.YtnphanhoakbkpaaPlainGc2
import Derived.Test.YtnphanhoakbkpaaAesB
import Derived.Test.YtnphanhoakbkpaaAesBox
import Derived.Test.YtnphanhoakbkpaaAesW
import Derived.Test.YtnphanhoakbkpaaAesE
import Derived.Test.YtnphanhoakbkpaaAesK
import Derived.Test.YtnphanhoakbkpaaAesS
import Derived.Test.YtnphanhoakbkpaaAesT
import Derived.Test.YtnphanhoakbkpaaBl
import Derived.Test.YtnphanhoakbkpaaItF
import Derived.Test.YtnphanhoakbkpaaGcA
import Derived.Test.YtnphanhoakbkpaaGcB
import Derived.Test.YtnphanhoakbkpaaGcD
import Derived.Test.YtnphanhoakbkpaaGcE
import Derived.Test.YtnphanhoakbkpaaGcF
import Derived.Test.YtnphanhoakbkpaaGcG
import Derived.Test.YtnphanhoakbkpaaGcH
import Derived.Test.YtnphanhoakbkpaaGcI
import Derived.Test.YtnphanhoakbkpaaGcJ
import Derived.Test.YtnphanhoakbkpaaGcK
import Derived.Test.YtnphanhoakbkpaaGcL
import Derived.Test.YtnphanhoakbkpaaGcM
import Derived.Test.YtnphanhoakbkpaaPlainGc3
namespace Go.Proofs.Ytnphanhoakbkpaa
open Go Go.RowKit Go.Shelf
set_option linter.unusedVariables false
set_option linter.unusedSimpArgs false
theorem eqg16 : Try.prog.eqGuardType Try.prog.depth 22 = false := by kernel_rfl
theorem eq16s {x : List Nat} (hx : x.length = 16) (qx : Ae.bytes x) : ∀ w, (binOp .eql 22 (.agg (cellsN x)) (.agg (cellsN x))).run Try.prog w = .ok (.bool true) w := fun w => by
  have := eq16 hx hx qx qx w
  rwa [show decide (x = x) = true from decide_eq_true rfl] at this
theorem then_false {K : Act → World → Prop} {e : Exit} {a : Act} {w : World} (h : Exit.then K (fun _ _ _ => False) e a w) : e = .normal ∧ K a w := by
  cases e with
  | normal => exact ⟨rfl, h⟩
  | _ => exact h.elim
/-- What GcmField holds: its blocks, and two sums under way. -/
structure FiI (w : World) (B S : Nat) (a b c s t : List Nat) (V : World) : Prop where
  a : Obj V B 22 (cellsN a)
  b : Obj V (B + 1) 22 (cellsN b)
  c : Obj V (B + 1 + 1) 22 (cellsN c)
  s : Obj V S 22 (cellsN s)
  t : Obj V (S + 1) 22 (cellsN t)
  bel : Below w.heap.size w V
theorem FiI.kept {w V V' : World} {B S : Nat} {a b c s t : List Nat} (h : FiI w B S a b c s t V) (hb : Below V.heap.size V V') : FiI w B S a b c s t V' :=
  ⟨h.a.kept hb, h.b.kept hb, h.c.kept hb, h.s.kept hb, h.t.kept hb, h.bel.trans (hb.mono h.bel.size)⟩
theorem FiI.upd {w V V' : World} {B S g : Nat} {a b c s t : List Nat} (h : FiI w B S a b c s t V) (hb : Upd g V V') (hg : S + 1 < g) (hS : B + 3 ≤ S) (hw : w.heap.size = B) : FiI w B S a b c s t V' :=
  ⟨h.a.upd hb (by omega), h.b.upd hb (by omega), h.c.upd hb (by omega), h.s.upd hb (by omega), h.t.upd hb (by omega), Upd.below h.bel (by omega) hb⟩
theorem FiI.setS {w V : World} {B S : Nat} {a b c s t : List Nat} (h : FiI w B S a b c s t V) (hS : B + 3 ≤ S) (hw : w.heap.size = B) (j v : Nat) : FiI w B S a b c (s.set j v) t (V.setCell ⟨S, j, none⟩ (.int .u8 (v : Int))) :=
  ⟨h.a.far (by simp; omega) _, h.b.far (by simp; omega) _, h.c.far (by simp; omega) _, h.s.setN j v, h.t.far (by simp) _, h.bel.setCell (by simp; omega) _⟩
theorem FiI.setT {w V : World} {B S : Nat} {a b c s t : List Nat} (h : FiI w B S a b c s t V) (hS : B + 3 ≤ S) (hw : w.heap.size = B) (j v : Nat) : FiI w B S a b c s (t.set j v) (V.setCell ⟨S + 1, j, none⟩ (.int .u8 (v : Int))) :=
  ⟨h.a.far (by simp; omega) _, h.b.far (by simp; omega) _, h.c.far (by simp; omega) _, h.s.far (by simp) _, h.t.setN j v, h.bel.setCell (by simp; omega) _⟩
theorem FiI.drew {w V : World} {B S : Nat} {a b c s t : List Nat} (h : FiI w B S a b c s t V) : FiI w B S a b c s t V.drew := ⟨h.a, h.b, h.c, h.s, h.t, h.bel.drew⟩
theorem xl_upto {b c : List Nat} : Ae.upto (fun i => b.getD i 0 ^^^ c.getD i 0) (List.replicate 16 0) 16 = Gc.xl b c := by
  rw [Ae.upto_full _ _ _ (by simp)]; rfl

set_option maxRecDepth 100000 in
set_option maxHeartbeats 4000000 in
theorem gcmField_walk (a b c : List Nat) (w : World) (ha : a.length = 16) (qa : Ae.bytes a) (hb : b.length = 16) (qb : Ae.bytes b) (hc : c.length = 16) (qc : Ae.bytes c) :
    Calls Try.prog 6 #[.agg (cellsN a), .agg (cellsN b), .agg (cellsN c)] w fun e w' => e = .returned (.bool true) ∧ Below w.heap.size w w' := by
  obtain ⟨B, hB⟩ : ∃ B, w.heap.size = B := ⟨_, rfl⟩
  have la := Gc.nb16_lt ha qa
  have lb := Gc.nb16_lt hb qb
  have lc := Gc.nb16_lt hc qc
  obtain ⟨x, hx⟩ : ∃ x, Gc.bn (Gc.mul (Gc.nb a) (Gc.nb b)) = x := ⟨_, rfl⟩
  obtain ⟨y, hy⟩ : ∃ y, Gc.bn (Gc.mul (Gc.nb a) (Gc.nb c)) = y := ⟨_, rfl⟩
  have lx : x.length = 16 := hx ▸ Gc.bn_len _
  have ly : y.length = 16 := hy ▸ Gc.bn_len _
  have qx : Ae.bytes x := hx ▸ Gc.bn_bytes _
  have qy : Ae.bytes y := hy ▸ Gc.bn_bytes _
  have HT1 : Hid (∀ W, Calls Try.prog 10 #[.agg (cellsN a), .agg (cellsN b)] W fun e w' => e = .returned (.agg (cellsN x)) ∧ Below W.heap.size W w') := fun W => hx ▸ Times_any a b W ha hb qa qb
  have HT2 : Hid (∀ W, Calls Try.prog 10 #[.agg (cellsN a), .agg (cellsN c)] W fun e w' => e = .returned (.agg (cellsN y)) ∧ Below W.heap.size W w') := fun W => hy ▸ Times_any a c W ha hc qa qc
  have HT3 : Hid (∀ W, Calls Try.prog 10 #[.agg (cellsN b), .agg (cellsN a)] W fun e w' => e = .returned (.agg (cellsN x)) ∧ Below W.heap.size W w') := fun W => by
    rw [← hx, Gc.mul_comm la lb]; exact Times_any b a W hb ha qb qa
  have HT4 : Hid (∀ W, Calls Try.prog 10 #[.agg (cellsN a), .agg (cellsN (Gc.xl b c))] W fun e w' => e = .returned (.agg (cellsN (Gc.xl x y))) ∧ Below W.heap.size W w') := fun W => by
    have := Times_any a (Gc.xl b c) W ha (Gc.xl_len _ _) qa (Gc.xl_bytes hb hc qb qc)
    rw [Gc.nb_xl hb hc qb qc, Gc.mul_xor, ← Gc.bn_xor (Gc.mul_lt lb) (Gc.mul_lt lc), hx, hy] at this
    exact this
  have HT5 : Hid (∀ W, Calls Try.prog 10 #[.agg (cellsN a), .agg #[.int .u8 128, .int .u8 0, .int .u8 0, .int .u8 0, .int .u8 0, .int .u8 0, .int .u8 0, .int .u8 0, .int .u8 0, .int .u8 0, .int .u8 0, .int .u8 0, .int .u8 0, .int .u8 0, .int .u8 0, .int .u8 0]] W fun e w' => e = .returned (.agg (cellsN a)) ∧ Below W.heap.size W w') := fun W => by
    have := Times_any a (128 :: List.replicate 15 0) W ha rfl qa (by unfold Ae.bytes; decide)
    rw [Gc.nb_one, Gc.mul_one la, Gc.bn_nb ha qa] at this
    exact this
  have e1 := eq16s lx qx
  have e2 := eq16s (Gc.xl_len x y) (Gc.xl_bytes lx ly qx qy)
  have e3 := eq16s ha qa
  have eqg := eqg16
  clear hx hy
  obtain ⟨W3, hW3⟩ : ∃ W3, ((w.alloc (.cells (cellsN a) 22)).alloc (.cells (cellsN b) 22)).alloc (.cells (cellsN c) 22) = W3 := ⟨_, rfl⟩
  have L0 : Below w.heap.size w W3 := hW3 ▸ (((Below.refl _ w).alloc (Nat.le_refl _) _).alloc (by simp) _).alloc (by simp; omega) _
  have s3 : W3.heap.size = B + 3 := by rw [← hW3]; simp [hB]
  have O0 : Obj W3 B 22 (cellsN a) := hW3 ▸ hB ▸ ((Obj.new w _ _).alloc _).alloc _
  have O1 : Obj W3 (B + 1) 22 (cellsN b) := by
    have := (new2 w (.cells (cellsN a) 22) 22 (cellsN b)).alloc (.cells (cellsN c) 22)
    rw [hB, hW3] at this; exact this
  have O2 : Obj W3 (B + 1 + 1) 22 (cellsN c) := by
    have := Obj.new ((w.alloc (.cells (cellsN a) 22)).alloc (.cells (cellsN b) 22)) 22 (cellsN c)
    simp only [World.size_alloc, hB] at this; rw [hW3] at this; exact this
  have HIA := Lib.hid (size16 ha)
  have HIB := Lib.hid (size16 hb)
  have HIC := Lib.hid (size16 hc)
  have HIX := Lib.hid (size16 lx)
  have HIY := Lib.hid (size16 ly)
  have HIS := Lib.hid (size16 (Gc.xl_len b c))
  have HIT := Lib.hid (size16 (Gc.xl_len x y))
  have HP := Lib.hid (And.intro L0 (And.intro O0 (And.intro O1 O2)))
  have HW3 := Lib.hid hW3
  have HLA := Lib.hid ha
  have HLB := Lib.hid hb
  have HLC := Lib.hid hc
  have HLX := Lib.hid lx
  have HLY := Lib.hid ly
  have HQB := Lib.hid qb
  have HQC := Lib.hid qc
  have HQX := Lib.hid qx
  have HQY := Lib.hid qy
  have HB := Lib.hid hB
  clear L0 O0 O1 O2 hW3 ha hb hc qa qb qc la lb lc lx ly qx qy
  go_enter Try.func6, Try.ntmps6
  go_wp2_with fail
  rw [HW3.out]
  refine (alive_true _).mono ?_
  rintro e w1 ⟨rfl, hb1⟩
  obtain ⟨S, hS⟩ : ∃ S, w1.heap.size = S := ⟨_, rfl⟩
  have hSB : B + 3 ≤ S := by have := hb1.size; omega
  obtain ⟨W5, hW5⟩ : ∃ W5, (w1.alloc (.cells #[.int .u8 0, .int .u8 0, .int .u8 0, .int .u8 0, .int .u8 0, .int .u8 0, .int .u8 0, .int .u8 0, .int .u8 0, .int .u8 0, .int .u8 0, .int .u8 0, .int .u8 0, .int .u8 0, .int .u8 0, .int .u8 0] 22)).alloc (.cells #[.int .u8 0, .int .u8 0, .int .u8 0, .int .u8 0, .int .u8 0, .int .u8 0, .int .u8 0, .int .u8 0, .int .u8 0, .int .u8 0, .int .u8 0, .int .u8 0, .int .u8 0, .int .u8 0, .int .u8 0, .int .u8 0] 22) = W5 := ⟨_, rfl⟩
  have k5 : Below w1.heap.size w1 W5 := hW5 ▸ ((Below.refl _ w1).alloc (Nat.le_refl _) _).alloc (by simp) _
  have k35 := hb1.trans (k5.mono hb1.size)
  have HF0 : Hid (FiI w B S a b c (List.replicate 16 0) (List.replicate 16 0) W5) := by
    obtain ⟨h0, h1, h2, h3⟩ := HP.out
    refine ⟨h1.kept k35, h2.kept k35, h3.kept k35, ?_, ?_, h0.trans (k35.mono h0.size)⟩
    · exact hW5 ▸ hS ▸ (Obj.new w1 _ _).alloc _
    · have := Obj.new (w1.alloc (.cells #[.int .u8 0, .int .u8 0, .int .u8 0, .int .u8 0, .int .u8 0, .int .u8 0, .int .u8 0, .int .u8 0, .int .u8 0, .int .u8 0, .int .u8 0, .int .u8 0, .int .u8 0, .int .u8 0, .int .u8 0, .int .u8 0] 22)) 22 #[.int .u8 0, .int .u8 0, .int .u8 0, .int .u8 0, .int .u8 0, .int .u8 0, .int .u8 0, .int .u8 0, .int .u8 0, .int .u8 0, .int .u8 0, .int .u8 0, .int .u8 0, .int .u8 0, .int .u8 0, .int .u8 0]
      rw [World.size_alloc, hS, hW5] at this; exact this
  have HW5 := Lib.hid hW5
  clear k5 k35 hb1 hW5 HP
  go_wp2
  rw [HW5.out]
  clear hS
  go_loopw [9] (fun i wr => ∃ j : Nat, j ≤ 16 ∧ i = .int .i64 j ∧ FiI w B S a b c (Ae.upto (fun i => b.getD i 0 ^^^ c.getD i 0) (List.replicate 16 0) j) (List.replicate 16 0) wr) (fun i _ => 16 - (intOf i).toNat)
  case atStart => exact ⟨0, by omega, rfl, by rw [Ae.upto_zero]; exact HF0.out⟩
  case round =>
    clear HF0
    obtain ⟨j, hj, rfl, hF⟩ := hrel
    have HF := Lib.hid hF
    by_cases hlt : j < 16
    · have hji : (j : Int) < 16 := by omega
      have g0 := hF.b.getN j (by rw [HLB.out]; exact hlt)
      have g1 := hF.c.getN j (by rw [HLC.out]; exact hlt)
      have g2 := hF.s.free j
      obtain ⟨v2, g3⟩ : ∃ v, wr.cell? ⟨S, j, none⟩ = some v := ⟨_, hF.s.getN j (by rw [Ae.upto_len]; simpa using hlt)⟩
      have hxr := u8_xor_nat (b.getD j 0) (c.getD j 0) (by rw [List.getD_eq_getElem?_getD, List.getElem?_eq_getElem (by rw [HLB.out]; exact hlt)]; exact HQB.out _ (List.getElem_mem _)) (by rw [List.getD_eq_getElem?_getD, List.getElem?_eq_getElem (by rw [HLC.out]; exact hlt)]; exact HQC.out _ (List.getElem_mem _))
      have HNX : Hid (FiI w B S a b c (Ae.upto (fun i => b.getD i 0 ^^^ c.getD i 0) (List.replicate 16 0) (j + 1)) (List.replicate 16 0) (wr.drew.setCell ⟨S, j, none⟩ (.int .u8 ((b.getD j 0 ^^^ c.getD j 0 : Nat) : Int)))) := by
        have := hF.drew.setS hSB HB.out j (b.getD j 0 ^^^ c.getD j 0)
        rwa [Ae.upto_set (fun i => b.getD i 0 ^^^ c.getD i 0) (List.replicate 16 0) j (by simpa using hlt)] at this
      clear hF
      generalize b.getD j 0 = p at *
      generalize c.getD j 0 = q at *
      go_wp2
      go_region
      go_wp2
      go_roundw
      case rel => exact ⟨j + 1, by omega, by go_num, HNX.out⟩
      case measure => simp [intOf]; omega
    · obtain rfl : j = 16 := by omega
      rw [xl_upto] at hF
      clear HF
      have HF := Lib.hid hF
      have HF0 : Hid (FiI w B S a b c (Gc.xl b c) (List.replicate 16 0) wr.drew) := hF.drew
      clear hF hj hlt
      go_wp2
      have HSX : Hid ((cellsN (List.replicate 16 0)).size = (cellsN x).size) := by unfold Hid; rw [cellsN_size, cellsN_size, HLX.out]; rfl
      have HSY : Hid ((cellsN (List.replicate 16 0)).size = (cellsN y).size) := by unfold Hid; rw [cellsN_size, cellsN_size, HLY.out]; rfl
      refine Code.wp_mono (Q := Exit.then (fun aa W => ∃ X Y, S + 1 < X ∧ S + 1 < Y ∧ X ≠ Y ∧ aa = { tmps := #[.agg (cellsN a), .agg (cellsN b), .agg (cellsN c), .pointer (some ⟨B, 0, none⟩), .pointer (some ⟨B + 1, 0, none⟩), .pointer (some ⟨B + 1 + 1, 0, none⟩), .bool false, .pointer (some ⟨S, 0, none⟩), .pointer (some ⟨S + 1, 0, none⟩), .int .i64 16, .pointer (some ⟨X, 0, none⟩), .pointer (some ⟨Y, 0, none⟩), undef, .bool true, .bool false, .int .i64 16, .bool false, u17, u18, u19, u20, u21, u22, u23, u24, u25, u26, u27, .agg (cellsN a), .agg (cellsN b), .agg (cellsN x), .agg (cellsN a), .agg (cellsN c), .agg (cellsN y), undef, undef, undef, undef, undef, undef, undef, undef, undef, undef, undef, undef, undef, undef, undef, undef, undef, undef, undef, undef, undef, undef, undef, undef, undef, undef, undef, undef, undef, undef, undef, undef], defers := [] } ∧ FiI w B S a b c (Gc.xl b c) (List.replicate 16 0) W ∧ Obj W X 22 (cellsN x) ∧ Obj W Y 22 (cellsN y)) (fun _ _ _ => False)) ?cont ?reg
      case reg =>
        refine wp_region_held_drew (S := (fun wq => FiI w B S a b c (Gc.xl b c) (List.replicate 16 0) wq)) (by kernel_rfl) HF0.out (fun hHeld => ?_)
        refine wpAnyH_take (i := 0) (oi := ?_) (v := ?_) ?_ ?_ ?_ ?_ ?_ ?_ (by assumption) ?_
        rotate_left 2
        · simp only [List.getElem?_toArray, List.getElem?_cons_zero, List.getElem?_cons_succ]
          rfl
        · kernel_rfl
        · kernel_rfl
        · kernel_rfl
        · exact fun _ _ _ h => h
        · refine yieldsIf_load_row (g := B) (t := 22) (cs := cellsN a) (ty := 22) (x := (.tmp 3)) ?_ ?_ ?_ ?_ Try.underlying22 rfl HIA.out
          · rfl
          · rfl
          · rfl
          · exact fun w hSw => hSw.a
        simp only [Act.put, List.setIfInBounds_toArray, List.set_cons_zero, List.set_cons_succ]
        refine wpAnyH_take (i := 1) (oi := ?_) (v := ?_) ?_ ?_ ?_ ?_ ?_ ?_ (by assumption) ?_
        rotate_left 2
        · simp only [List.getElem?_toArray, List.getElem?_cons_zero, List.getElem?_cons_succ]
          rfl
        · kernel_rfl
        · kernel_rfl
        · kernel_rfl
        · exact fun _ _ _ h => h
        · refine yieldsIf_load_row (g := (B + 1)) (t := 22) (cs := cellsN b) (ty := 22) (x := (.tmp 4)) ?_ ?_ ?_ ?_ Try.underlying22 rfl HIB.out
          · rfl
          · rfl
          · rfl
          · exact fun w hSw => hSw.b
        simp only [Act.put, List.setIfInBounds_toArray, List.set_cons_zero, List.set_cons_succ]
        refine wpAnyH_take (i := 3) (oi := ?_) (v := ?_) ?_ ?_ ?_ ?_ ?_ ?_ (by assumption) ?_
        rotate_left 2
        · simp only [List.getElem?_toArray, List.getElem?_cons_zero, List.getElem?_cons_succ]
          rfl
        · kernel_rfl
        · kernel_rfl
        · kernel_rfl
        · exact fun _ _ _ h => h
        · refine yieldsIf_load_row (g := B) (t := 22) (cs := cellsN a) (ty := 22) (x := (.tmp 3)) ?_ ?_ ?_ ?_ Try.underlying22 rfl HIA.out
          · rfl
          · rfl
          · rfl
          · exact fun w hSw => hSw.a
        simp only [Act.put, List.setIfInBounds_toArray, List.set_cons_zero, List.set_cons_succ]
        refine wpAnyH_take (i := 4) (oi := ?_) (v := ?_) ?_ ?_ ?_ ?_ ?_ ?_ (by assumption) ?_
        rotate_left 2
        · simp only [List.getElem?_toArray, List.getElem?_cons_zero, List.getElem?_cons_succ]
          rfl
        · kernel_rfl
        · kernel_rfl
        · kernel_rfl
        · exact fun _ _ _ h => h
        · refine yieldsIf_load_row (g := (B + 1 + 1)) (t := 22) (cs := cellsN c) (ty := 22) (x := (.tmp 5)) ?_ ?_ ?_ ?_ Try.underlying22 rfl HIC.out
          · rfl
          · rfl
          · rfl
          · exact fun w hSw => hSw.c
        simp only [Act.put, List.setIfInBounds_toArray, List.set_cons_zero, List.set_cons_succ]
        generalize wr.drew = V0 at *
        refine wpAnyH_ready (rs := [2, 6, 7]) (by kernel_rfl) (by simp) ?_
        refine AllReadyH.cons (o := ?_) ?_ (fun KK hKK => ?_) ?_
        rotate_left
        · simp only [List.getElem?_toArray, List.getElem?_cons_zero, List.getElem?_cons_succ]
          rfl
        · go_simp
          refine (HT1.out _).mono ?_
          rintro e y1_2 ⟨rfl, hy⟩
          have F1_2 := Lib.hid (HF0.out.kept hy)
          clear hy
          try go_wp2_with fail
          refine hKK.out _ _ ?_ (fun hh => ?_)
          · (try dsimp only)
            exact F1_2.out
          clear hKK KK hh
          try simp only [Act.put, List.setIfInBounds_toArray, List.set_cons_zero, List.set_cons_succ]
          refine wpAnyH_ready (rs := [5, 6, 7]) (by kernel_rfl) (by simp) ?_
          refine AllReadyH.cons (o := ?_) ?_ (fun KK hKK => ?_) ?_
          rotate_left
          · simp only [List.getElem?_toArray, List.getElem?_cons_zero, List.getElem?_cons_succ]
            rfl
          · go_simp
            refine (HT2.out _).mono ?_
            rintro e y2_5 ⟨rfl, hy⟩
            have F2_5 := Lib.hid (F1_2.out.kept hy)
            clear hy
            try go_wp2_with fail
            refine hKK.out _ _ ?_ (fun hh => ?_)
            · (try dsimp only)
              exact F2_5.out
            clear hKK KK hh
            try simp only [Act.put, List.setIfInBounds_toArray, List.set_cons_zero, List.set_cons_succ]
            refine wpAnyH_ready (rs := [6, 7]) (by kernel_rfl) (by simp) ?_
            refine AllReadyH.cons (o := ?_) ?_ (fun KK hKK => ?_) ?_
            rotate_left
            · simp only [List.getElem?_toArray, List.getElem?_cons_zero, List.getElem?_cons_succ]
              rfl
            · go_simp
              have F3_6 : Hid (FiI w B S a b c (Gc.xl b c) (List.replicate 16 0) (y2_5.alloc (.cells #[.int .u8 0, .int .u8 0, .int .u8 0, .int .u8 0, .int .u8 0, .int .u8 0, .int .u8 0, .int .u8 0, .int .u8 0, .int .u8 0, .int .u8 0, .int .u8 0, .int .u8 0, .int .u8 0, .int .u8 0, .int .u8 0] 22))) := F2_5.out.kept ((Below.refl _ _).alloc (Nat.le_refl _) _)
              have X3_6 : Hid (Obj (y2_5.alloc (.cells #[.int .u8 0, .int .u8 0, .int .u8 0, .int .u8 0, .int .u8 0, .int .u8 0, .int .u8 0, .int .u8 0, .int .u8 0, .int .u8 0, .int .u8 0, .int .u8 0, .int .u8 0, .int .u8 0, .int .u8 0, .int .u8 0] 22)) y2_5.heap.size 22 (cellsN (List.replicate 16 0))) := Obj.new y2_5 _ _
              have hSX : S + 1 < y2_5.heap.size := F2_5.out.t.lt
              refine hKK.out _ _ ?_ (fun hh => ?_)
              · (try dsimp only)
                exact F3_6.out
              clear hKK KK hh F2_5  
              try simp only [Act.put, List.setIfInBounds_toArray, List.set_cons_zero, List.set_cons_succ]
              generalize y2_5.alloc (.cells #[.int .u8 0, .int .u8 0, .int .u8 0, .int .u8 0, .int .u8 0, .int .u8 0, .int .u8 0, .int .u8 0, .int .u8 0, .int .u8 0, .int .u8 0, .int .u8 0, .int .u8 0, .int .u8 0, .int .u8 0, .int .u8 0] 22) = v3_6 at *
              generalize y2_5.heap.size = X at *
              refine wpAnyH_ready (rs := [7]) (by kernel_rfl) (by simp) ?_
              refine AllReadyH.cons (o := ?_) ?_ (fun KK hKK => ?_) ?_
              rotate_left
              · simp only [List.getElem?_toArray, List.getElem?_cons_zero, List.getElem?_cons_succ]
                rfl
              · go_simp
                have F4_7 : Hid (FiI w B S a b c (Gc.xl b c) (List.replicate 16 0) (v3_6.alloc (.cells #[.int .u8 0, .int .u8 0, .int .u8 0, .int .u8 0, .int .u8 0, .int .u8 0, .int .u8 0, .int .u8 0, .int .u8 0, .int .u8 0, .int .u8 0, .int .u8 0, .int .u8 0, .int .u8 0, .int .u8 0, .int .u8 0] 22))) := F3_6.out.kept ((Below.refl _ _).alloc (Nat.le_refl _) _)
                have Y4_7 : Hid (Obj (v3_6.alloc (.cells #[.int .u8 0, .int .u8 0, .int .u8 0, .int .u8 0, .int .u8 0, .int .u8 0, .int .u8 0, .int .u8 0, .int .u8 0, .int .u8 0, .int .u8 0, .int .u8 0, .int .u8 0, .int .u8 0, .int .u8 0, .int .u8 0] 22)) v3_6.heap.size 22 (cellsN (List.replicate 16 0))) := Obj.new v3_6 _ _
                have hSY : S + 1 < v3_6.heap.size := F3_6.out.t.lt
                have X4_7 := Lib.hid (X3_6.out.alloc (.cells #[.int .u8 0, .int .u8 0, .int .u8 0, .int .u8 0, .int .u8 0, .int .u8 0, .int .u8 0, .int .u8 0, .int .u8 0, .int .u8 0, .int .u8 0, .int .u8 0, .int .u8 0, .int .u8 0, .int .u8 0, .int .u8 0] 22))
                have hne : X ≠ v3_6.heap.size := by have := X3_6.out.lt; omega
                refine hKK.out _ _ ?_ (fun hh => ?_)
                · (try dsimp only)
                  exact F4_7.out
                clear hKK KK hh F3_6 X3_6 
                try simp only [Act.put, List.setIfInBounds_toArray, List.set_cons_zero, List.set_cons_succ]
                generalize v3_6.alloc (.cells #[.int .u8 0, .int .u8 0, .int .u8 0, .int .u8 0, .int .u8 0, .int .u8 0, .int .u8 0, .int .u8 0, .int .u8 0, .int .u8 0, .int .u8 0, .int .u8 0, .int .u8 0, .int .u8 0, .int .u8 0, .int .u8 0] 22) = v4_7 at *
                generalize v3_6.heap.size = Y at *
                refine wpAnyH_ready (rs := [8]) (by kernel_rfl) (by simp) ?_
                refine AllReadyH.cons (o := ?_) ?_ (fun KK hKK => ?_) AllReadyH.nil
                rotate_left
                · simp only [List.getElem?_toArray, List.getElem?_cons_zero, List.getElem?_cons_succ]
                  rfl
                rw [if_pos (by rfl)]
                refine wp_store_row 22 (.tmp 10) (.tmp 30) rfl X _ rfl rfl 22 _ X4_7.out HIX.out HSX.out (one_cellsN _) ?_
                refine hKK.out _ _ ?_ (fun hh8 => ?_)
                · (try dsimp only)
                  exact F4_7.out.upd ((Upd.refl X _).row _) hSX hSB HB.out
                clear hKK KK
                try simp only [Act.put, List.setIfInBounds_toArray, List.set_cons_zero, List.set_cons_succ]
                refine wpAnyH_ready (rs := [9]) (by kernel_rfl) (by simp) ?_
                refine AllReadyH.cons (o := ?_) ?_ (fun KK hKK => ?_) AllReadyH.nil
                rotate_left
                · simp only [List.getElem?_toArray, List.getElem?_cons_zero, List.getElem?_cons_succ]
                  rfl
                rw [if_pos (by rfl)]
                refine wp_store_row 22 (.tmp 11) (.tmp 33) rfl Y _ rfl rfl 22 _ (Y4_7.out.upd ((Upd.refl X _).row (cellsN x)) (by omega)) HIY.out HSY.out (one_cellsN _) ?_
                refine hKK.out _ _ ?_ (fun hh9 => ?_)
                · (try dsimp only)
                  exact hh8.upd ((Upd.refl Y _).row _) hSY hSB HB.out
                clear hKK KK
                try simp only [Act.put, List.setIfInBounds_toArray, List.set_cons_zero, List.set_cons_succ]
                refine wpAnyH_done (by kernel_rfl) ?_ _
                unfold Exit.then
                exact ⟨X, Y, hSX, hSY, by omega, rfl, hh9, (X4_7.out.row (cellsN x)).upd ((Upd.refl Y _).row _) (by omega), (Y4_7.out.upd ((Upd.refl X _).row (cellsN x)) (by omega)).row _⟩
              exact AllReadyH.nil
            refine AllReadyH.cons (o := ?_) ?_ (fun KK hKK => ?_) ?_
            rotate_left
            · simp only [List.getElem?_toArray, List.getElem?_cons_zero, List.getElem?_cons_succ]
              rfl
            · go_simp
              have F3_7 : Hid (FiI w B S a b c (Gc.xl b c) (List.replicate 16 0) (y2_5.alloc (.cells #[.int .u8 0, .int .u8 0, .int .u8 0, .int .u8 0, .int .u8 0, .int .u8 0, .int .u8 0, .int .u8 0, .int .u8 0, .int .u8 0, .int .u8 0, .int .u8 0, .int .u8 0, .int .u8 0, .int .u8 0, .int .u8 0] 22))) := F2_5.out.kept ((Below.refl _ _).alloc (Nat.le_refl _) _)
              have Y3_7 : Hid (Obj (y2_5.alloc (.cells #[.int .u8 0, .int .u8 0, .int .u8 0, .int .u8 0, .int .u8 0, .int .u8 0, .int .u8 0, .int .u8 0, .int .u8 0, .int .u8 0, .int .u8 0, .int .u8 0, .int .u8 0, .int .u8 0, .int .u8 0, .int .u8 0] 22)) y2_5.heap.size 22 (cellsN (List.replicate 16 0))) := Obj.new y2_5 _ _
              have hSY : S + 1 < y2_5.heap.size := F2_5.out.t.lt
              refine hKK.out _ _ ?_ (fun hh => ?_)
              · (try dsimp only)
                exact F3_7.out
              clear hKK KK hh F2_5  
              try simp only [Act.put, List.setIfInBounds_toArray, List.set_cons_zero, List.set_cons_succ]
              generalize y2_5.alloc (.cells #[.int .u8 0, .int .u8 0, .int .u8 0, .int .u8 0, .int .u8 0, .int .u8 0, .int .u8 0, .int .u8 0, .int .u8 0, .int .u8 0, .int .u8 0, .int .u8 0, .int .u8 0, .int .u8 0, .int .u8 0, .int .u8 0] 22) = v3_7 at *
              generalize y2_5.heap.size = Y at *
              refine wpAnyH_ready (rs := [6]) (by kernel_rfl) (by simp) ?_
              refine AllReadyH.cons (o := ?_) ?_ (fun KK hKK => ?_) ?_
              rotate_left
              · simp only [List.getElem?_toArray, List.getElem?_cons_zero, List.getElem?_cons_succ]
                rfl
              · go_simp
                have F6_6 : Hid (FiI w B S a b c (Gc.xl b c) (List.replicate 16 0) (v3_7.alloc (.cells #[.int .u8 0, .int .u8 0, .int .u8 0, .int .u8 0, .int .u8 0, .int .u8 0, .int .u8 0, .int .u8 0, .int .u8 0, .int .u8 0, .int .u8 0, .int .u8 0, .int .u8 0, .int .u8 0, .int .u8 0, .int .u8 0] 22))) := F3_7.out.kept ((Below.refl _ _).alloc (Nat.le_refl _) _)
                have X6_6 : Hid (Obj (v3_7.alloc (.cells #[.int .u8 0, .int .u8 0, .int .u8 0, .int .u8 0, .int .u8 0, .int .u8 0, .int .u8 0, .int .u8 0, .int .u8 0, .int .u8 0, .int .u8 0, .int .u8 0, .int .u8 0, .int .u8 0, .int .u8 0, .int .u8 0] 22)) v3_7.heap.size 22 (cellsN (List.replicate 16 0))) := Obj.new v3_7 _ _
                have hSX : S + 1 < v3_7.heap.size := F3_7.out.t.lt
                have Y6_6 := Lib.hid (Y3_7.out.alloc (.cells #[.int .u8 0, .int .u8 0, .int .u8 0, .int .u8 0, .int .u8 0, .int .u8 0, .int .u8 0, .int .u8 0, .int .u8 0, .int .u8 0, .int .u8 0, .int .u8 0, .int .u8 0, .int .u8 0, .int .u8 0, .int .u8 0] 22))
                have hne : Y ≠ v3_7.heap.size := by have := Y3_7.out.lt; omega
                refine hKK.out _ _ ?_ (fun hh => ?_)
                · (try dsimp only)
                  exact F6_6.out
                clear hKK KK hh F3_7  Y3_7
                try simp only [Act.put, List.setIfInBounds_toArray, List.set_cons_zero, List.set_cons_succ]
                generalize v3_7.alloc (.cells #[.int .u8 0, .int .u8 0, .int .u8 0, .int .u8 0, .int .u8 0, .int .u8 0, .int .u8 0, .int .u8 0, .int .u8 0, .int .u8 0, .int .u8 0, .int .u8 0, .int .u8 0, .int .u8 0, .int .u8 0, .int .u8 0] 22) = v6_6 at *
                generalize v3_7.heap.size = X at *
                refine wpAnyH_ready (rs := [8]) (by kernel_rfl) (by simp) ?_
                refine AllReadyH.cons (o := ?_) ?_ (fun KK hKK => ?_) AllReadyH.nil
                rotate_left
                · simp only [List.getElem?_toArray, List.getElem?_cons_zero, List.getElem?_cons_succ]
                  rfl
                rw [if_pos (by rfl)]
                refine wp_store_row 22 (.tmp 10) (.tmp 30) rfl X _ rfl rfl 22 _ X6_6.out HIX.out HSX.out (one_cellsN _) ?_
                refine hKK.out _ _ ?_ (fun hh8 => ?_)
                · (try dsimp only)
                  exact F6_6.out.upd ((Upd.refl X _).row _) hSX hSB HB.out
                clear hKK KK
                try simp only [Act.put, List.setIfInBounds_toArray, List.set_cons_zero, List.set_cons_succ]
                refine wpAnyH_ready (rs := [9]) (by kernel_rfl) (by simp) ?_
                refine AllReadyH.cons (o := ?_) ?_ (fun KK hKK => ?_) AllReadyH.nil
                rotate_left
                · simp only [List.getElem?_toArray, List.getElem?_cons_zero, List.getElem?_cons_succ]
                  rfl
                rw [if_pos (by rfl)]
                refine wp_store_row 22 (.tmp 11) (.tmp 33) rfl Y _ rfl rfl 22 _ (Y6_6.out.upd ((Upd.refl X _).row (cellsN x)) (by omega)) HIY.out HSY.out (one_cellsN _) ?_
                refine hKK.out _ _ ?_ (fun hh9 => ?_)
                · (try dsimp only)
                  exact hh8.upd ((Upd.refl Y _).row _) hSY hSB HB.out
                clear hKK KK
                try simp only [Act.put, List.setIfInBounds_toArray, List.set_cons_zero, List.set_cons_succ]
                refine wpAnyH_done (by kernel_rfl) ?_ _
                unfold Exit.then
                exact ⟨X, Y, hSX, hSY, by omega, rfl, hh9, (X6_6.out.row (cellsN x)).upd ((Upd.refl Y _).row _) (by omega), (Y6_6.out.upd ((Upd.refl X _).row (cellsN x)) (by omega)).row _⟩
              exact AllReadyH.nil
            exact AllReadyH.nil
          refine AllReadyH.cons (o := ?_) ?_ (fun KK hKK => ?_) ?_
          rotate_left
          · simp only [List.getElem?_toArray, List.getElem?_cons_zero, List.getElem?_cons_succ]
            rfl
          · go_simp
            have F2_6 : Hid (FiI w B S a b c (Gc.xl b c) (List.replicate 16 0) (y1_2.alloc (.cells #[.int .u8 0, .int .u8 0, .int .u8 0, .int .u8 0, .int .u8 0, .int .u8 0, .int .u8 0, .int .u8 0, .int .u8 0, .int .u8 0, .int .u8 0, .int .u8 0, .int .u8 0, .int .u8 0, .int .u8 0, .int .u8 0] 22))) := F1_2.out.kept ((Below.refl _ _).alloc (Nat.le_refl _) _)
            have X2_6 : Hid (Obj (y1_2.alloc (.cells #[.int .u8 0, .int .u8 0, .int .u8 0, .int .u8 0, .int .u8 0, .int .u8 0, .int .u8 0, .int .u8 0, .int .u8 0, .int .u8 0, .int .u8 0, .int .u8 0, .int .u8 0, .int .u8 0, .int .u8 0, .int .u8 0] 22)) y1_2.heap.size 22 (cellsN (List.replicate 16 0))) := Obj.new y1_2 _ _
            have hSX : S + 1 < y1_2.heap.size := F1_2.out.t.lt
            refine hKK.out _ _ ?_ (fun hh => ?_)
            · (try dsimp only)
              exact F2_6.out
            clear hKK KK hh F1_2  
            try simp only [Act.put, List.setIfInBounds_toArray, List.set_cons_zero, List.set_cons_succ]
            generalize y1_2.alloc (.cells #[.int .u8 0, .int .u8 0, .int .u8 0, .int .u8 0, .int .u8 0, .int .u8 0, .int .u8 0, .int .u8 0, .int .u8 0, .int .u8 0, .int .u8 0, .int .u8 0, .int .u8 0, .int .u8 0, .int .u8 0, .int .u8 0] 22) = v2_6 at *
            generalize y1_2.heap.size = X at *
            refine wpAnyH_ready (rs := [5, 7]) (by kernel_rfl) (by simp) ?_
            refine AllReadyH.cons (o := ?_) ?_ (fun KK hKK => ?_) ?_
            rotate_left
            · simp only [List.getElem?_toArray, List.getElem?_cons_zero, List.getElem?_cons_succ]
              rfl
            · go_simp
              refine (HT2.out _).mono ?_
              rintro e y8_5 ⟨rfl, hy⟩
              have F8_5 := Lib.hid (F2_6.out.kept hy)
              have X8_5 := Lib.hid (X2_6.out.kept hy)
              clear hy
              try go_wp2_with fail
              refine hKK.out _ _ ?_ (fun hh => ?_)
              · (try dsimp only)
                exact F8_5.out
              clear hKK KK hh
              try simp only [Act.put, List.setIfInBounds_toArray, List.set_cons_zero, List.set_cons_succ]
              refine wpAnyH_ready (rs := [7]) (by kernel_rfl) (by simp) ?_
              refine AllReadyH.cons (o := ?_) ?_ (fun KK hKK => ?_) ?_
              rotate_left
              · simp only [List.getElem?_toArray, List.getElem?_cons_zero, List.getElem?_cons_succ]
                rfl
              · go_simp
                have F9_7 : Hid (FiI w B S a b c (Gc.xl b c) (List.replicate 16 0) (y8_5.alloc (.cells #[.int .u8 0, .int .u8 0, .int .u8 0, .int .u8 0, .int .u8 0, .int .u8 0, .int .u8 0, .int .u8 0, .int .u8 0, .int .u8 0, .int .u8 0, .int .u8 0, .int .u8 0, .int .u8 0, .int .u8 0, .int .u8 0] 22))) := F8_5.out.kept ((Below.refl _ _).alloc (Nat.le_refl _) _)
                have Y9_7 : Hid (Obj (y8_5.alloc (.cells #[.int .u8 0, .int .u8 0, .int .u8 0, .int .u8 0, .int .u8 0, .int .u8 0, .int .u8 0, .int .u8 0, .int .u8 0, .int .u8 0, .int .u8 0, .int .u8 0, .int .u8 0, .int .u8 0, .int .u8 0, .int .u8 0] 22)) y8_5.heap.size 22 (cellsN (List.replicate 16 0))) := Obj.new y8_5 _ _
                have hSY : S + 1 < y8_5.heap.size := F8_5.out.t.lt
                have X9_7 := Lib.hid (X8_5.out.alloc (.cells #[.int .u8 0, .int .u8 0, .int .u8 0, .int .u8 0, .int .u8 0, .int .u8 0, .int .u8 0, .int .u8 0, .int .u8 0, .int .u8 0, .int .u8 0, .int .u8 0, .int .u8 0, .int .u8 0, .int .u8 0, .int .u8 0] 22))
                have hne : X ≠ y8_5.heap.size := by have := X8_5.out.lt; omega
                refine hKK.out _ _ ?_ (fun hh => ?_)
                · (try dsimp only)
                  exact F9_7.out
                clear hKK KK hh F8_5 X8_5 
                try simp only [Act.put, List.setIfInBounds_toArray, List.set_cons_zero, List.set_cons_succ]
                generalize y8_5.alloc (.cells #[.int .u8 0, .int .u8 0, .int .u8 0, .int .u8 0, .int .u8 0, .int .u8 0, .int .u8 0, .int .u8 0, .int .u8 0, .int .u8 0, .int .u8 0, .int .u8 0, .int .u8 0, .int .u8 0, .int .u8 0, .int .u8 0] 22) = v9_7 at *
                generalize y8_5.heap.size = Y at *
                refine wpAnyH_ready (rs := [8]) (by kernel_rfl) (by simp) ?_
                refine AllReadyH.cons (o := ?_) ?_ (fun KK hKK => ?_) AllReadyH.nil
                rotate_left
                · simp only [List.getElem?_toArray, List.getElem?_cons_zero, List.getElem?_cons_succ]
                  rfl
                rw [if_pos (by rfl)]
                refine wp_store_row 22 (.tmp 10) (.tmp 30) rfl X _ rfl rfl 22 _ X9_7.out HIX.out HSX.out (one_cellsN _) ?_
                refine hKK.out _ _ ?_ (fun hh8 => ?_)
                · (try dsimp only)
                  exact F9_7.out.upd ((Upd.refl X _).row _) hSX hSB HB.out
                clear hKK KK
                try simp only [Act.put, List.setIfInBounds_toArray, List.set_cons_zero, List.set_cons_succ]
                refine wpAnyH_ready (rs := [9]) (by kernel_rfl) (by simp) ?_
                refine AllReadyH.cons (o := ?_) ?_ (fun KK hKK => ?_) AllReadyH.nil
                rotate_left
                · simp only [List.getElem?_toArray, List.getElem?_cons_zero, List.getElem?_cons_succ]
                  rfl
                rw [if_pos (by rfl)]
                refine wp_store_row 22 (.tmp 11) (.tmp 33) rfl Y _ rfl rfl 22 _ (Y9_7.out.upd ((Upd.refl X _).row (cellsN x)) (by omega)) HIY.out HSY.out (one_cellsN _) ?_
                refine hKK.out _ _ ?_ (fun hh9 => ?_)
                · (try dsimp only)
                  exact hh8.upd ((Upd.refl Y _).row _) hSY hSB HB.out
                clear hKK KK
                try simp only [Act.put, List.setIfInBounds_toArray, List.set_cons_zero, List.set_cons_succ]
                refine wpAnyH_done (by kernel_rfl) ?_ _
                unfold Exit.then
                exact ⟨X, Y, hSX, hSY, by omega, rfl, hh9, (X9_7.out.row (cellsN x)).upd ((Upd.refl Y _).row _) (by omega), (Y9_7.out.upd ((Upd.refl X _).row (cellsN x)) (by omega)).row _⟩
              exact AllReadyH.nil
            refine AllReadyH.cons (o := ?_) ?_ (fun KK hKK => ?_) ?_
            rotate_left
            · simp only [List.getElem?_toArray, List.getElem?_cons_zero, List.getElem?_cons_succ]
              rfl
            · go_simp
              have F8_7 : Hid (FiI w B S a b c (Gc.xl b c) (List.replicate 16 0) (v2_6.alloc (.cells #[.int .u8 0, .int .u8 0, .int .u8 0, .int .u8 0, .int .u8 0, .int .u8 0, .int .u8 0, .int .u8 0, .int .u8 0, .int .u8 0, .int .u8 0, .int .u8 0, .int .u8 0, .int .u8 0, .int .u8 0, .int .u8 0] 22))) := F2_6.out.kept ((Below.refl _ _).alloc (Nat.le_refl _) _)
              have Y8_7 : Hid (Obj (v2_6.alloc (.cells #[.int .u8 0, .int .u8 0, .int .u8 0, .int .u8 0, .int .u8 0, .int .u8 0, .int .u8 0, .int .u8 0, .int .u8 0, .int .u8 0, .int .u8 0, .int .u8 0, .int .u8 0, .int .u8 0, .int .u8 0, .int .u8 0] 22)) v2_6.heap.size 22 (cellsN (List.replicate 16 0))) := Obj.new v2_6 _ _
              have hSY : S + 1 < v2_6.heap.size := F2_6.out.t.lt
              have X8_7 := Lib.hid (X2_6.out.alloc (.cells #[.int .u8 0, .int .u8 0, .int .u8 0, .int .u8 0, .int .u8 0, .int .u8 0, .int .u8 0, .int .u8 0, .int .u8 0, .int .u8 0, .int .u8 0, .int .u8 0, .int .u8 0, .int .u8 0, .int .u8 0, .int .u8 0] 22))
              have hne : X ≠ v2_6.heap.size := by have := X2_6.out.lt; omega
              refine hKK.out _ _ ?_ (fun hh => ?_)
              · (try dsimp only)
                exact F8_7.out
              clear hKK KK hh F2_6 X2_6 
              try simp only [Act.put, List.setIfInBounds_toArray, List.set_cons_zero, List.set_cons_succ]
              generalize v2_6.alloc (.cells #[.int .u8 0, .int .u8 0, .int .u8 0, .int .u8 0, .int .u8 0, .int .u8 0, .int .u8 0, .int .u8 0, .int .u8 0, .int .u8 0, .int .u8 0, .int .u8 0, .int .u8 0, .int .u8 0, .int .u8 0, .int .u8 0] 22) = v8_7 at *
              generalize v2_6.heap.size = Y at *
              refine wpAnyH_ready (rs := [5]) (by kernel_rfl) (by simp) ?_
              refine AllReadyH.cons (o := ?_) ?_ (fun KK hKK => ?_) ?_
              rotate_left
              · simp only [List.getElem?_toArray, List.getElem?_cons_zero, List.getElem?_cons_succ]
                rfl
              · go_simp
                refine (HT2.out _).mono ?_
                rintro e y11_5 ⟨rfl, hy⟩
                have F11_5 := Lib.hid (F8_7.out.kept hy)
                have X11_5 := Lib.hid (X8_7.out.kept hy)
                have Y11_5 := Lib.hid (Y8_7.out.kept hy)
                clear hy
                try go_wp2_with fail
                refine hKK.out _ _ ?_ (fun hh => ?_)
                · (try dsimp only)
                  exact F11_5.out
                clear hKK KK hh
                try simp only [Act.put, List.setIfInBounds_toArray, List.set_cons_zero, List.set_cons_succ]
                refine wpAnyH_ready (rs := [8]) (by kernel_rfl) (by simp) ?_
                refine AllReadyH.cons (o := ?_) ?_ (fun KK hKK => ?_) AllReadyH.nil
                rotate_left
                · simp only [List.getElem?_toArray, List.getElem?_cons_zero, List.getElem?_cons_succ]
                  rfl
                rw [if_pos (by rfl)]
                refine wp_store_row 22 (.tmp 10) (.tmp 30) rfl X _ rfl rfl 22 _ X11_5.out HIX.out HSX.out (one_cellsN _) ?_
                refine hKK.out _ _ ?_ (fun hh8 => ?_)
                · (try dsimp only)
                  exact F11_5.out.upd ((Upd.refl X _).row _) hSX hSB HB.out
                clear hKK KK
                try simp only [Act.put, List.setIfInBounds_toArray, List.set_cons_zero, List.set_cons_succ]
                refine wpAnyH_ready (rs := [9]) (by kernel_rfl) (by simp) ?_
                refine AllReadyH.cons (o := ?_) ?_ (fun KK hKK => ?_) AllReadyH.nil
                rotate_left
                · simp only [List.getElem?_toArray, List.getElem?_cons_zero, List.getElem?_cons_succ]
                  rfl
                rw [if_pos (by rfl)]
                refine wp_store_row 22 (.tmp 11) (.tmp 33) rfl Y _ rfl rfl 22 _ (Y11_5.out.upd ((Upd.refl X _).row (cellsN x)) (by omega)) HIY.out HSY.out (one_cellsN _) ?_
                refine hKK.out _ _ ?_ (fun hh9 => ?_)
                · (try dsimp only)
                  exact hh8.upd ((Upd.refl Y _).row _) hSY hSB HB.out
                clear hKK KK
                try simp only [Act.put, List.setIfInBounds_toArray, List.set_cons_zero, List.set_cons_succ]
                refine wpAnyH_done (by kernel_rfl) ?_ _
                unfold Exit.then
                exact ⟨X, Y, hSX, hSY, by omega, rfl, hh9, (X11_5.out.row (cellsN x)).upd ((Upd.refl Y _).row _) (by omega), (Y11_5.out.upd ((Upd.refl X _).row (cellsN x)) (by omega)).row _⟩
              exact AllReadyH.nil
            exact AllReadyH.nil
          refine AllReadyH.cons (o := ?_) ?_ (fun KK hKK => ?_) ?_
          rotate_left
          · simp only [List.getElem?_toArray, List.getElem?_cons_zero, List.getElem?_cons_succ]
            rfl
          · go_simp
            have F2_7 : Hid (FiI w B S a b c (Gc.xl b c) (List.replicate 16 0) (y1_2.alloc (.cells #[.int .u8 0, .int .u8 0, .int .u8 0, .int .u8 0, .int .u8 0, .int .u8 0, .int .u8 0, .int .u8 0, .int .u8 0, .int .u8 0, .int .u8 0, .int .u8 0, .int .u8 0, .int .u8 0, .int .u8 0, .int .u8 0] 22))) := F1_2.out.kept ((Below.refl _ _).alloc (Nat.le_refl _) _)
            have Y2_7 : Hid (Obj (y1_2.alloc (.cells #[.int .u8 0, .int .u8 0, .int .u8 0, .int .u8 0, .int .u8 0, .int .u8 0, .int .u8 0, .int .u8 0, .int .u8 0, .int .u8 0, .int .u8 0, .int .u8 0, .int .u8 0, .int .u8 0, .int .u8 0, .int .u8 0] 22)) y1_2.heap.size 22 (cellsN (List.replicate 16 0))) := Obj.new y1_2 _ _
            have hSY : S + 1 < y1_2.heap.size := F1_2.out.t.lt
            refine hKK.out _ _ ?_ (fun hh => ?_)
            · (try dsimp only)
              exact F2_7.out
            clear hKK KK hh F1_2  
            try simp only [Act.put, List.setIfInBounds_toArray, List.set_cons_zero, List.set_cons_succ]
            generalize y1_2.alloc (.cells #[.int .u8 0, .int .u8 0, .int .u8 0, .int .u8 0, .int .u8 0, .int .u8 0, .int .u8 0, .int .u8 0, .int .u8 0, .int .u8 0, .int .u8 0, .int .u8 0, .int .u8 0, .int .u8 0, .int .u8 0, .int .u8 0] 22) = v2_7 at *
            generalize y1_2.heap.size = Y at *
            refine wpAnyH_ready (rs := [5, 6]) (by kernel_rfl) (by simp) ?_
            refine AllReadyH.cons (o := ?_) ?_ (fun KK hKK => ?_) ?_
            rotate_left
            · simp only [List.getElem?_toArray, List.getElem?_cons_zero, List.getElem?_cons_succ]
              rfl
            · go_simp
              refine (HT2.out _).mono ?_
              rintro e y13_5 ⟨rfl, hy⟩
              have F13_5 := Lib.hid (F2_7.out.kept hy)
              have Y13_5 := Lib.hid (Y2_7.out.kept hy)
              clear hy
              try go_wp2_with fail
              refine hKK.out _ _ ?_ (fun hh => ?_)
              · (try dsimp only)
                exact F13_5.out
              clear hKK KK hh
              try simp only [Act.put, List.setIfInBounds_toArray, List.set_cons_zero, List.set_cons_succ]
              refine wpAnyH_ready (rs := [6]) (by kernel_rfl) (by simp) ?_
              refine AllReadyH.cons (o := ?_) ?_ (fun KK hKK => ?_) ?_
              rotate_left
              · simp only [List.getElem?_toArray, List.getElem?_cons_zero, List.getElem?_cons_succ]
                rfl
              · go_simp
                have F14_6 : Hid (FiI w B S a b c (Gc.xl b c) (List.replicate 16 0) (y13_5.alloc (.cells #[.int .u8 0, .int .u8 0, .int .u8 0, .int .u8 0, .int .u8 0, .int .u8 0, .int .u8 0, .int .u8 0, .int .u8 0, .int .u8 0, .int .u8 0, .int .u8 0, .int .u8 0, .int .u8 0, .int .u8 0, .int .u8 0] 22))) := F13_5.out.kept ((Below.refl _ _).alloc (Nat.le_refl _) _)
                have X14_6 : Hid (Obj (y13_5.alloc (.cells #[.int .u8 0, .int .u8 0, .int .u8 0, .int .u8 0, .int .u8 0, .int .u8 0, .int .u8 0, .int .u8 0, .int .u8 0, .int .u8 0, .int .u8 0, .int .u8 0, .int .u8 0, .int .u8 0, .int .u8 0, .int .u8 0] 22)) y13_5.heap.size 22 (cellsN (List.replicate 16 0))) := Obj.new y13_5 _ _
                have hSX : S + 1 < y13_5.heap.size := F13_5.out.t.lt
                have Y14_6 := Lib.hid (Y13_5.out.alloc (.cells #[.int .u8 0, .int .u8 0, .int .u8 0, .int .u8 0, .int .u8 0, .int .u8 0, .int .u8 0, .int .u8 0, .int .u8 0, .int .u8 0, .int .u8 0, .int .u8 0, .int .u8 0, .int .u8 0, .int .u8 0, .int .u8 0] 22))
                have hne : Y ≠ y13_5.heap.size := by have := Y13_5.out.lt; omega
                refine hKK.out _ _ ?_ (fun hh => ?_)
                · (try dsimp only)
                  exact F14_6.out
                clear hKK KK hh F13_5  Y13_5
                try simp only [Act.put, List.setIfInBounds_toArray, List.set_cons_zero, List.set_cons_succ]
                generalize y13_5.alloc (.cells #[.int .u8 0, .int .u8 0, .int .u8 0, .int .u8 0, .int .u8 0, .int .u8 0, .int .u8 0, .int .u8 0, .int .u8 0, .int .u8 0, .int .u8 0, .int .u8 0, .int .u8 0, .int .u8 0, .int .u8 0, .int .u8 0] 22) = v14_6 at *
                generalize y13_5.heap.size = X at *
                refine wpAnyH_ready (rs := [8]) (by kernel_rfl) (by simp) ?_
                refine AllReadyH.cons (o := ?_) ?_ (fun KK hKK => ?_) AllReadyH.nil
                rotate_left
                · simp only [List.getElem?_toArray, List.getElem?_cons_zero, List.getElem?_cons_succ]
                  rfl
                rw [if_pos (by rfl)]
                refine wp_store_row 22 (.tmp 10) (.tmp 30) rfl X _ rfl rfl 22 _ X14_6.out HIX.out HSX.out (one_cellsN _) ?_
                refine hKK.out _ _ ?_ (fun hh8 => ?_)
                · (try dsimp only)
                  exact F14_6.out.upd ((Upd.refl X _).row _) hSX hSB HB.out
                clear hKK KK
                try simp only [Act.put, List.setIfInBounds_toArray, List.set_cons_zero, List.set_cons_succ]
                refine wpAnyH_ready (rs := [9]) (by kernel_rfl) (by simp) ?_
                refine AllReadyH.cons (o := ?_) ?_ (fun KK hKK => ?_) AllReadyH.nil
                rotate_left
                · simp only [List.getElem?_toArray, List.getElem?_cons_zero, List.getElem?_cons_succ]
                  rfl
                rw [if_pos (by rfl)]
                refine wp_store_row 22 (.tmp 11) (.tmp 33) rfl Y _ rfl rfl 22 _ (Y14_6.out.upd ((Upd.refl X _).row (cellsN x)) (by omega)) HIY.out HSY.out (one_cellsN _) ?_
                refine hKK.out _ _ ?_ (fun hh9 => ?_)
                · (try dsimp only)
                  exact hh8.upd ((Upd.refl Y _).row _) hSY hSB HB.out
                clear hKK KK
                try simp only [Act.put, List.setIfInBounds_toArray, List.set_cons_zero, List.set_cons_succ]
                refine wpAnyH_done (by kernel_rfl) ?_ _
                unfold Exit.then
                exact ⟨X, Y, hSX, hSY, by omega, rfl, hh9, (X14_6.out.row (cellsN x)).upd ((Upd.refl Y _).row _) (by omega), (Y14_6.out.upd ((Upd.refl X _).row (cellsN x)) (by omega)).row _⟩
              exact AllReadyH.nil
            refine AllReadyH.cons (o := ?_) ?_ (fun KK hKK => ?_) ?_
            rotate_left
            · simp only [List.getElem?_toArray, List.getElem?_cons_zero, List.getElem?_cons_succ]
              rfl
            · go_simp
              have F13_6 : Hid (FiI w B S a b c (Gc.xl b c) (List.replicate 16 0) (v2_7.alloc (.cells #[.int .u8 0, .int .u8 0, .int .u8 0, .int .u8 0, .int .u8 0, .int .u8 0, .int .u8 0, .int .u8 0, .int .u8 0, .int .u8 0, .int .u8 0, .int .u8 0, .int .u8 0, .int .u8 0, .int .u8 0, .int .u8 0] 22))) := F2_7.out.kept ((Below.refl _ _).alloc (Nat.le_refl _) _)
              have X13_6 : Hid (Obj (v2_7.alloc (.cells #[.int .u8 0, .int .u8 0, .int .u8 0, .int .u8 0, .int .u8 0, .int .u8 0, .int .u8 0, .int .u8 0, .int .u8 0, .int .u8 0, .int .u8 0, .int .u8 0, .int .u8 0, .int .u8 0, .int .u8 0, .int .u8 0] 22)) v2_7.heap.size 22 (cellsN (List.replicate 16 0))) := Obj.new v2_7 _ _
              have hSX : S + 1 < v2_7.heap.size := F2_7.out.t.lt
              have Y13_6 := Lib.hid (Y2_7.out.alloc (.cells #[.int .u8 0, .int .u8 0, .int .u8 0, .int .u8 0, .int .u8 0, .int .u8 0, .int .u8 0, .int .u8 0, .int .u8 0, .int .u8 0, .int .u8 0, .int .u8 0, .int .u8 0, .int .u8 0, .int .u8 0, .int .u8 0] 22))
              have hne : Y ≠ v2_7.heap.size := by have := Y2_7.out.lt; omega
              refine hKK.out _ _ ?_ (fun hh => ?_)
              · (try dsimp only)
                exact F13_6.out
              clear hKK KK hh F2_7  Y2_7
              try simp only [Act.put, List.setIfInBounds_toArray, List.set_cons_zero, List.set_cons_succ]
              generalize v2_7.alloc (.cells #[.int .u8 0, .int .u8 0, .int .u8 0, .int .u8 0, .int .u8 0, .int .u8 0, .int .u8 0, .int .u8 0, .int .u8 0, .int .u8 0, .int .u8 0, .int .u8 0, .int .u8 0, .int .u8 0, .int .u8 0, .int .u8 0] 22) = v13_6 at *
              generalize v2_7.heap.size = X at *
              refine wpAnyH_ready (rs := [5]) (by kernel_rfl) (by simp) ?_
              refine AllReadyH.cons (o := ?_) ?_ (fun KK hKK => ?_) ?_
              rotate_left
              · simp only [List.getElem?_toArray, List.getElem?_cons_zero, List.getElem?_cons_succ]
                rfl
              · go_simp
                refine (HT2.out _).mono ?_
                rintro e y16_5 ⟨rfl, hy⟩
                have F16_5 := Lib.hid (F13_6.out.kept hy)
                have X16_5 := Lib.hid (X13_6.out.kept hy)
                have Y16_5 := Lib.hid (Y13_6.out.kept hy)
                clear hy
                try go_wp2_with fail
                refine hKK.out _ _ ?_ (fun hh => ?_)
                · (try dsimp only)
                  exact F16_5.out
                clear hKK KK hh
                try simp only [Act.put, List.setIfInBounds_toArray, List.set_cons_zero, List.set_cons_succ]
                refine wpAnyH_ready (rs := [8]) (by kernel_rfl) (by simp) ?_
                refine AllReadyH.cons (o := ?_) ?_ (fun KK hKK => ?_) AllReadyH.nil
                rotate_left
                · simp only [List.getElem?_toArray, List.getElem?_cons_zero, List.getElem?_cons_succ]
                  rfl
                rw [if_pos (by rfl)]
                refine wp_store_row 22 (.tmp 10) (.tmp 30) rfl X _ rfl rfl 22 _ X16_5.out HIX.out HSX.out (one_cellsN _) ?_
                refine hKK.out _ _ ?_ (fun hh8 => ?_)
                · (try dsimp only)
                  exact F16_5.out.upd ((Upd.refl X _).row _) hSX hSB HB.out
                clear hKK KK
                try simp only [Act.put, List.setIfInBounds_toArray, List.set_cons_zero, List.set_cons_succ]
                refine wpAnyH_ready (rs := [9]) (by kernel_rfl) (by simp) ?_
                refine AllReadyH.cons (o := ?_) ?_ (fun KK hKK => ?_) AllReadyH.nil
                rotate_left
                · simp only [List.getElem?_toArray, List.getElem?_cons_zero, List.getElem?_cons_succ]
                  rfl
                rw [if_pos (by rfl)]
                refine wp_store_row 22 (.tmp 11) (.tmp 33) rfl Y _ rfl rfl 22 _ (Y16_5.out.upd ((Upd.refl X _).row (cellsN x)) (by omega)) HIY.out HSY.out (one_cellsN _) ?_
                refine hKK.out _ _ ?_ (fun hh9 => ?_)
                · (try dsimp only)
                  exact hh8.upd ((Upd.refl Y _).row _) hSY hSB HB.out
                clear hKK KK
                try simp only [Act.put, List.setIfInBounds_toArray, List.set_cons_zero, List.set_cons_succ]
                refine wpAnyH_done (by kernel_rfl) ?_ _
                unfold Exit.then
                exact ⟨X, Y, hSX, hSY, by omega, rfl, hh9, (X16_5.out.row (cellsN x)).upd ((Upd.refl Y _).row _) (by omega), (Y16_5.out.upd ((Upd.refl X _).row (cellsN x)) (by omega)).row _⟩
              exact AllReadyH.nil
            exact AllReadyH.nil
          exact AllReadyH.nil
        refine AllReadyH.cons (o := ?_) ?_ (fun KK hKK => ?_) ?_
        rotate_left
        · simp only [List.getElem?_toArray, List.getElem?_cons_zero, List.getElem?_cons_succ]
          rfl
        · go_simp
          have F1_6 : Hid (FiI w B S a b c (Gc.xl b c) (List.replicate 16 0) (V0.alloc (.cells #[.int .u8 0, .int .u8 0, .int .u8 0, .int .u8 0, .int .u8 0, .int .u8 0, .int .u8 0, .int .u8 0, .int .u8 0, .int .u8 0, .int .u8 0, .int .u8 0, .int .u8 0, .int .u8 0, .int .u8 0, .int .u8 0] 22))) := HF0.out.kept ((Below.refl _ _).alloc (Nat.le_refl _) _)
          have X1_6 : Hid (Obj (V0.alloc (.cells #[.int .u8 0, .int .u8 0, .int .u8 0, .int .u8 0, .int .u8 0, .int .u8 0, .int .u8 0, .int .u8 0, .int .u8 0, .int .u8 0, .int .u8 0, .int .u8 0, .int .u8 0, .int .u8 0, .int .u8 0, .int .u8 0] 22)) V0.heap.size 22 (cellsN (List.replicate 16 0))) := Obj.new V0 _ _
          have hSX : S + 1 < V0.heap.size := HF0.out.t.lt
          refine hKK.out _ _ ?_ (fun hh => ?_)
          · (try dsimp only)
            exact F1_6.out
          clear hKK KK hh HF0  
          try simp only [Act.put, List.setIfInBounds_toArray, List.set_cons_zero, List.set_cons_succ]
          generalize V0.alloc (.cells #[.int .u8 0, .int .u8 0, .int .u8 0, .int .u8 0, .int .u8 0, .int .u8 0, .int .u8 0, .int .u8 0, .int .u8 0, .int .u8 0, .int .u8 0, .int .u8 0, .int .u8 0, .int .u8 0, .int .u8 0, .int .u8 0] 22) = v1_6 at *
          generalize V0.heap.size = X at *
          refine wpAnyH_ready (rs := [2, 7]) (by kernel_rfl) (by simp) ?_
          refine AllReadyH.cons (o := ?_) ?_ (fun KK hKK => ?_) ?_
          rotate_left
          · simp only [List.getElem?_toArray, List.getElem?_cons_zero, List.getElem?_cons_succ]
            rfl
          · go_simp
            refine (HT1.out _).mono ?_
            rintro e y18_2 ⟨rfl, hy⟩
            have F18_2 := Lib.hid (F1_6.out.kept hy)
            have X18_2 := Lib.hid (X1_6.out.kept hy)
            clear hy
            try go_wp2_with fail
            refine hKK.out _ _ ?_ (fun hh => ?_)
            · (try dsimp only)
              exact F18_2.out
            clear hKK KK hh
            try simp only [Act.put, List.setIfInBounds_toArray, List.set_cons_zero, List.set_cons_succ]
            refine wpAnyH_ready (rs := [5, 7]) (by kernel_rfl) (by simp) ?_
            refine AllReadyH.cons (o := ?_) ?_ (fun KK hKK => ?_) ?_
            rotate_left
            · simp only [List.getElem?_toArray, List.getElem?_cons_zero, List.getElem?_cons_succ]
              rfl
            · go_simp
              refine (HT2.out _).mono ?_
              rintro e y19_5 ⟨rfl, hy⟩
              have F19_5 := Lib.hid (F18_2.out.kept hy)
              have X19_5 := Lib.hid (X18_2.out.kept hy)
              clear hy
              try go_wp2_with fail
              refine hKK.out _ _ ?_ (fun hh => ?_)
              · (try dsimp only)
                exact F19_5.out
              clear hKK KK hh
              try simp only [Act.put, List.setIfInBounds_toArray, List.set_cons_zero, List.set_cons_succ]
              refine wpAnyH_ready (rs := [7]) (by kernel_rfl) (by simp) ?_
              refine AllReadyH.cons (o := ?_) ?_ (fun KK hKK => ?_) ?_
              rotate_left
              · simp only [List.getElem?_toArray, List.getElem?_cons_zero, List.getElem?_cons_succ]
                rfl
              · go_simp
                have F20_7 : Hid (FiI w B S a b c (Gc.xl b c) (List.replicate 16 0) (y19_5.alloc (.cells #[.int .u8 0, .int .u8 0, .int .u8 0, .int .u8 0, .int .u8 0, .int .u8 0, .int .u8 0, .int .u8 0, .int .u8 0, .int .u8 0, .int .u8 0, .int .u8 0, .int .u8 0, .int .u8 0, .int .u8 0, .int .u8 0] 22))) := F19_5.out.kept ((Below.refl _ _).alloc (Nat.le_refl _) _)
                have Y20_7 : Hid (Obj (y19_5.alloc (.cells #[.int .u8 0, .int .u8 0, .int .u8 0, .int .u8 0, .int .u8 0, .int .u8 0, .int .u8 0, .int .u8 0, .int .u8 0, .int .u8 0, .int .u8 0, .int .u8 0, .int .u8 0, .int .u8 0, .int .u8 0, .int .u8 0] 22)) y19_5.heap.size 22 (cellsN (List.replicate 16 0))) := Obj.new y19_5 _ _
                have hSY : S + 1 < y19_5.heap.size := F19_5.out.t.lt
                have X20_7 := Lib.hid (X19_5.out.alloc (.cells #[.int .u8 0, .int .u8 0, .int .u8 0, .int .u8 0, .int .u8 0, .int .u8 0, .int .u8 0, .int .u8 0, .int .u8 0, .int .u8 0, .int .u8 0, .int .u8 0, .int .u8 0, .int .u8 0, .int .u8 0, .int .u8 0] 22))
                have hne : X ≠ y19_5.heap.size := by have := X19_5.out.lt; omega
                refine hKK.out _ _ ?_ (fun hh => ?_)
                · (try dsimp only)
                  exact F20_7.out
                clear hKK KK hh F19_5 X19_5 
                try simp only [Act.put, List.setIfInBounds_toArray, List.set_cons_zero, List.set_cons_succ]
                generalize y19_5.alloc (.cells #[.int .u8 0, .int .u8 0, .int .u8 0, .int .u8 0, .int .u8 0, .int .u8 0, .int .u8 0, .int .u8 0, .int .u8 0, .int .u8 0, .int .u8 0, .int .u8 0, .int .u8 0, .int .u8 0, .int .u8 0, .int .u8 0] 22) = v20_7 at *
                generalize y19_5.heap.size = Y at *
                refine wpAnyH_ready (rs := [8]) (by kernel_rfl) (by simp) ?_
                refine AllReadyH.cons (o := ?_) ?_ (fun KK hKK => ?_) AllReadyH.nil
                rotate_left
                · simp only [List.getElem?_toArray, List.getElem?_cons_zero, List.getElem?_cons_succ]
                  rfl
                rw [if_pos (by rfl)]
                refine wp_store_row 22 (.tmp 10) (.tmp 30) rfl X _ rfl rfl 22 _ X20_7.out HIX.out HSX.out (one_cellsN _) ?_
                refine hKK.out _ _ ?_ (fun hh8 => ?_)
                · (try dsimp only)
                  exact F20_7.out.upd ((Upd.refl X _).row _) hSX hSB HB.out
                clear hKK KK
                try simp only [Act.put, List.setIfInBounds_toArray, List.set_cons_zero, List.set_cons_succ]
                refine wpAnyH_ready (rs := [9]) (by kernel_rfl) (by simp) ?_
                refine AllReadyH.cons (o := ?_) ?_ (fun KK hKK => ?_) AllReadyH.nil
                rotate_left
                · simp only [List.getElem?_toArray, List.getElem?_cons_zero, List.getElem?_cons_succ]
                  rfl
                rw [if_pos (by rfl)]
                refine wp_store_row 22 (.tmp 11) (.tmp 33) rfl Y _ rfl rfl 22 _ (Y20_7.out.upd ((Upd.refl X _).row (cellsN x)) (by omega)) HIY.out HSY.out (one_cellsN _) ?_
                refine hKK.out _ _ ?_ (fun hh9 => ?_)
                · (try dsimp only)
                  exact hh8.upd ((Upd.refl Y _).row _) hSY hSB HB.out
                clear hKK KK
                try simp only [Act.put, List.setIfInBounds_toArray, List.set_cons_zero, List.set_cons_succ]
                refine wpAnyH_done (by kernel_rfl) ?_ _
                unfold Exit.then
                exact ⟨X, Y, hSX, hSY, by omega, rfl, hh9, (X20_7.out.row (cellsN x)).upd ((Upd.refl Y _).row _) (by omega), (Y20_7.out.upd ((Upd.refl X _).row (cellsN x)) (by omega)).row _⟩
              exact AllReadyH.nil
            refine AllReadyH.cons (o := ?_) ?_ (fun KK hKK => ?_) ?_
            rotate_left
            · simp only [List.getElem?_toArray, List.getElem?_cons_zero, List.getElem?_cons_succ]
              rfl
            · go_simp
              have F19_7 : Hid (FiI w B S a b c (Gc.xl b c) (List.replicate 16 0) (y18_2.alloc (.cells #[.int .u8 0, .int .u8 0, .int .u8 0, .int .u8 0, .int .u8 0, .int .u8 0, .int .u8 0, .int .u8 0, .int .u8 0, .int .u8 0, .int .u8 0, .int .u8 0, .int .u8 0, .int .u8 0, .int .u8 0, .int .u8 0] 22))) := F18_2.out.kept ((Below.refl _ _).alloc (Nat.le_refl _) _)
              have Y19_7 : Hid (Obj (y18_2.alloc (.cells #[.int .u8 0, .int .u8 0, .int .u8 0, .int .u8 0, .int .u8 0, .int .u8 0, .int .u8 0, .int .u8 0, .int .u8 0, .int .u8 0, .int .u8 0, .int .u8 0, .int .u8 0, .int .u8 0, .int .u8 0, .int .u8 0] 22)) y18_2.heap.size 22 (cellsN (List.replicate 16 0))) := Obj.new y18_2 _ _
              have hSY : S + 1 < y18_2.heap.size := F18_2.out.t.lt
              have X19_7 := Lib.hid (X18_2.out.alloc (.cells #[.int .u8 0, .int .u8 0, .int .u8 0, .int .u8 0, .int .u8 0, .int .u8 0, .int .u8 0, .int .u8 0, .int .u8 0, .int .u8 0, .int .u8 0, .int .u8 0, .int .u8 0, .int .u8 0, .int .u8 0, .int .u8 0] 22))
              have hne : X ≠ y18_2.heap.size := by have := X18_2.out.lt; omega
              refine hKK.out _ _ ?_ (fun hh => ?_)
              · (try dsimp only)
                exact F19_7.out
              clear hKK KK hh F18_2 X18_2 
              try simp only [Act.put, List.setIfInBounds_toArray, List.set_cons_zero, List.set_cons_succ]
              generalize y18_2.alloc (.cells #[.int .u8 0, .int .u8 0, .int .u8 0, .int .u8 0, .int .u8 0, .int .u8 0, .int .u8 0, .int .u8 0, .int .u8 0, .int .u8 0, .int .u8 0, .int .u8 0, .int .u8 0, .int .u8 0, .int .u8 0, .int .u8 0] 22) = v19_7 at *
              generalize y18_2.heap.size = Y at *
              refine wpAnyH_ready (rs := [5]) (by kernel_rfl) (by simp) ?_
              refine AllReadyH.cons (o := ?_) ?_ (fun KK hKK => ?_) ?_
              rotate_left
              · simp only [List.getElem?_toArray, List.getElem?_cons_zero, List.getElem?_cons_succ]
                rfl
              · go_simp
                refine (HT2.out _).mono ?_
                rintro e y22_5 ⟨rfl, hy⟩
                have F22_5 := Lib.hid (F19_7.out.kept hy)
                have X22_5 := Lib.hid (X19_7.out.kept hy)
                have Y22_5 := Lib.hid (Y19_7.out.kept hy)
                clear hy
                try go_wp2_with fail
                refine hKK.out _ _ ?_ (fun hh => ?_)
                · (try dsimp only)
                  exact F22_5.out
                clear hKK KK hh
                try simp only [Act.put, List.setIfInBounds_toArray, List.set_cons_zero, List.set_cons_succ]
                refine wpAnyH_ready (rs := [8]) (by kernel_rfl) (by simp) ?_
                refine AllReadyH.cons (o := ?_) ?_ (fun KK hKK => ?_) AllReadyH.nil
                rotate_left
                · simp only [List.getElem?_toArray, List.getElem?_cons_zero, List.getElem?_cons_succ]
                  rfl
                rw [if_pos (by rfl)]
                refine wp_store_row 22 (.tmp 10) (.tmp 30) rfl X _ rfl rfl 22 _ X22_5.out HIX.out HSX.out (one_cellsN _) ?_
                refine hKK.out _ _ ?_ (fun hh8 => ?_)
                · (try dsimp only)
                  exact F22_5.out.upd ((Upd.refl X _).row _) hSX hSB HB.out
                clear hKK KK
                try simp only [Act.put, List.setIfInBounds_toArray, List.set_cons_zero, List.set_cons_succ]
                refine wpAnyH_ready (rs := [9]) (by kernel_rfl) (by simp) ?_
                refine AllReadyH.cons (o := ?_) ?_ (fun KK hKK => ?_) AllReadyH.nil
                rotate_left
                · simp only [List.getElem?_toArray, List.getElem?_cons_zero, List.getElem?_cons_succ]
                  rfl
                rw [if_pos (by rfl)]
                refine wp_store_row 22 (.tmp 11) (.tmp 33) rfl Y _ rfl rfl 22 _ (Y22_5.out.upd ((Upd.refl X _).row (cellsN x)) (by omega)) HIY.out HSY.out (one_cellsN _) ?_
                refine hKK.out _ _ ?_ (fun hh9 => ?_)
                · (try dsimp only)
                  exact hh8.upd ((Upd.refl Y _).row _) hSY hSB HB.out
                clear hKK KK
                try simp only [Act.put, List.setIfInBounds_toArray, List.set_cons_zero, List.set_cons_succ]
                refine wpAnyH_done (by kernel_rfl) ?_ _
                unfold Exit.then
                exact ⟨X, Y, hSX, hSY, by omega, rfl, hh9, (X22_5.out.row (cellsN x)).upd ((Upd.refl Y _).row _) (by omega), (Y22_5.out.upd ((Upd.refl X _).row (cellsN x)) (by omega)).row _⟩
              exact AllReadyH.nil
            exact AllReadyH.nil
          refine AllReadyH.cons (o := ?_) ?_ (fun KK hKK => ?_) ?_
          rotate_left
          · simp only [List.getElem?_toArray, List.getElem?_cons_zero, List.getElem?_cons_succ]
            rfl
          · go_simp
            have F18_7 : Hid (FiI w B S a b c (Gc.xl b c) (List.replicate 16 0) (v1_6.alloc (.cells #[.int .u8 0, .int .u8 0, .int .u8 0, .int .u8 0, .int .u8 0, .int .u8 0, .int .u8 0, .int .u8 0, .int .u8 0, .int .u8 0, .int .u8 0, .int .u8 0, .int .u8 0, .int .u8 0, .int .u8 0, .int .u8 0] 22))) := F1_6.out.kept ((Below.refl _ _).alloc (Nat.le_refl _) _)
            have Y18_7 : Hid (Obj (v1_6.alloc (.cells #[.int .u8 0, .int .u8 0, .int .u8 0, .int .u8 0, .int .u8 0, .int .u8 0, .int .u8 0, .int .u8 0, .int .u8 0, .int .u8 0, .int .u8 0, .int .u8 0, .int .u8 0, .int .u8 0, .int .u8 0, .int .u8 0] 22)) v1_6.heap.size 22 (cellsN (List.replicate 16 0))) := Obj.new v1_6 _ _
            have hSY : S + 1 < v1_6.heap.size := F1_6.out.t.lt
            have X18_7 := Lib.hid (X1_6.out.alloc (.cells #[.int .u8 0, .int .u8 0, .int .u8 0, .int .u8 0, .int .u8 0, .int .u8 0, .int .u8 0, .int .u8 0, .int .u8 0, .int .u8 0, .int .u8 0, .int .u8 0, .int .u8 0, .int .u8 0, .int .u8 0, .int .u8 0] 22))
            have hne : X ≠ v1_6.heap.size := by have := X1_6.out.lt; omega
            refine hKK.out _ _ ?_ (fun hh => ?_)
            · (try dsimp only)
              exact F18_7.out
            clear hKK KK hh F1_6 X1_6 
            try simp only [Act.put, List.setIfInBounds_toArray, List.set_cons_zero, List.set_cons_succ]
            generalize v1_6.alloc (.cells #[.int .u8 0, .int .u8 0, .int .u8 0, .int .u8 0, .int .u8 0, .int .u8 0, .int .u8 0, .int .u8 0, .int .u8 0, .int .u8 0, .int .u8 0, .int .u8 0, .int .u8 0, .int .u8 0, .int .u8 0, .int .u8 0] 22) = v18_7 at *
            generalize v1_6.heap.size = Y at *
            refine wpAnyH_ready (rs := [2]) (by kernel_rfl) (by simp) ?_
            refine AllReadyH.cons (o := ?_) ?_ (fun KK hKK => ?_) ?_
            rotate_left
            · simp only [List.getElem?_toArray, List.getElem?_cons_zero, List.getElem?_cons_succ]
              rfl
            · go_simp
              refine (HT1.out _).mono ?_
              rintro e y24_2 ⟨rfl, hy⟩
              have F24_2 := Lib.hid (F18_7.out.kept hy)
              have X24_2 := Lib.hid (X18_7.out.kept hy)
              have Y24_2 := Lib.hid (Y18_7.out.kept hy)
              clear hy
              try go_wp2_with fail
              refine hKK.out _ _ ?_ (fun hh => ?_)
              · (try dsimp only)
                exact F24_2.out
              clear hKK KK hh
              try simp only [Act.put, List.setIfInBounds_toArray, List.set_cons_zero, List.set_cons_succ]
              refine wpAnyH_ready (rs := [5]) (by kernel_rfl) (by simp) ?_
              refine AllReadyH.cons (o := ?_) ?_ (fun KK hKK => ?_) ?_
              rotate_left
              · simp only [List.getElem?_toArray, List.getElem?_cons_zero, List.getElem?_cons_succ]
                rfl
              · go_simp
                refine (HT2.out _).mono ?_
                rintro e y25_5 ⟨rfl, hy⟩
                have F25_5 := Lib.hid (F24_2.out.kept hy)
                have X25_5 := Lib.hid (X24_2.out.kept hy)
                have Y25_5 := Lib.hid (Y24_2.out.kept hy)
                clear hy
                try go_wp2_with fail
                refine hKK.out _ _ ?_ (fun hh => ?_)
                · (try dsimp only)
                  exact F25_5.out
                clear hKK KK hh
                try simp only [Act.put, List.setIfInBounds_toArray, List.set_cons_zero, List.set_cons_succ]
                refine wpAnyH_ready (rs := [8]) (by kernel_rfl) (by simp) ?_
                refine AllReadyH.cons (o := ?_) ?_ (fun KK hKK => ?_) AllReadyH.nil
                rotate_left
                · simp only [List.getElem?_toArray, List.getElem?_cons_zero, List.getElem?_cons_succ]
                  rfl
                rw [if_pos (by rfl)]
                refine wp_store_row 22 (.tmp 10) (.tmp 30) rfl X _ rfl rfl 22 _ X25_5.out HIX.out HSX.out (one_cellsN _) ?_
                refine hKK.out _ _ ?_ (fun hh8 => ?_)
                · (try dsimp only)
                  exact F25_5.out.upd ((Upd.refl X _).row _) hSX hSB HB.out
                clear hKK KK
                try simp only [Act.put, List.setIfInBounds_toArray, List.set_cons_zero, List.set_cons_succ]
                refine wpAnyH_ready (rs := [9]) (by kernel_rfl) (by simp) ?_
                refine AllReadyH.cons (o := ?_) ?_ (fun KK hKK => ?_) AllReadyH.nil
                rotate_left
                · simp only [List.getElem?_toArray, List.getElem?_cons_zero, List.getElem?_cons_succ]
                  rfl
                rw [if_pos (by rfl)]
                refine wp_store_row 22 (.tmp 11) (.tmp 33) rfl Y _ rfl rfl 22 _ (Y25_5.out.upd ((Upd.refl X _).row (cellsN x)) (by omega)) HIY.out HSY.out (one_cellsN _) ?_
                refine hKK.out _ _ ?_ (fun hh9 => ?_)
                · (try dsimp only)
                  exact hh8.upd ((Upd.refl Y _).row _) hSY hSB HB.out
                clear hKK KK
                try simp only [Act.put, List.setIfInBounds_toArray, List.set_cons_zero, List.set_cons_succ]
                refine wpAnyH_done (by kernel_rfl) ?_ _
                unfold Exit.then
                exact ⟨X, Y, hSX, hSY, by omega, rfl, hh9, (X25_5.out.row (cellsN x)).upd ((Upd.refl Y _).row _) (by omega), (Y25_5.out.upd ((Upd.refl X _).row (cellsN x)) (by omega)).row _⟩
              exact AllReadyH.nil
            exact AllReadyH.nil
          exact AllReadyH.nil
        refine AllReadyH.cons (o := ?_) ?_ (fun KK hKK => ?_) ?_
        rotate_left
        · simp only [List.getElem?_toArray, List.getElem?_cons_zero, List.getElem?_cons_succ]
          rfl
        · go_simp
          have F1_7 : Hid (FiI w B S a b c (Gc.xl b c) (List.replicate 16 0) (V0.alloc (.cells #[.int .u8 0, .int .u8 0, .int .u8 0, .int .u8 0, .int .u8 0, .int .u8 0, .int .u8 0, .int .u8 0, .int .u8 0, .int .u8 0, .int .u8 0, .int .u8 0, .int .u8 0, .int .u8 0, .int .u8 0, .int .u8 0] 22))) := HF0.out.kept ((Below.refl _ _).alloc (Nat.le_refl _) _)
          have Y1_7 : Hid (Obj (V0.alloc (.cells #[.int .u8 0, .int .u8 0, .int .u8 0, .int .u8 0, .int .u8 0, .int .u8 0, .int .u8 0, .int .u8 0, .int .u8 0, .int .u8 0, .int .u8 0, .int .u8 0, .int .u8 0, .int .u8 0, .int .u8 0, .int .u8 0] 22)) V0.heap.size 22 (cellsN (List.replicate 16 0))) := Obj.new V0 _ _
          have hSY : S + 1 < V0.heap.size := HF0.out.t.lt
          refine hKK.out _ _ ?_ (fun hh => ?_)
          · (try dsimp only)
            exact F1_7.out
          clear hKK KK hh HF0  
          try simp only [Act.put, List.setIfInBounds_toArray, List.set_cons_zero, List.set_cons_succ]
          generalize V0.alloc (.cells #[.int .u8 0, .int .u8 0, .int .u8 0, .int .u8 0, .int .u8 0, .int .u8 0, .int .u8 0, .int .u8 0, .int .u8 0, .int .u8 0, .int .u8 0, .int .u8 0, .int .u8 0, .int .u8 0, .int .u8 0, .int .u8 0] 22) = v1_7 at *
          generalize V0.heap.size = Y at *
          refine wpAnyH_ready (rs := [2, 6]) (by kernel_rfl) (by simp) ?_
          refine AllReadyH.cons (o := ?_) ?_ (fun KK hKK => ?_) ?_
          rotate_left
          · simp only [List.getElem?_toArray, List.getElem?_cons_zero, List.getElem?_cons_succ]
            rfl
          · go_simp
            refine (HT1.out _).mono ?_
            rintro e y27_2 ⟨rfl, hy⟩
            have F27_2 := Lib.hid (F1_7.out.kept hy)
            have Y27_2 := Lib.hid (Y1_7.out.kept hy)
            clear hy
            try go_wp2_with fail
            refine hKK.out _ _ ?_ (fun hh => ?_)
            · (try dsimp only)
              exact F27_2.out
            clear hKK KK hh
            try simp only [Act.put, List.setIfInBounds_toArray, List.set_cons_zero, List.set_cons_succ]
            refine wpAnyH_ready (rs := [5, 6]) (by kernel_rfl) (by simp) ?_
            refine AllReadyH.cons (o := ?_) ?_ (fun KK hKK => ?_) ?_
            rotate_left
            · simp only [List.getElem?_toArray, List.getElem?_cons_zero, List.getElem?_cons_succ]
              rfl
            · go_simp
              refine (HT2.out _).mono ?_
              rintro e y28_5 ⟨rfl, hy⟩
              have F28_5 := Lib.hid (F27_2.out.kept hy)
              have Y28_5 := Lib.hid (Y27_2.out.kept hy)
              clear hy
              try go_wp2_with fail
              refine hKK.out _ _ ?_ (fun hh => ?_)
              · (try dsimp only)
                exact F28_5.out
              clear hKK KK hh
              try simp only [Act.put, List.setIfInBounds_toArray, List.set_cons_zero, List.set_cons_succ]
              refine wpAnyH_ready (rs := [6]) (by kernel_rfl) (by simp) ?_
              refine AllReadyH.cons (o := ?_) ?_ (fun KK hKK => ?_) ?_
              rotate_left
              · simp only [List.getElem?_toArray, List.getElem?_cons_zero, List.getElem?_cons_succ]
                rfl
              · go_simp
                have F29_6 : Hid (FiI w B S a b c (Gc.xl b c) (List.replicate 16 0) (y28_5.alloc (.cells #[.int .u8 0, .int .u8 0, .int .u8 0, .int .u8 0, .int .u8 0, .int .u8 0, .int .u8 0, .int .u8 0, .int .u8 0, .int .u8 0, .int .u8 0, .int .u8 0, .int .u8 0, .int .u8 0, .int .u8 0, .int .u8 0] 22))) := F28_5.out.kept ((Below.refl _ _).alloc (Nat.le_refl _) _)
                have X29_6 : Hid (Obj (y28_5.alloc (.cells #[.int .u8 0, .int .u8 0, .int .u8 0, .int .u8 0, .int .u8 0, .int .u8 0, .int .u8 0, .int .u8 0, .int .u8 0, .int .u8 0, .int .u8 0, .int .u8 0, .int .u8 0, .int .u8 0, .int .u8 0, .int .u8 0] 22)) y28_5.heap.size 22 (cellsN (List.replicate 16 0))) := Obj.new y28_5 _ _
                have hSX : S + 1 < y28_5.heap.size := F28_5.out.t.lt
                have Y29_6 := Lib.hid (Y28_5.out.alloc (.cells #[.int .u8 0, .int .u8 0, .int .u8 0, .int .u8 0, .int .u8 0, .int .u8 0, .int .u8 0, .int .u8 0, .int .u8 0, .int .u8 0, .int .u8 0, .int .u8 0, .int .u8 0, .int .u8 0, .int .u8 0, .int .u8 0] 22))
                have hne : Y ≠ y28_5.heap.size := by have := Y28_5.out.lt; omega
                refine hKK.out _ _ ?_ (fun hh => ?_)
                · (try dsimp only)
                  exact F29_6.out
                clear hKK KK hh F28_5  Y28_5
                try simp only [Act.put, List.setIfInBounds_toArray, List.set_cons_zero, List.set_cons_succ]
                generalize y28_5.alloc (.cells #[.int .u8 0, .int .u8 0, .int .u8 0, .int .u8 0, .int .u8 0, .int .u8 0, .int .u8 0, .int .u8 0, .int .u8 0, .int .u8 0, .int .u8 0, .int .u8 0, .int .u8 0, .int .u8 0, .int .u8 0, .int .u8 0] 22) = v29_6 at *
                generalize y28_5.heap.size = X at *
                refine wpAnyH_ready (rs := [8]) (by kernel_rfl) (by simp) ?_
                refine AllReadyH.cons (o := ?_) ?_ (fun KK hKK => ?_) AllReadyH.nil
                rotate_left
                · simp only [List.getElem?_toArray, List.getElem?_cons_zero, List.getElem?_cons_succ]
                  rfl
                rw [if_pos (by rfl)]
                refine wp_store_row 22 (.tmp 10) (.tmp 30) rfl X _ rfl rfl 22 _ X29_6.out HIX.out HSX.out (one_cellsN _) ?_
                refine hKK.out _ _ ?_ (fun hh8 => ?_)
                · (try dsimp only)
                  exact F29_6.out.upd ((Upd.refl X _).row _) hSX hSB HB.out
                clear hKK KK
                try simp only [Act.put, List.setIfInBounds_toArray, List.set_cons_zero, List.set_cons_succ]
                refine wpAnyH_ready (rs := [9]) (by kernel_rfl) (by simp) ?_
                refine AllReadyH.cons (o := ?_) ?_ (fun KK hKK => ?_) AllReadyH.nil
                rotate_left
                · simp only [List.getElem?_toArray, List.getElem?_cons_zero, List.getElem?_cons_succ]
                  rfl
                rw [if_pos (by rfl)]
                refine wp_store_row 22 (.tmp 11) (.tmp 33) rfl Y _ rfl rfl 22 _ (Y29_6.out.upd ((Upd.refl X _).row (cellsN x)) (by omega)) HIY.out HSY.out (one_cellsN _) ?_
                refine hKK.out _ _ ?_ (fun hh9 => ?_)
                · (try dsimp only)
                  exact hh8.upd ((Upd.refl Y _).row _) hSY hSB HB.out
                clear hKK KK
                try simp only [Act.put, List.setIfInBounds_toArray, List.set_cons_zero, List.set_cons_succ]
                refine wpAnyH_done (by kernel_rfl) ?_ _
                unfold Exit.then
                exact ⟨X, Y, hSX, hSY, by omega, rfl, hh9, (X29_6.out.row (cellsN x)).upd ((Upd.refl Y _).row _) (by omega), (Y29_6.out.upd ((Upd.refl X _).row (cellsN x)) (by omega)).row _⟩
              exact AllReadyH.nil
            refine AllReadyH.cons (o := ?_) ?_ (fun KK hKK => ?_) ?_
            rotate_left
            · simp only [List.getElem?_toArray, List.getElem?_cons_zero, List.getElem?_cons_succ]
              rfl
            · go_simp
              have F28_6 : Hid (FiI w B S a b c (Gc.xl b c) (List.replicate 16 0) (y27_2.alloc (.cells #[.int .u8 0, .int .u8 0, .int .u8 0, .int .u8 0, .int .u8 0, .int .u8 0, .int .u8 0, .int .u8 0, .int .u8 0, .int .u8 0, .int .u8 0, .int .u8 0, .int .u8 0, .int .u8 0, .int .u8 0, .int .u8 0] 22))) := F27_2.out.kept ((Below.refl _ _).alloc (Nat.le_refl _) _)
              have X28_6 : Hid (Obj (y27_2.alloc (.cells #[.int .u8 0, .int .u8 0, .int .u8 0, .int .u8 0, .int .u8 0, .int .u8 0, .int .u8 0, .int .u8 0, .int .u8 0, .int .u8 0, .int .u8 0, .int .u8 0, .int .u8 0, .int .u8 0, .int .u8 0, .int .u8 0] 22)) y27_2.heap.size 22 (cellsN (List.replicate 16 0))) := Obj.new y27_2 _ _
              have hSX : S + 1 < y27_2.heap.size := F27_2.out.t.lt
              have Y28_6 := Lib.hid (Y27_2.out.alloc (.cells #[.int .u8 0, .int .u8 0, .int .u8 0, .int .u8 0, .int .u8 0, .int .u8 0, .int .u8 0, .int .u8 0, .int .u8 0, .int .u8 0, .int .u8 0, .int .u8 0, .int .u8 0, .int .u8 0, .int .u8 0, .int .u8 0] 22))
              have hne : Y ≠ y27_2.heap.size := by have := Y27_2.out.lt; omega
              refine hKK.out _ _ ?_ (fun hh => ?_)
              · (try dsimp only)
                exact F28_6.out
              clear hKK KK hh F27_2  Y27_2
              try simp only [Act.put, List.setIfInBounds_toArray, List.set_cons_zero, List.set_cons_succ]
              generalize y27_2.alloc (.cells #[.int .u8 0, .int .u8 0, .int .u8 0, .int .u8 0, .int .u8 0, .int .u8 0, .int .u8 0, .int .u8 0, .int .u8 0, .int .u8 0, .int .u8 0, .int .u8 0, .int .u8 0, .int .u8 0, .int .u8 0, .int .u8 0] 22) = v28_6 at *
              generalize y27_2.heap.size = X at *
              refine wpAnyH_ready (rs := [5]) (by kernel_rfl) (by simp) ?_
              refine AllReadyH.cons (o := ?_) ?_ (fun KK hKK => ?_) ?_
              rotate_left
              · simp only [List.getElem?_toArray, List.getElem?_cons_zero, List.getElem?_cons_succ]
                rfl
              · go_simp
                refine (HT2.out _).mono ?_
                rintro e y31_5 ⟨rfl, hy⟩
                have F31_5 := Lib.hid (F28_6.out.kept hy)
                have X31_5 := Lib.hid (X28_6.out.kept hy)
                have Y31_5 := Lib.hid (Y28_6.out.kept hy)
                clear hy
                try go_wp2_with fail
                refine hKK.out _ _ ?_ (fun hh => ?_)
                · (try dsimp only)
                  exact F31_5.out
                clear hKK KK hh
                try simp only [Act.put, List.setIfInBounds_toArray, List.set_cons_zero, List.set_cons_succ]
                refine wpAnyH_ready (rs := [8]) (by kernel_rfl) (by simp) ?_
                refine AllReadyH.cons (o := ?_) ?_ (fun KK hKK => ?_) AllReadyH.nil
                rotate_left
                · simp only [List.getElem?_toArray, List.getElem?_cons_zero, List.getElem?_cons_succ]
                  rfl
                rw [if_pos (by rfl)]
                refine wp_store_row 22 (.tmp 10) (.tmp 30) rfl X _ rfl rfl 22 _ X31_5.out HIX.out HSX.out (one_cellsN _) ?_
                refine hKK.out _ _ ?_ (fun hh8 => ?_)
                · (try dsimp only)
                  exact F31_5.out.upd ((Upd.refl X _).row _) hSX hSB HB.out
                clear hKK KK
                try simp only [Act.put, List.setIfInBounds_toArray, List.set_cons_zero, List.set_cons_succ]
                refine wpAnyH_ready (rs := [9]) (by kernel_rfl) (by simp) ?_
                refine AllReadyH.cons (o := ?_) ?_ (fun KK hKK => ?_) AllReadyH.nil
                rotate_left
                · simp only [List.getElem?_toArray, List.getElem?_cons_zero, List.getElem?_cons_succ]
                  rfl
                rw [if_pos (by rfl)]
                refine wp_store_row 22 (.tmp 11) (.tmp 33) rfl Y _ rfl rfl 22 _ (Y31_5.out.upd ((Upd.refl X _).row (cellsN x)) (by omega)) HIY.out HSY.out (one_cellsN _) ?_
                refine hKK.out _ _ ?_ (fun hh9 => ?_)
                · (try dsimp only)
                  exact hh8.upd ((Upd.refl Y _).row _) hSY hSB HB.out
                clear hKK KK
                try simp only [Act.put, List.setIfInBounds_toArray, List.set_cons_zero, List.set_cons_succ]
                refine wpAnyH_done (by kernel_rfl) ?_ _
                unfold Exit.then
                exact ⟨X, Y, hSX, hSY, by omega, rfl, hh9, (X31_5.out.row (cellsN x)).upd ((Upd.refl Y _).row _) (by omega), (Y31_5.out.upd ((Upd.refl X _).row (cellsN x)) (by omega)).row _⟩
              exact AllReadyH.nil
            exact AllReadyH.nil
          refine AllReadyH.cons (o := ?_) ?_ (fun KK hKK => ?_) ?_
          rotate_left
          · simp only [List.getElem?_toArray, List.getElem?_cons_zero, List.getElem?_cons_succ]
            rfl
          · go_simp
            have F27_6 : Hid (FiI w B S a b c (Gc.xl b c) (List.replicate 16 0) (v1_7.alloc (.cells #[.int .u8 0, .int .u8 0, .int .u8 0, .int .u8 0, .int .u8 0, .int .u8 0, .int .u8 0, .int .u8 0, .int .u8 0, .int .u8 0, .int .u8 0, .int .u8 0, .int .u8 0, .int .u8 0, .int .u8 0, .int .u8 0] 22))) := F1_7.out.kept ((Below.refl _ _).alloc (Nat.le_refl _) _)
            have X27_6 : Hid (Obj (v1_7.alloc (.cells #[.int .u8 0, .int .u8 0, .int .u8 0, .int .u8 0, .int .u8 0, .int .u8 0, .int .u8 0, .int .u8 0, .int .u8 0, .int .u8 0, .int .u8 0, .int .u8 0, .int .u8 0, .int .u8 0, .int .u8 0, .int .u8 0] 22)) v1_7.heap.size 22 (cellsN (List.replicate 16 0))) := Obj.new v1_7 _ _
            have hSX : S + 1 < v1_7.heap.size := F1_7.out.t.lt
            have Y27_6 := Lib.hid (Y1_7.out.alloc (.cells #[.int .u8 0, .int .u8 0, .int .u8 0, .int .u8 0, .int .u8 0, .int .u8 0, .int .u8 0, .int .u8 0, .int .u8 0, .int .u8 0, .int .u8 0, .int .u8 0, .int .u8 0, .int .u8 0, .int .u8 0, .int .u8 0] 22))
            have hne : Y ≠ v1_7.heap.size := by have := Y1_7.out.lt; omega
            refine hKK.out _ _ ?_ (fun hh => ?_)
            · (try dsimp only)
              exact F27_6.out
            clear hKK KK hh F1_7  Y1_7
            try simp only [Act.put, List.setIfInBounds_toArray, List.set_cons_zero, List.set_cons_succ]
            generalize v1_7.alloc (.cells #[.int .u8 0, .int .u8 0, .int .u8 0, .int .u8 0, .int .u8 0, .int .u8 0, .int .u8 0, .int .u8 0, .int .u8 0, .int .u8 0, .int .u8 0, .int .u8 0, .int .u8 0, .int .u8 0, .int .u8 0, .int .u8 0] 22) = v27_6 at *
            generalize v1_7.heap.size = X at *
            refine wpAnyH_ready (rs := [2]) (by kernel_rfl) (by simp) ?_
            refine AllReadyH.cons (o := ?_) ?_ (fun KK hKK => ?_) ?_
            rotate_left
            · simp only [List.getElem?_toArray, List.getElem?_cons_zero, List.getElem?_cons_succ]
              rfl
            · go_simp
              refine (HT1.out _).mono ?_
              rintro e y33_2 ⟨rfl, hy⟩
              have F33_2 := Lib.hid (F27_6.out.kept hy)
              have X33_2 := Lib.hid (X27_6.out.kept hy)
              have Y33_2 := Lib.hid (Y27_6.out.kept hy)
              clear hy
              try go_wp2_with fail
              refine hKK.out _ _ ?_ (fun hh => ?_)
              · (try dsimp only)
                exact F33_2.out
              clear hKK KK hh
              try simp only [Act.put, List.setIfInBounds_toArray, List.set_cons_zero, List.set_cons_succ]
              refine wpAnyH_ready (rs := [5]) (by kernel_rfl) (by simp) ?_
              refine AllReadyH.cons (o := ?_) ?_ (fun KK hKK => ?_) ?_
              rotate_left
              · simp only [List.getElem?_toArray, List.getElem?_cons_zero, List.getElem?_cons_succ]
                rfl
              · go_simp
                refine (HT2.out _).mono ?_
                rintro e y34_5 ⟨rfl, hy⟩
                have F34_5 := Lib.hid (F33_2.out.kept hy)
                have X34_5 := Lib.hid (X33_2.out.kept hy)
                have Y34_5 := Lib.hid (Y33_2.out.kept hy)
                clear hy
                try go_wp2_with fail
                refine hKK.out _ _ ?_ (fun hh => ?_)
                · (try dsimp only)
                  exact F34_5.out
                clear hKK KK hh
                try simp only [Act.put, List.setIfInBounds_toArray, List.set_cons_zero, List.set_cons_succ]
                refine wpAnyH_ready (rs := [8]) (by kernel_rfl) (by simp) ?_
                refine AllReadyH.cons (o := ?_) ?_ (fun KK hKK => ?_) AllReadyH.nil
                rotate_left
                · simp only [List.getElem?_toArray, List.getElem?_cons_zero, List.getElem?_cons_succ]
                  rfl
                rw [if_pos (by rfl)]
                refine wp_store_row 22 (.tmp 10) (.tmp 30) rfl X _ rfl rfl 22 _ X34_5.out HIX.out HSX.out (one_cellsN _) ?_
                refine hKK.out _ _ ?_ (fun hh8 => ?_)
                · (try dsimp only)
                  exact F34_5.out.upd ((Upd.refl X _).row _) hSX hSB HB.out
                clear hKK KK
                try simp only [Act.put, List.setIfInBounds_toArray, List.set_cons_zero, List.set_cons_succ]
                refine wpAnyH_ready (rs := [9]) (by kernel_rfl) (by simp) ?_
                refine AllReadyH.cons (o := ?_) ?_ (fun KK hKK => ?_) AllReadyH.nil
                rotate_left
                · simp only [List.getElem?_toArray, List.getElem?_cons_zero, List.getElem?_cons_succ]
                  rfl
                rw [if_pos (by rfl)]
                refine wp_store_row 22 (.tmp 11) (.tmp 33) rfl Y _ rfl rfl 22 _ (Y34_5.out.upd ((Upd.refl X _).row (cellsN x)) (by omega)) HIY.out HSY.out (one_cellsN _) ?_
                refine hKK.out _ _ ?_ (fun hh9 => ?_)
                · (try dsimp only)
                  exact hh8.upd ((Upd.refl Y _).row _) hSY hSB HB.out
                clear hKK KK
                try simp only [Act.put, List.setIfInBounds_toArray, List.set_cons_zero, List.set_cons_succ]
                refine wpAnyH_done (by kernel_rfl) ?_ _
                unfold Exit.then
                exact ⟨X, Y, hSX, hSY, by omega, rfl, hh9, (X34_5.out.row (cellsN x)).upd ((Upd.refl Y _).row _) (by omega), (Y34_5.out.upd ((Upd.refl X _).row (cellsN x)) (by omega)).row _⟩
              exact AllReadyH.nil
            exact AllReadyH.nil
          exact AllReadyH.nil
        exact AllReadyH.nil
      intro e aa W8 hth
      obtain ⟨rfl, X, Y, hSX, hSY, hXY, rfl, hh9⟩ := then_false hth
      clear hth
      have HF4 : Hid (FiI w B S a b c (Gc.xl b c) (List.replicate 16 0) W8 ∧ Obj W8 X 22 (cellsN x) ∧ Obj W8 Y 22 (cellsN y)) := hh9
      clear hh9
      go_wp2
      go_loopw [12] (fun i wr => ∃ j : Nat, j ≤ 16 ∧ i = .int .i64 j ∧ FiI w B S a b c (Gc.xl b c) (Ae.upto (fun i => x.getD i 0 ^^^ y.getD i 0) (List.replicate 16 0) j) wr ∧ Obj wr X 22 (cellsN x) ∧ Obj wr Y 22 (cellsN y)) (fun i _ => 16 - (intOf i).toNat)
      case atStart => exact ⟨0, by omega, rfl, by rw [Ae.upto_zero]; exact HF4.out.1, HF4.out.2.1, HF4.out.2.2⟩
      case round =>
        clear HF4
        obtain ⟨j, hj, rfl, hF, hX, hY⟩ := hrel
        by_cases hlt : j < 16
        · have hji : (j : Int) < 16 := by omega
          have g0 := hX.getN j (by rw [HLX.out]; exact hlt)
          have g1 := hY.getN j (by rw [HLY.out]; exact hlt)
          have g2 := hF.t.free j
          obtain ⟨v2, g3⟩ : ∃ v, wr.cell? ⟨S + 1, j, none⟩ = some v := ⟨_, hF.t.getN j (by rw [Ae.upto_len]; simpa using hlt)⟩
          have hxr := u8_xor_nat (x.getD j 0) (y.getD j 0) (by rw [List.getD_eq_getElem?_getD, List.getElem?_eq_getElem (by rw [HLX.out]; exact hlt)]; exact HQX.out _ (List.getElem_mem _)) (by rw [List.getD_eq_getElem?_getD, List.getElem?_eq_getElem (by rw [HLY.out]; exact hlt)]; exact HQY.out _ (List.getElem_mem _))
          have HNX : Hid (FiI w B S a b c (Gc.xl b c) (Ae.upto (fun i => x.getD i 0 ^^^ y.getD i 0) (List.replicate 16 0) (j + 1)) (wr.drew.setCell ⟨S + 1, j, none⟩ (.int .u8 ((x.getD j 0 ^^^ y.getD j 0 : Nat) : Int))) ∧ Obj (wr.drew.setCell ⟨S + 1, j, none⟩ (.int .u8 ((x.getD j 0 ^^^ y.getD j 0 : Nat) : Int))) X 22 (cellsN x) ∧ Obj (wr.drew.setCell ⟨S + 1, j, none⟩ (.int .u8 ((x.getD j 0 ^^^ y.getD j 0 : Nat) : Int))) Y 22 (cellsN y)) := by
            have := hF.drew.setT hSB HB.out j (x.getD j 0 ^^^ y.getD j 0)
            rw [Ae.upto_set (fun i => x.getD i 0 ^^^ y.getD i 0) (List.replicate 16 0) j (by simpa using hlt)] at this
            exact ⟨this, hX.drew.far (by simp; omega) _, hY.drew.far (by simp; omega) _⟩
          clear hF hX hY
          generalize x.getD j 0 = p at *
          generalize y.getD j 0 = q at *
          go_wp2
          go_region
          go_wp2
          go_roundw
          case rel => exact ⟨j + 1, by omega, by go_num, HNX.out⟩
          case measure => simp [intOf]; omega
        · obtain rfl : j = 16 := by omega
          rw [xl_upto] at hF
          have HG : Hid (FiI w B S a b c (Gc.xl b c) (Gc.xl x y) wr.drew ∧ Obj wr.drew X 22 (cellsN x)) := ⟨hF.drew, hX.drew⟩
          clear hF hX hY hj hlt
          generalize Gc.xl b c = s at *
          generalize Gc.xl x y = t at *
          go_wp2
          refine wp_nopanic0 ?_
          refine wp_region_held_drew (S := (fun wq => FiI w B S a b c s t wq ∧ Obj wq X 22 (cellsN x))) (by kernel_rfl) HG.out (fun hHeld => ?_)
          refine wpAnyH_take (i := 0) (oi := ?_) (v := ?_) ?_ ?_ ?_ ?_ ?_ ?_ (by assumption) ?_
          rotate_left 2
          · simp only [List.getElem?_toArray, List.getElem?_cons_zero, List.getElem?_cons_succ]
            rfl
          · kernel_rfl
          · kernel_rfl
          · kernel_rfl
          · exact fun _ _ _ h => h
          · refine yieldsIf_load_row (g := X) (t := 22) (cs := cellsN x) (ty := 22) (x := (.tmp 10)) ?_ ?_ ?_ ?_ Try.underlying22 rfl HIX.out
            · rfl
            · rfl
            · rfl
            · exact fun w hSw => hSw.2
          simp only [Act.put, List.setIfInBounds_toArray, List.set_cons_zero, List.set_cons_succ]
          refine wpAnyH_take (i := 1) (oi := ?_) (v := ?_) ?_ ?_ ?_ ?_ ?_ ?_ (by assumption) ?_
          rotate_left 2
          · simp only [List.getElem?_toArray, List.getElem?_cons_zero, List.getElem?_cons_succ]
            rfl
          · kernel_rfl
          · kernel_rfl
          · kernel_rfl
          · exact fun _ _ _ h => h
          · refine yieldsIf_load_row (g := (B + 1)) (t := 22) (cs := cellsN b) (ty := 22) (x := (.tmp 4)) ?_ ?_ ?_ ?_ Try.underlying22 rfl HIB.out
            · rfl
            · rfl
            · rfl
            · exact fun w hSw => hSw.1.b
          simp only [Act.put, List.setIfInBounds_toArray, List.set_cons_zero, List.set_cons_succ]
          refine wpAnyH_take (i := 2) (oi := ?_) (v := ?_) ?_ ?_ ?_ ?_ ?_ ?_ (by assumption) ?_
          rotate_left 2
          · simp only [List.getElem?_toArray, List.getElem?_cons_zero, List.getElem?_cons_succ]
            rfl
          · kernel_rfl
          · kernel_rfl
          · kernel_rfl
          · exact fun _ _ _ h => h
          · refine yieldsIf_load_row (g := B) (t := 22) (cs := cellsN a) (ty := 22) (x := (.tmp 3)) ?_ ?_ ?_ ?_ Try.underlying22 rfl HIA.out
            · rfl
            · rfl
            · rfl
            · exact fun w hSw => hSw.1.a
          simp only [Act.put, List.setIfInBounds_toArray, List.set_cons_zero, List.set_cons_succ]
          refine wpAnyH_ready (rs := [3]) (by kernel_rfl) (by simp) ?_
          refine AllReadyH.cons (o := ?_) ?_ (fun KK hKK => ?_) AllReadyH.nil
          rotate_left
          · simp only [List.getElem?_toArray, List.getElem?_cons_zero, List.getElem?_cons_succ]
            rfl
          go_simp
          refine (HT3.out _).mono ?_
          rintro e z5 ⟨rfl, hz5⟩
          have HG5 : Hid (FiI w B S a b c s t z5 ∧ Obj z5 X 22 (cellsN x)) := ⟨HG.out.1.kept hz5, HG.out.2.kept hz5⟩
          clear hz5
          try go_wp2_with fail
          refine hKK.out _ _ ?_ (fun hh3 => ?_)
          · (try dsimp only)
            exact HG5.out
          clear hKK KK
          try simp only [Act.put, List.setIfInBounds_toArray, List.set_cons_zero, List.set_cons_succ]
          refine wpAnyH_take (i := 4) (oi := ?_) (v := ?_) ?_ ?_ ?_ ?_ ?_ ?_ (by assumption) ?_
          rotate_left 2
          · simp only [List.getElem?_toArray, List.getElem?_cons_zero, List.getElem?_cons_succ]
            rfl
          · kernel_rfl
          · kernel_rfl
          · kernel_rfl
          · exact fun _ _ _ h => h
          · refine Or.inl ⟨by rfl, ?_⟩
            intro w hSw
            (try dsimp only at hSw)
            go_simp
            all_goals with_reducible rfl
          simp only [Act.put, List.setIfInBounds_toArray, List.set_cons_zero, List.set_cons_succ]
          refine wpAnyH_take (i := 5) (oi := ?_) (v := ?_) ?_ ?_ ?_ ?_ ?_ ?_ (by assumption) ?_
          rotate_left 2
          · simp only [List.getElem?_toArray, List.getElem?_cons_zero, List.getElem?_cons_succ]
            rfl
          · kernel_rfl
          · kernel_rfl
          · kernel_rfl
          · exact fun _ _ _ h => h
          · refine Or.inl ⟨by rfl, ?_⟩
            intro w hSw
            (try dsimp only at hSw)
            go_simp
            all_goals with_reducible rfl
          simp only [Act.put, List.setIfInBounds_toArray, List.set_cons_zero, List.set_cons_succ]
          refine wpAnyH_take (i := 6) (oi := ?_) (v := ?_) ?_ ?_ ?_ ?_ ?_ ?_ (by assumption) ?_
          rotate_left 2
          · simp only [List.getElem?_toArray, List.getElem?_cons_zero, List.getElem?_cons_succ]
            rfl
          · kernel_rfl
          · kernel_rfl
          · kernel_rfl
          · exact fun _ _ _ h => h
          · refine yieldsIf_load_row (g := B) (t := 22) (cs := cellsN a) (ty := 22) (x := (.tmp 3)) ?_ ?_ ?_ ?_ Try.underlying22 rfl HIA.out
            · rfl
            · rfl
            · rfl
            · exact fun w hSw => hSw.1.a
          simp only [Act.put, List.setIfInBounds_toArray, List.set_cons_zero, List.set_cons_succ]
          refine wpAnyH_take (i := 7) (oi := ?_) (v := ?_) ?_ ?_ ?_ ?_ ?_ ?_ (by assumption) ?_
          rotate_left 2
          · simp only [List.getElem?_toArray, List.getElem?_cons_zero, List.getElem?_cons_succ]
            rfl
          · kernel_rfl
          · kernel_rfl
          · kernel_rfl
          · exact fun _ _ _ h => h
          · refine yieldsIf_load_row (g := S) (t := 22) (cs := cellsN s) (ty := 22) (x := (.tmp 7)) ?_ ?_ ?_ ?_ Try.underlying22 rfl HIS.out
            · rfl
            · rfl
            · rfl
            · exact fun w hSw => hSw.1.s
          simp only [Act.put, List.setIfInBounds_toArray, List.set_cons_zero, List.set_cons_succ]
          refine wpAnyH_take (i := 9) (oi := ?_) (v := ?_) ?_ ?_ ?_ ?_ ?_ ?_ (by assumption) ?_
          rotate_left 2
          · simp only [List.getElem?_toArray, List.getElem?_cons_zero, List.getElem?_cons_succ]
            rfl
          · kernel_rfl
          · kernel_rfl
          · kernel_rfl
          · exact fun _ _ _ h => h
          · refine yieldsIf_load_row (g := (S + 1)) (t := 22) (cs := cellsN t) (ty := 22) (x := (.tmp 8)) ?_ ?_ ?_ ?_ Try.underlying22 rfl HIT.out
            · rfl
            · rfl
            · rfl
            · exact fun w hSw => hSw.1.t
          simp only [Act.put, List.setIfInBounds_toArray, List.set_cons_zero, List.set_cons_succ]
          refine wpAnyH_ready (rs := [8]) (by kernel_rfl) (by simp) ?_
          refine AllReadyH.cons (o := ?_) ?_ (fun KK hKK => ?_) AllReadyH.nil
          rotate_left
          · simp only [List.getElem?_toArray, List.getElem?_cons_zero, List.getElem?_cons_succ]
            rfl
          go_simp
          refine (HT4.out _).mono ?_
          rintro e z6 ⟨rfl, hz6⟩
          have HG6 : Hid (FiI w B S a b c s t z6 ∧ Obj z6 X 22 (cellsN x)) := ⟨HG5.out.1.kept hz6, HG5.out.2.kept hz6⟩
          clear hz6
          try go_wp2_with fail
          refine hKK.out _ _ ?_ (fun hh8 => ?_)
          · (try dsimp only)
            exact HG6.out
          clear hKK KK
          try simp only [Act.put, List.setIfInBounds_toArray, List.set_cons_zero, List.set_cons_succ]
          refine wpAnyH_take (i := 10) (oi := ?_) (v := ?_) ?_ ?_ ?_ ?_ ?_ ?_ (by assumption) ?_
          rotate_left 2
          · simp only [List.getElem?_toArray, List.getElem?_cons_zero, List.getElem?_cons_succ]
            rfl
          · kernel_rfl
          · kernel_rfl
          · kernel_rfl
          · exact fun _ _ _ h => h
          · refine Or.inl ⟨by rfl, ?_⟩
            intro w hSw
            (try dsimp only at hSw)
            go_simp
            all_goals with_reducible rfl
          simp only [Act.put, List.setIfInBounds_toArray, List.set_cons_zero, List.set_cons_succ]
          refine wpAnyH_take (i := 11) (oi := ?_) (v := ?_) ?_ ?_ ?_ ?_ ?_ ?_ (by assumption) ?_
          rotate_left 2
          · simp only [List.getElem?_toArray, List.getElem?_cons_zero, List.getElem?_cons_succ]
            rfl
          · kernel_rfl
          · kernel_rfl
          · kernel_rfl
          · exact fun _ _ _ h => h
          · refine Or.inl ⟨by rfl, ?_⟩
            intro w hSw
            (try dsimp only at hSw)
            go_simp
            all_goals with_reducible rfl
          simp only [Act.put, List.setIfInBounds_toArray, List.set_cons_zero, List.set_cons_succ]
          refine wpAnyH_take (i := 12) (oi := ?_) (v := ?_) ?_ ?_ ?_ ?_ ?_ ?_ (by assumption) ?_
          rotate_left 2
          · simp only [List.getElem?_toArray, List.getElem?_cons_zero, List.getElem?_cons_succ]
            rfl
          · kernel_rfl
          · kernel_rfl
          · kernel_rfl
          · exact fun _ _ _ h => h
          · refine Or.inl ⟨by rfl, ?_⟩
            intro w hSw
            (try dsimp only at hSw)
            go_simp
            all_goals with_reducible rfl
          simp only [Act.put, List.setIfInBounds_toArray, List.set_cons_zero, List.set_cons_succ]
          refine wpAnyH_take (i := 13) (oi := ?_) (v := ?_) ?_ ?_ ?_ ?_ ?_ ?_ (by assumption) ?_
          rotate_left 2
          · simp only [List.getElem?_toArray, List.getElem?_cons_zero, List.getElem?_cons_succ]
            rfl
          · kernel_rfl
          · kernel_rfl
          · kernel_rfl
          · exact fun _ _ _ h => h
          · refine yieldsIf_load_row (g := B) (t := 22) (cs := cellsN a) (ty := 22) (x := (.tmp 3)) ?_ ?_ ?_ ?_ Try.underlying22 rfl HIA.out
            · rfl
            · rfl
            · rfl
            · exact fun w hSw => hSw.1.a
          simp only [Act.put, List.setIfInBounds_toArray, List.set_cons_zero, List.set_cons_succ]
          refine wpAnyH_take (i := 14) (oi := ?_) (v := ?_) ?_ ?_ ?_ ?_ ?_ ?_ (by assumption) ?_
          rotate_left 2
          · simp only [List.getElem?_toArray, List.getElem?_cons_zero, List.getElem?_cons_succ]
            rfl
          · kernel_rfl
          · kernel_rfl
          · kernel_rfl
          · exact fun _ _ _ h => h
          · refine Or.inl ⟨by rfl, ?_⟩
            intro w hSw
            (try dsimp only at hSw)
            go_simp
            all_goals with_reducible rfl
          simp only [Act.put, List.setIfInBounds_toArray, List.set_cons_zero, List.set_cons_succ]
          refine wpAnyH_take (i := 16) (oi := ?_) (v := ?_) ?_ ?_ ?_ ?_ ?_ ?_ (by assumption) ?_
          rotate_left 2
          · simp only [List.getElem?_toArray, List.getElem?_cons_zero, List.getElem?_cons_succ]
            rfl
          · kernel_rfl
          · kernel_rfl
          · kernel_rfl
          · exact fun _ _ _ h => h
          · refine yieldsIf_load_row (g := B) (t := 22) (cs := cellsN a) (ty := 22) (x := (.tmp 3)) ?_ ?_ ?_ ?_ Try.underlying22 rfl HIA.out
            · rfl
            · rfl
            · rfl
            · exact fun w hSw => hSw.1.a
          simp only [Act.put, List.setIfInBounds_toArray, List.set_cons_zero, List.set_cons_succ]
          refine wpAnyH_ready (rs := [15]) (by kernel_rfl) (by simp) ?_
          refine AllReadyH.cons (o := ?_) ?_ (fun KK hKK => ?_) AllReadyH.nil
          rotate_left
          · simp only [List.getElem?_toArray, List.getElem?_cons_zero, List.getElem?_cons_succ]
            rfl
          go_simp
          refine (HT5.out _).mono ?_
          rintro e z7 ⟨rfl, hz7⟩
          have HG7 : Hid (FiI w B S a b c s t z7 ∧ Obj z7 X 22 (cellsN x)) := ⟨HG6.out.1.kept hz7, HG6.out.2.kept hz7⟩
          clear hz7
          try go_wp2_with fail
          refine hKK.out _ _ ?_ (fun hh15 => ?_)
          · (try dsimp only)
            exact HG7.out
          clear hKK KK
          try simp only [Act.put, List.setIfInBounds_toArray, List.set_cons_zero, List.set_cons_succ]
          refine wpAnyH_take (i := 17) (oi := ?_) (v := ?_) ?_ ?_ ?_ ?_ ?_ ?_ (by assumption) ?_
          rotate_left 2
          · simp only [List.getElem?_toArray, List.getElem?_cons_zero, List.getElem?_cons_succ]
            rfl
          · kernel_rfl
          · kernel_rfl
          · kernel_rfl
          · exact fun _ _ _ h => h
          · refine Or.inl ⟨by rfl, ?_⟩
            intro w hSw
            (try dsimp only at hSw)
            go_simp
            all_goals with_reducible rfl
          simp only [Act.put, List.setIfInBounds_toArray, List.set_cons_zero, List.set_cons_succ]
          refine wpAnyH_take (i := 18) (oi := ?_) (v := ?_) ?_ ?_ ?_ ?_ ?_ ?_ (by assumption) ?_
          rotate_left 2
          · simp only [List.getElem?_toArray, List.getElem?_cons_zero, List.getElem?_cons_succ]
            rfl
          · kernel_rfl
          · kernel_rfl
          · kernel_rfl
          · exact fun _ _ _ h => h
          · refine Or.inl ⟨by rfl, ?_⟩
            intro w hSw
            (try dsimp only at hSw)
            go_simp
            all_goals with_reducible rfl
          simp only [Act.put, List.setIfInBounds_toArray, List.set_cons_zero, List.set_cons_succ]
          refine wpAnyH_take (i := 19) (oi := ?_) (v := ?_) ?_ ?_ ?_ ?_ ?_ ?_ (by assumption) ?_
          rotate_left 2
          · simp only [List.getElem?_toArray, List.getElem?_cons_zero, List.getElem?_cons_succ]
            rfl
          · kernel_rfl
          · kernel_rfl
          · kernel_rfl
          · exact fun _ _ _ h => h
          · refine Or.inl ⟨by rfl, ?_⟩
            intro w hSw
            (try dsimp only at hSw)
            go_simp
            all_goals with_reducible rfl
          simp only [Act.put, List.setIfInBounds_toArray, List.set_cons_zero, List.set_cons_succ]
          refine wpAnyH_done (by kernel_rfl) ?_ _
          go_wp2
          go_ret
          exact ⟨rfl, HG7.out.1.bel⟩
end Go.Proofs.Ytnphanhoakbkpaa
