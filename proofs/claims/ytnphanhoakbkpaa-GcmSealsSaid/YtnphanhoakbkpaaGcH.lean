/- Layer 9's gcm, walked: Sum. -/
import Derived.RangeFuncNested
import Derived.RangeFuncBound
import Derived.RangeFuncCalls
import Derived.RangeFuncLeaves
import Derived.RangeFuncBox
import Derived.Shelf.Abstract
import Derived.Shelf.RegionOpen
import Derived.WalkKit
import Derived.OwnWalkIn
import Derived.TacticsInMore
import Derived.LoopN
import Derived.LoopNIn
import Derived.LoopIn
import Derived.WalkSpells
import Derived.WalkLawsBesides
import Derived.Laws.Rows
import Derived.Laws.EntriesVeiled
import Derived.Laws.BitsAllLaws
import Derived.Handy
import Derived.BigQuiet
import Derived.Deep.QuietTactic
import Derived.IntWalk
import Derived.Lib.Hide
import Derived.Outline
import Derived.Test.YtnphanhoakbkpaaRows
import Derived.Test.YtnphanhoakbkpaaAid
import Derived.Test.YtnphanhoakbkpaaPlainAe
import Derived.Test.YtnphanhoakbkpaaPlainAe2
import Derived.Test.YtnphanhoakbkpaaPlainGc
import Derived.Test.YtnphanhoakbkpaaPlainGc2
import Derived.Test.YtnphanhoakbkpaaAesB
import Derived.Test.YtnphanhoakbkpaaAesBox
import Derived.Test.YtnphanhoakbkpaaAesW
import Derived.Test.YtnphanhoakbkpaaAesE
import Derived.Test.YtnphanhoakbkpaaAesK
import Derived.Test.YtnphanhoakbkpaaAesS
import Derived.Test.YtnphanhoakbkpaaAesT
import Derived.Test.YtnphanhoakbkpaaBl
import Derived.Test.YtnphanhoakbkpaaItF
import Derived.Test.YtnphanhoakbkpaaGcA
import Derived.Test.YtnphanhoakbkpaaGcB
import Derived.Test.YtnphanhoakbkpaaGcD
import Derived.Test.YtnphanhoakbkpaaGcE
import Derived.Test.YtnphanhoakbkpaaGcF
import Derived.Test.YtnphanhoakbkpaaGcG
namespace Go.Proofs.Ytnphanhoakbkpaa
open Go Go.RowKit Go.Shelf
set_option linter.unusedVariables false
set_option linter.unusedSimpArgs false
attribute [local go_sem] Oper.semAt_some

/-- Between two blocks: of what was there at the loop's head only the sum has turned. -/
structure SuI (V0 : World) (Y h y0 : Nat) (l : List Nat) (i : Nat) (V : World) : Prop where
  y : Obj V Y 45 (Rm.prs (Gc.absb h y0 l i))
  upd : Upd Y V0 V
theorem SuI.own {V0 : World} {Y h y0 D : Nat} {l : List Nat} (hD : V0.heap.size = D) (hY : Y < D) : OwnFrom D (SuI V0 Y h y0 l) := by
  intro i W V row hI hgr hr
  have hk : ∀ j, j < D → V.heap[j]? = W.heap[j]? := fun j hj => hgr.block j (by have := hI.upd.size; omega) (fun e => by have := (hr j e.symm).1; omega)
  exact ⟨(hk Y hY).trans hI.y, ⟨hgr.os.trans hI.upd.os, hgr.tape.trans hI.upd.tape, hgr.output.trans hI.upd.output, Nat.le_trans hI.upd.size hgr.size, fun j hj hne => (hk j (by omega)).trans (hI.upd.block j hj hne)⟩⟩
theorem chunk_rd {w : World} {g o n i : Nat} {l : List Nat} (h : Rd w (some ⟨g, o, none⟩) l) (hl : l.length = n) (hi : i < (n + 15) / 16) : Rd w (some ⟨g, o + 16 * i, none⟩) (Gc.chunk l i) ∧ (Gc.chunk l i).length = It.len16 n i := by
  have h1 : (Gc.chunk l i).length = It.len16 n i := by
    unfold Gc.chunk It.len16
    rw [List.length_take, List.length_drop, hl]
    split <;> omega
  refine ⟨?_, h1⟩
  unfold Gc.chunk
  have := h.drop (16 * i)
  intro hp
  rw [List.length_take] at hp
  obtain ⟨b, off, e, hb, hc⟩ := this (by omega)
  cases e
  refine ⟨g, o + 16 * i, rfl, hb, fun j hj => ?_⟩
  rw [List.length_take] at hj
  rw [hc j (by omega)]
  simp [List.getD_eq_getElem?_getD, show j < 16 by omega]

theorem wp_nopanic0 {P : Program} {c : Code} {K : Act → World → Prop} {Q : Exit → Act → World → Prop} {a : Act} {w : World} (h : c.wp P (Exit.then K (fun _ _ _ => False)) a w) : c.wp P (Exit.then K Q) a w := by
  refine Code.wp_mono (fun e a w h => ?_) h
  cases e with
  | normal => exact h
  | _ => exact h.elim
/-- A sum under way. -/
structure SuS (w : World) (B Hb k y : Nat) (V : World) : Prop where
  y : Obj V (B + 1 + 1) 45 (Rm.prs y)
  r : Obj V (B + 1) 22 (cellsN (List.replicate 16 0))
  h : Obj V Hb 45 (Rm.prs k)
  f : Obj V (Hb + 1) 51 #[.func (.func 23) #[] #[.pointer (some ⟨B + 1 + 1, 0, none⟩), .pointer (some ⟨Hb, 0, none⟩)]]
  b : Below w.heap.size w V
theorem SuS.kept {w V V' : World} {B Hb k y : Nat} (h : SuS w B Hb k y V) (hb : Below V.heap.size V V') : SuS w B Hb k y V' :=
  ⟨h.y.kept hb, h.r.kept hb, h.h.kept hb, h.f.kept hb, h.b.trans (hb.mono h.b.size)⟩
theorem SuS.upd {w V V' : World} {B Hb k y y' : Nat} (h : SuS w B Hb k y V) (hw : w.heap.size = B) (hB : B + 3 ≤ Hb) (o : Obj V' (B + 1 + 1) 45 (Rm.prs y')) (u : Upd (B + 1 + 1) V V') : SuS w B Hb k y' V' :=
  ⟨o, h.r.upd u (by omega), h.h.upd u (by omega), h.f.upd u (by omega), Upd.below h.b (by omega) u⟩

set_option maxRecDepth 100000 in
set_option maxHeartbeats 16000000 in
theorem sum_any (hl : List Nat) (A1 : Option Addr) (n1 c1 : Nat) (more : List Nat) (A2 : Option Addr) (n2 c2 : Nat) (text : List Nat) (w : World) (l1 : hl.length = 16) (q1 : Ae.bytes hl) (r1 : Rd w A1 more) (m1 : more.length = n1) (b1 : Ae.bytes more) (k1 : n1 ≤ 1000000 ∧ n1 ≤ c1 ∧ c1 ≤ 9223372036854775807) (r2 : Rd w A2 text) (m2 : text.length = n2) (b2 : Ae.bytes text) (k2 : n2 ≤ 1000000 ∧ n2 ≤ c2 ∧ c2 ≤ 9223372036854775807) :
    Calls Try.prog 12 #[.agg (cellsN hl), .slice A1 n1 c1, .slice A2 n2 c2] w fun e w' => e = .returned (.agg (cellsN (Gc.bn (Gc.gsum (Gc.nb hl) more text)))) ∧ Below w.heap.size w w' := by
  obtain ⟨B, hB⟩ : ∃ B, w.heap.size = B := ⟨_, rfl⟩
  refine (callsIn_wide (n := 3)).1 ?_
  refine callsIn_of_wp_marks Try.func12 rfl trivial ?_ rfl
  simp only [Try.ntmps12, List.size_toArray, List.length_cons, List.length_nil, Nat.reduceAdd, Nat.reduceSub, Array.replicate_succ, Array.replicate_zero, List.push_toArray, List.append_toArray, List.nil_append, List.cons_append]
  refine wpIn_wide.2 ?_
  have hlt := Gc.nb16_lt l1 q1
  have HOF : Hid (∀ w, Calls Try.prog 20 #[.agg (cellsN hl)] w fun e w' => e = .returned (.agg #[.int .u64 ((Gc.hi (Gc.nb hl) : Nat) : Int), .int .u64 ((Gc.lo (Gc.nb hl) : Nat) : Int)]) ∧ Below w.heap.size w w') := fun w => of_any hl w l1 q1
  have HSH := Lib.hid (size16 l1)
  have HO0 : Hid (Obj (((w.alloc (.cells (cellsN hl) 22)).alloc (.cells #[.int .u8 0, .int .u8 0, .int .u8 0, .int .u8 0, .int .u8 0, .int .u8 0, .int .u8 0, .int .u8 0, .int .u8 0, .int .u8 0, .int .u8 0, .int .u8 0, .int .u8 0, .int .u8 0, .int .u8 0, .int .u8 0] 22)).alloc (.cells #[.int .u64 0, .int .u64 0] 45)) B 22 (cellsN hl)) := hB ▸ ((Obj.new w _ _).alloc _).alloc _
  go_wp2_with (refine wpList_load_row rfl 22 (.tmp 3) rfl B rfl _ _ _ _ HO0.out Try.underlying22 rfl HSH.out ?_)
  refine (HOF.out _).mono ?_
  rintro e w2 ⟨rfl, hb2⟩
  have HHB : Hid (∃ x, w2.heap.size = x) := ⟨_, rfl⟩
  obtain ⟨Hb, hHb⟩ := HHB.out
  have hB2 : B + 3 ≤ Hb := by have := hb2.size; simp [hB] at this; omega
  obtain ⟨h, hh⟩ : ∃ h, Gc.nb hl = h := ⟨_, rfl⟩
  rw [hh] at hlt
  obtain ⟨V3, hV3⟩ : ∃ V3, ((w2.alloc (.cells #[.int .u64 ((Gc.hi (Gc.nb hl) : Nat) : Int), .int .u64 ((Gc.lo (Gc.nb hl) : Nat) : Int)] 45)).alloc (.cells #[.func (.func 23) #[] #[.pointer (some ⟨B + 1 + 1, 0, none⟩), .pointer (some ⟨w2.heap.size, 0, none⟩)]] 51)) = V3 := ⟨_, rfl⟩
  have hk : Below w2.heap.size w2 V3 := hV3 ▸ ((Below.refl _ w2).alloc (Nat.le_refl _) _).alloc (by simp) _
  have s3 : V3.heap.size = Hb + 2 := by rw [← hV3]; simp [hHb]
  have oh : Obj V3 Hb 45 (Rm.prs h) := hV3 ▸ hHb ▸ (hh ▸ (Obj.new w2 _ _).alloc _)
  have of_ : Obj V3 (Hb + 1) 51 #[.func (.func 23) #[] #[.pointer (some ⟨B + 1 + 1, 0, none⟩), .pointer (some ⟨Hb, 0, none⟩)]] := by
    have := Obj.new (w2.alloc (.cells #[.int .u64 ((Gc.hi (Gc.nb hl) : Nat) : Int), .int .u64 ((Gc.lo (Gc.nb hl) : Nat) : Int)] 45)) 51 #[.func (.func 23) #[] #[.pointer (some ⟨B + 1 + 1, 0, none⟩), .pointer (some ⟨w2.heap.size, 0, none⟩)]]
    rw [World.size_alloc, hHb] at this
    rw [hHb] at hV3
    exact hV3 ▸ this
  have W0b : Below w.heap.size w (((w.alloc (.cells (cellsN hl) 22)).alloc (.cells #[.int .u8 0, .int .u8 0, .int .u8 0, .int .u8 0, .int .u8 0, .int .u8 0, .int .u8 0, .int .u8 0, .int .u8 0, .int .u8 0, .int .u8 0, .int .u8 0, .int .u8 0, .int .u8 0, .int .u8 0, .int .u8 0] 22)).alloc (.cells #[.int .u64 0, .int .u64 0] 45)) := (((Below.refl _ w).alloc (Nat.le_refl _) _).alloc (by simp) _).alloc (by simp; omega) _
  have or0 : Obj (((w.alloc (.cells (cellsN hl) 22)).alloc (.cells #[.int .u8 0, .int .u8 0, .int .u8 0, .int .u8 0, .int .u8 0, .int .u8 0, .int .u8 0, .int .u8 0, .int .u8 0, .int .u8 0, .int .u8 0, .int .u8 0, .int .u8 0, .int .u8 0, .int .u8 0, .int .u8 0] 22)).alloc (.cells #[.int .u64 0, .int .u64 0] 45)) (B + 1) 22 (cellsN (List.replicate 16 0)) := by
    have := (new2 w (.cells (cellsN hl) 22) 22 #[.int .u8 0, .int .u8 0, .int .u8 0, .int .u8 0, .int .u8 0, .int .u8 0, .int .u8 0, .int .u8 0, .int .u8 0, .int .u8 0, .int .u8 0, .int .u8 0, .int .u8 0, .int .u8 0, .int .u8 0, .int .u8 0]).alloc (.cells #[.int .u64 0, .int .u64 0] 45)
    rw [hB] at this; exact this
  have oy0 : Obj (((w.alloc (.cells (cellsN hl) 22)).alloc (.cells #[.int .u8 0, .int .u8 0, .int .u8 0, .int .u8 0, .int .u8 0, .int .u8 0, .int .u8 0, .int .u8 0, .int .u8 0, .int .u8 0, .int .u8 0, .int .u8 0, .int .u8 0, .int .u8 0, .int .u8 0, .int .u8 0] 22)).alloc (.cells #[.int .u64 0, .int .u64 0] 45)) (B + 2) 45 (Rm.prs 0) := by
    have := Obj.new ((w.alloc (.cells (cellsN hl) 22)).alloc (.cells #[.int .u8 0, .int .u8 0, .int .u8 0, .int .u8 0, .int .u8 0, .int .u8 0, .int .u8 0, .int .u8 0, .int .u8 0, .int .u8 0, .int .u8 0, .int .u8 0, .int .u8 0, .int .u8 0, .int .u8 0, .int .u8 0] 22)) 45 #[.int .u64 0, .int .u64 0]
    simp only [World.size_alloc, hB] at this; exact this
  have or3 := (or0.kept hb2).kept hk
  have oy3 := (oy0.kept hb2).kept hk
  have b3 : Below w.heap.size w V3 := (W0b.trans (hb2.mono W0b.size)).trans (hk.mono (Nat.le_trans W0b.size hb2.size))
  obtain ⟨hh0, ehh⟩ : ∃ x, Gc.hi (Gc.nb hl) = x := ⟨_, rfl⟩
  obtain ⟨hl0, ehl⟩ : ∃ x, Gc.lo (Gc.nb hl) = x := ⟨_, rfl⟩
  rw [hHb, ehh, ehl] at hV3
  have HS1 : Hid (SuS w B Hb h 0 V3) := ⟨oy3, or3, oh, of_, b3⟩
  have HV3 := Lib.hid hV3
  have HSZ3 := Lib.hid s3
  have HB := Lib.hid hB
  have HHX := Lib.hid hh
  have HR1 := Lib.hid r1
  have HR2 := Lib.hid r2
  have HM1 := Lib.hid m1
  have HM2 := Lib.hid m2
  have HQ1 := Lib.hid b1
  have HQ2 := Lib.hid b2
  have HLT := Lib.hid hlt
  obtain ⟨g1, o1, hA1⟩ : ∃ g o, 0 < n1 → A1 = some ⟨g, o, none⟩ := by
    rcases Nat.eq_zero_or_pos n1 with h0 | h0
    · exact ⟨0, 0, fun h => by omega⟩
    · obtain ⟨b, o, e, _⟩ := r1 (by omega)
      exact ⟨b, o, fun _ => e⟩
  obtain ⟨g2, o2, hA2⟩ : ∃ g o, 0 < n2 → A2 = some ⟨g, o, none⟩ := by
    rcases Nat.eq_zero_or_pos n2 with h0 | h0
    · exact ⟨0, 0, fun h => by omega⟩
    · obtain ⟨b, o, e, _⟩ := r2 (by omega)
      exact ⟨b, o, fun _ => e⟩
  have HA1 := Lib.hid hA1
  have HA2 := Lib.hid hA2
  have i0 : ∀ w, (Instr.index 52 (.agg #[.slice A1 n1 c1, .slice A2 n2 c2]) (.int .i64 0)).run Try.prog w = .ok (.slice A1 n1 c1) w := fun _ => by kernel_rfl
  have i1 : ∀ w, (Instr.index 52 (.agg #[.slice A1 n1 c1, .slice A2 n2 c2]) (.int .i64 1)).run Try.prog w = .ok (.slice A2 n2 c2) w := fun _ => by kernel_rfl
  clear hb2 hk or0 oy0 or3 oy3 b3 oh of_ W0b hV3 s3 r1 r2 m1 m2 b1 b2 hA1 hA2 hlt l1 q1 hh HO0 HOF
  go_wp2
  rw [HV3.out]
  clear HV3 hB
  refine wp_loop_rounds 3 ?_
  rw [rounds_succ]
  go_wp2_with fail
  refine (It.chunk_any A1 n1 c1 V3).mono ?_
  rintro e w' ⟨rfl, rfl⟩
  obtain ⟨C1, hC1⟩ : ∃ C1, V3.heap.size = C1 := ⟨_, rfl⟩
  obtain ⟨Q1, hQ1⟩ : ∃ Q1, (V3.alloc (.cells #[.slice A1 n1 c1] 23)).alloc (.cells #[.int .i64 16] 3) = Q1 := ⟨_, rfl⟩
  have kb1 : Below V3.heap.size V3 Q1 := hQ1 ▸ ((Below.refl _ V3).alloc (Nat.le_refl _) _).alloc (by simp) _
  have ks1 : Q1.heap.size = C1 + 2 := by rw [← hQ1]; simp [hC1]
  have x01 : Obj Q1 C1 23 #[.slice A1 n1 c1] := hQ1 ▸ hC1 ▸ (Obj.new V3 _ _).alloc _
  have x11 : Obj Q1 (C1 + 1) 3 #[.int .i64 16] := by
    have := Obj.new (V3.alloc (.cells #[.slice A1 n1 c1] 23)) 3 #[.int .i64 16]
    rw [World.size_alloc, hC1] at this
    exact hQ1 ▸ this
  rw [hC1, hQ1]
  have HT1 := Lib.hid (HS1.out.kept kb1)
  have hHbC1 : Hb + 2 ≤ C1 := by have := HS1.out.f.lt; omega
  have hRQ1 := HR1.out.below HT1.out.b
  have hI01 : SuI Q1 (B + 1 + 1) h 0 more 0 Q1 := ⟨HT1.out.y, Upd.refl _ _⟩
  have HX01 := Lib.hid x01
  have HX11 := Lib.hid x11
  clear x01 x11 hQ1 kb1
  go_wp2
  refine (wpIn_wide (n := 3)).1 ?_
  refine It.wpIn_rangeFunc_ix (n := 3) rfl (by omega) (gf := 34) (lb := #[.pointer (some ⟨C1, 0, none⟩), .pointer (some ⟨C1 + 1, 0, none⟩)]) rfl trivial (enters_of Try.func34 (by kernel_rfl) rfl)
    (It.chunk1_gives 2 (by omega) C1 g1 o1 n1 c1 A1 HA1.out k1.1 k1.2) (fun i => rfl) (fun i V => SuI Q1 (B + 1 + 1) h 0 more i V) (fun _ _ _ => False) ?own (fun _ _ _ _ _ hs _ _ => hs) ?tell hI01
    (fun i => { tmps := #[.agg (cellsN hl), .slice A1 n1 c1, .slice A2 n2 c2, .pointer (some ⟨B, 0, none⟩), undef, undef, .pointer (some ⟨B + 1, 0, none⟩), .pointer (some ⟨B + 1 + 1, 0, none⟩), .pointer (some ⟨Hb, 0, none⟩), .pointer (some ⟨Hb + 1, 0, none⟩), undef, .slice A1 n1 c1, .slice (some ⟨g1, o1 + 16 * i, none⟩) (It.len16 n1 i) (It.len16 n1 i), undef, .agg (cellsN hl), .agg #[.int .u64 (hh0 : Int), .int .u64 (hl0 : Int)], .func (.func 23) #[] #[.pointer (some ⟨B + 1 + 1, 0, none⟩), .pointer (some ⟨Hb, 0, none⟩)], .slice A1 n1 c1, .slice A2 n2 c2, .agg #[.slice A1 n1 c1, .slice A2 n2 c2], .int .i64 0, .bool true, .slice A1 n1 c1, .slice A1 n1 c1, .func (.func 34) #[] #[.pointer (some ⟨C1, 0, none⟩), .pointer (some ⟨C1 + 1, 0, none⟩)], .slice (some ⟨g1, o1 + 16 * i, none⟩) (It.len16 n1 i) (It.len16 n1 i), undef, undef, undef, undef, undef, undef, undef, undef, undef, undef, undef, undef, undef, undef, undef, undef, undef, undef, undef], defers := [] }) ?assign ?body ?done ?stop
  case own => exact SuI.own rfl (by omega)
  case tell => intro i V hV; exact ⟨(HX01.out.upd hV.upd (by omega)).cell 0, (HX11.out.upd hV.upd (by omega)).cell 0⟩
  case assign =>
    intro l i W K hK
    dsimp only [It.enc16]
    generalize o1 + 16 * i = q at *
    generalize It.len16 n1 i = m at *
    gi_wp2
    simpa using hK
  case body =>
    intro l i W hI hiN
    have hu := hI.upd
    have hn0 : 0 < n1 := by omega
    have HFW : Hid (Obj W (Hb + 1) _ _) := HT1.out.f.upd hu (by omega)
    have HTK : Hid (Calls Try.prog 23 (#[.slice (some ⟨g1, o1 + 16 * i, none⟩) (It.len16 n1 i) (It.len16 n1 i)] ++ #[.pointer (some ⟨B + 1 + 1, 0, none⟩), .pointer (some ⟨Hb, 0, none⟩)]) W fun e w' => (∃ v, e = .returned v) ∧ (KeepsFrom Q1.heap.size W w' ∧ SuI Q1 (B + 1 + 1) h 0 more (i + 1) w')) := by
      have hrr := HR1.out
      rw [HA1.out hn0] at hrr
      have hbW : Below w.heap.size w W := Upd.below HT1.out.b (by have := HB.out; omega) hu
      obtain ⟨q1, q2⟩ := chunk_rd (hrr.below hbW) HM1.out hiN
      refine (take_any (B + 1 + 1) Hb (Gc.absb h 0 more i) h _ _ _ (Gc.chunk more i) W hI.y (HT1.out.h.upd hu (by omega)) (by omega) (Gc.absb_lt HLT.out (by decide) i) HLT.out q1 q2 (by rw [← q2]; exact Gc.chunk_len _ _) (Gc.chunk_bytes HQ1.out i)).mono ?_
      rintro e w' ⟨h1, h2, h3⟩
      exact ⟨h1, ⟨h3.size, fun k o hk ho _ => (h3.block k (Array.getElem?_eq_some_iff.1 ho).1 (by omega)).trans ho⟩, h2, hu.trans h3⟩
    have c0 := HFW.out.cell 0
    clear hI hu hI01
    generalize o1 + 16 * i = q at *
    generalize It.len16 n1 i = m at *
    gi_wp2
    refine ⟨trivial, ?_⟩
    refine (CallsIn.inRound l (callsIn_wide.2 HTK.out)).mono ?_
    rintro e w' ⟨⟨v, rfl⟩, hI'⟩
    gi_wp2
    exact hI'
  case stop =>
    rintro D c i V hD h _
    exact h.elim
  case done =>
    intro D1 V hD hI hK
    have hI' : SuI Q1 (B + 1 + 1) h 0 more ((n1 + 15) / 16) V := hI
    rw [show (n1 + 15) / 16 = Gc.nch more from by unfold Gc.nch; rw [HM1.out]] at hI'
    have HS2 := Lib.hid (HT1.out.upd HB.out hB2 hI'.y hI'.upd)
    have HDD := Lib.hid hK
    have hDB : B + 3 < D1 := by omega
    clear hI hI' hK hI01
    go_wp2
    rw [rounds_succ]
    go_wp2_with fail
    refine (It.chunk_any A2 n2 c2 V).mono ?_
    rintro e w' ⟨rfl, rfl⟩
    obtain ⟨C2, hC2⟩ : ∃ C2, V.heap.size = C2 := ⟨_, rfl⟩
    obtain ⟨Q2, hQ2⟩ : ∃ Q2, (V.alloc (.cells #[.slice A2 n2 c2] 23)).alloc (.cells #[.int .i64 16] 3) = Q2 := ⟨_, rfl⟩
    have kb2 : Below V.heap.size V Q2 := hQ2 ▸ ((Below.refl _ V).alloc (Nat.le_refl _) _).alloc (by simp) _
    have ks2 : Q2.heap.size = C2 + 2 := by rw [← hQ2]; simp [hC2]
    have x02 : Obj Q2 C2 23 #[.slice A2 n2 c2] := hQ2 ▸ hC2 ▸ (Obj.new V _ _).alloc _
    have x12 : Obj Q2 (C2 + 1) 3 #[.int .i64 16] := by
      have := Obj.new (V.alloc (.cells #[.slice A2 n2 c2] 23)) 3 #[.int .i64 16]
      rw [World.size_alloc, hC2] at this
      exact hQ2 ▸ this
    rw [hC2, hQ2]
    have HT2 := Lib.hid (HS2.out.kept kb2)
    have hHbC2 : Hb + 2 ≤ C2 := by have := HS2.out.f.lt; omega
    have hRQ2 := HR2.out.below HT2.out.b
    have hI02 : SuI Q2 (B + 1 + 1) h (Gc.absb h 0 more (Gc.nch more)) text 0 Q2 := ⟨HT2.out.y, Upd.refl _ _⟩
    have HX02 := Lib.hid x02
    have HX12 := Lib.hid x12
    have HD2 : Hid (Q2.heap[D1]? = some (.deferred (some []))) := (kb2.block D1 (Array.getElem?_eq_some_iff.1 HDD.out).1).trans HDD.out
    clear x02 x12 hQ2 kb2
    go_wp2
    refine (wpIn_wide (n := 3)).1 ?_
    refine It.wpIn_rangeFunc_ix (n := 3) rfl (by omega) (gf := 34) (lb := #[.pointer (some ⟨C2, 0, none⟩), .pointer (some ⟨C2 + 1, 0, none⟩)]) rfl trivial (enters_of Try.func34 (by kernel_rfl) rfl)
      (It.chunk1_gives 2 (by omega) C2 g2 o2 n2 c2 A2 HA2.out k2.1 k2.2) (fun i => rfl) (fun i V => SuI Q2 (B + 1 + 1) h (Gc.absb h 0 more (Gc.nch more)) text i V) (fun _ _ _ => False) ?own (fun _ _ _ _ _ hs _ _ => hs) ?tell hI02
      (fun i => { tmps := #[.agg (cellsN hl), .slice A1 n1 c1, .slice A2 n2 c2, .pointer (some ⟨B, 0, none⟩), undef, undef, .pointer (some ⟨B + 1, 0, none⟩), .pointer (some ⟨B + 1 + 1, 0, none⟩), .pointer (some ⟨Hb, 0, none⟩), .pointer (some ⟨Hb + 1, 0, none⟩), undef, .slice A2 n2 c2, .slice (some ⟨g2, o2 + 16 * i, none⟩) (It.len16 n2 i) (It.len16 n2 i), undef, .agg (cellsN hl), .agg #[.int .u64 (hh0 : Int), .int .u64 (hl0 : Int)], .func (.func 23) #[] #[.pointer (some ⟨B + 1 + 1, 0, none⟩), .pointer (some ⟨Hb, 0, none⟩)], .slice A1 n1 c1, .slice A2 n2 c2, .agg #[.slice A1 n1 c1, .slice A2 n2 c2], .int .i64 1, .bool true, .slice A2 n2 c2, .slice A2 n2 c2, .func (.func 34) #[] #[.pointer (some ⟨C2, 0, none⟩), .pointer (some ⟨C2 + 1, 0, none⟩)], .slice (some ⟨g2, o2 + 16 * i, none⟩) (It.len16 n2 i) (It.len16 n2 i), undef, undef, undef, .int .i64 1, undef, undef, undef, undef, undef, undef, undef, undef, undef, undef, undef, undef, undef, undef, undef], defers := [] }) ?assign ?body ?done ?stop
    case own => exact SuI.own rfl (by omega)
    case tell => intro i V hV; exact ⟨(HX02.out.upd hV.upd (by omega)).cell 0, (HX12.out.upd hV.upd (by omega)).cell 0⟩
    case assign =>
      intro l i W K hK
      dsimp only [It.enc16]
      generalize o2 + 16 * i = q at *
      generalize It.len16 n2 i = m at *
      gi_wp2
      simpa using hK
    case body =>
      intro l i W hI hiN
      have hu := hI.upd
      have hn0 : 0 < n2 := by omega
      have HFW : Hid (Obj W (Hb + 1) _ _) := HT2.out.f.upd hu (by omega)
      have HTK : Hid (Calls Try.prog 23 (#[.slice (some ⟨g2, o2 + 16 * i, none⟩) (It.len16 n2 i) (It.len16 n2 i)] ++ #[.pointer (some ⟨B + 1 + 1, 0, none⟩), .pointer (some ⟨Hb, 0, none⟩)]) W fun e w' => (∃ v, e = .returned v) ∧ (KeepsFrom Q2.heap.size W w' ∧ SuI Q2 (B + 1 + 1) h (Gc.absb h 0 more (Gc.nch more)) text (i + 1) w')) := by
        have hrr := HR2.out
        rw [HA2.out hn0] at hrr
        have hbW : Below w.heap.size w W := Upd.below HT2.out.b (by have := HB.out; omega) hu
        obtain ⟨q1, q2⟩ := chunk_rd (hrr.below hbW) HM2.out hiN
        refine (take_any (B + 1 + 1) Hb (Gc.absb h (Gc.absb h 0 more (Gc.nch more)) text i) h _ _ _ (Gc.chunk text i) W hI.y (HT2.out.h.upd hu (by omega)) (by omega) (Gc.absb_lt HLT.out (Gc.absb_lt HLT.out (by decide) _) i) HLT.out q1 q2 (by rw [← q2]; exact Gc.chunk_len _ _) (Gc.chunk_bytes HQ2.out i)).mono ?_
        rintro e w' ⟨h1, h2, h3⟩
        exact ⟨h1, ⟨h3.size, fun k o hk ho _ => (h3.block k (Array.getElem?_eq_some_iff.1 ho).1 (by omega)).trans ho⟩, h2, hu.trans h3⟩
      have c0 := HFW.out.cell 0
      clear hI hu hI02
      generalize o2 + 16 * i = q at *
      generalize It.len16 n2 i = m at *
      gi_wp2
      refine ⟨trivial, ?_⟩
      refine (CallsIn.inRound l (callsIn_wide.2 HTK.out)).mono ?_
      rintro e w' ⟨⟨v, rfl⟩, hI'⟩
      gi_wp2
      exact hI'
    case stop =>
      rintro D c i V hD h _
      exact h.elim
    case done =>
      intro D2 V2 hD hI hK
      have hI' : SuI Q2 (B + 1 + 1) h (Gc.absb h 0 more (Gc.nch more)) text ((n2 + 15) / 16) V2 := hI
      rw [show (n2 + 15) / 16 = Gc.nch text from by unfold Gc.nch; rw [HM2.out]] at hI'
      have HS3 := Lib.hid (HT2.out.upd HB.out hB2 hI'.y hI'.upd)
      have HE1 : Hid (V2.heap[D1]? = some (.deferred (some []))) := (hI'.upd.block D1 (Array.getElem?_eq_some_iff.1 HD2.out).1 (by omega)).trans HD2.out
      have HE2 := Lib.hid hK
      have hDD : D1 < D2 := by have := (Array.getElem?_eq_some_iff.1 HD2.out).1; omega
      clear hI hI' hK hI02
      go_wp2
      have HBK : Hid (∀ w, Calls Try.prog 21 #[.agg #[.int .u64 ((n1 : Int) * 8), .int .u64 ((n2 : Int) * 8)]] w fun e w' => e = .returned (.agg (cellsN (Gc.bn (Gc.ends more text)))) ∧ Below w.heap.size w w') := fun w => by
        have h1 : more.length ≤ 1000000 := by rw [HM1.out]; exact k1.1
        have h2 : text.length ≤ 1000000 := by rw [HM2.out]; exact k2.1
        obtain ⟨e0, e1, e2⟩ := Gc.ends_lt h1 h2
        have := block_prs (Gc.ends more text) w e0
        unfold Rm.prs at this
        rwa [e1, e2, HM1.out, HM2.out, Int.natCast_mul, Int.natCast_mul] at this
      have hEl := Gc.bn_len (Gc.ends more text)
      have hEb := Gc.bn_bytes (Gc.ends more text)
      have hEn := Gc.nb_bn (Gc.ends_lt (more := more) (text := text) (by rw [HM1.out]; exact k1.1) (by rw [HM2.out]; exact k2.1)).1
      generalize Gc.bn (Gc.ends more text) = E at *
      rw [rounds_succ]
      go_wp2_with fail
      refine (HBK.out _).mono ?_
      rintro e w3 ⟨rfl, hb3⟩
      obtain ⟨S, hS⟩ : ∃ S, w3.heap.size = S := ⟨_, rfl⟩
      have HO4 : Hid (Obj (w3.alloc (.cells #[.int .u8 0, .int .u8 0, .int .u8 0, .int .u8 0, .int .u8 0, .int .u8 0, .int .u8 0, .int .u8 0, .int .u8 0, .int .u8 0, .int .u8 0, .int .u8 0, .int .u8 0, .int .u8 0, .int .u8 0, .int .u8 0] 22)) S 22 #[.int .u8 0, .int .u8 0, .int .u8 0, .int .u8 0, .int .u8 0, .int .u8 0, .int .u8 0, .int .u8 0, .int .u8 0, .int .u8 0, .int .u8 0, .int .u8 0, .int .u8 0, .int .u8 0, .int .u8 0, .int .u8 0]) := hS ▸ Obj.new w3 _ _
      have HIE := Lib.hid (size16 hEl)
      have HES : Hid ((#[.int .u8 0, .int .u8 0, .int .u8 0, .int .u8 0, .int .u8 0, .int .u8 0, .int .u8 0, .int .u8 0, .int .u8 0, .int .u8 0, .int .u8 0, .int .u8 0, .int .u8 0, .int .u8 0, .int .u8 0, .int .u8 0] : Array Value).size = (cellsN E).size) := by unfold Hid; rw [cellsN_size, hEl]; rfl
      have hb4 : Below V2.heap.size V2 ((w3.alloc (.cells #[.int .u8 0, .int .u8 0, .int .u8 0, .int .u8 0, .int .u8 0, .int .u8 0, .int .u8 0, .int .u8 0, .int .u8 0, .int .u8 0, .int .u8 0, .int .u8 0, .int .u8 0, .int .u8 0, .int .u8 0, .int .u8 0] 22)).setRow S (cellsN E)) :=
        Upd.below (hb3.trans (((Below.refl _ w3).alloc (Nat.le_refl _) _).mono hb3.size)) (by have := hb3.size; omega) ((Upd.refl S _).row _)
      have oE : Obj ((w3.alloc (.cells #[.int .u8 0, .int .u8 0, .int .u8 0, .int .u8 0, .int .u8 0, .int .u8 0, .int .u8 0, .int .u8 0, .int .u8 0, .int .u8 0, .int .u8 0, .int .u8 0, .int .u8 0, .int .u8 0, .int .u8 0, .int .u8 0] 22)).setRow S (cellsN E)) S 22 (cellsN E) := HO4.out.row _
      have HHS := Lib.hid hS
      clear hS
      go_wp2_with (refine wpList_store_row rfl 22 (.tmp 13) (.tmp 39) rfl _ _ rfl rfl _ _ (HHS.out ▸ HO4.out) HIE.out HES.out (one_cellsN _) ?_)
      rw [HHS.out]
      obtain ⟨V4, hV4⟩ : ∃ V4, (w3.alloc (.cells #[.int .u8 0, .int .u8 0, .int .u8 0, .int .u8 0, .int .u8 0, .int .u8 0, .int .u8 0, .int .u8 0, .int .u8 0, .int .u8 0, .int .u8 0, .int .u8 0, .int .u8 0, .int .u8 0, .int .u8 0, .int .u8 0] 22)).setRow S (cellsN E) = V4 := ⟨_, rfl⟩
      rw [hV4] at hb4 oE ⊢
      simp only [Act.put]
      have HS4 := Lib.hid (HS3.out.kept hb4)
      have d41 : V4.heap[D1]? = some (.deferred (some [])) := (hb4.block D1 (Array.getElem?_eq_some_iff.1 HE1.out).1).trans HE1.out
      have d42 : V4.heap[D2]? = some (.deferred (some [])) := (hb4.block D2 (Array.getElem?_eq_some_iff.1 HE2.out).1).trans HE2.out
      have hpE : Gc.pad E = E := by unfold Gc.pad; rw [hEl]; simp
      have hlt' := Gc.gsum_lt (more := more) (text := text) HLT.out
      have hTK := take_any (B + 1 + 1) Hb _ h (some ⟨S, 0, none⟩) 16 16 E V4.drew HS4.out.y.drew HS4.out.h.drew (by omega) (Gc.absb_lt HLT.out (Gc.absb_lt HLT.out (by decide) _) _) HLT.out oE.drew.rd hEl (by omega) hEb
      rw [show Gc.step h (Gc.absb h (Gc.absb h 0 more (Gc.nch more)) text (Gc.nch text)) E = Gc.gsum h more text from by unfold Gc.step Gc.gsum; rw [hpE, hEn]] at hTK
      obtain ⟨G, hG⟩ : ∃ G, Gc.gsum h more text = G := ⟨_, rfl⟩
      rw [hG] at hTK hlt'
      have HTK := Lib.hid hTK
      have hsl := fun w => slice16all S w
      have H4 := Lib.hid (fun w => block_prs G w hlt')
      have hDB2 : B + 3 < D1 := hDB
      have hd41 := (Array.getElem?_eq_some_iff.1 d41).1
      have hd42 := (Array.getElem?_eq_some_iff.1 d42).1
      have HD1 := Lib.hid d41
      have HD2' := Lib.hid d42
      have c0 := HS4.out.f.cell 0
      clear hTK hb4 oE hV4 d41 d42
      refine wp_nopanic0 ?_
      refine wp_region_held_drew (S := (fun wq => wq.cell? ⟨Hb + 1, 0, none⟩ = some (.func (.func 23) #[] #[.pointer (some ⟨B + 1 + 1, 0, none⟩), .pointer (some ⟨Hb, 0, none⟩)]))) (by kernel_rfl) c0 (fun hHeld => ?_)
      refine wpAnyH_take (i := 0) (oi := ?_) (v := ?_) ?_ ?_ ?_ ?_ ?_ ?_ (by assumption) ?_
      rotate_left 2
      · simp only [List.getElem?_toArray, List.getElem?_cons_zero, List.getElem?_cons_succ]
        rfl
      · kernel_rfl
      · kernel_rfl
      · kernel_rfl
      · exact fun _ _ _ h => h
      · refine Or.inl ⟨by rfl, ?_⟩
        intro w hSw
        (try dsimp only at hSw)
        go_simp
        all_goals with_reducible rfl
      simp only [Act.put, List.setIfInBounds_toArray, List.set_cons_zero, List.set_cons_succ]
      refine wpAnyH_take (i := 1) (oi := ?_) (v := ?_) ?_ ?_ ?_ ?_ ?_ ?_ (by assumption) ?_
      rotate_left 2
      · simp only [List.getElem?_toArray, List.getElem?_cons_zero, List.getElem?_cons_succ]
        rfl
      · kernel_rfl
      · kernel_rfl
      · kernel_rfl
      · exact fun _ _ _ h => h
      · refine Or.inl ⟨by rfl, ?_⟩
        intro w hSw
        (try dsimp only at hSw)
        go_simp
        all_goals with_reducible rfl
      simp only [Act.put, List.setIfInBounds_toArray, List.set_cons_zero, List.set_cons_succ]
      refine wpAnyH_ready (rs := [2]) (by kernel_rfl) (by simp) ?_
      refine AllReadyH.cons (o := ?_) ?_ (fun KK hKK => ?_) AllReadyH.nil
      rotate_left
      · simp only [List.getElem?_toArray, List.getElem?_cons_zero, List.getElem?_cons_succ]
        rfl
      go_simp
      refine (HTK.out).mono ?_
      rintro e W5 ⟨⟨v5, rfl⟩, oy5, u5⟩
      have HS5 := Lib.hid ((HS4.out.kept (drew_below V4)).upd HB.out hB2 oy5 u5)
      try go_wp2_with fail
      refine hKK.out _ _ ?_ (fun hh2 => ?_)
      · (try dsimp only)
        exact HS5.out.f.cell 0
      clear hKK KK
      try simp only [Act.put, List.setIfInBounds_toArray, List.set_cons_zero, List.set_cons_succ]
      refine wpAnyH_done (by kernel_rfl) ?_ _

      obtain ⟨zh, hzh⟩ : ∃ x, Gc.hi G = x := ⟨_, rfl⟩
      obtain ⟨zo, hzo⟩ : ∃ x, Gc.lo G = x := ⟨_, rfl⟩
      have z0 : W5.cell? ⟨B + 1 + 1, 0, none⟩ = some (.int .u64 (zh : Int)) := by rw [HS5.out.y.cell, ← hzh]; rfl
      have z1 : W5.cell? ⟨B + 1 + 1, 1, none⟩ = some (.int .u64 (zo : Int)) := by rw [HS5.out.y.cell, ← hzo]; rfl
      have H5 : Hid (∀ w, Calls Try.prog 21 #[.agg #[.int .u64 (zh : Int), .int .u64 (zo : Int)]] w fun e w' => e = .returned (.agg (cellsN (Gc.bn G))) ∧ Below w.heap.size w w') := fun w => by
        have := H4.out w
        unfold Rm.prs at this
        rwa [hzh, hzo] at this
      have HE5 : Hid (W5.heap[D1]? = some (.deferred (some [])) ∧ W5.heap[D2]? = some (.deferred (some []))) := ⟨(u5.block D1 (by simpa using hd41) (by omega)).trans HD1.out, (u5.block D2 (by simpa using hd42) (by omega)).trans HD2'.out⟩
      clear hh2 hHeld c0 u5 oy5 hzh hzo HTK
      go_wp2_with fail
      refine (H5.out _).mono ?_
      rintro e W6 ⟨rfl, hb6⟩
      have HS6 := Lib.hid (HS5.out.kept hb6)
      have HIR := Lib.hid (size16 (Gc.bn_len G))
      have HSR : Hid ((cellsN (List.replicate 16 0)).size = (cellsN (Gc.bn G)).size) := by unfold Hid; rw [cellsN_size, cellsN_size, Gc.bn_len]; rfl
      have f1 : W6.heap[D1]? = some (.deferred (some [])) := (hb6.block D1 (Array.getElem?_eq_some_iff.1 HE5.out.1).1).trans HE5.out.1
      have f2 : W6.heap[D2]? = some (.deferred (some [])) := (hb6.block D2 (Array.getElem?_eq_some_iff.1 HE5.out.2).1).trans HE5.out.2
      have u6 : Upd (B + 1) W6 (W6.setRow (B + 1) (cellsN (Gc.bn G))) := (Upd.refl _ _).row _
      obtain ⟨V7, hV7⟩ : ∃ V7, W6.setRow (B + 1) (cellsN (Gc.bn G)) = V7 := ⟨_, rfl⟩
      have o7 : Obj V7 (B + 1) 22 (cellsN (Gc.bn G)) := hV7 ▸ HS6.out.r.row _
      rw [hV7] at u6
      have g1 : V7.heap[D1]? = some (.deferred (some [])) := (u6.block D1 (Array.getElem?_eq_some_iff.1 f1).1 (by omega)).trans f1
      have g2 : V7.heap[D2]? = some (.deferred (some [])) := (u6.block D2 (Array.getElem?_eq_some_iff.1 f2).1 (by omega)).trans f2
      have b7 : Below w.heap.size w V7 := Upd.below HS6.out.b (by have := HB.out; omega) u6
      have p2 : ∀ j, j ≠ D2 → (V7.putObj D2 (.deferred none)).heap[j]? = V7.heap[j]? := fun j hj => World.putObj_heap_other (by omega)
      have p1 : ∀ j, j ≠ D1 → ((V7.putObj D2 (.deferred none)).putObj D1 (.deferred none)).heap[j]? = (V7.putObj D2 (.deferred none)).heap[j]? := fun j hj => World.putObj_heap_other (by omega)
      have HG2 := Lib.hid g2
      have HG1 : Hid ((V7.putObj D2 (.deferred none)).heap[D1]? = some (.deferred (some []))) := (p2 D1 (by omega)).trans g1
      have HO7 : Hid (Obj ((V7.putObj D2 (.deferred none)).putObj D1 (.deferred none)) (B + 1) 22 (cellsN (Gc.bn G))) := (p1 (B + 1) (by omega)).trans ((p2 (B + 1) (by omega)).trans o7)
      have q2 := grownBy_putObj' V7 D2 (.deferred none)
      have q1 := grownBy_putObj' (V7.putObj D2 (.deferred none)) D1 (.deferred none)
      have HB7 : Hid (Below w.heap.size w ((V7.putObj D2 (.deferred none)).putObj D1 (.deferred none))) := ⟨(q1.os.trans q2.os).trans b7.os, (q1.tape.trans q2.tape).trans b7.tape, (q1.output.trans q2.output).trans b7.output, Nat.le_trans b7.size (Nat.le_trans q2.size q1.size), fun j hj => (p1 j (by have := HB.out; omega)).trans ((p2 j (by have := HB.out; omega)).trans (b7.block j hj))⟩
      have HV7 := Lib.hid hV7
      clear hb6 f1 f2 u6 o7 g1 g2 b7 p1 p2 q1 q2 hV7
      go_wp2_with (refine wpList_store_row rfl 22 (.tmp 6) (.tmp 44) rfl _ _ rfl rfl _ _ HS6.out.r HIR.out HSR.out (one_cellsN _) ?_)
      rw [HV7.out]
      refine ⟨by simp, .inl ⟨_, _, rfl, run_takeDeferred HG2.out, ?_⟩⟩
      refine ⟨by simp, .inl ⟨_, _, rfl, run_takeDeferred HG1.out, ?_⟩⟩
      refine ⟨_, results_cell_row rfl _ _ (B + 1) _ _ _ _ rfl HO7.out Try.underlying22 rfl HIR.out, by rw [HHX.out, hG], HB7.out⟩
end Go.Proofs.Ytnphanhoakbkpaa
