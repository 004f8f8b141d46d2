/- Layer 9's gcm, the document's sum. -/
import Derived.RangeFuncNested
import Derived.RangeFuncBound
import Derived.RangeFuncCalls
import Derived.RangeFuncLeaves
import Derived.RangeFuncBox
import Derived.Shelf.Abstract
import Derived.Shelf.RegionOpen
import Derived.WalkKit
import Derived.OwnWalkIn
import Derived.TacticsInMore
import Derived.LoopN
import Derived.LoopNIn
import Derived.LoopIn
import Derived.WalkSpells
import Derived.WalkLawsBesides
import Derived.Laws.Rows
import Derived.Laws.EntriesVeiled
import Derived.Laws.BitsAllLaws
import Derived.Handy
import Derived.BigQuiet
import Derived.Deep.QuietTactic
import Derived.IntWalk
import Derived.Lib.Hide
import Derived.Outline
import Derived.Test.YtnphanhoakbkpaaRows
import Derived.Test.YtnphanhoakbkpaaAid
import Derived.Test.YtnphanhoakbkpaaPlainAe
import Derived.Test.YtnphanhoakbkpaaPlainAe2
import Derived.Test.YtnphanhoakbkpaaPlainGc
import Derived.Test.YtnphanhoakbkpaaPlainGc2
import Derived.Test.YtnphanhoakbkpaaAesB
import Derived.Test.YtnphanhoakbkpaaAesBox
import Derived.Test.YtnphanhoakbkpaaAesW
import Derived.Test.YtnphanhoakbkpaaAesE
import Derived.Test.YtnphanhoakbkpaaAesK
import Derived.Test.YtnphanhoakbkpaaAesS
import Derived.Test.YtnphanhoakbkpaaAesT
import Derived.Test.YtnphanhoakbkpaaBl
import Derived.Test.YtnphanhoakbkpaaItF
import Derived.Test.YtnphanhoakbkpaaGcA
import Derived.Test.YtnphanhoakbkpaaGcB
import Derived.Test.YtnphanhoakbkpaaGcD
import Derived.Test.YtnphanhoakbkpaaGcE
import Derived.Test.YtnphanhoakbkpaaGcF
import Derived.Test.YtnphanhoakbkpaaGcG
import Derived.Test.YtnphanhoakbkpaaGcR
import Derived.Test.YtnphanhoakbkpaaPlainGc3
import Derived.Test.YtnphanhoakbkpaaPlainGc6
import Derived.Test.YtnphanhoakbkpaaGcT
import Derived.Deep.Upon
import Derived.Lib.AppendZeros
namespace Go.Proofs.Ytnphanhoakbkpaa
open Go Go.RowKit Go.Shelf
set_option linter.unusedVariables false
set_option linter.unusedSimpArgs false
/-- Bytes, or none, that are appended to an own slice. -/
theorem wpList_app8o {ops : Array Oper} {rest : List Oper} {o : Oper} {a : Act} {w : World} {Q : Exit → Act → World → Prop} (hgd : o.guard = none) (s x : Operand)
    (ho : o.op = .call { callee := .builtin .append, args := #[s, x], argTypes := #[23, 23] })
    (base : Nat) (v : Value) (n : Nat) (xs : List Value) (hs : a.eval s = v) (hown : w.ownsRow base 5 1 v n xs)
    (A : Option Addr) (m c : Nat) (l : List Nat) (hx : a.eval x = .slice A m c) (hl : l.length = m) (hR : Rd w A l) (hm : n + m ≤ 100000000) (hbase : base ≤ w.heap.size)
    (h : ∀ v' w', w'.ownsRow base 5 1 v' (n + m) (xs ++ l.map u8v) → w.grownBy w' v.ownBlock → wpList Try.prog ops Q rest (a.put o.dst v') w') : wpList Try.prog ops Q (o :: rest) a w := by
  by_cases h0 : m = 0
  · subst h0
    obtain rfl : l = [] := List.eq_nil_of_length_eq_zero hl
    obtain ⟨F, d, rfl⟩ := (show ∃ F d, v = .slice F n d by
      rcases hown.2 with ⟨rfl, rfl⟩ | ⟨g, cap, cur, rfl, _⟩
      · exact ⟨_, _, rfl⟩
      · exact ⟨_, _, rfl⟩)
    have hnd : n ≤ d := by
      rcases hown.2 with ⟨e, rfl⟩ | ⟨g, cap, cur, e, _, _, hn, _⟩
      · cases e; omega
      · cases e; exact hn
    obtain ⟨i0, hi, hz0, hz1, hz2⟩ := info_parts info8
    have hsrc : Src Try.prog i0.size 23 (.slice A 0 c) 0 [] w := ⟨.inl ⟨_, Try.underlying23⟩, fun w' => by cases A <;> simp [Builtin.lenOf], by cases A <;> simp [Builtin.firstCells, loadCells, loadCellsFrom], by cases A <;> simp [Builtin.firstCells, loadCells, loadCellsFrom], by simp, fun u hu => by simp at hu⟩
    refine Lib.wpList_append_run w hgd s x 23 23 ho (.slice F n d) (.slice A 0 c) hs hx (.slice F n d) w (run_append_nothing w 23 23 o.type 5 i0 Try.underlying23 hi F n d hnd _ hsrc) (h _ w ?_ ⟨rfl, rfl, rfl, Nat.le_refl _, fun _ _ _ => rfl⟩)
    rw [Nat.add_zero, List.map_nil, List.append_nil]; exact hown
  · obtain ⟨b, off, rfl, _⟩ := hR (by omega)
    exact wpList_app8 hgd s x ho base v n xs hs hown ⟨b, off, none⟩ m c l hx hl hR hm hbase h

theorem chunk_get {l : List Nat} {k i : Nat} (hi : i < 16) : (Gc.chunk l k).getD i 0 = l.getD (16 * k + i) 0 := by
  unfold Gc.chunk
  rw [List.getD_eq_getElem?_getD, List.getElem?_take_of_lt hi, List.getElem?_drop, List.getD_eq_getElem?_getD]
theorem chunk_full {l : List Nat} {k : Nat} (h : 16 * k + 16 ≤ l.length) : (Gc.chunk l k).length = 16 := by
  unfold Gc.chunk; rw [List.length_take, List.length_drop]; omega
theorem pad_full {c : List Nat} (h : c.length = 16) : Gc.pad c = c := by unfold Gc.pad; rw [h]; simp
theorem upto_xl {Y l : List Nat} {k q : Nat} (hY : Y.length = 16) (hq : 16 * k = q) : Ae.upto (fun i => Y.getD i 0 ^^^ l.getD (q + i) 0) Y 16 = Gc.xl Y (Gc.chunk l k) := by
  rw [Ae.upto_full _ _ _ (by omega), hY]
  unfold Gc.xl
  refine List.map_congr_left fun i hi => ?_
  rw [chunk_get (List.mem_range.1 hi), hq]
theorem absb_step {h k : Nat} {l : List Nat} (hl : 16 * k + 16 ≤ l.length) (hb : Ae.bytes l) (hh : h < 2 ^ 128) : Gc.mul (Gc.nb (Gc.xl (Gc.bn (Gc.absb h 0 l k)) (Gc.chunk l k))) h = Gc.absb h 0 l (k + 1) := by
  rw [Gc.nb_xl (Gc.bn_len _) (chunk_full hl) (Gc.bn_bytes _) (Gc.chunk_bytes hb k), Gc.nb_bn (Gc.absb_lt hh (by decide) k)]
  rw [Gc.absb]; unfold Gc.step; rw [pad_full (chunk_full hl)]

/-- The document's sum under way. -/
structure SrU (w : World) (B g Y : Nat) (hl all : List Nat) (tail : List Value) (yl : List Nat) (V : World) : Prop where
  o : Obj V g 5 (rowT all tail)
  h : Obj V B 22 (cellsN hl)
  r : Obj V (B + 1) 22 (cellsN (List.replicate 16 0))
  y : Obj V Y 22 (cellsN yl)
  bel : Below w.heap.size w V
theorem SrU.drew {w V : World} {B g Y : Nat} {hl all yl : List Nat} {tail : List Value} (h : SrU w B g Y hl all tail yl V) : SrU w B g Y hl all tail yl V.drew := ⟨h.o, h.h, h.r, h.y, h.bel.drew⟩
theorem SrU.set {w V : World} {B g Y : Nat} {hl all yl : List Nat} {tail : List Value} (h : SrU w B g Y hl all tail yl V) (hw : w.heap.size = B) (hg : B + 2 ≤ g) (hY : g < Y) (j v : Nat) : SrU w B g Y hl all tail (yl.set j v) (V.setCell ⟨Y, j, none⟩ (.int .u8 (v : Int))) :=
  ⟨h.o.far (by simp; omega) _, h.h.far (by simp; omega) _, h.r.far (by simp; omega) _, h.y.setN j v, h.bel.setCell (by simp; omega) _⟩
theorem SrU.kept {w V V' : World} {B g Y : Nat} {hl all yl : List Nat} {tail : List Value} (h : SrU w B g Y hl all tail yl V) (hb : Below V.heap.size V V') : SrU w B g Y hl all tail yl V' :=
  ⟨h.o.kept hb, h.h.kept hb, h.r.kept hb, h.y.kept hb, h.bel.trans (hb.mono h.bel.size)⟩
theorem SrU.row {w V : World} {B g Y : Nat} {hl all yl : List Nat} {tail : List Value} (h : SrU w B g Y hl all tail yl V) (hw : w.heap.size = B) (hg : B + 2 ≤ g) (hY : g < Y) (zl : List Nat) : SrU w B g Y hl all tail zl (V.setRow Y (cellsN zl)) :=
  have u : Upd Y V (V.setRow Y (cellsN zl)) := (Upd.refl Y V).row _
  ⟨h.o.upd u (by omega), h.h.upd u (by omega), h.r.upd u (by omega), h.y.row _, Upd.below h.bel (by omega) u⟩

set_option maxRecDepth 100000 in
set_option maxHeartbeats 8000000 in
theorem refSum_any (hl : List Nat) (A1 : Option Addr) (n1 c1 : Nat) (more : List Nat) (A2 : Option Addr) (n2 c2 : Nat) (text : List Nat) (w : World) (l1 : hl.length = 16) (q1 : Ae.bytes hl) (r1 : Rd w A1 more) (m1 : more.length = n1) (b1 : Ae.bytes more) (k1 : n1 ≤ 100000) (r2 : Rd w A2 text) (m2 : text.length = n2) (b2 : Ae.bytes text) (k2 : n2 ≤ 100000) :
    Calls Try.prog 13 #[.agg (cellsN hl), .slice A1 n1 c1, .slice A2 n2 c2] w fun e w' => e = .returned (.agg (cellsN (Gc.bn (Gc.gsum (Gc.nb hl) more text)))) ∧ Below w.heap.size w w' := by
  obtain ⟨B, hB⟩ : ∃ B, w.heap.size = B := ⟨_, rfl⟩
  obtain ⟨W2, hW2⟩ : ∃ W2, (w.alloc (.cells (cellsN hl) 22)).alloc (.cells #[.int .u8 0, .int .u8 0, .int .u8 0, .int .u8 0, .int .u8 0, .int .u8 0, .int .u8 0, .int .u8 0, .int .u8 0, .int .u8 0, .int .u8 0, .int .u8 0, .int .u8 0, .int .u8 0, .int .u8 0, .int .u8 0] 22) = W2 := ⟨_, rfl⟩
  have hb2 : Below w.heap.size w W2 := hW2 ▸ ((Below.refl _ w).alloc (Nat.le_refl _) _).alloc (by simp) _
  have s2 : W2.heap.size = B + 2 := by rw [← hW2]; simp [hB]
  have o0 : Obj W2 B 22 (cellsN hl) := hW2 ▸ hB ▸ (Obj.new w _ _).alloc _
  have o1 : Obj W2 (B + 1) 22 (cellsN (List.replicate 16 0)) := by
    have := Obj.new (w.alloc (.cells (cellsN hl) 22)) 22 #[.int .u8 0, .int .u8 0, .int .u8 0, .int .u8 0, .int .u8 0, .int .u8 0, .int .u8 0, .int .u8 0, .int .u8 0, .int .u8 0, .int .u8 0, .int .u8 0, .int .u8 0, .int .u8 0, .int .u8 0, .int .u8 0]
    rw [World.size_alloc, hB, hW2] at this; exact this
  have HF1 : Hid (∀ W, Below w.heap.size w W → Calls Try.prog 25 #[.slice A1 n1 c1] W fun e w' => ∃ v, e = .returned v ∧ w'.ownsRow W.heap.size 5 1 v (Gc.up n1) ((Gc.fullL more).map u8v) ∧ Below W.heap.size W w') := fun W hb => full_any A1 n1 c1 more W (r1.below hb) m1 (by omega)
  have HF2 : Hid (∀ W, Below w.heap.size w W → Calls Try.prog 25 #[.slice A2 n2 c2] W fun e w' => ∃ v, e = .returned v ∧ w'.ownsRow W.heap.size 5 1 v (Gc.up n2) ((Gc.fullL text).map u8v) ∧ Below W.heap.size W w') := fun W hb => full_any A2 n2 c2 text W (r2.below hb) m2 (by omega)
  have HN1 : Hid (∀ W, Calls Try.prog 26 #[.int .i64 (8 * (n1 : Int))] W fun e w' => e = .returned (.slice (some ⟨W.heap.size, 0, none⟩) 8 8) ∧ Rd w' (some ⟨W.heap.size, 0, none⟩) (Gc.by8 (8 * n1)) ∧ Below W.heap.size W w') := fun W => by
    have := number_any (8 * n1) W (by omega)
    rwa [Int.natCast_mul] at this
  have HN2 : Hid (∀ W, Calls Try.prog 26 #[.int .i64 (8 * (n2 : Int))] W fun e w' => e = .returned (.slice (some ⟨W.heap.size, 0, none⟩) 8 8) ∧ Rd w' (some ⟨W.heap.size, 0, none⟩) (Gc.by8 (8 * n2)) ∧ Below W.heap.size W w') := fun W => by
    have := number_any (8 * n2) W (by omega)
    rwa [Int.natCast_mul] at this
  have HFL2 : Hid ((Gc.fullL text).length = Gc.up n2) := by unfold Hid; rw [Gc.fullL_len, m2]
  have u1 : Gc.up n1 ≤ 100015 := by unfold Gc.up; omega
  have u2 : Gc.up n2 ≤ 100015 := by unfold Gc.up; omega
  have HW2 := Lib.hid hW2
  have HB := Lib.hid hB
  have HO0 := Lib.hid o0
  have HO1 := Lib.hid o1
  have HB2 := Lib.hid hb2
  have HS2 := Lib.hid s2
  have HM1 := Lib.hid m1
  have HM2 := Lib.hid m2
  have HQ1 := Lib.hid b1
  have HQ2 := Lib.hid b2
  clear hW2 o0 o1 hb2 s2 r1 r2 m1 m2 b1 b2 hB
  go_enter Try.func13, Try.ntmps13
  go_wp2_with fail
  rw [HW2.out]
  refine (HF1.out _ HB2.out).mono ?_
  rintro e w3 ⟨v3, rfl, ho3, hb3⟩
  have HB3 := Lib.hid (HB2.out.trans (hb3.mono HB2.out.size))
  have HX3 := Lib.hid (HO0.out.kept hb3)
  have HY3 := Lib.hid (HO1.out.kept hb3)
  have HV3 : Hid (w3.ownsRow (B + 2) 5 1 v3 (Gc.up n1) ((Gc.fullL more).map u8v)) := HS2.out ▸ ho3
  clear hb3 ho3
  go_wp2_with fail
  refine (HF2.out _ HB3.out).mono ?_
  rintro e w4 ⟨v4, rfl, ho4, hb4⟩
  have HB4 := Lib.hid (HB3.out.trans (hb4.mono HB3.out.size))
  have HX4 := Lib.hid (HX3.out.kept hb4)
  have HY4 := Lib.hid (HY3.out.kept hb4)
  have HV4 := Lib.hid (own_below HV3.out hb4)
  have HBS : Hid (B + 2 ≤ w4.heap.size) := by
    have h3 := HY4.out.lt
    unfold Hid
    omega
  obtain ⟨F4, d4, rfl, hfl, _, _, hr4⟩ := own_cap ho4
  have HR4 := Lib.hid hr4
  clear hb4 ho4 hr4
  go_wp2_with (at_builtin; refine wpList_app8o rfl _ _ rfl (B + 2) _ _ _ rfl HV4.out F4 (Gc.up n2) d4 (Gc.fullL text) rfl HFL2.out HR4.out (by omega) HBS.out ?_; intro v5 w5 hown5 hgrow5)
  have hbx5 : Below (B + 2) w4 w5 := Below.grown (Below.refl _ _) hgrow5 HBS.out (fun k hk => (HV4.out.lt k hk).1)
  have HX5 := Lib.hid (HX4.out.below hbx5 (by omega))
  have HY5 := Lib.hid (HY4.out.below hbx5 (by omega))
  have HB5 := Lib.hid (HB4.out.trans (hbx5.mono (by have := HB.out; omega)))
  have HBS5 : Hid (B + 2 ≤ w5.heap.size) := Nat.le_trans HBS.out hbx5.size
  have HV5 := Lib.hid hown5
  clear hgrow5 hown5 hbx5
  refine (HN1.out _).mono ?_
  rintro e w6 ⟨rfl, hr6, hb6⟩
  have HX6 := Lib.hid (HX5.out.kept hb6)
  have HY6 := Lib.hid (HY5.out.kept hb6)
  have HB6 := Lib.hid (HB5.out.trans (hb6.mono HB5.out.size))
  have HBS6 : Hid (B + 2 ≤ w6.heap.size) := Nat.le_trans HBS5.out hb6.size
  have HV6 := Lib.hid (own_below HV5.out hb6)
  have HR6 := Lib.hid hr6
  clear hb6 hr6
  go_wp2_with (at_builtin; refine wpList_app8 rfl _ _ rfl (B + 2) _ _ _ rfl HV6.out ⟨w5.heap.size, 0, none⟩ 8 8 (Gc.by8 (8 * n1)) rfl (Gc.by8_len _) HR6.out (by omega) HBS6.out ?_; intro v7 w7 hown7 hgrow7)
  have hbx7 : Below (B + 2) w6 w7 := Below.grown (Below.refl _ _) hgrow7 HBS6.out (fun k hk => (HV6.out.lt k hk).1)
  have HX7 := Lib.hid (HX6.out.below hbx7 (by omega))
  have HY7 := Lib.hid (HY6.out.below hbx7 (by omega))
  have HB7 := Lib.hid (HB6.out.trans (hbx7.mono (by have := HB.out; omega)))
  have HBS7 : Hid (B + 2 ≤ w7.heap.size) := Nat.le_trans HBS6.out hbx7.size
  have HV7 := Lib.hid hown7
  clear hgrow7 hown7 hbx7
  refine (HN2.out _).mono ?_
  rintro e w8 ⟨rfl, hr8, hb8⟩
  have HX8 := Lib.hid (HX7.out.kept hb8)
  have HY8 := Lib.hid (HY7.out.kept hb8)
  have HB8 := Lib.hid (HB7.out.trans (hb8.mono HB7.out.size))
  have HBS8 : Hid (B + 2 ≤ w8.heap.size) := Nat.le_trans HBS7.out hb8.size
  have HV8 := Lib.hid (own_below HV7.out hb8)
  have HR8 := Lib.hid hr8
  clear hb8 hr8
  go_wp2_with (at_builtin; refine wpList_app8 rfl _ _ rfl (B + 2) _ _ _ rfl HV8.out ⟨w7.heap.size, 0, none⟩ 8 8 (Gc.by8 (8 * n2)) rfl (Gc.by8_len _) HR8.out (by omega) HBS8.out ?_; intro v9 w9 hown9 hgrow9)
  have hbx9 : Below (B + 2) w8 w9 := Below.grown (Below.refl _ _) hgrow9 HBS8.out (fun k hk => (HV8.out.lt k hk).1)
  have HX9 := Lib.hid (HX8.out.below hbx9 (by omega))
  have HY9 := Lib.hid (HY8.out.below hbx9 (by omega))
  have HB9 := Lib.hid (HB8.out.trans (hbx9.mono (by have := HB.out; omega)))
  have HV9 := Lib.hid hown9
  clear hgrow9 hown9 hbx9
  have hall : Gc.fullL more ++ Gc.fullL text ++ Gc.by8 (8 * n1) ++ Gc.by8 (8 * n2) = Gc.allL more text := by
    have h1 : more.length ≤ 1000000 := by rw [HM1.out]; omega
    have h2 : text.length ≤ 1000000 := by rw [HM2.out]; omega
    obtain ⟨_, e1, e2⟩ := Gc.ends_lt h1 h2
    unfold Gc.allL Gc.bn
    rw [e1, e2, HM1.out, HM2.out, Nat.mul_comm n1, Nat.mul_comm n2]
    simp only [List.append_assoc]
  have hN := Gc.allL_len more text
  have hcount : Gc.up n1 + Gc.up n2 + 8 + 8 = (Gc.allL more text).length := by
    rw [← hall, List.length_append, List.length_append, List.length_append, Gc.fullL_len, Gc.fullL_len, Gc.by8_len, Gc.by8_len, HM1.out, HM2.out]
  have hv9 := HV9.out
  rw [← List.map_append, ← List.map_append, ← List.map_append, hall, hcount] at hv9
  obtain ⟨g, cap, tail, rfl, hg, hcap, hog, hmax, _⟩ := own_row hv9 (by rw [hN]; omega)
  obtain ⟨Y, hY⟩ : ∃ Y, w9.heap.size = Y := ⟨_, rfl⟩
  have hgY : g < Y := hY ▸ hog.lt
  have hBg : B + 2 ≤ g := hg
  have HI0 : Hid (SrU w B g Y hl (Gc.allL more text) tail (Gc.bn (Gc.absb (Gc.nb hl) 0 (Gc.allL more text) 0)) (w9.alloc (.cells #[.int .u8 0, .int .u8 0, .int .u8 0, .int .u8 0, .int .u8 0, .int .u8 0, .int .u8 0, .int .u8 0, .int .u8 0, .int .u8 0, .int .u8 0, .int .u8 0, .int .u8 0, .int .u8 0, .int .u8 0, .int .u8 0] 22))) :=
    ⟨hog.alloc _, HX9.out.alloc _, HY9.out.alloc _, (hY ▸ Obj.new w9 _ _ : Obj _ Y _ _).as (by show _ = cellsN (Gc.bn 0); rw [Gc.bn_zero]; rfl), HB9.out.alloc HB9.out.size _⟩
  have hB' := HB.out
  subst hB'
  obtain ⟨N, hNN⟩ : ∃ N, Gc.nch more + (Gc.nch text + 1) = N := ⟨_, rfl⟩
  have HGS : Hid (Gc.absb (Gc.nb hl) 0 (Gc.allL more text) N = Gc.gsum (Gc.nb hl) more text) := by
    unfold Hid; rw [← hNN]; exact Gc.gsum_ref _ (by rw [HM1.out]; omega) (by rw [HM2.out]; omega)
  rw [hNN] at hN
  have hNb : N ≤ 20000 := by omega
  have HAB : Hid (Ae.bytes (Gc.allL more text)) := by
    unfold Hid Gc.allL Gc.fullL
    exact Ae.bytes_append (Ae.bytes_append HQ1.out (Gc.zeros_bytes _)) (Ae.bytes_append (Ae.bytes_append HQ2.out (Gc.zeros_bytes _)) (Gc.bn_bytes _))
  have hlt := Gc.nb16_lt l1 q1
  have HLT := Lib.hid hlt
  have HL1 := Lib.hid l1
  have HQL := Lib.hid q1
  have HIH := Lib.hid (size16 l1)
  generalize Gc.allL more text = all at *
  rw [hN]
  obtain ⟨G, hG⟩ : ∃ G, Gc.gsum (Gc.nb hl) more text = G := ⟨_, rfl⟩
  rw [hG] at HGS
  have HGE := Lib.hid hG
  clear hG
  have HLEN := Lib.hid hN
  try rw [hY]
  clear hog hv9 hcap hmax hall hcount HV9 HX9 HY9 HB9 hN hNN hY HF1 HF2 HN1 HN2 l1 q1 hlt
  go_loopw [9] (fun i V => ∃ k : Nat, k ≤ N ∧ i = .int .i64 ((16 * k : Nat) : Int) ∧ SrU w w.heap.size g Y hl all tail (Gc.bn (Gc.absb (Gc.nb hl) 0 all k)) V) (fun i _ => 16 * N - (intOf i).toNat)
  case atStart => exact ⟨0, by omega, rfl, HI0.out⟩
  case round =>
    clear HI0
    obtain ⟨k, hk, rfl, hI⟩ := hrel
    have HI := Lib.hid hI
    obtain ⟨q, hq⟩ : ∃ q, 16 * k = q := ⟨_, rfl⟩
    rw [hq]
    by_cases hkl : k < N
    · have hql : (q : Int) < 16 * (N : Int) := by omega
      have h16 : 16 * k + 16 ≤ all.length := by rw [HLEN.out]; omega
      obtain ⟨Yl, hYl⟩ : ∃ Yl, Gc.bn (Gc.absb (Gc.nb hl) 0 all k) = Yl := ⟨_, rfl⟩
      have lY : Yl.length = 16 := hYl ▸ Gc.bn_len _
      have qY : Ae.bytes Yl := hYl ▸ Gc.bn_bytes _
      obtain ⟨C, hC⟩ : ∃ C, Gc.xl Yl (Gc.chunk all k) = C := ⟨_, rfl⟩
      have lC : C.length = 16 := hC ▸ Gc.xl_len _ _
      have qC : Ae.bytes C := hC ▸ Gc.xl_bytes lY (chunk_full h16) qY (Gc.chunk_bytes HAB.out k)
      have HUC : Hid (Ae.upto (fun i => Yl.getD i 0 ^^^ all.getD (q + i) 0) Yl 16 = C) := (upto_xl lY hq).trans hC
      obtain ⟨D, hD⟩ : ∃ D, Gc.bn (Gc.absb (Gc.nb hl) 0 all (k + 1)) = D := ⟨_, rfl⟩
      have HTM : Hid (∀ W, Calls Try.prog 11 #[.agg (cellsN C), .agg (cellsN hl)] W fun e w' => e = .returned (.agg (cellsN D)) ∧ Below W.heap.size W w') := fun W => by
        have := refProd_any C hl W lC HL1.out qC HQL.out
        rwa [← hC, ← hYl, absb_step h16 HAB.out HLT.out, hYl, hC, hD] at this
      have HYL := Lib.hid hYl
      rw [hYl] at HI
      have HDD := Lib.hid hD
      have HLC := Lib.hid lC
      have HQY := Lib.hid qY
      have HLY := Lib.hid lY
      have HLD : Hid (D.length = 16) := by unfold Hid; rw [← hD]; exact Gc.bn_len _
      have HQN : Hid (16 * (k + 1) = q + 16) := by unfold Hid; omega
      have HH16 : Hid (q + 16 ≤ all.length) := by unfold Hid; omega
      have hqb : q + 16 ≤ 320000 := by omega
      have hj0 : q + 16 ≤ 16 * N := by omega
      have HK := Lib.hid hkl
      clear hI hYl hC hD lC lY qY qC h16 hkl hk hq
      go_wp2
      go_loopw [10] (fun i V => ∃ j : Nat, j ≤ 16 ∧ i = .int .i64 j ∧ SrU w w.heap.size g Y hl all tail (Ae.upto (fun i => Yl.getD i 0 ^^^ all.getD (q + i) 0) Yl j) V) (fun i _ => 16 - (intOf i).toNat)
      case atStart => exact ⟨0, by omega, rfl, by rw [Ae.upto_zero]; exact HI.out⟩
      case round =>
        clear HI
        obtain ⟨j, hj, rfl, hJ⟩ := hrel
        by_cases hlt : j < 16
        · have hji : (j : Int) < 16 := by omega
          obtain ⟨p, hp⟩ : ∃ p, q + j = p := ⟨_, rfl⟩
          have e1 : IntKind.i64.wrap ((q : Int) + (j : Int)) = (p : Int) := by rw [IntWalk.i64_in _ (by omega)]; omega
          have hpn : p < 16 * N := by omega
          have hpi : (p : Int) < 16 * (N : Int) := by omega
          have g0 : wr.cell? ⟨Y, j, none⟩ = some (.int .u8 ((Yl.getD j 0 : Nat) : Int)) := by
            have := hJ.y.getN j (by rw [Ae.upto_len, HLY.out]; exact hlt)
            rwa [Ae.upto_get _ _ _ _ (by rw [HLY.out]; exact hlt), if_neg (Nat.lt_irrefl j)] at this
          have g1 := hJ.o.getT p (by rw [HLEN.out]; exact hpn)
          have g2 := hJ.y.free j
          have hxr := u8_xor_nat (Yl.getD j 0) (all.getD p 0) (Ae.bytes_get HQY.out j) (Ae.bytes_get HAB.out p)
          have HNX : Hid (SrU w w.heap.size g Y hl all tail (Ae.upto (fun i => Yl.getD i 0 ^^^ all.getD (q + i) 0) Yl (j + 1)) (wr.drew.setCell ⟨Y, j, none⟩ (.int .u8 ((Yl.getD j 0 ^^^ all.getD p 0 : Nat) : Int)))) := by
            have := hJ.drew.set rfl hBg hgY j (Yl.getD j 0 ^^^ all.getD (q + j) 0)
            rwa [Ae.upto_set (fun i => Yl.getD i 0 ^^^ all.getD (q + i) 0) Yl j (by rw [HLY.out]; exact hlt), hp] at this
          clear hJ hp
          generalize Yl.getD j 0 = xx at *
          generalize all.getD p 0 = yy at *
          go_wp2
          go_region
          go_wp2
          go_roundw
          case rel => exact ⟨j + 1, by omega, by go_num, HNX.out⟩
          case measure => simp [intOf]; omega
        · obtain rfl : j = 16 := by omega
          rw [HUC.out] at hJ
          have HJ := Lib.hid hJ
          clear hJ hj hlt
          have HIC := Lib.hid (size16 HLC.out)
          have HID := Lib.hid (size16 HLD.out)
          have HSC : Hid ((cellsN C).size = (cellsN D).size) := by unfold Hid; rw [cellsN_size, cellsN_size, HLC.out, HLD.out]
          go_wp2_with (first
            | (refine wpList_load_row rfl 22 (.tmp 8) rfl Y rfl _ _ _ _ HJ.out.y Try.underlying22 rfl HIC.out ?_)
            | (refine wpList_load_row rfl 22 (.tmp 3) rfl w.heap.size rfl _ _ _ _ HJ.out.h Try.underlying22 rfl HIH.out ?_))
          refine (HTM.out _).mono ?_
          rintro e wz ⟨rfl, hz⟩
          have HZ := Lib.hid (HJ.out.kept hz)
          clear hz HJ
          have HZR : Hid (SrU w w.heap.size g Y hl all tail (Gc.bn (Gc.absb (Gc.nb hl) 0 all (k + 1))) (wz.setRow Y (cellsN D))) := by
            unfold Hid; rw [HDD.out]; exact HZ.out.row rfl hBg hgY D
          have e2 : IntKind.i64.wrap ((q : Int) + 16) = ((q + 16 : Nat) : Int) := by rw [IntWalk.i64_in _ (by omega)]; omega
          go_wp2_with (refine wpList_store_row rfl 22 (.tmp 8) (.tmp 51) rfl _ _ rfl rfl _ _ HZ.out.y HID.out HSC.out (one_cellsN _) ?_)
          go_roundw
          case rel => exact ⟨k + 1, HK.out, by rw [HQN.out]; go_num, HZR.out⟩
          case measure => simp [intOf]; omega
    · obtain rfl : k = N := by omega
      have hql : ¬ (q : Int) < 16 * (k : Int) := by omega
      clear hI
      rw [HGS.out] at HI
      have HIR := Lib.hid (size16 (Gc.bn_len G))
      have HSR : Hid ((cellsN (List.replicate 16 0)).size = (cellsN (Gc.bn G)).size) := by unfold Hid; rw [cellsN_size, cellsN_size, Gc.bn_len]; rfl
      have HFI : Hid (Obj (wr.setRow (w.heap.size + 1) (cellsN (Gc.bn G))) (w.heap.size + 1) 22 (cellsN (Gc.bn G)) ∧ Below w.heap.size w (wr.setRow (w.heap.size + 1) (cellsN (Gc.bn G)))) := ⟨HI.out.r.row _, Upd.below HI.out.bel (by omega) ((Upd.refl _ _).row _)⟩
      go_wp2_with (first
        | (refine wpList_load_row rfl 22 (.tmp 8) rfl Y rfl _ _ _ _ HI.out.y Try.underlying22 rfl HIR.out ?_)
        | (refine wpList_store_row rfl 22 (.tmp 6) (.tmp 52) rfl _ _ rfl rfl _ _ HI.out.r HIR.out HSR.out (one_cellsN _) ?_))
      exact bodyPost_ret (v := .agg (cellsN (Gc.bn G))) (results_cell_row rfl _ _ _ _ _ _ _ rfl HFI.out.1 Try.underlying22 rfl HIR.out) rfl ⟨by rw [HGE.out], HFI.out.2⟩
end Go.Proofs.Ytnphanhoakbkpaa
