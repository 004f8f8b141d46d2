/- Joined: Layer 10's keys: the document's Make, First and Later, walked. | Layer 10's keys: the document's First and Later, walked. -/
import Derived.Test.YtabfcaidioohfaaDoorRows
import Derived.Test.YtabfcaidioohfaaDoorZp
import Derived.Test.YtabfcaidioohfaaDoorZa
import Derived.Test.YtabfcaidioohfaaDoorZs
import Derived.Test.YtabfcaidioohfaaDoorZu
import Derived.Test.YtabfcaidioohfaaDoorZk
import Derived.WalkKit
import Derived.Great.Walk
import Derived.OwnWalkIn
import Derived.LoopN
import Derived.LoopIn
import Derived.WalkSpells
import Derived.WalkLawsBesides
import Derived.Laws.Rows
import Derived.Laws.CopyOwn
import Derived.Handy
import Derived.BigQuiet
import Derived.Deep.QuietTactic
import Derived.Deep.MidRow
import Derived.Deep.RegionHeld3
import Derived.IntWalk
import Derived.Lib.Hide
import Derived.Test.YtabfcaidioohfaaDoorZg
namespace Go.Proofs.YtabfcaidioohfaaDoor
open List (getElem?_toArray getElem?_cons_zero getElem?_cons_succ setIfInBounds_toArray set_cons_zero set_cons_succ)
open Go Go.RowKit Go.Shelf
set_option linter.unusedVariables false
set_option linter.unusedSimpArgs false
set_option maxRecDepth 100000
/-- The document's Label hands back a block of its own. -/
theorem rlabel_fr (s : List Nat) (b : ByteArray) (n : Nat) (w : World) (ht : Tabs w) (hs : s.length = 32) (qs : Ae.bytes s) (hb : b.size ≤ 60) (hn : n ≤ 255) (h0 : 0 < n) :
  Calls Tryd.prog 49 #[.agg (cellsN s), .string b, .int .i64 (n : Int)] w fun e w' => ∃ g c, e = .returned (.slice (some ⟨g, 0, none⟩) n c) ∧ w.heap.size ≤ g ∧ Rd w' (some ⟨g, 0, none⟩) (Ky.lab s b n) ∧ Below w.heap.size w w' :=
 (rlabel_any s b n w ht hs qs hb hn).mono fun e w' ⟨v, h1, ⟨A, c, h2, h3, _, h5⟩, h4⟩ => by
  rw [Ky.exS_lab s b n hn] at h2 h3
  rw [Ky.lab_len] at h2
  obtain ⟨g, o, rfl, _, _⟩ := h3 (by rw [Ky.lab_len]; exact h0)
  rcases h5 with h5 | ⟨g', h5, h6⟩
  ·cases h5
  ·cases h5
   exact ⟨_, _, by rw [h1, h2], h6, h3, h4⟩
theorem upto_all {l g : List Nat} (h : g.length = l.length) {n : Nat} (hn : l.length ≤ n) : Ae.upto (fun i => l.getD i 0) g n = l := by
 refine Ae.ext_get (by rw [Ae.upto_len, h]) fun i hi => ?_
 rw [Ae.upto_len] at hi
 rw [Ae.upto_get _ _ _ _ hi, if_pos (by omega)]
/-- hash under way. -/
structure HaI (w : World) (B : Nat) (l : List Nat) (i : Nat) (V : World) : Prop where
 r : Obj V B 23 (cellsN (List.replicate 32 0))
 h : Obj V (B + 1) 23 (cellsN (Ae.upto (fun i => l.getD i 0) (List.replicate 32 0) i))
 bel : Below w.heap.size w V
set_option maxHeartbeats 4000000 in
theorem rhash_any (A : Option Addr) (c : Nat) (l : List Nat) (w : World) (hr : Rd w A l) (hl : l.length = 32) :
  Calls Tryd.prog 48 #[.slice A 32 c] w fun e w' => e = .returned (.agg (cellsN l)) ∧ Below w.heap.size w w' := by
 obtain ⟨g, o, rfl, hlt, hc⟩ := hr (by omega)
 obtain ⟨B, hB⟩ : ∃ B, w.heap.size = B := ⟨_, rfl⟩
 obtain ⟨W2, hW2⟩ : ∃ W2, (w.alloc (.cells Z32 23)).alloc (.cells Z32 23) = W2 := ⟨_, rfl⟩
 have H0 : Hid (HaI w B l 0 W2) := by
  refine ⟨hW2 ▸ hB ▸ (Obj.new w _ _).alloc _, ?_, hW2 ▸ ((Below.refl _ w).alloc (Nat.le_refl _) _).alloc (by simp) _⟩
  rw [Ae.upto_zero]
  have := new2 w (.cells Z32 23) 23 Z32
  rw [hB, hW2] at this; exact this
 have HC := Lib.hid hc
 have HLT := Lib.hid hlt
 have HL := Lib.hid hl
 have HW2 := Lib.hid hW2
 have HB := Lib.hid hB
 clear hW2 hr hlt hc hl
 go_enter Tryd.func48, Tryd.ntmps48
 go_wp2
 rw [HW2.out]
 go_loopw [4] (fun p V => ∃ i : Nat, i ≤ 32 ∧ p = .int .i64 i ∧ HaI w B l i V) (fun p _ => 32 - (intOf p).toNat)
 case atStart => exact ⟨0, by omega, rfl, H0.out⟩
 case round =>
  clear H0
  obtain ⟨i, hi, rfl, hI⟩ := hrel
  by_cases hlt : i < 32
  ·have hji : (i : Int) < 32 := by omega
   have g0 : wr.cell? ⟨g, o + i, none⟩ = some (.int .u8 ((l.getD i 0 : Nat) : Int)) := (hI.bel.cell (p := ⟨g, o + i, none⟩) HLT.out).trans (HC.out i (by rw [HL.out]; exact hlt))
   have g2 := hI.h.free i
   obtain ⟨v2, g3⟩ : ∃ v, wr.cell? ⟨B + 1, i, none⟩ = some v := ⟨_, hI.h.getN i (by rw [Ae.upto_len]; simpa using hlt)⟩
   have HNX : Hid (HaI w B l (i + 1) (wr.setCell ⟨B + 1, i, none⟩ (.int .u8 ((l.getD i 0 : Nat) : Int)))) := by
    refine ⟨hI.r.far (by simp) _, ?_, hI.bel.setCell (by have := HB.out; simp; omega) _⟩
    have := hI.h.setN i (l.getD i 0)
    rwa [Ae.upto_set (fun i => l.getD i 0) (List.replicate 32 0) i (by simpa using hlt)] at this
   clear hI
   generalize l.getD i 0 = xx at *
   go_wp2
   go_roundw
   case rel => exact ⟨i + 1, by omega, by go_num, HNX.out⟩
   case measure => simp [intOf]; omega
  ·obtain rfl : i = 32 := by omega
   have hh := hI.h
   rw [upto_all (by rw [HL.out]; rfl) (by rw [HL.out]; exact Nat.le_refl _)] at hh
   have HH := Lib.hid hh
   have HR := Lib.hid hI.r
   have HI1 := Lib.hid (sizeH32 HL.out)
   have HS1 : Hid ((cellsN (List.replicate 32 0)).size = (cellsN l).size) := by unfold Hid; rw [cellsN_size, cellsN_size, HL.out]; rfl
   have HFB := Lib.hid (Upd.below hI.bel (by have := HB.out; omega) ((Upd.refl B wr).row (cellsN l)))
   clear hI hh hi hlt
   go_wp2_with (first
    | (refine wpList_load_row rfl 23 (.tmp 3) rfl (B + 1) rfl _ _ _ _ HH.out Tryd.underlying23 rfl HI1.out ?_)
    | (refine wpList_store_row rfl 23 (.tmp 2) (.tmp 15) rfl B _ rfl rfl _ _ HR.out HI1.out HS1.out (one_cellsN _) ?_))
   exact bodyPost_ret (v := .agg (cellsN l)) (results_cell_row rfl _ _ _ _ _ _ _ rfl (HR.out.row _) Tryd.underlying23 rfl HI1.out) rfl ⟨rfl, by have := HFB.out; rwa [HB.out] at this⟩
/-- So many bytes of each part are there. -/
def rmk (k iv nx : List Nat) (i : Nat) : List Nat := Ae.upto (fun j => k.getD j 0) (List.replicate 16 0) i ++ (Ae.upto (fun j => iv.getD j 0) (List.replicate 12 0) i ++ Ae.upto (fun j => nx.getD j 0) (List.replicate 32 0) i)
theorem rmk_len (k iv nx : List Nat) (i : Nat) : (rmk k iv nx i).length = 60 := by unfold rmk; simp [Ae.upto_len]
theorem upto_more (f : Nat → Nat) (g : List Nat) (i : Nat) (h : g.length ≤ i) : Ae.upto f g (i + 1) = Ae.upto f g i := by rw [Ae.upto_full _ _ _ h, Ae.upto_full _ _ _ (by omega)]
theorem set_1 (a b c : List Nat) (i v : Nat) (h : i < a.length) : (a ++ (b ++ c)).set i v = a.set i v ++ (b ++ c) := List.set_append_left _ _ h
theorem set_2 (a b c : List Nat) (i v n : Nat) (hn : a.length = n) (h : i < b.length) : (a ++ (b ++ c)).set (n + i) v = a ++ (b.set i v ++ c) := by
 subst hn
 rw [List.set_append_right _ _ (by omega), Nat.add_sub_cancel_left, List.set_append_left _ _ h]
theorem set_3 (a b c : List Nat) (i v n : Nat) (hn : a.length + b.length = n) : (a ++ (b ++ c)).set (n + i) v = a ++ (b ++ c.set i v) := by
 subst hn
 rw [List.set_append_right _ _ (by omega), List.set_append_right _ _ (by omega), show a.length + b.length + i - a.length - b.length = i by omega]
theorem rmk_next (k iv nx : List Nat) (i : Nat) (h : i < 32) :
  (if i < 16 then (if i < 12 then ((((rmk k iv nx i).set i (k.getD i 0)).set (16 + i) (iv.getD i 0)).set (28 + i) (nx.getD i 0)) else (((rmk k iv nx i).set i (k.getD i 0)).set (28 + i) (nx.getD i 0))) else (rmk k iv nx i).set (28 + i) (nx.getD i 0)) = rmk k iv nx (i + 1) := by
 unfold rmk
 have l1 : (Ae.upto (fun j => k.getD j 0) (List.replicate 16 0) i).length = 16 := by rw [Ae.upto_len]; rfl
 have l2 : (Ae.upto (fun j => iv.getD j 0) (List.replicate 12 0) i).length = 12 := by rw [Ae.upto_len]; rfl
 have l1' : ((Ae.upto (fun j => k.getD j 0) (List.replicate 16 0) i).set i (k.getD i 0)).length = 16 := by rw [List.length_set, l1]
 have l2' : ((Ae.upto (fun j => iv.getD j 0) (List.replicate 12 0) i).set i (iv.getD i 0)).length = 12 := by rw [List.length_set, l2]
 have u3 := Ae.upto_set (fun j => nx.getD j 0) (List.replicate 32 0) i (by simpa using h)
 by_cases h16 : i < 16
 ·have u1 := Ae.upto_set (fun j => k.getD j 0) (List.replicate 16 0) i (by simpa using h16)
  rw [if_pos h16, set_1 _ _ _ _ _ (by rw [l1]; exact h16)]
  by_cases h12 : i < 12
  ·have u2 := Ae.upto_set (fun j => iv.getD j 0) (List.replicate 12 0) i (by simpa using h12)
   rw [if_pos h12, set_2 _ _ _ _ _ 16 l1' (by rw [l2]; exact h12), set_3 _ _ _ _ _ 28 (by rw [l1', l2']), u1, u2, u3]
  ·rw [if_neg h12, set_3 _ _ _ _ _ 28 (by rw [l1', l2]), u1, u3, upto_more _ (List.replicate 12 0) i (by simp; omega)]
 ·rw [if_neg h16, set_3 _ _ _ _ _ 28 (by rw [l1, l2]), u3, upto_more _ (List.replicate 16 0) i (by simp; omega), upto_more _ (List.replicate 12 0) i (by simp; omega)]
theorem rmk_full {k iv nx : List Nat} (hk : k.length = 16) (hi : iv.length = 12) (hn : nx.length = 32) : rmk k iv nx 32 = k ++ (iv ++ nx) := by
 unfold rmk
 rw [upto_all (by rw [hk]; rfl) (by omega), upto_all (by rw [hi]; rfl) (by omega), upto_all (by rw [hn]; rfl) (by omega)]
theorem rmk_zero (k iv nx : List Nat) : rmk k iv nx 0 = List.replicate 60 0 := by unfold rmk; rw [Ae.upto_zero, Ae.upto_zero, Ae.upto_zero]; rfl
/-- The document's Make under way. -/
structure MrI (w : World) (B : Nat) (s : List Nat) (l : List Nat) (ph : Bool) (V : World) : Prop where
 h : Obj V B 23 (cellsN s)
 r : Obj V (B + 1) 29 zSec
 o : Obj V (B + 1 + 1) 29 (rowT l [.bool ph])
 bel : Below w.heap.size w V
theorem MrI.kept {w V V' : World} {B : Nat} {s l : List Nat} {ph : Bool} (h : MrI w B s l ph V) (hb : Below V.heap.size V V') : MrI w B s l ph V' :=
 ⟨h.h.kept hb, h.r.kept hb, h.o.kept hb, h.bel.trans (hb.mono h.bel.size)⟩
theorem MrI.set {w V : World} {B : Nat} {s l : List Nat} {ph : Bool} (h : MrI w B s l ph V) (hw : w.heap.size = B) (i v : Nat) (hi : i < l.length) : MrI w B s (l.set i v) ph (V.setCell ⟨B + 1 + 1, i, none⟩ (.int .u8 (v : Int))) :=
 ⟨h.h.far (by simp <;> omega) _, h.r.far (by simp <;> omega) _, h.o.setT i v hi, h.bel.setCell (by simp; omega) _⟩
theorem pSec_set (p : Bool) : zSec.setIfInBounds 60 (.bool p) = pSec p := by cases p <;> rfl
set_option maxHeartbeats 4000000 in
theorem rmake_any (s : List Nat) (ph : Bool) (w : World) (ht : KTab w) (hs : s.length = 32) (qs : Ae.bytes s) :
  Calls Tryd.prog 38 #[.agg (cellsN s), .bool ph] w fun e w' => e = .returned (.agg (secV (Ky.make s ph))) ∧ Below w.heap.size w w' := by
 obtain ⟨B, hB⟩ : ∃ B, w.heap.size = B := ⟨_, rfl⟩
 obtain ⟨k, hk⟩ : ∃ k, Ky.lab s Ky.keyB 16 = k := ⟨_, rfl⟩
 obtain ⟨iv, hiv⟩ : ∃ k, Ky.lab s Ky.ivB 12 = k := ⟨_, rfl⟩
 obtain ⟨nx, hnx⟩ : ∃ k, Ky.lab s Ky.kuB 32 = k := ⟨_, rfl⟩
 have lk : k.length = 16 := hk ▸ Ky.lab_len _ _ _
 have li : iv.length = 12 := hiv ▸ Ky.lab_len _ _ _
 have ln : nx.length = 32 := hnx ▸ Ky.lab_len _ _ _
 have HMK : Hid (secV (Ky.make s ph) = rowT (k ++ (iv ++ nx)) [.bool ph]) := by unfold Hid secV Ky.make Ky.Sec.l; rw [hk, hiv, hnx]
 obtain ⟨W3, hW3⟩ : ∃ W3, ((w.alloc (.cells (cellsN s) 23)).alloc (.cells zSec 29)).alloc (.cells zSec 29) = W3 := ⟨_, rfl⟩
 have hb3 : Below w.heap.size w W3 := hW3 ▸ (((Below.refl _ w).alloc (Nat.le_refl _) _).alloc (by simp) _).alloc (by simp; omega) _
 have o0 : Obj W3 B 23 (cellsN s) := hW3 ▸ hB ▸ ((Obj.new w _ _).alloc _).alloc _
 have o1 : Obj W3 (B + 1) 29 zSec := by
  have := (new2 w (.cells (cellsN s) 23) 29 zSec).alloc (.cells zSec 29)
  rw [hB, hW3] at this; exact this
 have o2 : Obj W3 (B + 1 + 1) 29 zSec := by
  have := Obj.new ((w.alloc (.cells (cellsN s) 23)).alloc (.cells zSec 29)) 29 zSec
  simp only [World.size_alloc, hB] at this; rw [hW3] at this; exact this
 obtain ⟨W4, hW4⟩ : ∃ W4, W3.setCell ⟨B + 1 + 1, 60, none⟩ (.bool ph) = W4 := ⟨_, rfl⟩
 have HI0 : Hid (MrI w B s (rmk k iv nx 0) ph W4) := by
  refine ⟨hW4 ▸ o0.far (by simp <;> omega) _, hW4 ▸ o1.far (by simp <;> omega) _, ?_, hW4 ▸ hb3.setCell (by simp; omega) _⟩
  have := o2.set 60 (.bool ph)
  rw [pSec_set, hW4] at this
  rw [rmk_zero]; exact this
 have f2 := o2.free 60
 obtain ⟨v2, f3⟩ : ∃ v, W3.cell? ⟨B + 1 + 1, 60, none⟩ = some v := ⟨.bool false, by rw [o2.cell 60]; rfl⟩
 have HLK : Hid (∀ W, Below w.heap.size w W → Calls Tryd.prog 49 #[.agg (cellsN s), .string Ky.keyB, .int .i64 16] W fun e w' => ∃ g c, e = .returned (.slice (some ⟨g, 0, none⟩) 16 c) ∧ W.heap.size ≤ g ∧ Rd w' (some ⟨g, 0, none⟩) k ∧ Below W.heap.size W w') := fun W hb => hk ▸ rlabel_fr s Ky.keyB 16 W (ht.below hb).t hs qs (by decide) (by decide) (by decide)
 have HLI : Hid (∀ W, Below w.heap.size w W → Calls Tryd.prog 49 #[.agg (cellsN s), .string Ky.ivB, .int .i64 12] W fun e w' => ∃ g c, e = .returned (.slice (some ⟨g, 0, none⟩) 12 c) ∧ W.heap.size ≤ g ∧ Rd w' (some ⟨g, 0, none⟩) iv ∧ Below W.heap.size W w') := fun W hb => hiv ▸ rlabel_fr s Ky.ivB 12 W (ht.below hb).t hs qs (by decide) (by decide) (by decide)
 have HLN : Hid (∀ W, Below w.heap.size w W → Calls Tryd.prog 49 #[.agg (cellsN s), .string Ky.kuB, .int .i64 32] W fun e w' => ∃ g c, e = .returned (.slice (some ⟨g, 0, none⟩) 32 c) ∧ W.heap.size ≤ g ∧ Rd w' (some ⟨g, 0, none⟩) nx ∧ Below W.heap.size W w') := fun W hb => hnx ▸ rlabel_fr s Ky.kuB 32 W (ht.below hb).t hs qs (by decide) (by decide) (by decide)
 have HIH := Lib.hid (sizeH32 hs)
 have HLEK := Lib.hid lk
 have HLEI := Lib.hid li
 have HLEN := Lib.hid ln
 have HB := Lib.hid hB
 clear hk hiv hnx lk li ln ht hs qs hb3 o0 o1 o2
 go_enter Tryd.func38, Tryd.ntmps38
 go_wp2_with (first
  | (refine wpList_allocS rfl rfl ?_)
  | (refine wpList_load_row rfl 23 (.tmp 2) rfl B rfl _ _ _ _ HI0.out.h Tryd.underlying23 rfl HIH.out ?_))
 clear hW3 hW4 f2 f3
 refine (HLK.out _ HI0.out.bel).mono ?_
 rintro e w5 ⟨gk, ck, rfl, hg1, hr1, hb1⟩
 have HI1 := Lib.hid (HI0.out.kept hb1)
 have hlt1 : B + 1 + 1 < gk := by have := HI0.out.o.lt; omega
 have HR1 := Lib.hid hr1
 clear hg1 hr1 hb1 HI0
 go_wp2_with (first
  | (refine wpList_load_row rfl 23 (.tmp 2) rfl B rfl _ _ _ _ HI1.out.h Tryd.underlying23 rfl HIH.out ?_))
 refine (HLI.out _ HI1.out.bel).mono ?_
 rintro e w6 ⟨gi, ci, rfl, hg2, hr2, hb2⟩
 have HI2 := Lib.hid (HI1.out.kept hb2)
 have hlt2 : B + 1 + 1 < gi := by have := HI1.out.o.lt; omega
 have HR2 := Lib.hid hr2
 have HR1' := Lib.hid (HR1.out.below hb2)
 clear hg2 hr2 hb2 HI1
 go_wp2_with (first
  | (refine wpList_load_row rfl 23 (.tmp 2) rfl B rfl _ _ _ _ HI2.out.h Tryd.underlying23 rfl HIH.out ?_))
 refine (HLN.out _ HI2.out.bel).mono ?_
 rintro e w7 ⟨gn, cn, rfl, hg3, hr3, hb3⟩
 have HI3 := Lib.hid (HI2.out.kept hb3)
 have hlt3 : B + 1 + 1 < gn := by have := HI2.out.o.lt; omega
 have HR3 := Lib.hid hr3
 have HR1'' := Lib.hid (HR1'.out.below hb3)
 have HR2' := Lib.hid (HR2.out.below hb3)
 clear hg3 hr3 hb3 HI2
 have HRS : Hid (Rd w7 (some ⟨gk, 0, none⟩) k ∧ Rd w7 (some ⟨gi, 0, none⟩) iv ∧ Rd w7 (some ⟨gn, 0, none⟩) nx) := ⟨HR1''.out, HR2'.out, HR3.out⟩
 clear HR1 HR1' HR1'' HR2 HR2' HR3 HLK HLI HLN
 go_wp2
 go_loopw [9] (fun p V => ∃ i : Nat, i ≤ 32 ∧ p = .int .i64 i ∧ MrI w B s (rmk k iv nx i) ph V ∧ Rd V (some ⟨gk, 0, none⟩) k ∧ Rd V (some ⟨gi, 0, none⟩) iv ∧ Rd V (some ⟨gn, 0, none⟩) nx) (fun p _ => 32 - (intOf p).toNat)
 case atStart => exact ⟨0, by omega, rfl, HI3.out, HRS.out⟩
 case round =>
  clear HI3 HRS
  obtain ⟨i, hi, rfl, hI, hRk, hRi, hRn⟩ := hrel
  by_cases hlt : i < 32
  ·have hji : (i : Int) < 32 := by omega
   have hnext := rmk_next k iv nx i hlt
   have hrl := rmk_len k iv nx i
   obtain ⟨_, _, ek, hgk, hck⟩ := hRk (by rw [HLEK.out]; decide)
   obtain ⟨_, _, ei, hgi, hci⟩ := hRi (by rw [HLEI.out]; decide)
   obtain ⟨_, _, en, hgn, hcn⟩ := hRn (by rw [HLEN.out]; decide)
   cases ek
   cases ei
   cases en
   by_cases h16 : i < 16
   ·have h16i : (i : Int) < 16 := by omega
    rw [if_pos h16] at hnext
    have fk : wr.cell? ⟨gk, i, none⟩ = some (.int .u8 ((k.getD i 0 : Nat) : Int)) := by have := hck i (by rw [HLEK.out]; exact h16); rwa [Nat.zero_add] at this
    have z1 := hI.o.free i
    have y1 := hI.o.getT i (by rw [hrl]; omega)
    obtain ⟨V1, hV1⟩ : ∃ V1, wr.setCell ⟨B + 1 + 1, i, none⟩ (.int .u8 ((k.getD i 0 : Nat) : Int)) = V1 := ⟨_, rfl⟩
    have hI1 : MrI w B s ((rmk k iv nx i).set i (k.getD i 0)) ph V1 := hV1 ▸ hI.set HB.out i _ (by rw [hrl]; omega)
    by_cases h12 : i < 12
    ·have h12i : (i : Int) < 12 := by omega
     rw [if_pos h12] at hnext
     have fi : V1.cell? ⟨gi, i, none⟩ = some (.int .u8 ((iv.getD i 0 : Nat) : Int)) := by
      have := hci i (by rw [HLEI.out]; exact h12)
      rw [Nat.zero_add] at this
      rw [← hV1, World.cell?_setCell_other _ _ _ _ (fun e => by have := congrArg Addr.block e; simp at this; omega)]; exact this
     have z2 := hI1.o.free (16 + i)
     have y2 := hI1.o.getT (16 + i) (by rw [List.length_set, hrl]; omega)
     obtain ⟨V2, hV2⟩ : ∃ V2, V1.setCell ⟨B + 1 + 1, 16 + i, none⟩ (.int .u8 ((iv.getD i 0 : Nat) : Int)) = V2 := ⟨_, rfl⟩
     have hI2 : MrI w B s (((rmk k iv nx i).set i (k.getD i 0)).set (16 + i) (iv.getD i 0)) ph V2 := hV2 ▸ hI1.set HB.out _ _ (by rw [List.length_set, hrl]; omega)
     have fn : V2.cell? ⟨gn, i, none⟩ = some (.int .u8 ((nx.getD i 0 : Nat) : Int)) := by
      have := hcn i (by rw [HLEN.out]; exact hlt)
      rw [Nat.zero_add] at this
      rw [← hV2, World.cell?_setCell_other _ _ _ _ (fun e => by have := congrArg Addr.block e; simp at this; omega), ← hV1, World.cell?_setCell_other _ _ _ _ (fun e => by have := congrArg Addr.block e; simp at this; omega)]; exact this
     have z3 := hI2.o.free (28 + i)
     have y3 := hI2.o.getT (28 + i) (by rw [List.length_set, List.length_set, hrl]; omega)
     have hI3 := hI2.set HB.out (28 + i) (nx.getD i 0) (by rw [List.length_set, List.length_set, hrl]; omega)
     rw [hnext] at hI3
     have hU : Upd (B + 1 + 1) wr (V2.setCell ⟨B + 1 + 1, 28 + i, none⟩ (.int .u8 ((nx.getD i 0 : Nat) : Int))) := hV2 ▸ hV1 ▸ (((Upd.refl _ _).set _ _).set _ _).set _ _
     have HNX := Lib.hid (And.intro hI3 (And.intro (rd_upd hRk hU (by omega)) (And.intro (rd_upd hRi hU (by omega)) (rd_upd hRn hU (by omega)))))
     clear hI hI1 hI2 hI3 hU hnext hrl hRk hRi hRn hck hci hcn
     generalize k.getD i 0 = xk at *
     generalize iv.getD i 0 = xi at *
     generalize nx.getD i 0 = xn at *
     go_wp2
     go_roundw
     case rel => exact ⟨i + 1, by omega, by go_num, HNX.out⟩
     case measure => simp [intOf]; omega
    ·have h12i : ¬ (i : Int) < 12 := by omega
     rw [if_neg h12] at hnext
     have fn : V1.cell? ⟨gn, i, none⟩ = some (.int .u8 ((nx.getD i 0 : Nat) : Int)) := by
      have := hcn i (by rw [HLEN.out]; exact hlt)
      rw [Nat.zero_add] at this
      rw [← hV1, World.cell?_setCell_other _ _ _ _ (fun e => by have := congrArg Addr.block e; simp at this; omega)]; exact this
     have z3 := hI1.o.free (28 + i)
     have y3 := hI1.o.getT (28 + i) (by rw [List.length_set, hrl]; omega)
     have hI3 := hI1.set HB.out (28 + i) (nx.getD i 0) (by rw [List.length_set, hrl]; omega)
     rw [hnext] at hI3
     have hU : Upd (B + 1 + 1) wr (V1.setCell ⟨B + 1 + 1, 28 + i, none⟩ (.int .u8 ((nx.getD i 0 : Nat) : Int))) := hV1 ▸ ((Upd.refl _ _).set _ _).set _ _
     have HNX := Lib.hid (And.intro hI3 (And.intro (rd_upd hRk hU (by omega)) (And.intro (rd_upd hRi hU (by omega)) (rd_upd hRn hU (by omega)))))
     clear hI hI1 hI3 hU hnext hrl hRk hRi hRn hck hci hcn
     generalize k.getD i 0 = xk at *
     generalize nx.getD i 0 = xn at *
     go_wp2
     go_roundw
     case rel => exact ⟨i + 1, by omega, by go_num, HNX.out⟩
     case measure => simp [intOf]; omega
   ·have h16i : ¬ (i : Int) < 16 := by omega
    have h12i : ¬ (i : Int) < 12 := by omega
    rw [if_neg h16] at hnext
    have fn : wr.cell? ⟨gn, i, none⟩ = some (.int .u8 ((nx.getD i 0 : Nat) : Int)) := by
     have := hcn i (by rw [HLEN.out]; exact hlt)
     rwa [Nat.zero_add] at this
    have z3 := hI.o.free (28 + i)
    have y3 := hI.o.getT (28 + i) (by rw [hrl]; omega)
    have hI3 := hI.set HB.out (28 + i) (nx.getD i 0) (by rw [hrl]; omega)
    rw [hnext] at hI3
    have hU : Upd (B + 1 + 1) wr (wr.setCell ⟨B + 1 + 1, 28 + i, none⟩ (.int .u8 ((nx.getD i 0 : Nat) : Int))) := (Upd.refl _ _).set _ _
    have HNX := Lib.hid (And.intro hI3 (And.intro (rd_upd hRk hU (by omega)) (And.intro (rd_upd hRi hU (by omega)) (rd_upd hRn hU (by omega)))))
    clear hI hI3 hU hnext hrl hRk hRi hRn hck hci hcn
    generalize nx.getD i 0 = xn at *
    go_wp2
    go_roundw
    case rel => exact ⟨i + 1, by omega, by go_num, HNX.out⟩
    case measure => simp [intOf]; omega
  ·obtain rfl : i = 32 := by omega
   have hO : Obj wr (B + 1 + 1) 29 (secV (Ky.make s ph)) := by
    rw [HMK.out, ← rmk_full HLEK.out HLEI.out HLEN.out]; exact hI.o
   have HOK := Lib.hid (Ky.make_ok s ph)
   have HIS := Lib.hid (sizeSec HOK.out)
   have HSN : Hid (zSec.size = (secV (Ky.make s ph)).size) := by unfold Hid zSec; rw [pSec_size, secV_size HOK.out]
   have hFB : Below w.heap.size w (wr.setRow (B + 1) (secV (Ky.make s ph))) := Upd.below hI.bel (by have := HB.out; omega) ((Upd.refl _ _).row _)
   have HJ := Lib.hid hI.r
   have HO := Lib.hid hO
   have HFB := Lib.hid hFB
   clear hI hFB hO hRk hRi hRn
   go_wp2_with (first
    | (refine wpList_load_row rfl 29 (.tmp 5) rfl (B + 1 + 1) rfl _ _ _ _ HO.out Tryd.underlying29 rfl HIS.out ?_)
    | (refine wpList_store_row rfl 29 (.tmp 4) (.tmp 47) rfl (B + 1) _ rfl rfl _ _ HJ.out HIS.out HSN.out (one_rowT _ _) ?_))
   exact bodyPost_ret (v := .agg (secV (Ky.make s ph))) (results_cell_row rfl _ _ _ _ _ _ _ rfl (HJ.out.row _) Tryd.underlying29 rfl HIS.out) rfl ⟨rfl, HFB.out⟩
end Go.Proofs.YtabfcaidioohfaaDoor
namespace Go.Proofs.YtabfcaidioohfaaDoor
open List (getElem?_toArray getElem?_cons_zero getElem?_cons_succ setIfInBounds_toArray set_cons_zero set_cons_succ)
open Go Go.RowKit Go.Shelf
set_option linter.unusedVariables false
set_option linter.unusedSimpArgs false
set_option maxRecDepth 100000
/-- Two secrets of the document's, under way. -/
structure RwI (w : World) (B S : Nat) (s l1 l2 : List Nat) (V : World) : Prop where
 h : Obj V S 23 (cellsN s)
 r1 : Obj V B 23 (cellsN l1)
 r2 : Obj V (B + 1) 23 (cellsN l2)
 bel : Below w.heap.size w V
theorem RwI.drew {w V : World} {B S : Nat} {s l1 l2 : List Nat} (h : RwI w B S s l1 l2 V) : RwI w B S s l1 l2 V.drew := ⟨h.h, h.r1, h.r2, h.bel.drew⟩
theorem RwI.kept {w V V' : World} {B S : Nat} {s l1 l2 : List Nat} (h : RwI w B S s l1 l2 V) (hb : Below V.heap.size V V') : RwI w B S s l1 l2 V' :=
 ⟨h.h.kept hb, h.r1.kept hb, h.r2.kept hb, h.bel.trans (hb.mono h.bel.size)⟩
theorem RwI.set1 {w V : World} {B S : Nat} {s l1 l2 : List Nat} (h : RwI w B S s l1 l2 V) (hw : w.heap.size = B) (hS : B + 1 < S) (l : List Nat) : RwI w B S s l l2 (V.setRow B (cellsN l)) :=
 have u : Upd B V (V.setRow B (cellsN l)) := (Upd.refl _ V).row _
 ⟨h.h.upd u (by omega), h.r1.row _, h.r2.upd u (by omega), Upd.below h.bel (by omega) u⟩
theorem RwI.set2 {w V : World} {B S : Nat} {s l1 l2 : List Nat} (h : RwI w B S s l1 l2 V) (hw : w.heap.size = B) (hS : B + 1 < S) (l : List Nat) : RwI w B S s l1 l (V.setRow (B + 1) (cellsN l)) :=
 have u : Upd (B + 1) V (V.setRow (B + 1) (cellsN l)) := (Upd.refl _ V).row _
 ⟨h.h.upd u (by omega), h.r1.upd u (by omega), h.r2.row _, Upd.below h.bel (by omega) u⟩
set_option maxHeartbeats 4000000 in
theorem rfirst_any (A : Option Addr) (n c : Nat) (cid : List Nat) (w : World) (ht : KTab w) (hr : Rd w A cid) (hl : cid.length = n) (qb : Ae.bytes cid) (hn : n ≤ 1900) :
  Calls Tryd.prog 26 #[.slice A n c] w fun e w' => e = .returned (.tuple #[.agg (cellsN (Ky.first1 cid)), .agg (cellsN (Ky.first2 cid))]) ∧ Below w.heap.size w w' := by
 obtain ⟨B, hB⟩ : ∃ B, w.heap.size = B := ⟨_, rfl⟩
 obtain ⟨T, hT⟩ : ∃ T, Sh.tag Ky.salt cid = T := ⟨_, rfl⟩
 have lT : T.length = 32 := hT ▸ tag_len _ _
 have qT : Ae.bytes T := hT ▸ tag_lt _ _
 obtain ⟨L1, hL1⟩ : ∃ L, Ky.lab T Ky.cinB 32 = L := ⟨_, rfl⟩
 obtain ⟨L2, hL2⟩ : ∃ L, Ky.lab T Ky.sinB 32 = L := ⟨_, rfl⟩
 have l1 : L1.length = 32 := hL1 ▸ Ky.lab_len _ _ _
 have l2 : L2.length = 32 := hL2 ▸ Ky.lab_len _ _ _
 have HV1 : Hid (Ky.first1 cid = L1) := by show Ky.lab (Sh.tag Ky.salt cid) Ky.cinB 32 = L1; rw [hT, hL1]
 have HV2 : Hid (Ky.first2 cid = L2) := by show Ky.lab (Sh.tag Ky.salt cid) Ky.sinB 32 = L2; rw [hT, hL2]
 have hb0 : Below w.heap.size w ((w.alloc (.cells Z32 23)).alloc (.cells Z32 23)) := ((Below.refl _ w).alloc (Nat.le_refl _) _).alloc (by simp) _
 have kcA := fun (C : Array Value) (n c : Nat) => conv_at ((w.alloc (.cells Z32 23)).alloc (.cells Z32 23)) C n c (B + 1 + 1) (by simp [hB])
 obtain ⟨W2, hW2⟩ : ∃ W2, ((w.alloc (.cells Z32 23)).alloc (.cells Z32 23)).alloc (.cells #[.int .u8 100, .int .u8 111, .int .u8 111, .int .u8 114, .int .u8 119, .int .u8 97, .int .u8 114, .int .u8 100, .int .u8 32, .int .u8 102, .int .u8 105, .int .u8 114, .int .u8 115, .int .u8 116, .int .u8 32, .int .u8 115, .int .u8 97, .int .u8 108, .int .u8 116, .int .u8 46, .int .u8 46] 5 (21, 22)) = W2 := ⟨_, rfl⟩
 have hb2 : Below w.heap.size w W2 := hW2 ▸ hb0.alloc hb0.size _
 have m2 : Rd W2 (some ⟨B + 1 + 1, 0, none⟩) Ky.salt := hW2 ▸ lit_rd' ((w.alloc (.cells Z32 23)).alloc (.cells Z32 23)) Ky.salt (21, 22) (by simp [hB])
 have o0 : Obj W2 B 23 (cellsN (List.replicate 32 0)) := hW2 ▸ hB ▸ ((Obj.new w _ _).alloc _).alloc _
 have o1 : Obj W2 (B + 1) 23 (cellsN (List.replicate 32 0)) := by
  have := (new2 w (.cells Z32 23) 23 Z32).alloc (.cells #[.int .u8 100, .int .u8 111, .int .u8 111, .int .u8 114, .int .u8 119, .int .u8 97, .int .u8 114, .int .u8 100, .int .u8 32, .int .u8 102, .int .u8 105, .int .u8 114, .int .u8 115, .int .u8 116, .int .u8 32, .int .u8 115, .int .u8 97, .int .u8 108, .int .u8 116, .int .u8 46, .int .u8 46] 5 (21, 22))
  rw [hB, hW2] at this; exact this
 have HEX : Hid (∀ W, Below w.heap.size w W → Rd W (some ⟨B + 1 + 1, 0, none⟩) Ky.salt → Calls Tryd.prog 47 #[.slice (some ⟨B + 1 + 1, 0, none⟩) 21 21, .slice A n c] W fun e w' => e = .returned (.agg (cellsN T)) ∧ Below W.heap.size W w') := fun W hb hm => by
  rw [← hT]
  exact rtag_any _ A 21 21 n c Ky.salt cid W (ht.below hb).t hm rfl (by unfold Ky.salt; decide) (by decide) ⟨Nat.le_refl _, by decide⟩ (hr.below hb) hl qb hn
 have HLA : Hid (∀ W, Below w.heap.size w W → Calls Tryd.prog 49 #[.agg (cellsN T), .string Ky.cinB, .int .i64 32] W fun e w' => ∃ g c, e = .returned (.slice (some ⟨g, 0, none⟩) 32 c) ∧ W.heap.size ≤ g ∧ Rd w' (some ⟨g, 0, none⟩) L1 ∧ Below W.heap.size W w') := fun W hb => hL1 ▸ rlabel_fr T Ky.cinB 32 W (ht.below hb).t lT qT (by decide) (by decide) (by decide)
 have HLB : Hid (∀ W, Below w.heap.size w W → Calls Tryd.prog 49 #[.agg (cellsN T), .string Ky.sinB, .int .i64 32] W fun e w' => ∃ g c, e = .returned (.slice (some ⟨g, 0, none⟩) 32 c) ∧ W.heap.size ≤ g ∧ Rd w' (some ⟨g, 0, none⟩) L2 ∧ Below W.heap.size W w') := fun W hb => hL2 ▸ rlabel_fr T Ky.sinB 32 W (ht.below hb).t lT qT (by decide) (by decide) (by decide)
 have HH1 : Hid (∀ W g c, Rd W (some ⟨g, 0, none⟩) L1 → Calls Tryd.prog 48 #[.slice (some ⟨g, 0, none⟩) 32 c] W fun e w' => e = .returned (.agg (cellsN L1)) ∧ Below W.heap.size W w') := fun W g c hr => rhash_any _ c L1 W hr l1
 have HH2 : Hid (∀ W g c, Rd W (some ⟨g, 0, none⟩) L2 → Calls Tryd.prog 48 #[.slice (some ⟨g, 0, none⟩) 32 c] W fun e w' => e = .returned (.agg (cellsN L2)) ∧ Below W.heap.size W w') := fun W g c hr => rhash_any _ c L2 W hr l2
 have HI1 := Lib.hid (sizeH32 l1)
 have HI2 := Lib.hid (sizeH32 l2)
 have HIT := Lib.hid (sizeH32 lT)
 have HS1 : Hid ((cellsN (List.replicate 32 0)).size = (cellsN L1).size) := by unfold Hid; rw [cellsN_size, cellsN_size, l1]; rfl
 have HS2 : Hid ((cellsN (List.replicate 32 0)).size = (cellsN L2).size) := by unfold Hid; rw [cellsN_size, cellsN_size, l2]; rfl
 have HST : Hid ((Z32 : Array Value).size = (cellsN T).size) := by unfold Hid; rw [cellsN_size, lT]; rfl
 have HW2 := Lib.hid hW2
 have HB := Lib.hid hB
 have HP2 := Lib.hid (And.intro hb2 (And.intro o0 o1))
 have HM2 := Lib.hid m2
 rw [HV1.out, HV2.out]
 clear hb0 hW2 hT hL1 hL2 l1 l2 lT qT ht hb2 o0 o1 m2 hr hl qb hn
 go_enter Tryd.func26, Tryd.ntmps26
 go_wp2_with fail
 rw [HW2.out]
 refine (HEX.out _ HP2.out.1 HM2.out).mono ?_
 rintro e w3 ⟨rfl, hb3⟩
 have HP3 := Lib.hid (And.intro (HP2.out.1.trans (hb3.mono HP2.out.1.size)) (And.intro (HP2.out.2.1.kept hb3) (HP2.out.2.2.kept hb3)))
 clear hb3 HP2 HM2
 obtain ⟨S, hS⟩ : ∃ S, w3.heap.size = S := ⟨_, rfl⟩
 have hBS : B + 1 < S := by have := HP3.out.2.2.lt; omega
 have hON : Obj (w3.alloc (.cells Z32 23)) S 23 Z32 := hS ▸ Obj.new w3 _ _
 have U4 := (Upd.refl S (w3.alloc (.cells Z32 23))).row (cellsN T)
 obtain ⟨w4, hw4⟩ : ∃ w4, (w3.alloc (.cells Z32 23)).setRow S (cellsN T) = w4 := ⟨_, rfl⟩
 have H0 : Hid (RwI w B S T (List.replicate 32 0) (List.replicate 32 0) w4.drew) :=
  RwI.drew ⟨hw4 ▸ hON.row _, hw4 ▸ (HP3.out.2.1.alloc _).upd U4 (by omega), hw4 ▸ (HP3.out.2.2.alloc _).upd U4 (by omega), hw4 ▸ Upd.below (HP3.out.1.alloc HP3.out.1.size _) (by have := HB.out; omega) U4⟩
 have HON := Lib.hid hON
 have HW4 := Lib.hid hw4
 have HS := Lib.hid hS
 clear hON U4 hw4 hS HP3
 go_wp2_with (refine wpList_store_row rfl 23 (.tmp 4) (.tmp 8) rfl S _ (by rw [← HS.out]; rfl) rfl _ _ HON.out HIT.out HST.out (one_cellsN _) ?_; rw [HW4.out])
 rw [HS.out]
 clear HON HW4 HS
 refine wp_region_held_drew (S := (fun wq => Obj wq S 23 (cellsN T) ∧ Below w.heap.size w wq)) (by kernel_rfl) ⟨H0.out.h, H0.out.bel⟩ (fun hHeld => ?_)
 refine tkH 0 ?_ (hy := by
  refine yieldsIf_load_row (g := S) (t := 23) (cs := cellsN T) (ty := 23) (x := (.tmp 4)) ?_ ?_ ?_ ?_ Tryd.underlying23 rfl HIT.out
  ·rfl
  ·rfl
  ·rfl
  ·exact fun w hSw => hSw.1)
 refine tkH 3 ?_ (hy := by
  refine yieldsIf_load_row (g := S) (t := 23) (cs := cellsN T) (ty := 23) (x := (.tmp 4)) ?_ ?_ ?_ ?_ Tryd.underlying23 rfl HIT.out
  ·rfl
  ·rfl
  ·rfl
  ·exact fun w hSw => hSw.1)
 refine onH 1 (fun KK hKK => ?_)
 go_simp
 refine (HLA.out _ H0.out.bel).mono ?_
 rintro e x1 ⟨g1, c1, rfl, _, hr1, hb1⟩
 have H1 := Lib.hid (H0.out.kept hb1)
 have HR1 := Lib.hid hr1
 clear hb1 hr1
 try go_wp2_with fail
 refine hKK.out _ _ ?_ (fun hh1 => ?_)
 ·(try dsimp only)
  exact ⟨H1.out.h, H1.out.bel⟩
 clear hKK KK
 try simp only [Act.put, setIfInBounds_toArray, set_cons_zero, set_cons_succ]
 refine onH 2 (fun KK hKK => ?_)
 go_simp
 refine (HH1.out _ _ _ HR1.out).mono ?_
 rintro e x2 ⟨rfl, hb2⟩
 have H2 := Lib.hid (H1.out.kept hb2)
 clear hb2
 try go_wp2_with fail
 refine hKK.out _ _ ?_ (fun hh2 => ?_)
 ·(try dsimp only)
  exact ⟨H2.out.h, H2.out.bel⟩
 clear hKK KK
 try simp only [Act.put, setIfInBounds_toArray, set_cons_zero, set_cons_succ]
 refine onH 4 (fun KK hKK => ?_)
 go_simp
 refine (HLB.out _ H2.out.bel).mono ?_
 rintro e x3 ⟨g3, c3, rfl, _, hr3, hb3⟩
 have H3 := Lib.hid (H2.out.kept hb3)
 have HR3 := Lib.hid hr3
 clear hb3 hr3
 try go_wp2_with fail
 refine hKK.out _ _ ?_ (fun hh4 => ?_)
 ·(try dsimp only)
  exact ⟨H3.out.h, H3.out.bel⟩
 clear hKK KK
 try simp only [Act.put, setIfInBounds_toArray, set_cons_zero, set_cons_succ]
 refine onH 5 (fun KK hKK => ?_)
 go_simp
 refine (HH2.out _ _ _ HR3.out).mono ?_
 rintro e x4 ⟨rfl, hb4⟩
 have H4 := Lib.hid (H3.out.kept hb4)
 clear hb4
 try go_wp2_with fail
 refine hKK.out _ _ ?_ (fun hh5 => ?_)
 ·(try dsimp only)
  exact ⟨H4.out.h, H4.out.bel⟩
 clear hKK KK
 try simp only [Act.put, setIfInBounds_toArray, set_cons_zero, set_cons_succ]
 refine onH 6 (fun KK hKK => ?_)
 rw [if_pos (by rfl)]
 refine wp_store_row 23 (.tmp 2) (.tmp 11) rfl B (cellsN L1) rfl rfl 23 _ H4.out.r1 HI1.out HS1.out (one_cellsN _) ?_
 have H5 := Lib.hid (H4.out.set1 HB.out hBS L1)
 refine hKK.out _ _ ?_ (fun hh6 => ?_)
 ·(try dsimp only)
  exact ⟨H5.out.h, H5.out.bel⟩
 clear hKK KK
 try simp only [Act.put, setIfInBounds_toArray, set_cons_zero, set_cons_succ]
 refine onH 7 (fun KK hKK => ?_)
 rw [if_pos (by rfl)]
 refine wp_store_row 23 (.tmp 3) (.tmp 14) rfl (B + 1) (cellsN L2) rfl rfl 23 _ H5.out.r2 HI2.out HS2.out (one_cellsN _) ?_
 have H6 := Lib.hid (H5.out.set2 HB.out hBS L2)
 refine hKK.out _ _ ?_ (fun hh7 => ?_)
 ·(try dsimp only)
  exact ⟨H6.out.h, H6.out.bel⟩
 clear hKK KK
 try simp only [Act.put, setIfInBounds_toArray, set_cons_zero, set_cons_succ]
 refine wpAnyH_done (by kernel_rfl) ?_ _
 go_wp2
 exact bodyPost_ret (v := .tuple #[.agg (cellsN L1), .agg (cellsN L2)]) (two_cells rfl _ _ _ _ _ _ _ _ _ rfl rfl H6.out.r1 H6.out.r2 Tryd.underlying23 rfl HI1.out HI2.out) rfl ⟨rfl, HB.out ▸ H6.out.bel⟩
set_option maxHeartbeats 4000000 in
theorem rlater_any (A1 : Option Addr) (n1 c1 : Nat) (k : List Nat) (A2 : Option Addr) (n2 c2 : Nat) (t : List Nat) (w : World) (ht : KTab w) (r1 : Rd w A1 k) (m1 : k.length = n1) (q1 : Ae.bytes k) (k1 : n1 ≤ 1900 ∧ n1 ≤ c1 ∧ c1 ≤ maxLen) (r2 : Rd w A2 t) (m2 : t.length = n2) (q2 : Ae.bytes t) (k2 : n2 ≤ 1900) :
  Calls Tryd.prog 27 #[.slice A1 n1 c1, .slice A2 n2 c2] w fun e w' => e = .returned (.tuple #[.agg (cellsN (Ky.later1 k t)), .agg (cellsN (Ky.later2 k t))]) ∧ Below w.heap.size w w' := by
 obtain ⟨B, hB⟩ : ∃ B, w.heap.size = B := ⟨_, rfl⟩
 obtain ⟨T, hT⟩ : ∃ T, Sh.tag k t = T := ⟨_, rfl⟩
 have lT : T.length = 32 := hT ▸ tag_len _ _
 have qT : Ae.bytes T := hT ▸ tag_lt _ _
 obtain ⟨L1, hL1⟩ : ∃ L, Ky.lab T Ky.capB 32 = L := ⟨_, rfl⟩
 obtain ⟨L2, hL2⟩ : ∃ L, Ky.lab T Ky.sapB 32 = L := ⟨_, rfl⟩
 have l1 : L1.length = 32 := hL1 ▸ Ky.lab_len _ _ _
 have l2 : L2.length = 32 := hL2 ▸ Ky.lab_len _ _ _
 have HV1 : Hid (Ky.later1 k t = L1) := by show Ky.lab (Sh.tag k t) Ky.capB 32 = L1; rw [hT, hL1]
 have HV2 : Hid (Ky.later2 k t = L2) := by show Ky.lab (Sh.tag k t) Ky.sapB 32 = L2; rw [hT, hL2]
 have hb0 : Below w.heap.size w ((w.alloc (.cells Z32 23)).alloc (.cells Z32 23)) := ((Below.refl _ w).alloc (Nat.le_refl _) _).alloc (by simp) _
 obtain ⟨W2, hW2⟩ : ∃ W2, (w.alloc (.cells Z32 23)).alloc (.cells Z32 23) = W2 := ⟨_, rfl⟩
 have hb2 : Below w.heap.size w W2 := hW2 ▸ hb0
 have o0 : Obj W2 B 23 (cellsN (List.replicate 32 0)) := hW2 ▸ hB ▸ (Obj.new w _ _).alloc _
 have o1 : Obj W2 (B + 1) 23 (cellsN (List.replicate 32 0)) := by
  have := new2 w (.cells Z32 23) 23 Z32
  rw [hB, hW2] at this; exact this
 have HEX : Hid (∀ W, Below w.heap.size w W → Calls Tryd.prog 47 #[.slice A1 n1 c1, .slice A2 n2 c2] W fun e w' => e = .returned (.agg (cellsN T)) ∧ Below W.heap.size W w') := fun W hb => by
  rw [← hT]
  exact rtag_any A1 A2 n1 c1 n2 c2 k t W (ht.below hb).t (r1.below hb) m1 q1 k1.1 k1.2 (r2.below hb) m2 q2 k2
 have HLA : Hid (∀ W, Below w.heap.size w W → Calls Tryd.prog 49 #[.agg (cellsN T), .string Ky.capB, .int .i64 32] W fun e w' => ∃ g c, e = .returned (.slice (some ⟨g, 0, none⟩) 32 c) ∧ W.heap.size ≤ g ∧ Rd w' (some ⟨g, 0, none⟩) L1 ∧ Below W.heap.size W w') := fun W hb => hL1 ▸ rlabel_fr T Ky.capB 32 W (ht.below hb).t lT qT (by decide) (by decide) (by decide)
 have HLB : Hid (∀ W, Below w.heap.size w W → Calls Tryd.prog 49 #[.agg (cellsN T), .string Ky.sapB, .int .i64 32] W fun e w' => ∃ g c, e = .returned (.slice (some ⟨g, 0, none⟩) 32 c) ∧ W.heap.size ≤ g ∧ Rd w' (some ⟨g, 0, none⟩) L2 ∧ Below W.heap.size W w') := fun W hb => hL2 ▸ rlabel_fr T Ky.sapB 32 W (ht.below hb).t lT qT (by decide) (by decide) (by decide)
 have HH1 : Hid (∀ W g c, Rd W (some ⟨g, 0, none⟩) L1 → Calls Tryd.prog 48 #[.slice (some ⟨g, 0, none⟩) 32 c] W fun e w' => e = .returned (.agg (cellsN L1)) ∧ Below W.heap.size W w') := fun W g c hr => rhash_any _ c L1 W hr l1
 have HH2 : Hid (∀ W g c, Rd W (some ⟨g, 0, none⟩) L2 → Calls Tryd.prog 48 #[.slice (some ⟨g, 0, none⟩) 32 c] W fun e w' => e = .returned (.agg (cellsN L2)) ∧ Below W.heap.size W w') := fun W g c hr => rhash_any _ c L2 W hr l2
 have HI1 := Lib.hid (sizeH32 l1)
 have HI2 := Lib.hid (sizeH32 l2)
 have HIT := Lib.hid (sizeH32 lT)
 have HS1 : Hid ((cellsN (List.replicate 32 0)).size = (cellsN L1).size) := by unfold Hid; rw [cellsN_size, cellsN_size, l1]; rfl
 have HS2 : Hid ((cellsN (List.replicate 32 0)).size = (cellsN L2).size) := by unfold Hid; rw [cellsN_size, cellsN_size, l2]; rfl
 have HST : Hid ((Z32 : Array Value).size = (cellsN T).size) := by unfold Hid; rw [cellsN_size, lT]; rfl
 have HW2 := Lib.hid hW2
 have HB := Lib.hid hB
 have HP2 := Lib.hid (And.intro hb2 (And.intro o0 o1))
 rw [HV1.out, HV2.out]
 clear hb0 hW2 hT hL1 hL2 l1 l2 lT qT ht hb2 o0 o1 r1 m1 q1 k1 r2 m2 q2 k2
 go_enter Tryd.func27, Tryd.ntmps27
 go_wp2_with fail
 rw [HW2.out]
 refine (HEX.out _ HP2.out.1).mono ?_
 rintro e w3 ⟨rfl, hb3⟩
 have HP3 := Lib.hid (And.intro (HP2.out.1.trans (hb3.mono HP2.out.1.size)) (And.intro (HP2.out.2.1.kept hb3) (HP2.out.2.2.kept hb3)))
 clear hb3 HP2
 obtain ⟨S, hS⟩ : ∃ S, w3.heap.size = S := ⟨_, rfl⟩
 have hBS : B + 1 < S := by have := HP3.out.2.2.lt; omega
 have hON : Obj (w3.alloc (.cells Z32 23)) S 23 Z32 := hS ▸ Obj.new w3 _ _
 have U4 := (Upd.refl S (w3.alloc (.cells Z32 23))).row (cellsN T)
 obtain ⟨w4, hw4⟩ : ∃ w4, (w3.alloc (.cells Z32 23)).setRow S (cellsN T) = w4 := ⟨_, rfl⟩
 have H0 : Hid (RwI w B S T (List.replicate 32 0) (List.replicate 32 0) w4.drew) :=
  RwI.drew ⟨hw4 ▸ hON.row _, hw4 ▸ (HP3.out.2.1.alloc _).upd U4 (by omega), hw4 ▸ (HP3.out.2.2.alloc _).upd U4 (by omega), hw4 ▸ Upd.below (HP3.out.1.alloc HP3.out.1.size _) (by have := HB.out; omega) U4⟩
 have HON := Lib.hid hON
 have HW4 := Lib.hid hw4
 have HS := Lib.hid hS
 clear hON U4 hw4 hS HP3
 go_wp2_with (refine wpList_store_row rfl 23 (.tmp 6) (.tmp 9) rfl S _ (by rw [← HS.out]; rfl) rfl _ _ HON.out HIT.out HST.out (one_cellsN _) ?_; rw [HW4.out])
 rw [HS.out]
 clear HON HW4 HS
 refine wp_region_held_drew (S := (fun wq => Obj wq S 23 (cellsN T) ∧ Below w.heap.size w wq)) (by kernel_rfl) ⟨H0.out.h, H0.out.bel⟩ (fun hHeld => ?_)
 refine tkH 0 ?_ (hy := by
  refine yieldsIf_load_row (g := S) (t := 23) (cs := cellsN T) (ty := 23) (x := (.tmp 6)) ?_ ?_ ?_ ?_ Tryd.underlying23 rfl HIT.out
  ·rfl
  ·rfl
  ·rfl
  ·exact fun w hSw => hSw.1)
 refine tkH 3 ?_ (hy := by
  refine yieldsIf_load_row (g := S) (t := 23) (cs := cellsN T) (ty := 23) (x := (.tmp 6)) ?_ ?_ ?_ ?_ Tryd.underlying23 rfl HIT.out
  ·rfl
  ·rfl
  ·rfl
  ·exact fun w hSw => hSw.1)
 refine onH 1 (fun KK hKK => ?_)
 go_simp
 refine (HLA.out _ H0.out.bel).mono ?_
 rintro e x1 ⟨g1, c1, rfl, _, hr1, hb1⟩
 have H1 := Lib.hid (H0.out.kept hb1)
 have HR1 := Lib.hid hr1
 clear hb1 hr1
 try go_wp2_with fail
 refine hKK.out _ _ ?_ (fun hh1 => ?_)
 ·(try dsimp only)
  exact ⟨H1.out.h, H1.out.bel⟩
 clear hKK KK
 try simp only [Act.put, setIfInBounds_toArray, set_cons_zero, set_cons_succ]
 refine onH 2 (fun KK hKK => ?_)
 go_simp
 refine (HH1.out _ _ _ HR1.out).mono ?_
 rintro e x2 ⟨rfl, hb2⟩
 have H2 := Lib.hid (H1.out.kept hb2)
 clear hb2
 try go_wp2_with fail
 refine hKK.out _ _ ?_ (fun hh2 => ?_)
 ·(try dsimp only)
  exact ⟨H2.out.h, H2.out.bel⟩
 clear hKK KK
 try simp only [Act.put, setIfInBounds_toArray, set_cons_zero, set_cons_succ]
 refine onH 4 (fun KK hKK => ?_)
 go_simp
 refine (HLB.out _ H2.out.bel).mono ?_
 rintro e x3 ⟨g3, c3, rfl, _, hr3, hb3⟩
 have H3 := Lib.hid (H2.out.kept hb3)
 have HR3 := Lib.hid hr3
 clear hb3 hr3
 try go_wp2_with fail
 refine hKK.out _ _ ?_ (fun hh4 => ?_)
 ·(try dsimp only)
  exact ⟨H3.out.h, H3.out.bel⟩
 clear hKK KK
 try simp only [Act.put, setIfInBounds_toArray, set_cons_zero, set_cons_succ]
 refine onH 5 (fun KK hKK => ?_)
 go_simp
 refine (HH2.out _ _ _ HR3.out).mono ?_
 rintro e x4 ⟨rfl, hb4⟩
 have H4 := Lib.hid (H3.out.kept hb4)
 clear hb4
 try go_wp2_with fail
 refine hKK.out _ _ ?_ (fun hh5 => ?_)
 ·(try dsimp only)
  exact ⟨H4.out.h, H4.out.bel⟩
 clear hKK KK
 try simp only [Act.put, setIfInBounds_toArray, set_cons_zero, set_cons_succ]
 refine onH 6 (fun KK hKK => ?_)
 rw [if_pos (by rfl)]
 refine wp_store_row 23 (.tmp 4) (.tmp 12) rfl B (cellsN L1) rfl rfl 23 _ H4.out.r1 HI1.out HS1.out (one_cellsN _) ?_
 have H5 := Lib.hid (H4.out.set1 HB.out hBS L1)
 refine hKK.out _ _ ?_ (fun hh6 => ?_)
 ·(try dsimp only)
  exact ⟨H5.out.h, H5.out.bel⟩
 clear hKK KK
 try simp only [Act.put, setIfInBounds_toArray, set_cons_zero, set_cons_succ]
 refine onH 7 (fun KK hKK => ?_)
 rw [if_pos (by rfl)]
 refine wp_store_row 23 (.tmp 5) (.tmp 15) rfl (B + 1) (cellsN L2) rfl rfl 23 _ H5.out.r2 HI2.out HS2.out (one_cellsN _) ?_
 have H6 := Lib.hid (H5.out.set2 HB.out hBS L2)
 refine hKK.out _ _ ?_ (fun hh7 => ?_)
 ·(try dsimp only)
  exact ⟨H6.out.h, H6.out.bel⟩
 clear hKK KK
 try simp only [Act.put, setIfInBounds_toArray, set_cons_zero, set_cons_succ]
 refine wpAnyH_done (by kernel_rfl) ?_ _
 go_wp2
 exact bodyPost_ret (v := .tuple #[.agg (cellsN L1), .agg (cellsN L2)]) (two_cells rfl _ _ _ _ _ _ _ _ _ rfl rfl H6.out.r1 H6.out.r2 Tryd.underlying23 rfl HI1.out HI2.out) rfl ⟨rfl, HB.out ▸ H6.out.bel⟩
end Go.Proofs.YtabfcaidioohfaaDoor
