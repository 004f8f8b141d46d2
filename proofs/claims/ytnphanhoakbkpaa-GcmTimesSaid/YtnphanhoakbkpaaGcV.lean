/- Layer 9's gcm, the document's Seal. -/
import Derived.RangeFuncNested
import Derived.RangeFuncBound
import Derived.RangeFuncCalls
import Derived.RangeFuncLeaves
import Derived.RangeFuncBox
import Derived.Shelf.Abstract
import Derived.Shelf.RegionOpen
import Derived.WalkKit
import Derived.OwnWalkIn
import Derived.TacticsInMore
import Derived.LoopN
import Derived.LoopNIn
import Derived.LoopIn
import Derived.WalkSpells
import Derived.WalkLawsBesides
import Derived.Laws.Rows
import Derived.Laws.EntriesVeiled
import Derived.Laws.BitsAllLaws
import Derived.Handy
import Derived.BigQuiet
import Derived.Deep.QuietTactic
import Derived.IntWalk
import Derived.Lib.Hide
import Derived.Outline
import Derived.Test.YtnphanhoakbkpaaRows
import Derived.Test.YtnphanhoakbkpaaAid
import Derived.Test.YtnphanhoakbkpaaPlainAe
import Derived.Test.YtnphanhoakbkpaaPlainAe2
import Derived.Test.YtnphanhoakbkpaaPlainGc
import Derived.Test.YtnphanhoakbkpaaPlainGc2
import Derived.Test.YtnphanhoakbkpaaAesB
import Derived.Test.YtnphanhoakbkpaaAesBox
import Derived.Test.YtnphanhoakbkpaaAesW
import Derived.Test.YtnphanhoakbkpaaAesE
import Derived.Test.YtnphanhoakbkpaaAesK
import Derived.Test.YtnphanhoakbkpaaAesS
import Derived.Test.YtnphanhoakbkpaaAesT
import Derived.Test.YtnphanhoakbkpaaBl
import Derived.Test.YtnphanhoakbkpaaItF
import Derived.Test.YtnphanhoakbkpaaGcA
import Derived.Test.YtnphanhoakbkpaaGcB
import Derived.Test.YtnphanhoakbkpaaGcD
import Derived.Test.YtnphanhoakbkpaaGcE
import Derived.Test.YtnphanhoakbkpaaGcF
import Derived.Test.YtnphanhoakbkpaaGcG
import Derived.Test.YtnphanhoakbkpaaGcR
import Derived.Test.YtnphanhoakbkpaaPlainGc3
import Derived.Test.YtnphanhoakbkpaaPlainGc6
import Derived.Test.YtnphanhoakbkpaaGcT
import Derived.Test.YtnphanhoakbkpaaGcI
import Derived.Test.YtnphanhoakbkpaaGcJ
import Derived.Test.YtnphanhoakbkpaaRfI
import Derived.Test.YtnphanhoakbkpaaRfJ
import Derived.Test.YtnphanhoakbkpaaGcU
import Derived.Deep.Upon
import Derived.Lib.AppendZeros
namespace Go.Gc
open Go.Proofs.Ytnphanhoakbkpaa
theorem tag_xl (key first more c : List Nat) : tag key first more c = xl (bn (gsum (hkey key) more c)) (Ae.enc (Ae.sched key) first) := by
  unfold tag Ae.stream xl
  rw [bn_len]
  refine List.map_congr_left fun k hk => ?_
  have h := List.mem_range.1 hk
  unfold Ae.pad
  rw [Nat.div_eq_of_lt h, Nat.mod_eq_of_lt h]
  rfl
theorem xl_take (a b : List Nat) {k : Nat} (h : k < 16) : (xl a b).take (k + 1) = (xl a b).take k ++ [a.getD k 0 ^^^ b.getD k 0] := by
  rw [List.take_add_one]
  have e : (xl a b)[k]? = some (a.getD k 0 ^^^ b.getD k 0) := by unfold xl; simp [h]
  rw [e]; rfl
theorem pad12 {n : List Nat} (h : n.length = 12) : Ae.upto (fun i => n.getD i 0) (List.replicate 16 0) 12 = pad n := by
  refine Ae.ext_get (by rw [Ae.upto_len, pad_len (by omega)]; simp) fun i hi => ?_
  rw [Ae.upto_len] at hi
  rw [Ae.upto_get _ _ _ _ hi]
  rw [List.length_replicate] at hi
  unfold pad
  rw [h]
  by_cases h2 : i < 12
  · rw [if_pos h2, List.getD_eq_getElem?_getD, List.getD_eq_getElem?_getD, List.getElem?_append_left (by omega)]
  · rw [if_neg h2, List.getD_eq_getElem?_getD, List.getD_eq_getElem?_getD, List.getElem?_append_right (by omega), List.getElem?_replicate, List.getElem?_replicate, if_pos (by omega), if_pos (by omega)]
theorem b2_pad {n : List Nat} (h : n.length = 12) : (pad n).set 15 2 = b2 n := by
  unfold pad b2
  rw [h, List.set_append_right _ _ (by omega), h]
  rfl
theorem b1_b2 {n : List Nat} (h : n.length = 12) : (b2 n).set 15 1 = b1 n := by
  unfold b1 b2
  rw [List.set_append_right _ _ (by omega), h]
  rfl
end Go.Gc
namespace Go.Proofs.Ytnphanhoakbkpaa
open Go Go.RowKit Go.Shelf
set_option linter.unusedVariables false
set_option linter.unusedSimpArgs false
/-- The document's Seal: key, nonce, first block, zeros. -/
structure RsS (w : World) (B : Nat) (key nonce jl : List Nat) (V : World) : Prop where
  k : Obj V B 22 (cellsN key)
  n : Obj V (B + 1) 28 (cellsN nonce)
  j : Obj V (B + 1 + 1) 22 (cellsN jl)
  z : Obj V (B + 1 + 1 + 1) 22 (cellsN (List.replicate 16 0))
  bel : Below w.heap.size w V
theorem RsS.drew {w V : World} {B : Nat} {key nonce jl : List Nat} (h : RsS w B key nonce jl V) : RsS w B key nonce jl V.drew := ⟨h.k, h.n, h.j, h.z, h.bel.drew⟩
theorem RsS.set {w V : World} {B : Nat} {key nonce jl : List Nat} (h : RsS w B key nonce jl V) (hw : w.heap.size = B) (i v : Nat) : RsS w B key nonce (jl.set i v) (V.setCell ⟨B + 1 + 1, i, none⟩ (.int .u8 (v : Int))) :=
  ⟨h.k.far (by simp <;> omega) _, h.n.far (by simp <;> omega) _, h.j.setN i v, h.z.far (by simp <;> omega) _, h.bel.setCell (by simp; omega) _⟩
theorem RsS.kept {w V V' : World} {B : Nat} {key nonce jl : List Nat} (h : RsS w B key nonce jl V) (hb : Below V.heap.size V V') : RsS w B key nonce jl V' :=
  ⟨h.k.kept hb, h.n.kept hb, h.j.kept hb, h.z.kept hb, h.bel.trans (hb.mono h.bel.size)⟩
theorem RsS.upd {w V V' : World} {B g : Nat} {key nonce jl : List Nat} (h : RsS w B key nonce jl V) (hw : w.heap.size = B) (hg : B + 3 < g) (hb : Upd g V V') : RsS w B key nonce jl V' :=
  ⟨h.k.upd hb (by omega), h.n.upd hb (by omega), h.j.upd hb (by omega), h.z.upd hb (by omega), Upd.below h.bel (by omega) hb⟩
/-- The document's Seal, at its end: a sum, and a block. -/
structure RsQ (w : World) (S E : Nat) (sl el : List Nat) (V : World) : Prop where
  s : Obj V S 22 (cellsN sl)
  e : Obj V E 22 (cellsN el)
  bel : Below w.heap.size w V
theorem RsQ.drew {w V : World} {S E : Nat} {sl el : List Nat} (h : RsQ w S E sl el V) : RsQ w S E sl el V.drew := ⟨h.s, h.e, h.bel.drew⟩
theorem RsQ.alloc {w V : World} {S E : Nat} {sl el : List Nat} (h : RsQ w S E sl el V) (o : _root_.Go.Obj) : RsQ w S E sl el (V.alloc o) := ⟨h.s.alloc _, h.e.alloc _, h.bel.alloc h.bel.size _⟩
theorem own_upd {w w' : World} {base n g : Nat} {e : TypeId} {v : Value} {xs : List Value} (h : w.ownsRow base e 1 v n xs) (hb : Upd g w w') (hg : some g ≠ v.ownBlock) : w'.ownsRow base e 1 v n xs :=
  h.kept (row := some g) ⟨hb.os, hb.tape, hb.output, hb.size, fun k hk hne => hb.block k hk (fun e => hne (by rw [e]))⟩ (.inr fun e => hg e.symm)

set_option maxRecDepth 100000 in
set_option maxHeartbeats 4000000 in
theorem refSeal_any (key nonce : List Nat) (A1 : Option Addr) (n1 c1 : Nat) (more : List Nat) (A2 : Option Addr) (n2 c2 : Nat) (text : List Nat) (w : World) (l1 : key.length = 16) (q1 : Ae.bytes key) (l2 : nonce.length = 12) (q2 : Ae.bytes nonce) (r1 : Rd w A1 more) (m1 : more.length = n1) (b1 : Ae.bytes more) (k1 : n1 ≤ 100000) (r2 : Rd w A2 text) (m2 : text.length = n2) (b2 : Ae.bytes text) (k2 : n2 ≤ 100000) :
    Calls Try.prog 18 #[.agg (cellsN key), .agg (cellsN nonce), .slice A1 n1 c1, .slice A2 n2 c2] w fun e w' => ∃ v, e = .returned v ∧ w'.ownsRow w.heap.size 5 1 v (n2 + 16) ((Gc.sealT key nonce more text).map u8v) ∧ Below w.heap.size w w' := by
  obtain ⟨B, hB⟩ : ∃ B, w.heap.size = B := ⟨_, rfl⟩
  obtain ⟨W4, hW4⟩ : ∃ W4, (((w.alloc (.cells (cellsN key) 22)).alloc (.cells (cellsN nonce) 28)).alloc (.cells #[.int .u8 0, .int .u8 0, .int .u8 0, .int .u8 0, .int .u8 0, .int .u8 0, .int .u8 0, .int .u8 0, .int .u8 0, .int .u8 0, .int .u8 0, .int .u8 0, .int .u8 0, .int .u8 0, .int .u8 0, .int .u8 0] 22)).alloc (.cells #[.int .u8 0, .int .u8 0, .int .u8 0, .int .u8 0, .int .u8 0, .int .u8 0, .int .u8 0, .int .u8 0, .int .u8 0, .int .u8 0, .int .u8 0, .int .u8 0, .int .u8 0, .int .u8 0, .int .u8 0, .int .u8 0] 22) = W4 := ⟨_, rfl⟩
  have hb4 : Below w.heap.size w W4 := hW4 ▸ ((((Below.refl _ w).alloc (Nat.le_refl _) _).alloc (by simp) _).alloc (by simp; omega) _).alloc (by simp; omega) _
  have s4 : W4.heap.size = B + 4 := by rw [← hW4]; simp [hB]
  have HI0 : Hid (RsS w B key nonce (List.replicate 16 0) W4) := by
    refine ⟨?_, ?_, ?_, ?_, hb4⟩
    · exact hW4 ▸ hB ▸ (((Obj.new w _ _).alloc _).alloc _).alloc _
    · have := ((new2 w (.cells (cellsN key) 22) 28 (cellsN nonce)).alloc (.cells #[.int .u8 0, .int .u8 0, .int .u8 0, .int .u8 0, .int .u8 0, .int .u8 0, .int .u8 0, .int .u8 0, .int .u8 0, .int .u8 0, .int .u8 0, .int .u8 0, .int .u8 0, .int .u8 0, .int .u8 0, .int .u8 0] 22)).alloc (.cells #[.int .u8 0, .int .u8 0, .int .u8 0, .int .u8 0, .int .u8 0, .int .u8 0, .int .u8 0, .int .u8 0, .int .u8 0, .int .u8 0, .int .u8 0, .int .u8 0, .int .u8 0, .int .u8 0, .int .u8 0, .int .u8 0] 22)
      rw [hB, hW4] at this; exact this
    · have := (Obj.new ((w.alloc (.cells (cellsN key) 22)).alloc (.cells (cellsN nonce) 28)) 22 #[.int .u8 0, .int .u8 0, .int .u8 0, .int .u8 0, .int .u8 0, .int .u8 0, .int .u8 0, .int .u8 0, .int .u8 0, .int .u8 0, .int .u8 0, .int .u8 0, .int .u8 0, .int .u8 0, .int .u8 0, .int .u8 0]).alloc (.cells #[.int .u8 0, .int .u8 0, .int .u8 0, .int .u8 0, .int .u8 0, .int .u8 0, .int .u8 0, .int .u8 0, .int .u8 0, .int .u8 0, .int .u8 0, .int .u8 0, .int .u8 0, .int .u8 0, .int .u8 0, .int .u8 0] 22)
      simp only [World.size_alloc, hB] at this; rw [hW4] at this; exact this
    · have := Obj.new (((w.alloc (.cells (cellsN key) 22)).alloc (.cells (cellsN nonce) 28)).alloc (.cells #[.int .u8 0, .int .u8 0, .int .u8 0, .int .u8 0, .int .u8 0, .int .u8 0, .int .u8 0, .int .u8 0, .int .u8 0, .int .u8 0, .int .u8 0, .int .u8 0, .int .u8 0, .int .u8 0, .int .u8 0, .int .u8 0] 22)) 22 #[.int .u8 0, .int .u8 0, .int .u8 0, .int .u8 0, .int .u8 0, .int .u8 0, .int .u8 0, .int .u8 0, .int .u8 0, .int .u8 0, .int .u8 0, .int .u8 0, .int .u8 0, .int .u8 0, .int .u8 0, .int .u8 0]
      simp only [World.size_alloc, hB] at this; rw [hW4] at this; exact this
  obtain ⟨C, hC⟩ : ∃ C, Gc.ciph key nonce text = C := ⟨_, rfl⟩
  have lC : C.length = n2 := by rw [← hC, Gc.ciph_len, m2]
  have qC : Ae.bytes C := hC ▸ Gc.ciph_bytes q1 q2 b2
  obtain ⟨H, hH⟩ : ∃ H, Ae.enc (Ae.sched key) (List.replicate 16 0) = H := ⟨_, rfl⟩
  have lH : H.length = 16 := hH ▸ Ae.enc_len _ _
  have qH : Ae.bytes H := hH ▸ Ae.enc_bytes (Gc.zeros_bytes 16) (Ae.sched_bytes q1)
  obtain ⟨sl, hsl⟩ : ∃ sl, Gc.bn (Gc.gsum (Gc.nb H) more C) = sl := ⟨_, rfl⟩
  have ls : sl.length = 16 := hsl ▸ Gc.bn_len _
  have qs : Ae.bytes sl := hsl ▸ Gc.bn_bytes _
  obtain ⟨el, hel⟩ : ∃ el, Ae.enc (Ae.sched key) (Gc.b1 nonce) = el := ⟨_, rfl⟩
  have le : el.length = 16 := hel ▸ Ae.enc_len _ _
  have qe : Ae.bytes el := hel ▸ Ae.enc_bytes (Gc.b1_bytes q2) (Ae.sched_bytes q1)
  have HSEAL : Hid (Gc.sealT key nonce more text = C ++ Gc.xl sl el) := by
    unfold Hid Gc.sealT; rw [Gc.tag_xl]; unfold Gc.hkey; rw [hC, hH, hsl, hel]
  have HST : Hid (∀ W, Below w.heap.size w W → Calls Try.prog 31 #[.agg (cellsN key), .agg (cellsN (Gc.b2 nonce)), .slice A2 n2 c2] W fun e w' => ∃ v, e = .returned v ∧ w'.ownsRow W.heap.size 5 1 v n2 (C.map u8v) ∧ Below W.heap.size W w') := fun W hb => by
    have := refStream_any key (Gc.b2 nonce) A2 c2 text W l1 (b2_len l2) q1 (Gc.b2_bytes q2) (r2.below hb) b2 (by omega)
    rw [m2] at this
    rw [← hC]; exact this
  have HEZ : Hid (∀ W, Calls Try.prog 32 #[.agg (cellsN key), .agg (cellsN (List.replicate 16 0))] W fun e w' => e = .returned (.agg (cellsN H)) ∧ Below W.heap.size W w') := fun W => by
    rw [← hH]; exact refEncipher_any key _ W l1 rfl q1 (Gc.zeros_bytes 16)
  have HEJ : Hid (∀ W, Calls Try.prog 32 #[.agg (cellsN key), .agg (cellsN (Gc.b1 nonce))] W fun e w' => e = .returned (.agg (cellsN el)) ∧ Below W.heap.size W w') := fun W => by
    rw [← hel]; exact refEncipher_any key _ W l1 (b1_len l2) q1 (Gc.b1_bytes q2)
  have HSM : Hid (∀ W F d, Below w.heap.size w W → Rd W F C → Calls Try.prog 13 #[.agg (cellsN H), .slice A1 n1 c1, .slice F n2 d] W fun e w' => e = .returned (.agg (cellsN sl)) ∧ Below W.heap.size W w') := fun W F d hb hr => by
    rw [← hsl]; exact refSum_any H A1 n1 c1 more F n2 d C W lH qH (r1.below hb) m1 b1 k1 hr lC qC k2
  have HLC := Lib.hid lC
  have HPD := Lib.hid (Gc.pad12 l2)
  have HB2 := Lib.hid (Gc.b2_pad l2)
  have HB1 := Lib.hid (Gc.b1_b2 l2)
  have HIK := Lib.hid (size16 l1)
  have HIN := Lib.hid (size12 l2)
  have HI2 := Lib.hid (size16 (b2_len l2))
  have HI1 := Lib.hid (size16 (b1_len l2))
  have HIZ := Lib.hid (size16 (l := List.replicate 16 0) rfl)
  have HIS := Lib.hid (size16 ls)
  have HIE := Lib.hid (size16 le)
  have HZS : Hid ((#[.int .u8 0, .int .u8 0, .int .u8 0, .int .u8 0, .int .u8 0, .int .u8 0, .int .u8 0, .int .u8 0, .int .u8 0, .int .u8 0, .int .u8 0, .int .u8 0, .int .u8 0, .int .u8 0, .int .u8 0, .int .u8 0] : Array Value).size = (cellsN sl).size) := by unfold Hid; rw [cellsN_size, ls]; rfl
  have HZE : Hid ((#[.int .u8 0, .int .u8 0, .int .u8 0, .int .u8 0, .int .u8 0, .int .u8 0, .int .u8 0, .int .u8 0, .int .u8 0, .int .u8 0, .int .u8 0, .int .u8 0, .int .u8 0, .int .u8 0, .int .u8 0, .int .u8 0] : Array Value).size = (cellsN el).size) := by unfold Hid; rw [cellsN_size, le]; rfl
  have HLN := Lib.hid l2
  have HLS := Lib.hid ls
  have HLE := Lib.hid le
  have HQS := Lib.hid qs
  have HQE := Lib.hid qe
  have HW4 := Lib.hid hW4
  have HS4 := Lib.hid s4
  have HQN := Lib.hid q2
  have HB := Lib.hid hB
  rw [HSEAL.out]
  clear hb4 s4 hW4 lC qC lH qH ls qs le qe hC hH hsl hel r1 m1 b1 k1 r2 m2 b2 l1 l2 q1 q2
  go_enter Try.func18, Try.ntmps18
  go_wp2
  rw [HW4.out]
  clear hB
  go_loopw [11] (fun p V => ∃ i : Nat, i ≤ 12 ∧ p = .int .i64 i ∧ RsS w B key nonce (Ae.upto (fun i => nonce.getD i 0) (List.replicate 16 0) i) V) (fun p _ => 12 - (intOf p).toNat)
  case atStart => exact ⟨0, by omega, rfl, by rw [Ae.upto_zero]; exact HI0.out⟩
  case round =>
    clear HI0
    obtain ⟨i, hi, rfl, hI⟩ := hrel
    by_cases hlt : i < 12
    · have hji : (i : Int) < 12 := by omega
      have hj16 : (i : Int) < 16 := by omega
      have g0 := hI.n.getN i (by rw [HLN.out]; exact hlt)
      have g2 := hI.j.free i
      obtain ⟨v2, g3⟩ : ∃ v, wr.cell? ⟨B + 1 + 1, i, none⟩ = some v := ⟨_, hI.j.getN i (by rw [Ae.upto_len]; simp; omega)⟩
      have HNX : Hid (RsS w B key nonce (Ae.upto (fun i => nonce.getD i 0) (List.replicate 16 0) (i + 1)) (wr.setCell ⟨B + 1 + 1, i, none⟩ (.int .u8 ((nonce.getD i 0 : Nat) : Int)))) := by
        have := hI.set HB.out i (nonce.getD i 0)
        rwa [Ae.upto_set (fun i => nonce.getD i 0) (List.replicate 16 0) i (by simp; omega)] at this
      clear hI
      generalize nonce.getD i 0 = xx at *
      go_wp2
      go_roundw
      case rel => exact ⟨i + 1, by omega, by go_num, HNX.out⟩
      case measure => simp [intOf]; omega
    · obtain rfl : i = 12 := by omega
      rw [HPD.out] at hI
      have HJ2 : Hid (RsS w B key nonce (Gc.b2 nonce) (wr.setCell ⟨B + 1 + 1, 15, none⟩ (.int .u8 2))) := by
        have := hI.set HB.out 15 2
        rwa [HB2.out] at this
      have g2 := hI.j.free 15
      obtain ⟨v2, g3⟩ : ∃ v, wr.cell? ⟨B + 1 + 1, 15, none⟩ = some v := ⟨_, hI.j.getN 15 (by rw [← HPD.out, Ae.upto_len]; decide)⟩
      clear hI hi hlt
      obtain ⟨wj, hwj⟩ : ∃ wj, wr.setCell ⟨B + 1 + 1, 15, none⟩ (.int .u8 2) = wj := ⟨_, rfl⟩
      rw [hwj] at HJ2
      have HWJ := Lib.hid hwj
      clear hwj
      go_wp2_with (first
        | (rw [HWJ.out]; refine wpList_load_row rfl 22 (.tmp 4) rfl B rfl _ _ _ _ HJ2.out.k Try.underlying22 rfl HIK.out ?_)
        | (refine wpList_load_row rfl 22 (.tmp 9) rfl (B + 1 + 1) rfl _ _ _ _ HJ2.out.j Try.underlying22 rfl HI2.out ?_))
      refine (HST.out _ HJ2.out.bel).mono ?_
      rintro e w5 ⟨v5, rfl, ho5, hb5⟩
      have hs5 : B + 4 ≤ wj.heap.size := by have := HJ2.out.z.lt; omega
      have hv5 := own_base ho5 hs5
      have HJ5 := Lib.hid (HJ2.out.kept hb5)
      obtain ⟨F5, d5, rfl, _, hnd5, hd5, hr5⟩ := own_cap ho5
      have HJ6 : Hid (RsS w B key nonce (Gc.b1 nonce) (w5.setCell ⟨B + 1 + 1, 15, none⟩ (.int .u8 1))) := by
        have := HJ5.out.set HB.out 15 1
        rwa [HB1.out] at this
      have HV6 : Hid ((w5.setCell ⟨B + 1 + 1, 15, none⟩ (.int .u8 1)).ownsRow (B + 4) 5 1 (.slice F5 n2 d5) n2 (C.map u8v)) := ownsRow_setCell_other hv5 (fun e => Obj.not_row HJ5.out.j (by decide) hv5 e.symm) _
      have f2 := HJ5.out.j.free 15
      obtain ⟨v2', f3⟩ : ∃ v, w5.cell? ⟨B + 1 + 1, 15, none⟩ = some v := ⟨_, HJ5.out.j.getN 15 (by rw [← HB2.out, List.length_set, ← HPD.out, Ae.upto_len]; decide)⟩
      clear ho5 hv5 hb5 hs5 hr5 HJ5 HJ2 g2 g3
      obtain ⟨w6, hw6⟩ : ∃ w6, w5.setCell ⟨B + 1 + 1, 15, none⟩ (.int .u8 1) = w6 := ⟨_, rfl⟩
      rw [hw6] at HJ6 HV6
      have HW6 := Lib.hid hw6
      clear hw6
      go_wp2_with (first
        | (rw [HW6.out]; refine wpList_load_row rfl 22 (.tmp 4) rfl B rfl _ _ _ _ HJ6.out.k Try.underlying22 rfl HIK.out ?_)
        | (refine wpList_load_row rfl 22 (.tmp 10) rfl (B + 1 + 1 + 1) rfl _ _ _ _ HJ6.out.z Try.underlying22 rfl HIZ.out ?_))
      refine (HEZ.out _).mono ?_
      rintro e w7 ⟨rfl, hb7⟩
      have HJ7 := Lib.hid (HJ6.out.kept hb7)
      have HV7 := Lib.hid (own_below HV6.out hb7)
      clear hb7 HJ6 HV6 f2 f3 HW6
      go_wp2_with fail
      obtain ⟨F7, d7, e7, _, _, _, hr7⟩ := own_cap HV7.out
      cases e7
      refine (HSM.out _ _ _ HJ7.out.bel hr7).mono ?_
      rintro e w8 ⟨rfl, hb8⟩
      have HJ8 := Lib.hid (HJ7.out.kept hb8)
      have HV8 := Lib.hid (own_below HV7.out hb8)
      clear hb8 hr7 HJ7 HV7
      obtain ⟨S, hS⟩ : ∃ S, w8.heap.size = S := ⟨_, rfl⟩
      have hBS : B + 4 ≤ S := by have := HJ8.out.z.lt; omega
      have hON : Obj (w8.alloc (.cells #[.int .u8 0, .int .u8 0, .int .u8 0, .int .u8 0, .int .u8 0, .int .u8 0, .int .u8 0, .int .u8 0, .int .u8 0, .int .u8 0, .int .u8 0, .int .u8 0, .int .u8 0, .int .u8 0, .int .u8 0, .int .u8 0] 22)) S 22 #[.int .u8 0, .int .u8 0, .int .u8 0, .int .u8 0, .int .u8 0, .int .u8 0, .int .u8 0, .int .u8 0, .int .u8 0, .int .u8 0, .int .u8 0, .int .u8 0, .int .u8 0, .int .u8 0, .int .u8 0, .int .u8 0] := hS ▸ Obj.new w8 _ _
      have U9 := (Upd.refl S (w8.alloc (.cells #[.int .u8 0, .int .u8 0, .int .u8 0, .int .u8 0, .int .u8 0, .int .u8 0, .int .u8 0, .int .u8 0, .int .u8 0, .int .u8 0, .int .u8 0, .int .u8 0, .int .u8 0, .int .u8 0, .int .u8 0, .int .u8 0] 22))).row (cellsN sl)
      obtain ⟨w9, hw9⟩ : ∃ w9, (w8.alloc (.cells #[.int .u8 0, .int .u8 0, .int .u8 0, .int .u8 0, .int .u8 0, .int .u8 0, .int .u8 0, .int .u8 0, .int .u8 0, .int .u8 0, .int .u8 0, .int .u8 0, .int .u8 0, .int .u8 0, .int .u8 0, .int .u8 0] 22)).setRow S (cellsN sl) = w9 := ⟨_, rfl⟩
      have HS9 : Hid (Obj w9 S 22 (cellsN sl)) := hw9 ▸ hON.row _
      have HJ9 : Hid (RsS w B key nonce (Gc.b1 nonce) w9) := hw9 ▸ (HJ8.out.kept ((Below.refl _ _).alloc (Nat.le_refl _) _)).upd HB.out (by omega) U9
      have HV9 : Hid (w9.ownsRow (B + 4) 5 1 (.slice F5 n2 d5) n2 (C.map u8v)) := hw9 ▸ own_upd (HV8.out.alloc _) U9 (Obj.not_row hON (by decide) (HV8.out.alloc _))
      have HON := Lib.hid hON
      have HW9 := Lib.hid hw9
      have HS := Lib.hid hS
      clear hON U9 hw9 hS HJ8 HV8
      go_wp2_with (first
        | (refine wpList_store_row rfl 22 (.tmp 13) (.tmp 36) rfl S _ (by rw [← HS.out]; rfl) rfl _ _ HON.out HIS.out HZS.out (one_cellsN _) ?_; rw [HW9.out])
        | (refine wpList_load_row rfl 22 (.tmp 4) rfl B rfl _ _ _ _ HJ9.out.k Try.underlying22 rfl HIK.out ?_)
        | (refine wpList_load_row rfl 22 (.tmp 9) rfl (B + 1 + 1) rfl _ _ _ _ HJ9.out.j Try.underlying22 rfl HI1.out ?_))
      refine (HEJ.out _).mono ?_
      rintro e w10 ⟨rfl, hb10⟩
      have HS10 := Lib.hid (HS9.out.kept hb10)
      have HL10 := Lib.hid (HJ9.out.bel.trans (hb10.mono HJ9.out.bel.size))
      have HV10 := Lib.hid (own_below HV9.out hb10)
      clear hb10 HJ9 HV9 HON HW9
      rw [HS.out]
      clear HS HS9
      obtain ⟨E, hE⟩ : ∃ E, w10.heap.size = E := ⟨_, rfl⟩
      have hSE : S < E := by have := HS10.out.lt; omega
      have hON : Obj (w10.alloc (.cells #[.int .u8 0, .int .u8 0, .int .u8 0, .int .u8 0, .int .u8 0, .int .u8 0, .int .u8 0, .int .u8 0, .int .u8 0, .int .u8 0, .int .u8 0, .int .u8 0, .int .u8 0, .int .u8 0, .int .u8 0, .int .u8 0] 22)) E 22 #[.int .u8 0, .int .u8 0, .int .u8 0, .int .u8 0, .int .u8 0, .int .u8 0, .int .u8 0, .int .u8 0, .int .u8 0, .int .u8 0, .int .u8 0, .int .u8 0, .int .u8 0, .int .u8 0, .int .u8 0, .int .u8 0] := hE ▸ Obj.new w10 _ _
      have U11 := (Upd.refl E (w10.alloc (.cells #[.int .u8 0, .int .u8 0, .int .u8 0, .int .u8 0, .int .u8 0, .int .u8 0, .int .u8 0, .int .u8 0, .int .u8 0, .int .u8 0, .int .u8 0, .int .u8 0, .int .u8 0, .int .u8 0, .int .u8 0, .int .u8 0] 22))).row (cellsN el)
      obtain ⟨w11, hw11⟩ : ∃ w11, (w10.alloc (.cells #[.int .u8 0, .int .u8 0, .int .u8 0, .int .u8 0, .int .u8 0, .int .u8 0, .int .u8 0, .int .u8 0, .int .u8 0, .int .u8 0, .int .u8 0, .int .u8 0, .int .u8 0, .int .u8 0, .int .u8 0, .int .u8 0] 22)).setRow E (cellsN el) = w11 := ⟨_, rfl⟩
      have HQ0 : Hid (RsQ w S E sl el w11) := ⟨hw11 ▸ (HS10.out.alloc _).upd U11 (by omega), hw11 ▸ hON.row _, hw11 ▸ Upd.below (HL10.out.alloc HL10.out.size _) (by have := HB.out; omega) U11⟩
      have HV0 : Hid (w11.ownsRow (B + 4) 5 1 (.slice F5 n2 d5) n2 (C.map u8v)) := hw11 ▸ own_upd (HV10.out.alloc _) U11 (Obj.not_row hON (by decide) (HV10.out.alloc _))
      have HON := Lib.hid hON
      have HW11 := Lib.hid hw11
      have HE := Lib.hid hE
      clear hON U11 hw11 hE HL10 HV10 HS10
      go_wp2_with (refine wpList_store_row rfl 22 (.tmp 14) (.tmp 39) rfl E _ (by rw [← HE.out]; rfl) rfl _ _ HON.out HIE.out HZE.out (one_cellsN _) ?_; rw [HW11.out])
      rw [HE.out]
      clear HE HON HW11
      go_loopw [12, 15] (fun o p V => ∃ k : Nat, k ≤ 16 ∧ p = .int .i64 k ∧ V.ownsRow (B + 4) 5 1 o (n2 + k) ((C ++ (Gc.xl sl el).take k).map u8v) ∧ RsQ w S E sl el V) (fun _ p _ => 16 - (intOf p).toNat)
      case atStart => exact ⟨0, by omega, rfl, by rw [List.take_zero, List.append_nil]; exact HV0.out, HQ0.out⟩
      case round =>
        clear HQ0 HV0
        obtain ⟨k, hk, rfl, ho, hq⟩ := hrel
        have HO2 := Lib.hid ho
        have HQ2 := Lib.hid hq
        clear ho hq
        by_cases hlt : k < 16
        · have hji : (k : Int) < 16 := by omega
          have HV : Hid ((C ++ (Gc.xl sl el).take k) ++ [sl.getD k 0 ^^^ el.getD k 0] = C ++ (Gc.xl sl el).take (k + 1)) := by
            unfold Hid; rw [Gc.xl_take sl el hlt, List.append_assoc]
          have hx := Ae.bytes_get HQS.out k
          have hy := Ae.bytes_get HQE.out k
          have fx : ∀ w', RsQ w S E sl el w' → w'.cell? ⟨S, k, none⟩ = some (.int .u8 ((sl.getD k 0 : Nat) : Int)) := fun w' h => h.s.getN k (by rw [HLS.out]; exact hlt)
          have fy : ∀ w', RsQ w S E sl el w' → w'.cell? ⟨E, k, none⟩ = some (.int .u8 ((el.getD k 0 : Nat) : Int)) := fun w' h => h.e.getN k (by rw [HLE.out]; exact hlt)
          generalize sl.getD k 0 = x at *
          generalize el.getD k 0 = y at *
          have HXY := Lib.hid (u8_xor_nat x y hx hy)
          have HFX := Lib.hid fx
          have HFY := Lib.hid fy
          clear fx fy
          go_wp2
          refine wp_region_held_drew (S := (fun w' => RsQ w S E sl el w')) (by kernel_rfl) HQ2.out.drew (fun hHeld => ?_)
          refine wpAnyH_take (i := 0) (oi := ?_) (v := ?_) ?_ ?_ ?_ ?_ ?_ ?_ (by assumption) ?_
          rotate_left 2
          · simp only [List.getElem?_toArray, List.getElem?_cons_zero, List.getElem?_cons_succ]
            rfl
          · kernel_rfl
          · kernel_rfl
          · kernel_rfl
          · exact fun _ _ _ h => h
          · refine Or.inl ⟨by rfl, ?_⟩
            intro w hSw
            (try dsimp only at hSw)
            go_simp
            all_goals with_reducible rfl
          simp only [Act.put, List.setIfInBounds_toArray, List.set_cons_zero, List.set_cons_succ]
          refine wpAnyH_take (i := 1) (oi := ?_) (v := ?_) ?_ ?_ ?_ ?_ ?_ ?_ (by assumption) ?_
          rotate_left 2
          · simp only [List.getElem?_toArray, List.getElem?_cons_zero, List.getElem?_cons_succ]
            rfl
          · kernel_rfl
          · kernel_rfl
          · kernel_rfl
          · exact fun _ _ _ h => h
          · refine Or.inl ⟨by rfl, ?_⟩
            intro w hSw
            (try dsimp only at hSw)
            go_simp
            all_goals with_reducible rfl
          simp only [Act.put, List.setIfInBounds_toArray, List.set_cons_zero, List.set_cons_succ]
          refine wpAnyH_take (i := 2) (oi := ?_) (v := ?_) ?_ ?_ ?_ ?_ ?_ ?_ (by assumption) ?_
          rotate_left 2
          · simp only [List.getElem?_toArray, List.getElem?_cons_zero, List.getElem?_cons_succ]
            rfl
          · kernel_rfl
          · kernel_rfl
          · kernel_rfl
          · exact fun _ _ _ h => h
          · refine Or.inl ⟨by rfl, ?_⟩
            intro w hSw
            (try dsimp only at hSw)
            go_simp
            all_goals with_reducible rfl
          simp only [Act.put, List.setIfInBounds_toArray, List.set_cons_zero, List.set_cons_succ]
          refine wpAnyH_take (i := 3) (oi := ?_) (v := ?_) ?_ ?_ ?_ ?_ ?_ ?_ (by assumption) ?_
          rotate_left 2
          · simp only [List.getElem?_toArray, List.getElem?_cons_zero, List.getElem?_cons_succ]
            rfl
          · kernel_rfl
          · kernel_rfl
          · kernel_rfl
          · exact fun _ _ _ h => h
          · refine Or.inl ⟨by rfl, ?_⟩
            intro w' hSw
            have q := HFX.out w' hSw
            go_simp
            all_goals with_reducible rfl
          simp only [Act.put, List.setIfInBounds_toArray, List.set_cons_zero, List.set_cons_succ]
          refine wpAnyH_take (i := 4) (oi := ?_) (v := ?_) ?_ ?_ ?_ ?_ ?_ ?_ (by assumption) ?_
          rotate_left 2
          · simp only [List.getElem?_toArray, List.getElem?_cons_zero, List.getElem?_cons_succ]
            rfl
          · kernel_rfl
          · kernel_rfl
          · kernel_rfl
          · exact fun _ _ _ h => h
          · refine Or.inl ⟨by rfl, ?_⟩
            intro w hSw
            (try dsimp only at hSw)
            go_simp
            all_goals with_reducible rfl
          simp only [Act.put, List.setIfInBounds_toArray, List.set_cons_zero, List.set_cons_succ]
          refine wpAnyH_take (i := 5) (oi := ?_) (v := ?_) ?_ ?_ ?_ ?_ ?_ ?_ (by assumption) ?_
          rotate_left 2
          · simp only [List.getElem?_toArray, List.getElem?_cons_zero, List.getElem?_cons_succ]
            rfl
          · kernel_rfl
          · kernel_rfl
          · kernel_rfl
          · exact fun _ _ _ h => h
          · refine Or.inl ⟨by rfl, ?_⟩
            intro w hSw
            (try dsimp only at hSw)
            go_simp
            all_goals with_reducible rfl
          simp only [Act.put, List.setIfInBounds_toArray, List.set_cons_zero, List.set_cons_succ]
          refine wpAnyH_take (i := 6) (oi := ?_) (v := ?_) ?_ ?_ ?_ ?_ ?_ ?_ (by assumption) ?_
          rotate_left 2
          · simp only [List.getElem?_toArray, List.getElem?_cons_zero, List.getElem?_cons_succ]
            rfl
          · kernel_rfl
          · kernel_rfl
          · kernel_rfl
          · exact fun _ _ _ h => h
          · refine Or.inl ⟨by rfl, ?_⟩
            intro w' hSw
            have q := HFY.out w' hSw
            go_simp
            all_goals with_reducible rfl
          simp only [Act.put, List.setIfInBounds_toArray, List.set_cons_zero, List.set_cons_succ]
          refine wpAnyH_take (i := 7) (oi := ?_) (v := ?_) ?_ ?_ ?_ ?_ ?_ ?_ (by assumption) ?_
          rotate_left 2
          · simp only [List.getElem?_toArray, List.getElem?_cons_zero, List.getElem?_cons_succ]
            rfl
          · kernel_rfl
          · kernel_rfl
          · kernel_rfl
          · exact fun _ _ _ h => h
          · refine Or.inl ⟨by rfl, ?_⟩
            intro w hSw
            (try dsimp only at hSw)
            go_simp
            all_goals with_reducible rfl
          simp only [Act.put, List.setIfInBounds_toArray, List.set_cons_zero, List.set_cons_succ]
          rw [HXY.out]
          refine wpAnyH_ready (rs := [8]) (by kernel_rfl) (by simp) ?_
          refine AllReadyH.cons (o := ?_) ?_ (fun KK hKK => ?_) AllReadyH.nil
          rotate_left
          · simp only [List.getElem?_toArray, List.getElem?_cons_zero, List.getElem?_cons_succ]
            rfl
          go_simp
          refine hKK.out _ _ ?_ (fun h2 => ?_)
          · (try dsimp only)
            exact HQ2.out.drew.alloc _
          clear hKK KK
          try simp only [Act.put, List.setIfInBounds_toArray, List.set_cons_zero, List.set_cons_succ]
          have HO3 : Hid (((wr.drew).alloc (.cells #[.int .u8 ((x ^^^ y : Nat) : Int)] 5)).ownsRow (B + 4) 5 1 _ (n2 + k) ((C ++ (Gc.xl sl el).take k).map u8v)) := HO2.out.alloc _
          have HR : Hid (Rd ((wr.drew).alloc (.cells #[.int .u8 ((x ^^^ y : Nat) : Int)] 5)) (some ⟨wr.heap.size, 0, none⟩) [x ^^^ y]) := Obj.rd (t := 5) (l := [x ^^^ y]) (Obj.new wr.drew 5 (cellsN [x ^^^ y]))
          have HM1 := Lib.hid (show n2 + k + 1 ≤ 100000000 by omega)
          have HBS : Hid (B + 4 ≤ ((wr.drew).alloc (.cells #[.int .u8 ((x ^^^ y : Nat) : Int)] 5)).heap.size) := Nat.le_of_lt (Nat.lt_of_le_of_lt hBS h2.s.lt)
          refine wpAnyH_ready (rs := [9]) (by kernel_rfl) (by simp) ?_
          refine AllReadyH.cons (o := ?_) ?_ (fun KK hKK => ?_) AllReadyH.nil
          rotate_left
          · simp only [List.getElem?_toArray, List.getElem?_cons_zero, List.getElem?_cons_succ]
            rfl
          rw [if_pos (by rfl)]
          refine wp_app8 _ _ rfl (B + 4) _ (n2 + k) _ rfl HO3.out ⟨wr.heap.size, 0, none⟩ 1 1 [x ^^^ y] rfl rfl HR.out HM1.out HBS.out ?_
          intro v' w7 hown hgrow
          refine hKK.out _ _ ?_ (fun h3 => ?_)
          · (try dsimp only)
            exact ⟨h2.s.grown hgrow (Obj.not_row h2.s (by decide) HO3.out), h2.e.grown hgrow (Obj.not_row h2.e (by decide) HO3.out), Below.grown h2.bel hgrow (Nat.le_trans (show w.heap.size ≤ B + 4 by have := HB.out; omega) HBS.out) (fun j hj => by have := (HO3.out.lt j hj).1; have := HB.out; omega)⟩
          clear hKK KK
          try simp only [Act.put, List.setIfInBounds_toArray, List.set_cons_zero, List.set_cons_succ]
          refine wpAnyH_take (i := 10) (oi := ?_) (v := ?_) ?_ ?_ ?_ ?_ ?_ ?_ (by assumption) ?_
          rotate_left 2
          · simp only [List.getElem?_toArray, List.getElem?_cons_zero, List.getElem?_cons_succ]
            rfl
          · kernel_rfl
          · kernel_rfl
          · kernel_rfl
          · exact fun _ _ _ h => h
          · refine Or.inl ⟨by rfl, ?_⟩
            intro w hSw
            (try dsimp only at hSw)
            go_simp
            all_goals with_reducible rfl
          simp only [Act.put, List.setIfInBounds_toArray, List.set_cons_zero, List.set_cons_succ]
          refine wpAnyH_done (by kernel_rfl) ?_ _
          go_wp2
          go_roundw
          case rel =>
            have e : (C ++ (Gc.xl sl el).take k).map u8v ++ [x ^^^ y].map u8v = (C ++ (Gc.xl sl el).take (k + 1)).map u8v := by rw [← List.map_append, HV.out]
            rw [e] at hown
            exact ⟨k + 1, by omega, by go_num, hown, h3⟩
          case measure => simp [intOf]; omega
        · obtain rfl : k = 16 := by omega
          have HFIN : Hid (wr.ownsRow w.heap.size 5 1 u12 (n2 + 16) ((C ++ Gc.xl sl el).map u8v) ∧ Below w.heap.size w wr) := by
            have h1 := own_base HO2.out (show w.heap.size ≤ B + 4 by rw [HB.out]; omega)
            rw [List.take_of_length_le (by rw [Gc.xl_len]; omega)] at h1
            exact ⟨h1, HQ2.out.bel⟩
          clear HO2 HQ2
          go_wp2
          go_ret
          exact ⟨_, rfl, HFIN.out.1, HFIN.out.2⟩
end Go.Proofs.Ytnphanhoakbkpaa
