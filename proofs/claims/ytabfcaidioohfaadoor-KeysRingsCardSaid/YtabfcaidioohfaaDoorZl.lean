/- Joined: Layer 10's ring, walked: Set. | Layer 10's ring, walked: Turn. | Layer 10's ring, walked: Seal and Open. | Layer 10: equality of secrets and keys, NewRing, and what each statement asks first. -/
import Derived.Test.YtabfcaidioohfaaDoorRows
import Derived.Test.YtabfcaidioohfaaDoorZp
import Derived.Test.YtabfcaidioohfaaDoorZa
import Derived.Test.YtabfcaidioohfaaDoorZs
import Derived.Test.YtabfcaidioohfaaDoorZu
import Derived.Test.YtabfcaidioohfaaDoorZk
import Derived.WalkKit
import Derived.Great.Walk
import Derived.OwnWalkIn
import Derived.LoopN
import Derived.LoopIn
import Derived.WalkSpells
import Derived.WalkLawsBesides
import Derived.Laws.Rows
import Derived.Laws.CopyOwn
import Derived.Handy
import Derived.BigQuiet
import Derived.Deep.QuietTactic
import Derived.Deep.MidRow
import Derived.Deep.RegionHeld3
import Derived.IntWalk
import Derived.Lib.Hide
import Derived.Test.YtabfcaidioohfaaDoorZg
import Derived.Stop.BytesEq
namespace Go.Proofs.YtabfcaidioohfaaDoor
open List (getElem?_toArray getElem?_cons_zero getElem?_cons_succ setIfInBounds_toArray set_cons_zero set_cons_succ)
open Go Go.RowKit Go.Shelf
set_option linter.unusedVariables false
set_option linter.unusedSimpArgs false
set_option maxRecDepth 100000
theorem then_false {K : Act → World → Prop} {e : Exit} {a : Act} {w : World} (h : Exit.then K (fun _ _ _ => False) e a w) : e = .normal ∧ K a w := by
 cases e with
 | normal => exact ⟨rfl, h⟩
 | _ => exact h.elim
/-- Set under way: both secrets lie there. -/
structure SeI (w : World) (own peer : List Nat) (V : World) : Prop where
 h1 : Obj V w.heap.size 23 (cellsN own)
 h2 : Obj V (w.heap.size + 1) 23 (cellsN peer)
 bel : Below w.heap.size w V
theorem SeI.kept {w V V' : World} {own peer : List Nat} (h : SeI w own peer V) (hb : Below V.heap.size V V') : SeI w own peer V' := ⟨h.h1.kept hb, h.h2.kept hb, h.bel.trans (hb.mono h.bel.size)⟩
theorem SeI.le {w V : World} {own peer : List Nat} (h : SeI w own peer V) : w.heap.size + 2 ≤ V.heap.size := h.h2.lt
theorem SeI.upd {w V V' : World} {own peer : List Nat} {g : Nat} (h : SeI w own peer V) (hu : Upd g V V') (hg : w.heap.size + 2 ≤ g) : SeI w own peer V' := ⟨h.h1.upd hu (by omega), h.h2.upd hu (by omega), Upd.below h.bel (by omega) hu⟩
theorem set_nil (n : Int) (own peer : List Nat) (w : World) : Calls Tryd.prog 23 #[.pointer none, .int .i64 n, .agg (cellsN own), .agg (cellsN peer)] w fun e w' => e = .returned (.bool false) ∧ Below w.heap.size w w' := by
 have HA := Lib.hid (fun w => at_nil n w)
 obtain ⟨W2, hW2⟩ : ∃ W2, (w.alloc (.cells (cellsN own) 23)).alloc (.cells (cellsN peer) 23) = W2 := ⟨_, rfl⟩
 have HB2 : Hid (Below w.heap.size w W2) := hW2 ▸ ((Below.refl _ w).alloc (Nat.le_refl _) _).alloc (by simp) _
 have HW2 := Lib.hid hW2
 clear hW2
 go_enter Tryd.func23, Tryd.ntmps23
 go_wp2_with fail
 rw [HW2.out]
 refine (HA.out _).mono ?_
 rintro e w' ⟨rfl, rfl⟩
 go_wp2
 go_ret
 exact ⟨rfl, HB2.out⟩
set_option maxHeartbeats 8000000 in
theorem set_any (R : Nat) (r : Ky.Rg) (n : Int) (own peer : List Nat) (w : World) (ht : KTab w) (h : RgP R r w) (hv : r.s1 = 0 → r.ho = false) (l1 : own.length = 32) (q1 : Ae.bytes own) (l2 : peer.length = 32) (q2 : Ae.bytes peer) :
  Calls Tryd.prog 23 #[.pointer (some ⟨R, 0, none⟩), .int .i64 n, .agg (cellsN own), .agg (cellsN peer)] w fun e w' => e = .returned (.bool (r.fresh n)) ∧ RgP R (if r.fresh n = true then r.set n own peer else r) w' ∧ Upd R w w' := by
 have HA := Lib.hid (fun w => at_any R n w)
 obtain ⟨W2, hW2⟩ : ∃ W2, (w.alloc (.cells (cellsN own) 23)).alloc (.cells (cellsN peer) 23) = W2 := ⟨_, rfl⟩
 have hb2 : Below w.heap.size w W2 := hW2 ▸ ((Below.refl _ w).alloc (Nat.le_refl _) _).alloc (by simp) _
 have HF : Hid (SeI w own peer W2.drew) := ⟨hW2 ▸ ((Obj.new w _ _).alloc _).drew, hW2 ▸ (new2 w _ _ _).drew, hb2.drew⟩
 obtain ⟨mo, hmo⟩ : ∃ m, Ky.make own false = m := ⟨_, rfl⟩
 obtain ⟨mp, hmp⟩ : ∃ m, Ky.make peer false = m := ⟨_, rfl⟩
 have HMO : Hid (∀ W, Below w.heap.size w W → Calls Tryd.prog 10 #[.agg (cellsN own), .bool false] W fun e w' => e = .returned (.agg (secV mo)) ∧ Below W.heap.size W w') := fun W hb => hmo ▸ make_any own false W (ht.below hb) l1 q1
 have HMP : Hid (∀ W, Below w.heap.size w W → Calls Tryd.prog 10 #[.agg (cellsN peer), .bool false] W fun e w' => e = .returned (.agg (secV mp)) ∧ Below W.heap.size W w') := fun W hb => hmp ▸ make_any peer false W (ht.below hb) l2 q2
 have okO : mo.Ok := hmo ▸ Ky.make_ok _ _
 have okP : mp.Ok := hmp ▸ Ky.make_ok _ _
 have HIX := Lib.hid (sizeSec okO)
 have HIY := Lib.hid (sizeSec okP)
 have HSX : Hid (zSec.size = (secV mo).size) := by unfold Hid zSec; rw [pSec_size, secV_size okO]
 have HSY : Hid (zSec.size = (secV mp).size) := by unfold Hid zSec; rw [pSec_size, secV_size okP]
 have HIO := Lib.hid (sizeH32 l1)
 have HIP := Lib.hid (sizeH32 l2)
 have HW2 := Lib.hid hW2
 have HB2 := Lib.hid hb2
 clear hW2 hb2 ht l1 q1 l2 q2
 obtain ⟨ok, a0, b0, a1, b1, c1, hp⟩ := h
 have HRL := Lib.hid hp.o.lt
 by_cases c0 : (n = 0 ∧ r.s0 = 0) ∨ (n = 1 ∧ r.s1 = 0)
 ·have hfr : r.fresh n = true := by
   rcases c0 with ⟨rfl, hs⟩ | ⟨rfl, hs⟩
   ·show (r.s0 == 0) = true; rw [hs]; rfl
   ·show (r.s1 == 0) = true; rw [hs]; rfl
  rw [hfr, if_pos rfl]
  obtain ⟨f, hf, hc⟩ : ∃ f, atV R n = .pointer (some ⟨R, f, none⟩) ∧ ((n = 0 ∧ r.s0 = 0 ∧ f = 0) ∨ (n = 1 ∧ r.s1 = 0 ∧ f = 4)) := by
   rcases c0 with ⟨rfl, hs⟩ | ⟨rfl, hs⟩
   ·exact ⟨0, rfl, .inl ⟨rfl, hs, rfl⟩⟩
   ·exact ⟨4, rfl, .inr ⟨rfl, hs, rfl⟩⟩
  rw [hf] at HA
  have y3 : w.cell? ⟨R, f + 3, none⟩ = some (.bool false) := by
   rcases hc with ⟨_, hs, rfl⟩ | ⟨_, hs, rfl⟩
   ·rw [hp.o.cell 3]; show some (Value.bool (r.s0 != 0)) = _; rw [hs]; rfl
   ·rw [hp.o.cell 7]; show some (Value.bool (r.s1 != 0)) = _; rw [hs]; rfl
  have y3' : W2.cell? ⟨R, f + 3, none⟩ = some (.bool false) := (HB2.out.cell (p := ⟨R, f + 3, none⟩) HRL.out).trans y3
  have HC := Lib.hid hc
  clear hfr c0 hf y3 hc
  go_enter Tryd.func23, Tryd.ntmps23
  go_wp2_with fail
  rw [HW2.out]
  refine (HA.out _).mono ?_
  rintro e w' ⟨rfl, rfl⟩
  go_wp2
  refine Code.wp_mono (Q := Exit.then (fun aa W => ∃ X Y, X ≠ Y ∧ aa = { tmps := #[.pointer (some ⟨R, 0, none⟩), .int .i64 n, .agg (cellsN own), .agg (cellsN peer), undef, undef, .pointer (some ⟨w.heap.size, 0, none⟩), .pointer (some ⟨w.heap.size + 1, 0, none⟩), .bool false, .pointer (some ⟨R, f, none⟩), .pointer (some ⟨X, 0, none⟩), .pointer (some ⟨Y, 0, none⟩), .pointer (some ⟨R, 0, none⟩), .int .i64 n, .pointer (some ⟨R, f, none⟩), .pointer (some ⟨R, f, none⟩), .bool false, .bool false, .pointer (some ⟨R, f, none⟩), .pointer (some ⟨R, f, none⟩), .pointer (some ⟨R, f + 3, none⟩), .bool false, .bool false, .agg (cellsN own), .agg (secV mo), .agg (cellsN peer), .agg (secV mp), undef, undef, undef], defers := [] } ∧ SeI w own peer W ∧ Obj W X 29 (secV mo) ∧ Obj W Y 29 (secV mp)) (fun _ _ _ => False)) ?cont ?reg
  case reg =>
   refine wp_region_held_drew (S := (fun wq => SeI w own peer wq)) (by kernel_rfl) HF.out (fun hHeld => ?_)
   refine tkH 0 ?_ (hy := by
    refine yieldsIf_load_row (g := w.heap.size) (t := 23) (cs := cellsN own) (ty := 23) (x := (.tmp 6)) ?_ ?_ ?_ ?_ Tryd.underlying23 rfl HIO.out
    ·rfl
    ·rfl
    ·rfl
    ·exact fun w hSw => hSw.h1)
   refine tkH 2 ?_ (hy := by
    refine yieldsIf_load_row (g := (w.heap.size + 1)) (t := 23) (cs := cellsN peer) (ty := 23) (x := (.tmp 7)) ?_ ?_ ?_ ?_ Tryd.underlying23 rfl HIP.out
    ·rfl
    ·rfl
    ·rfl
    ·exact fun w hSw => hSw.h2)
   generalize hV : W2.drew = V0 at *
   refine rdH [1, 4, 5] ?_
   refine csH (fun KK hKK => ?_) ?_
   go_simp
   refine (HMO.out _ HF.out.bel).mono ?_
   rintro e V ⟨rfl, hy⟩
   have HFn := Lib.hid (HF.out.kept hy); clear HF; have HF := HFn; clear HFn
   clear hy
   try go_wp2_with fail
   refine hKK.out _ _ HF.out (fun hh => ?_)
   clear hKK KK hh
   try simp only [Act.put, setIfInBounds_toArray, set_cons_zero, set_cons_succ]
   refine rdH [3, 4, 5] ?_
   refine csH (fun KK hKK => ?_) ?_
   go_simp
   refine (HMP.out _ HF.out.bel).mono ?_
   rintro e V ⟨rfl, hy⟩
   have HFn := Lib.hid (HF.out.kept hy); clear HF; have HF := HFn; clear HFn
   clear hy
   try go_wp2_with fail
   refine hKK.out _ _ HF.out (fun hh => ?_)
   clear hKK KK hh
   try simp only [Act.put, setIfInBounds_toArray, set_cons_zero, set_cons_succ]
   refine rdH [4, 5] ?_
   refine csH (fun KK hKK => ?_) ?_
   rw [if_pos (by rfl)]
   refine wp_allocS rfl ?_
   have HFn := Lib.hid (HF.out.kept ((Below.refl _ _).alloc (Nat.le_refl _) (.cells zSec 29)))
   have hSX := HF.out.le
   have HX := Lib.hid (Obj.new V 29 zSec)
   refine hKK.out _ _ HFn.out (fun hh => ?_)
   clear hKK KK hh HF
   have HF := HFn; clear HFn
   try simp only [Act.put, setIfInBounds_toArray, set_cons_zero, set_cons_succ]
   generalize V.heap.size = X at *
   generalize V.alloc (.cells zSec 29) = V at *
   refine rdH [5] ?_
   refine csH (fun KK hKK => ?_) ?_
   rw [if_pos (by rfl)]
   refine wp_allocS rfl ?_
   have HFn := Lib.hid (HF.out.kept ((Below.refl _ _).alloc (Nat.le_refl _) (.cells zSec 29)))
   have hSY := HF.out.le
   have HY := Lib.hid (Obj.new V 29 zSec)
   have hne : X ≠ V.heap.size := by have := HX.out.lt; omega
   have HXn := Lib.hid (HX.out.alloc (.cells zSec 29)); clear HX; have HX := HXn; clear HXn
   refine hKK.out _ _ HFn.out (fun hh => ?_)
   clear hKK KK hh HF
   have HF := HFn; clear HFn
   try simp only [Act.put, setIfInBounds_toArray, set_cons_zero, set_cons_succ]
   generalize V.heap.size = Y at *
   generalize V.alloc (.cells zSec 29) = V at *
   rotate_left 1
   refine AllReadyH.nil
   refine csH (fun KK hKK => ?_) ?_
   rw [if_pos (by rfl)]
   refine wp_allocS rfl ?_
   have HFn := Lib.hid (HF.out.kept ((Below.refl _ _).alloc (Nat.le_refl _) (.cells zSec 29)))
   have hSY := HF.out.le
   have HY := Lib.hid (Obj.new V 29 zSec)
   refine hKK.out _ _ HFn.out (fun hh => ?_)
   clear hKK KK hh HF
   have HF := HFn; clear HFn
   try simp only [Act.put, setIfInBounds_toArray, set_cons_zero, set_cons_succ]
   generalize V.heap.size = Y at *
   generalize V.alloc (.cells zSec 29) = V at *
   refine rdH [4] ?_
   refine csH (fun KK hKK => ?_) ?_
   rw [if_pos (by rfl)]
   refine wp_allocS rfl ?_
   have HFn := Lib.hid (HF.out.kept ((Below.refl _ _).alloc (Nat.le_refl _) (.cells zSec 29)))
   have hSX := HF.out.le
   have HX := Lib.hid (Obj.new V 29 zSec)
   have hne : Y ≠ V.heap.size := by have := HY.out.lt; omega
   have HYn := Lib.hid (HY.out.alloc (.cells zSec 29)); clear HY; have HY := HYn; clear HYn
   refine hKK.out _ _ HFn.out (fun hh => ?_)
   clear hKK KK hh HF
   have HF := HFn; clear HFn
   try simp only [Act.put, setIfInBounds_toArray, set_cons_zero, set_cons_succ]
   generalize V.heap.size = X at *
   generalize V.alloc (.cells zSec 29) = V at *
   rotate_left 1
   refine AllReadyH.nil
   refine AllReadyH.nil
   refine csH (fun KK hKK => ?_) ?_
   rw [if_pos (by rfl)]
   refine wp_allocS rfl ?_
   have HFn := Lib.hid (HF.out.kept ((Below.refl _ _).alloc (Nat.le_refl _) (.cells zSec 29)))
   have hSX := HF.out.le
   have HX := Lib.hid (Obj.new V 29 zSec)
   refine hKK.out _ _ HFn.out (fun hh => ?_)
   clear hKK KK hh HF
   have HF := HFn; clear HFn
   try simp only [Act.put, setIfInBounds_toArray, set_cons_zero, set_cons_succ]
   generalize V.heap.size = X at *
   generalize V.alloc (.cells zSec 29) = V at *
   refine rdH [3, 5] ?_
   refine csH (fun KK hKK => ?_) ?_
   go_simp
   refine (HMP.out _ HF.out.bel).mono ?_
   rintro e V ⟨rfl, hy⟩
   have HFn := Lib.hid (HF.out.kept hy); clear HF; have HF := HFn; clear HFn
   have HXn := Lib.hid (HX.out.kept hy); clear HX; have HX := HXn; clear HXn
   clear hy
   try go_wp2_with fail
   refine hKK.out _ _ HF.out (fun hh => ?_)
   clear hKK KK hh
   try simp only [Act.put, setIfInBounds_toArray, set_cons_zero, set_cons_succ]
   refine rdH [5] ?_
   refine csH (fun KK hKK => ?_) ?_
   rw [if_pos (by rfl)]
   refine wp_allocS rfl ?_
   have HFn := Lib.hid (HF.out.kept ((Below.refl _ _).alloc (Nat.le_refl _) (.cells zSec 29)))
   have hSY := HF.out.le
   have HY := Lib.hid (Obj.new V 29 zSec)
   have hne : X ≠ V.heap.size := by have := HX.out.lt; omega
   have HXn := Lib.hid (HX.out.alloc (.cells zSec 29)); clear HX; have HX := HXn; clear HXn
   refine hKK.out _ _ HFn.out (fun hh => ?_)
   clear hKK KK hh HF
   have HF := HFn; clear HFn
   try simp only [Act.put, setIfInBounds_toArray, set_cons_zero, set_cons_succ]
   generalize V.heap.size = Y at *
   generalize V.alloc (.cells zSec 29) = V at *
   rotate_left 1
   refine AllReadyH.nil
   refine csH (fun KK hKK => ?_) ?_
   rw [if_pos (by rfl)]
   refine wp_allocS rfl ?_
   have HFn := Lib.hid (HF.out.kept ((Below.refl _ _).alloc (Nat.le_refl _) (.cells zSec 29)))
   have hSY := HF.out.le
   have HY := Lib.hid (Obj.new V 29 zSec)
   have hne : X ≠ V.heap.size := by have := HX.out.lt; omega
   have HXn := Lib.hid (HX.out.alloc (.cells zSec 29)); clear HX; have HX := HXn; clear HXn
   refine hKK.out _ _ HFn.out (fun hh => ?_)
   clear hKK KK hh HF
   have HF := HFn; clear HFn
   try simp only [Act.put, setIfInBounds_toArray, set_cons_zero, set_cons_succ]
   generalize V.heap.size = Y at *
   generalize V.alloc (.cells zSec 29) = V at *
   refine rdH [3] ?_
   refine csH (fun KK hKK => ?_) ?_
   go_simp
   refine (HMP.out _ HF.out.bel).mono ?_
   rintro e V ⟨rfl, hy⟩
   have HFn := Lib.hid (HF.out.kept hy); clear HF; have HF := HFn; clear HFn
   have HXn := Lib.hid (HX.out.kept hy); clear HX; have HX := HXn; clear HXn
   have HYn := Lib.hid (HY.out.kept hy); clear HY; have HY := HYn; clear HYn
   clear hy
   try go_wp2_with fail
   refine hKK.out _ _ HF.out (fun hh => ?_)
   clear hKK KK hh
   try simp only [Act.put, setIfInBounds_toArray, set_cons_zero, set_cons_succ]
   rotate_left 1
   refine AllReadyH.nil
   refine AllReadyH.nil
   refine csH (fun KK hKK => ?_) ?_
   rw [if_pos (by rfl)]
   refine wp_allocS rfl ?_
   have HFn := Lib.hid (HF.out.kept ((Below.refl _ _).alloc (Nat.le_refl _) (.cells zSec 29)))
   have hSY := HF.out.le
   have HY := Lib.hid (Obj.new V 29 zSec)
   refine hKK.out _ _ HFn.out (fun hh => ?_)
   clear hKK KK hh HF
   have HF := HFn; clear HFn
   try simp only [Act.put, setIfInBounds_toArray, set_cons_zero, set_cons_succ]
   generalize V.heap.size = Y at *
   generalize V.alloc (.cells zSec 29) = V at *
   refine rdH [3, 4] ?_
   refine csH (fun KK hKK => ?_) ?_
   go_simp
   refine (HMP.out _ HF.out.bel).mono ?_
   rintro e V ⟨rfl, hy⟩
   have HFn := Lib.hid (HF.out.kept hy); clear HF; have HF := HFn; clear HFn
   have HYn := Lib.hid (HY.out.kept hy); clear HY; have HY := HYn; clear HYn
   clear hy
   try go_wp2_with fail
   refine hKK.out _ _ HF.out (fun hh => ?_)
   clear hKK KK hh
   try simp only [Act.put, setIfInBounds_toArray, set_cons_zero, set_cons_succ]
   refine rdH [4] ?_
   refine csH (fun KK hKK => ?_) ?_
   rw [if_pos (by rfl)]
   refine wp_allocS rfl ?_
   have HFn := Lib.hid (HF.out.kept ((Below.refl _ _).alloc (Nat.le_refl _) (.cells zSec 29)))
   have hSX := HF.out.le
   have HX := Lib.hid (Obj.new V 29 zSec)
   have hne : Y ≠ V.heap.size := by have := HY.out.lt; omega
   have HYn := Lib.hid (HY.out.alloc (.cells zSec 29)); clear HY; have HY := HYn; clear HYn
   refine hKK.out _ _ HFn.out (fun hh => ?_)
   clear hKK KK hh HF
   have HF := HFn; clear HFn
   try simp only [Act.put, setIfInBounds_toArray, set_cons_zero, set_cons_succ]
   generalize V.heap.size = X at *
   generalize V.alloc (.cells zSec 29) = V at *
   rotate_left 1
   refine AllReadyH.nil
   refine csH (fun KK hKK => ?_) ?_
   rw [if_pos (by rfl)]
   refine wp_allocS rfl ?_
   have HFn := Lib.hid (HF.out.kept ((Below.refl _ _).alloc (Nat.le_refl _) (.cells zSec 29)))
   have hSX := HF.out.le
   have HX := Lib.hid (Obj.new V 29 zSec)
   have hne : Y ≠ V.heap.size := by have := HY.out.lt; omega
   have HYn := Lib.hid (HY.out.alloc (.cells zSec 29)); clear HY; have HY := HYn; clear HYn
   refine hKK.out _ _ HFn.out (fun hh => ?_)
   clear hKK KK hh HF
   have HF := HFn; clear HFn
   try simp only [Act.put, setIfInBounds_toArray, set_cons_zero, set_cons_succ]
   generalize V.heap.size = X at *
   generalize V.alloc (.cells zSec 29) = V at *
   refine rdH [3] ?_
   refine csH (fun KK hKK => ?_) ?_
   go_simp
   refine (HMP.out _ HF.out.bel).mono ?_
   rintro e V ⟨rfl, hy⟩
   have HFn := Lib.hid (HF.out.kept hy); clear HF; have HF := HFn; clear HFn
   have HXn := Lib.hid (HX.out.kept hy); clear HX; have HX := HXn; clear HXn
   have HYn := Lib.hid (HY.out.kept hy); clear HY; have HY := HYn; clear HYn
   clear hy
   try go_wp2_with fail
   refine hKK.out _ _ HF.out (fun hh => ?_)
   clear hKK KK hh
   try simp only [Act.put, setIfInBounds_toArray, set_cons_zero, set_cons_succ]
   rotate_left 1
   refine AllReadyH.nil
   refine AllReadyH.nil
   refine AllReadyH.nil
   refine csH (fun KK hKK => ?_) ?_
   rw [if_pos (by rfl)]
   refine wp_allocS rfl ?_
   have HFn := Lib.hid (HF.out.kept ((Below.refl _ _).alloc (Nat.le_refl _) (.cells zSec 29)))
   have hSX := HF.out.le
   have HX := Lib.hid (Obj.new V0 29 zSec)
   refine hKK.out _ _ HFn.out (fun hh => ?_)
   clear hKK KK hh HF
   have HF := HFn; clear HFn
   try simp only [Act.put, setIfInBounds_toArray, set_cons_zero, set_cons_succ]
   generalize V0.heap.size = X at *
   generalize V0.alloc (.cells zSec 29) = V at *
   refine rdH [1, 5] ?_
   refine csH (fun KK hKK => ?_) ?_
   go_simp
   refine (HMO.out _ HF.out.bel).mono ?_
   rintro e V ⟨rfl, hy⟩
   have HFn := Lib.hid (HF.out.kept hy); clear HF; have HF := HFn; clear HFn
   have HXn := Lib.hid (HX.out.kept hy); clear HX; have HX := HXn; clear HXn
   clear hy
   try go_wp2_with fail
   refine hKK.out _ _ HF.out (fun hh => ?_)
   clear hKK KK hh
   try simp only [Act.put, setIfInBounds_toArray, set_cons_zero, set_cons_succ]
   refine rdH [3, 5] ?_
   refine csH (fun KK hKK => ?_) ?_
   go_simp
   refine (HMP.out _ HF.out.bel).mono ?_
   rintro e V ⟨rfl, hy⟩
   have HFn := Lib.hid (HF.out.kept hy); clear HF; have HF := HFn; clear HFn
   have HXn := Lib.hid (HX.out.kept hy); clear HX; have HX := HXn; clear HXn
   clear hy
   try go_wp2_with fail
   refine hKK.out _ _ HF.out (fun hh => ?_)
   clear hKK KK hh
   try simp only [Act.put, setIfInBounds_toArray, set_cons_zero, set_cons_succ]
   refine rdH [5] ?_
   refine csH (fun KK hKK => ?_) ?_
   rw [if_pos (by rfl)]
   refine wp_allocS rfl ?_
   have HFn := Lib.hid (HF.out.kept ((Below.refl _ _).alloc (Nat.le_refl _) (.cells zSec 29)))
   have hSY := HF.out.le
   have HY := Lib.hid (Obj.new V 29 zSec)
   have hne : X ≠ V.heap.size := by have := HX.out.lt; omega
   have HXn := Lib.hid (HX.out.alloc (.cells zSec 29)); clear HX; have HX := HXn; clear HXn
   refine hKK.out _ _ HFn.out (fun hh => ?_)
   clear hKK KK hh HF
   have HF := HFn; clear HFn
   try simp only [Act.put, setIfInBounds_toArray, set_cons_zero, set_cons_succ]
   generalize V.heap.size = Y at *
   generalize V.alloc (.cells zSec 29) = V at *
   rotate_left 1
   refine AllReadyH.nil
   refine csH (fun KK hKK => ?_) ?_
   rw [if_pos (by rfl)]
   refine wp_allocS rfl ?_
   have HFn := Lib.hid (HF.out.kept ((Below.refl _ _).alloc (Nat.le_refl _) (.cells zSec 29)))
   have hSY := HF.out.le
   have HY := Lib.hid (Obj.new V 29 zSec)
   have hne : X ≠ V.heap.size := by have := HX.out.lt; omega
   have HXn := Lib.hid (HX.out.alloc (.cells zSec 29)); clear HX; have HX := HXn; clear HXn
   refine hKK.out _ _ HFn.out (fun hh => ?_)
   clear hKK KK hh HF
   have HF := HFn; clear HFn
   try simp only [Act.put, setIfInBounds_toArray, set_cons_zero, set_cons_succ]
   generalize V.heap.size = Y at *
   generalize V.alloc (.cells zSec 29) = V at *
   refine rdH [3] ?_
   refine csH (fun KK hKK => ?_) ?_
   go_simp
   refine (HMP.out _ HF.out.bel).mono ?_
   rintro e V ⟨rfl, hy⟩
   have HFn := Lib.hid (HF.out.kept hy); clear HF; have HF := HFn; clear HFn
   have HXn := Lib.hid (HX.out.kept hy); clear HX; have HX := HXn; clear HXn
   have HYn := Lib.hid (HY.out.kept hy); clear HY; have HY := HYn; clear HYn
   clear hy
   try go_wp2_with fail
   refine hKK.out _ _ HF.out (fun hh => ?_)
   clear hKK KK hh
   try simp only [Act.put, setIfInBounds_toArray, set_cons_zero, set_cons_succ]
   rotate_left 1
   refine AllReadyH.nil
   refine AllReadyH.nil
   refine csH (fun KK hKK => ?_) ?_
   rw [if_pos (by rfl)]
   refine wp_allocS rfl ?_
   have HFn := Lib.hid (HF.out.kept ((Below.refl _ _).alloc (Nat.le_refl _) (.cells zSec 29)))
   have hSY := HF.out.le
   have HY := Lib.hid (Obj.new V 29 zSec)
   have hne : X ≠ V.heap.size := by have := HX.out.lt; omega
   have HXn := Lib.hid (HX.out.alloc (.cells zSec 29)); clear HX; have HX := HXn; clear HXn
   refine hKK.out _ _ HFn.out (fun hh => ?_)
   clear hKK KK hh HF
   have HF := HFn; clear HFn
   try simp only [Act.put, setIfInBounds_toArray, set_cons_zero, set_cons_succ]
   generalize V.heap.size = Y at *
   generalize V.alloc (.cells zSec 29) = V at *
   refine rdH [1] ?_
   refine csH (fun KK hKK => ?_) ?_
   go_simp
   refine (HMO.out _ HF.out.bel).mono ?_
   rintro e V ⟨rfl, hy⟩
   have HFn := Lib.hid (HF.out.kept hy); clear HF; have HF := HFn; clear HFn
   have HXn := Lib.hid (HX.out.kept hy); clear HX; have HX := HXn; clear HXn
   have HYn := Lib.hid (HY.out.kept hy); clear HY; have HY := HYn; clear HYn
   clear hy
   try go_wp2_with fail
   refine hKK.out _ _ HF.out (fun hh => ?_)
   clear hKK KK hh
   try simp only [Act.put, setIfInBounds_toArray, set_cons_zero, set_cons_succ]
   refine rdH [3] ?_
   refine csH (fun KK hKK => ?_) ?_
   go_simp
   refine (HMP.out _ HF.out.bel).mono ?_
   rintro e V ⟨rfl, hy⟩
   have HFn := Lib.hid (HF.out.kept hy); clear HF; have HF := HFn; clear HFn
   have HXn := Lib.hid (HX.out.kept hy); clear HX; have HX := HXn; clear HXn
   have HYn := Lib.hid (HY.out.kept hy); clear HY; have HY := HYn; clear HYn
   clear hy
   try go_wp2_with fail
   refine hKK.out _ _ HF.out (fun hh => ?_)
   clear hKK KK hh
   try simp only [Act.put, setIfInBounds_toArray, set_cons_zero, set_cons_succ]
   rotate_left 1
   refine AllReadyH.nil
   refine AllReadyH.nil
   refine AllReadyH.nil
   refine csH (fun KK hKK => ?_) ?_
   rw [if_pos (by rfl)]
   refine wp_allocS rfl ?_
   have HFn := Lib.hid (HF.out.kept ((Below.refl _ _).alloc (Nat.le_refl _) (.cells zSec 29)))
   have hSY := HF.out.le
   have HY := Lib.hid (Obj.new V0 29 zSec)
   refine hKK.out _ _ HFn.out (fun hh => ?_)
   clear hKK KK hh HF
   have HF := HFn; clear HFn
   try simp only [Act.put, setIfInBounds_toArray, set_cons_zero, set_cons_succ]
   generalize V0.heap.size = Y at *
   generalize V0.alloc (.cells zSec 29) = V at *
   refine rdH [1, 4] ?_
   refine csH (fun KK hKK => ?_) ?_
   go_simp
   refine (HMO.out _ HF.out.bel).mono ?_
   rintro e V ⟨rfl, hy⟩
   have HFn := Lib.hid (HF.out.kept hy); clear HF; have HF := HFn; clear HFn
   have HYn := Lib.hid (HY.out.kept hy); clear HY; have HY := HYn; clear HYn
   clear hy
   try go_wp2_with fail
   refine hKK.out _ _ HF.out (fun hh => ?_)
   clear hKK KK hh
   try simp only [Act.put, setIfInBounds_toArray, set_cons_zero, set_cons_succ]
   refine rdH [3, 4] ?_
   refine csH (fun KK hKK => ?_) ?_
   go_simp
   refine (HMP.out _ HF.out.bel).mono ?_
   rintro e V ⟨rfl, hy⟩
   have HFn := Lib.hid (HF.out.kept hy); clear HF; have HF := HFn; clear HFn
   have HYn := Lib.hid (HY.out.kept hy); clear HY; have HY := HYn; clear HYn
   clear hy
   try go_wp2_with fail
   refine hKK.out _ _ HF.out (fun hh => ?_)
   clear hKK KK hh
   try simp only [Act.put, setIfInBounds_toArray, set_cons_zero, set_cons_succ]
   refine rdH [4] ?_
   refine csH (fun KK hKK => ?_) ?_
   rw [if_pos (by rfl)]
   refine wp_allocS rfl ?_
   have HFn := Lib.hid (HF.out.kept ((Below.refl _ _).alloc (Nat.le_refl _) (.cells zSec 29)))
   have hSX := HF.out.le
   have HX := Lib.hid (Obj.new V 29 zSec)
   have hne : Y ≠ V.heap.size := by have := HY.out.lt; omega
   have HYn := Lib.hid (HY.out.alloc (.cells zSec 29)); clear HY; have HY := HYn; clear HYn
   refine hKK.out _ _ HFn.out (fun hh => ?_)
   clear hKK KK hh HF
   have HF := HFn; clear HFn
   try simp only [Act.put, setIfInBounds_toArray, set_cons_zero, set_cons_succ]
   generalize V.heap.size = X at *
   generalize V.alloc (.cells zSec 29) = V at *
   rotate_left 1
   refine AllReadyH.nil
   refine csH (fun KK hKK => ?_) ?_
   rw [if_pos (by rfl)]
   refine wp_allocS rfl ?_
   have HFn := Lib.hid (HF.out.kept ((Below.refl _ _).alloc (Nat.le_refl _) (.cells zSec 29)))
   have hSX := HF.out.le
   have HX := Lib.hid (Obj.new V 29 zSec)
   have hne : Y ≠ V.heap.size := by have := HY.out.lt; omega
   have HYn := Lib.hid (HY.out.alloc (.cells zSec 29)); clear HY; have HY := HYn; clear HYn
   refine hKK.out _ _ HFn.out (fun hh => ?_)
   clear hKK KK hh HF
   have HF := HFn; clear HFn
   try simp only [Act.put, setIfInBounds_toArray, set_cons_zero, set_cons_succ]
   generalize V.heap.size = X at *
   generalize V.alloc (.cells zSec 29) = V at *
   refine rdH [3] ?_
   refine csH (fun KK hKK => ?_) ?_
   go_simp
   refine (HMP.out _ HF.out.bel).mono ?_
   rintro e V ⟨rfl, hy⟩
   have HFn := Lib.hid (HF.out.kept hy); clear HF; have HF := HFn; clear HFn
   have HXn := Lib.hid (HX.out.kept hy); clear HX; have HX := HXn; clear HXn
   have HYn := Lib.hid (HY.out.kept hy); clear HY; have HY := HYn; clear HYn
   clear hy
   try go_wp2_with fail
   refine hKK.out _ _ HF.out (fun hh => ?_)
   clear hKK KK hh
   try simp only [Act.put, setIfInBounds_toArray, set_cons_zero, set_cons_succ]
   rotate_left 1
   refine AllReadyH.nil
   refine AllReadyH.nil
   refine csH (fun KK hKK => ?_) ?_
   rw [if_pos (by rfl)]
   refine wp_allocS rfl ?_
   have HFn := Lib.hid (HF.out.kept ((Below.refl _ _).alloc (Nat.le_refl _) (.cells zSec 29)))
   have hSX := HF.out.le
   have HX := Lib.hid (Obj.new V 29 zSec)
   have hne : Y ≠ V.heap.size := by have := HY.out.lt; omega
   have HYn := Lib.hid (HY.out.alloc (.cells zSec 29)); clear HY; have HY := HYn; clear HYn
   refine hKK.out _ _ HFn.out (fun hh => ?_)
   clear hKK KK hh HF
   have HF := HFn; clear HFn
   try simp only [Act.put, setIfInBounds_toArray, set_cons_zero, set_cons_succ]
   generalize V.heap.size = X at *
   generalize V.alloc (.cells zSec 29) = V at *
   refine rdH [1] ?_
   refine csH (fun KK hKK => ?_) ?_
   go_simp
   refine (HMO.out _ HF.out.bel).mono ?_
   rintro e V ⟨rfl, hy⟩
   have HFn := Lib.hid (HF.out.kept hy); clear HF; have HF := HFn; clear HFn
   have HXn := Lib.hid (HX.out.kept hy); clear HX; have HX := HXn; clear HXn
   have HYn := Lib.hid (HY.out.kept hy); clear HY; have HY := HYn; clear HYn
   clear hy
   try go_wp2_with fail
   refine hKK.out _ _ HF.out (fun hh => ?_)
   clear hKK KK hh
   try simp only [Act.put, setIfInBounds_toArray, set_cons_zero, set_cons_succ]
   refine rdH [3] ?_
   refine csH (fun KK hKK => ?_) ?_
   go_simp
   refine (HMP.out _ HF.out.bel).mono ?_
   rintro e V ⟨rfl, hy⟩
   have HFn := Lib.hid (HF.out.kept hy); clear HF; have HF := HFn; clear HFn
   have HXn := Lib.hid (HX.out.kept hy); clear HX; have HX := HXn; clear HXn
   have HYn := Lib.hid (HY.out.kept hy); clear HY; have HY := HYn; clear HYn
   clear hy
   try go_wp2_with fail
   refine hKK.out _ _ HF.out (fun hh => ?_)
   clear hKK KK hh
   try simp only [Act.put, setIfInBounds_toArray, set_cons_zero, set_cons_succ]
   rotate_left 1
   refine AllReadyH.nil
   refine AllReadyH.nil
   refine AllReadyH.nil
   refine AllReadyH.nil
   all_goals
    refine onH 6 (fun KK hKK => ?_)
    rw [if_pos (by rfl)]
    refine wp_store_row 29 (.tmp 10) (.tmp 24) rfl X _ rfl rfl 29 _ HX.out HIX.out HSX.out (one_rowT _ _) ?_
    refine hKK.out _ _ ?_ (fun hh6 => ?_)
    ·(try dsimp only)
     exact HF.out.upd ((Upd.refl X _).row _) hSX
    clear hKK KK
    try simp only [Act.put, setIfInBounds_toArray, set_cons_zero, set_cons_succ]
    refine onH 7 (fun KK hKK => ?_)
    rw [if_pos (by rfl)]
    refine wp_store_row 29 (.tmp 11) (.tmp 26) rfl Y _ rfl rfl 29 _ (HY.out.upd ((Upd.refl X _).row (secV mo)) (by omega)) HIY.out HSY.out (one_rowT _ _) ?_
    refine hKK.out _ _ ?_ (fun hh7 => ?_)
    ·(try dsimp only)
     exact hh6.upd ((Upd.refl Y _).row _) hSY
    clear hKK KK
    try simp only [Act.put, setIfInBounds_toArray, set_cons_zero, set_cons_succ]
    refine wpAnyH_done (by kernel_rfl) ?_ _
    unfold Exit.then
    exact ⟨X, Y, by omega, rfl, hh7, (HX.out.row (secV mo)).upd ((Upd.refl Y _).row _) (by omega), (HY.out.upd ((Upd.refl X _).row (secV mo)) (by omega)).row _⟩
  case cont =>
   intro ex aa W hth
   obtain ⟨rfl, X, Y, hXY, rfl, hh, hX, hY⟩ := then_false hth
   have hq := hp.kept hh.bel
   have z := hq.o.free
   have z0 := z f
   have z1 := z (f + 1)
   have z2 := z (f + 2)
   have z3 := z (f + 3)
   obtain ⟨v0, v1, v2, v3, y0, y1, y2, y4⟩ : ∃ v0 v1 v2 v3, W.cell? ⟨R, f, none⟩ = some v0 ∧ W.cell? ⟨R, f + 1, none⟩ = some v1 ∧ W.cell? ⟨R, f + 2, none⟩ = some v2 ∧ W.cell? ⟨R, f + 3, none⟩ = some v3 := by
    rcases HC.out with ⟨_, _, rfl⟩ | ⟨_, _, rfl⟩
    ·exact ⟨_, _, _, _, hq.o.cell 0, hq.o.cell 1, hq.o.cell 2, hq.o.cell 3⟩
    ·exact ⟨_, _, _, _, hq.o.cell 4, hq.o.cell 5, hq.o.cell 6, hq.o.cell 7⟩
   have hXR : X ≠ R := hX.ne_type hq.o (by decide)
   have hYR : Y ≠ R := hY.ne_type hq.o (by decide)
   have HF2 : Hid (RgP R (r.set n own peer) ((((W.setCell ⟨R, f, none⟩ (.pointer (some ⟨X, 0, none⟩))).setCell ⟨R, f + 1, none⟩ (.pointer (some ⟨Y, 0, none⟩))).setCell ⟨R, f + 2, none⟩ (.pointer none)).setCell ⟨R, f + 3, none⟩ (.bool true)) ∧ Upd R w ((((W.setCell ⟨R, f, none⟩ (.pointer (some ⟨X, 0, none⟩))).setCell ⟨R, f + 1, none⟩ (.pointer (some ⟨Y, 0, none⟩))).setCell ⟨R, f + 2, none⟩ (.pointer none)).setCell ⟨R, f + 3, none⟩ (.bool true))) := by
    have hu : Upd R W ((((W.setCell ⟨R, f, none⟩ (.pointer (some ⟨X, 0, none⟩))).setCell ⟨R, f + 1, none⟩ (.pointer (some ⟨Y, 0, none⟩))).setCell ⟨R, f + 2, none⟩ (.pointer none)).setCell ⟨R, f + 3, none⟩ (.bool true)) := ((((Upd.refl R W).set f _).set (f + 1) _).set (f + 2) _).set (f + 3) _
    refine ⟨?_, (Upd.of_below hh.bel R).trans hu⟩
    rcases HC.out with ⟨rfl, hs, rfl⟩ | ⟨rfl, hs, rfl⟩
    ·exact ⟨ok.set 0 _ _, X, Y, a1, b1, c1, (((hq.o.set 0 _).set 1 _).set 2 _).set 3 _, fun _ => (show Obj _ X _ (secV (Ky.make own false)) from hmo.symm ▸ hX.upd hu (by omega)), fun _ => (show Obj _ Y _ (secV (Ky.make peer false)) from hmp.symm ▸ hY.upd hu (by omega)), fun e => (hq.ka1 e).upd hu ((hq.ka1 e).ne_type hq.o (by decide)), fun e => (hq.kb1 e).upd hu ((hq.kb1 e).ne_type hq.o (by decide)), fun e => (hq.kc1 e).upd hu ((hq.kc1 e).ne_type hq.o (by decide))⟩
    ·have hho := hv hs
     refine ⟨ok.set 1 _ _, a0, b0, X, Y, c1, ?_, fun e => (hq.ka0 e).upd hu ((hq.ka0 e).ne_type hq.o (by decide)), fun e => (hq.kb0 e).upd hu ((hq.kb0 e).ne_type hq.o (by decide)), fun _ => (show Obj _ X _ (secV (Ky.make own false)) from hmo.symm ▸ hX.upd hu (by omega)), fun _ => (show Obj _ Y _ (secV (Ky.make peer false)) from hmp.symm ▸ hY.upd hu (by omega)), fun e => absurd (show r.ho = true from e) (by rw [hho]; decide)⟩
     have h4 := ((((hq.o.set 4 (.pointer (some ⟨X, 0, none⟩))).set 5 (.pointer (some ⟨Y, 0, none⟩))).set 6 (.pointer none)).set 7 (.bool true))
     refine h4.as ?_
     show #[_, _, _, _, _, _, _, _] = #[_, _, _, _, _, _, pv r.ho c1, _]
     rw [hho]
     rfl
   clear hq z hX hY hh hth hp ok
   go_wp2
   go_ret
   exact ⟨rfl, HF2.out⟩
 have hfr : r.fresh n = false := by
  unfold Ky.Rg.fresh
  by_cases h0 : n = 0
  ·rw [if_pos h0]; simp; intro h1; exact c0 (.inl ⟨h0, h1⟩)
  ·rw [if_neg h0]
   by_cases h1 : n = 1
   ·rw [if_pos h1]; simp; intro h2; exact c0 (.inr ⟨h1, h2⟩)
   ·rw [if_neg h1]
 rw [hfr]
 rw [if_neg (by decide)]
 have HRT : Hid (RgP R r W2 ∧ Upd R w W2) := ⟨⟨ok, a0, b0, a1, b1, c1, hp.kept HB2.out⟩, Upd.of_below HB2.out R⟩
 by_cases h01 : n = 0 ∨ n = 1
 ·obtain ⟨f, hf, hc⟩ : ∃ f, atV R n = .pointer (some ⟨R, f, none⟩) ∧ w.cell? ⟨R, f + 3, none⟩ = some (.bool true) := by
   rcases h01 with rfl | rfl
   ·refine ⟨0, rfl, ?_⟩
    rw [hp.o.cell 3]
    show some (Value.bool (r.s0 != 0)) = _
    have hs : (r.s0 != 0) = true := by simp; intro h1; exact c0 (.inl ⟨rfl, h1⟩)
    rw [hs]
   ·refine ⟨4, rfl, ?_⟩
    rw [hp.o.cell 7]
    show some (Value.bool (r.s1 != 0)) = _
    have hs : (r.s1 != 0) = true := by simp; intro h1; exact c0 (.inr ⟨rfl, h1⟩)
    rw [hs]
  rw [hf] at HA
  have y3' : W2.cell? ⟨R, f + 3, none⟩ = some (.bool true) := (HB2.out.cell (p := ⟨R, f + 3, none⟩) HRL.out).trans hc
  clear hfr c0 hf hc hp ok HF
  go_enter Tryd.func23, Tryd.ntmps23
  go_wp2_with fail
  rw [HW2.out]
  refine (HA.out _).mono ?_
  rintro e w' ⟨rfl, rfl⟩
  go_wp2
  go_ret
  exact ⟨rfl, HRT.out⟩
 ·rw [atV_no R (fun e => h01 (.inl e)) (fun e => h01 (.inr e))] at HA
  clear hfr c0 hp ok HF h01
  go_enter Tryd.func23, Tryd.ntmps23
  go_wp2_with fail
  rw [HW2.out]
  refine (HA.out _).mono ?_
  rintro e w' ⟨rfl, rfl⟩
  go_wp2
  go_ret
  exact ⟨rfl, HRT.out⟩
end Go.Proofs.YtabfcaidioohfaaDoor
namespace Go.Proofs.YtabfcaidioohfaaDoor
open List (getElem?_toArray getElem?_cons_zero getElem?_cons_succ setIfInBounds_toArray set_cons_zero set_cons_succ)
open Go Go.RowKit Go.Shelf
set_option linter.unusedVariables false
set_option linter.unusedSimpArgs false
set_option maxRecDepth 100000
/-- Turn under way. -/
structure TuI (w V : World) : Prop where
 bel : Below w.heap.size w V
theorem TuI.kept {w V V' : World} (h : TuI w V) (hb : Below V.heap.size V V') : TuI w V' := ⟨h.bel.trans (hb.mono h.bel.size)⟩
theorem TuI.le {w V : World} (h : TuI w V) : w.heap.size ≤ V.heap.size := h.bel.size
theorem TuI.upd {w V V' : World} {g : Nat} (h : TuI w V) (hu : Upd g V V') (hg : w.heap.size ≤ g) : TuI w V' := ⟨Upd.below h.bel hg hu⟩
theorem turn_nil (w : World) : Calls Tryd.prog 21 #[.pointer none] w fun e w' => e = .returned (.bool false) ∧ w = w' := by
 have HH := Lib.hid (has_nil 1 w)
 go_enter Tryd.func21, Tryd.ntmps21
 go_wp2_with fail
 refine HH.out.mono ?_
 rintro e w' ⟨rfl, rfl⟩
 go_wp2
 go_ret
 exact ⟨rfl, rfl⟩
set_option maxHeartbeats 8000000 in
theorem kturn_any (R : Nat) (r : Ky.Rg) (w : World) (ht : KTab w) (h : RgP R r w) :
  Calls Tryd.prog 21 #[.pointer (some ⟨R, 0, none⟩)] w fun e w' => e = .returned (.bool (r.has 1)) ∧ RgP R (if r.has 1 = true then r.turn else r) w' ∧ Upd R w w' := by
 have HH := Lib.hid (has_any R r 1 w h)
 by_cases hs : r.s1 = 1
 ·have HA := Lib.hid (at_any R 1 w)
  rw [atV_1] at HA
  rw [has_1 hs] at HH
  rw [has_1 hs, if_pos rfl]
  obtain ⟨ok, a0, b0, a1, b1, c1, hp⟩ := h
  have HF : Hid (TuI w w.drew) := ⟨(Below.refl _ w).drew⟩
  obtain ⟨uo, huo⟩ : ∃ m, Ky.upd r.o1 = m := ⟨_, rfl⟩
  obtain ⟨up, hup⟩ : ∃ m, Ky.upd r.p1 = m := ⟨_, rfl⟩
  have HUO : Hid (∀ W, Below w.heap.size w W → Calls Tryd.prog 16 #[.agg (secV r.o1)] W fun e w' => e = .returned (.agg (secV uo)) ∧ Below W.heap.size W w') := fun W hb => huo ▸ update_any r.o1 W (ht.below hb) ok.o1
  have HUP : Hid (∀ W, Below w.heap.size w W → Calls Tryd.prog 16 #[.agg (secV r.p1)] W fun e w' => e = .returned (.agg (secV up)) ∧ Below W.heap.size W w') := fun W hb => hup ▸ update_any r.p1 W (ht.below hb) ok.p1
  have okO : uo.Ok := huo ▸ Ky.upd_ok _
  have okP : up.Ok := hup ▸ Ky.upd_ok _
  have HIX := Lib.hid (sizeSec okO)
  have HIY := Lib.hid (sizeSec okP)
  have HIA := Lib.hid (sizeSec ok.o1)
  have HIB := Lib.hid (sizeSec ok.p1)
  have HSX : Hid (zSec.size = (secV uo).size) := by unfold Hid zSec; rw [pSec_size, secV_size okO]
  have HSY : Hid (zSec.size = (secV up).size) := by unfold Hid zSec; rw [pSec_size, secV_size okP]
  have HY4 : Hid (∀ wq, TuI w wq → wq.cell? ⟨R, 4, none⟩ = some (.pointer (some ⟨a1, 0, none⟩))) := fun wq h => by rw [(hp.o.kept h.bel).cell 4]; show some (pv (r.s1 == 1) a1) = _; rw [hs]; rfl
  have HY5 : Hid (∀ wq, TuI w wq → wq.cell? ⟨R, 5, none⟩ = some (.pointer (some ⟨b1, 0, none⟩))) := fun wq h => by rw [(hp.o.kept h.bel).cell 5]; show some (pv (r.s1 == 1) b1) = _; rw [hs]; rfl
  have HOA : Hid (∀ wq, TuI w wq → Obj wq a1 29 (secV r.o1)) := fun wq h => (hp.ka1 hs).kept h.bel
  have HOB : Hid (∀ wq, TuI w wq → Obj wq b1 29 (secV r.p1)) := fun wq h => (hp.kb1 hs).kept h.bel
  clear ht
  go_enter Tryd.func21, Tryd.ntmps21
  go_wp2_with fail
  refine HH.out.mono ?_
  rintro e w' ⟨rfl, rfl⟩
  go_wp2_with fail
  refine HA.out.mono ?_
  rintro e w' ⟨rfl, rfl⟩
  go_wp2
  refine Code.wp_mono (Q := Exit.then (fun aa W => ∃ X Y, X ≠ Y ∧ aa = { tmps := #[.pointer (some ⟨R, 0, none⟩), undef, .bool false, .pointer (some ⟨R, 4, none⟩), .pointer (some ⟨X, 0, none⟩), .pointer (some ⟨Y, 0, none⟩), .pointer (some ⟨R, 0, none⟩), .bool true, .bool false, .pointer (some ⟨R, 0, none⟩), .pointer (some ⟨R, 4, none⟩), .pointer (some ⟨R, 4, none⟩), .pointer (some ⟨R, 4, none⟩), .pointer (some ⟨R, 4, none⟩), .pointer (some ⟨a1, 0, none⟩), .pointer (some ⟨a1, 0, none⟩), .agg (secV r.o1), .agg (secV uo), .pointer (some ⟨R, 4, none⟩), .pointer (some ⟨R, 4, none⟩), .pointer (some ⟨R, 5, none⟩), .pointer (some ⟨b1, 0, none⟩), .pointer (some ⟨b1, 0, none⟩), .agg (secV r.p1), .agg (secV up), undef, undef, undef, undef, undef, undef, undef, undef, undef, undef, undef, undef, undef], defers := [] } ∧ TuI w W ∧ Obj W X 29 (secV uo) ∧ Obj W Y 29 (secV up)) (fun _ _ _ => False)) ?cont ?reg
  case reg =>
   refine wp_region_held_drew (S := (fun wq => TuI w wq)) (by kernel_rfl) HF.out (fun hHeld => ?_)
   refine tkH 0 ?_
   refine tkH 1 ?_
   refine tkH 2 ?_
   refine tkH 3 ?_ (hy := by
    refine Or.inl ⟨by rfl, ?_⟩
    intro wq hSw
    have q := HY4.out wq hSw
    go_simp
    all_goals with_reducible rfl)
   refine tkH 4 ?_
   refine tkH 5 ?_ (hy := by
    refine yieldsIf_load_row (g := a1) (t := 29) (cs := secV r.o1) (ty := 29) (x := (.tmp 15)) ?_ ?_ ?_ ?_ Tryd.underlying29 rfl HIA.out
    ·rfl
    ·rfl
    ·rfl
    ·exact fun w hSw => HOA.out w hSw)
   refine tkH 7 ?_
   refine tkH 8 ?_
   refine tkH 9 ?_
   refine tkH 10 ?_ (hy := by
    refine Or.inl ⟨by rfl, ?_⟩
    intro wq hSw
    have q := HY5.out wq hSw
    go_simp
    all_goals with_reducible rfl)
   refine tkH 11 ?_
   refine tkH 12 ?_ (hy := by
    refine yieldsIf_load_row (g := b1) (t := 29) (cs := secV r.p1) (ty := 29) (x := (.tmp 22)) ?_ ?_ ?_ ?_ Tryd.underlying29 rfl HIB.out
    ·rfl
    ·rfl
    ·rfl
    ·exact fun w hSw => HOB.out w hSw)
   generalize hV : w.drew = V0 at *
   refine rdH [6, 14, 15] ?_
   refine csH (fun KK hKK => ?_) ?_
   go_simp
   refine (HUO.out _ HF.out.bel).mono ?_
   rintro e V ⟨rfl, hy⟩
   have HFn := Lib.hid (HF.out.kept hy); clear HF; have HF := HFn; clear HFn
   clear hy
   try go_wp2_with fail
   refine hKK.out _ _ HF.out (fun hh => ?_)
   clear hKK KK hh
   try simp only [Act.put, setIfInBounds_toArray, set_cons_zero, set_cons_succ]
   refine rdH [13, 14, 15] ?_
   refine csH (fun KK hKK => ?_) ?_
   go_simp
   refine (HUP.out _ HF.out.bel).mono ?_
   rintro e V ⟨rfl, hy⟩
   have HFn := Lib.hid (HF.out.kept hy); clear HF; have HF := HFn; clear HFn
   clear hy
   try go_wp2_with fail
   refine hKK.out _ _ HF.out (fun hh => ?_)
   clear hKK KK hh
   try simp only [Act.put, setIfInBounds_toArray, set_cons_zero, set_cons_succ]
   refine rdH [14, 15] ?_
   refine csH (fun KK hKK => ?_) ?_
   rw [if_pos (by rfl)]
   refine wp_allocS rfl ?_
   have HFn := Lib.hid (HF.out.kept ((Below.refl _ _).alloc (Nat.le_refl _) (.cells zSec 29)))
   have hSX := HF.out.le
   have HX := Lib.hid (Obj.new V 29 zSec)
   refine hKK.out _ _ HFn.out (fun hh => ?_)
   clear hKK KK hh HF
   have HF := HFn; clear HFn
   try simp only [Act.put, setIfInBounds_toArray, set_cons_zero, set_cons_succ]
   generalize V.heap.size = X at *
   generalize V.alloc (.cells zSec 29) = V at *
   refine rdH [15] ?_
   refine csH (fun KK hKK => ?_) ?_
   rw [if_pos (by rfl)]
   refine wp_allocS rfl ?_
   have HFn := Lib.hid (HF.out.kept ((Below.refl _ _).alloc (Nat.le_refl _) (.cells zSec 29)))
   have hSY := HF.out.le
   have HY := Lib.hid (Obj.new V 29 zSec)
   have hne : X ≠ V.heap.size := by have := HX.out.lt; omega
   have HXn := Lib.hid (HX.out.alloc (.cells zSec 29)); clear HX; have HX := HXn; clear HXn
   refine hKK.out _ _ HFn.out (fun hh => ?_)
   clear hKK KK hh HF
   have HF := HFn; clear HFn
   try simp only [Act.put, setIfInBounds_toArray, set_cons_zero, set_cons_succ]
   generalize V.heap.size = Y at *
   generalize V.alloc (.cells zSec 29) = V at *
   rotate_left 1
   refine AllReadyH.nil
   refine csH (fun KK hKK => ?_) ?_
   rw [if_pos (by rfl)]
   refine wp_allocS rfl ?_
   have HFn := Lib.hid (HF.out.kept ((Below.refl _ _).alloc (Nat.le_refl _) (.cells zSec 29)))
   have hSY := HF.out.le
   have HY := Lib.hid (Obj.new V 29 zSec)
   refine hKK.out _ _ HFn.out (fun hh => ?_)
   clear hKK KK hh HF
   have HF := HFn; clear HFn
   try simp only [Act.put, setIfInBounds_toArray, set_cons_zero, set_cons_succ]
   generalize V.heap.size = Y at *
   generalize V.alloc (.cells zSec 29) = V at *
   refine rdH [14] ?_
   refine csH (fun KK hKK => ?_) ?_
   rw [if_pos (by rfl)]
   refine wp_allocS rfl ?_
   have HFn := Lib.hid (HF.out.kept ((Below.refl _ _).alloc (Nat.le_refl _) (.cells zSec 29)))
   have hSX := HF.out.le
   have HX := Lib.hid (Obj.new V 29 zSec)
   have hne : Y ≠ V.heap.size := by have := HY.out.lt; omega
   have HYn := Lib.hid (HY.out.alloc (.cells zSec 29)); clear HY; have HY := HYn; clear HYn
   refine hKK.out _ _ HFn.out (fun hh => ?_)
   clear hKK KK hh HF
   have HF := HFn; clear HFn
   try simp only [Act.put, setIfInBounds_toArray, set_cons_zero, set_cons_succ]
   generalize V.heap.size = X at *
   generalize V.alloc (.cells zSec 29) = V at *
   rotate_left 1
   refine AllReadyH.nil
   refine AllReadyH.nil
   refine csH (fun KK hKK => ?_) ?_
   rw [if_pos (by rfl)]
   refine wp_allocS rfl ?_
   have HFn := Lib.hid (HF.out.kept ((Below.refl _ _).alloc (Nat.le_refl _) (.cells zSec 29)))
   have hSX := HF.out.le
   have HX := Lib.hid (Obj.new V 29 zSec)
   refine hKK.out _ _ HFn.out (fun hh => ?_)
   clear hKK KK hh HF
   have HF := HFn; clear HFn
   try simp only [Act.put, setIfInBounds_toArray, set_cons_zero, set_cons_succ]
   generalize V.heap.size = X at *
   generalize V.alloc (.cells zSec 29) = V at *
   refine rdH [13, 15] ?_
   refine csH (fun KK hKK => ?_) ?_
   go_simp
   refine (HUP.out _ HF.out.bel).mono ?_
   rintro e V ⟨rfl, hy⟩
   have HFn := Lib.hid (HF.out.kept hy); clear HF; have HF := HFn; clear HFn
   have HXn := Lib.hid (HX.out.kept hy); clear HX; have HX := HXn; clear HXn
   clear hy
   try go_wp2_with fail
   refine hKK.out _ _ HF.out (fun hh => ?_)
   clear hKK KK hh
   try simp only [Act.put, setIfInBounds_toArray, set_cons_zero, set_cons_succ]
   refine rdH [15] ?_
   refine csH (fun KK hKK => ?_) ?_
   rw [if_pos (by rfl)]
   refine wp_allocS rfl ?_
   have HFn := Lib.hid (HF.out.kept ((Below.refl _ _).alloc (Nat.le_refl _) (.cells zSec 29)))
   have hSY := HF.out.le
   have HY := Lib.hid (Obj.new V 29 zSec)
   have hne : X ≠ V.heap.size := by have := HX.out.lt; omega
   have HXn := Lib.hid (HX.out.alloc (.cells zSec 29)); clear HX; have HX := HXn; clear HXn
   refine hKK.out _ _ HFn.out (fun hh => ?_)
   clear hKK KK hh HF
   have HF := HFn; clear HFn
   try simp only [Act.put, setIfInBounds_toArray, set_cons_zero, set_cons_succ]
   generalize V.heap.size = Y at *
   generalize V.alloc (.cells zSec 29) = V at *
   rotate_left 1
   refine AllReadyH.nil
   refine csH (fun KK hKK => ?_) ?_
   rw [if_pos (by rfl)]
   refine wp_allocS rfl ?_
   have HFn := Lib.hid (HF.out.kept ((Below.refl _ _).alloc (Nat.le_refl _) (.cells zSec 29)))
   have hSY := HF.out.le
   have HY := Lib.hid (Obj.new V 29 zSec)
   have hne : X ≠ V.heap.size := by have := HX.out.lt; omega
   have HXn := Lib.hid (HX.out.alloc (.cells zSec 29)); clear HX; have HX := HXn; clear HXn
   refine hKK.out _ _ HFn.out (fun hh => ?_)
   clear hKK KK hh HF
   have HF := HFn; clear HFn
   try simp only [Act.put, setIfInBounds_toArray, set_cons_zero, set_cons_succ]
   generalize V.heap.size = Y at *
   generalize V.alloc (.cells zSec 29) = V at *
   refine rdH [13] ?_
   refine csH (fun KK hKK => ?_) ?_
   go_simp
   refine (HUP.out _ HF.out.bel).mono ?_
   rintro e V ⟨rfl, hy⟩
   have HFn := Lib.hid (HF.out.kept hy); clear HF; have HF := HFn; clear HFn
   have HXn := Lib.hid (HX.out.kept hy); clear HX; have HX := HXn; clear HXn
   have HYn := Lib.hid (HY.out.kept hy); clear HY; have HY := HYn; clear HYn
   clear hy
   try go_wp2_with fail
   refine hKK.out _ _ HF.out (fun hh => ?_)
   clear hKK KK hh
   try simp only [Act.put, setIfInBounds_toArray, set_cons_zero, set_cons_succ]
   rotate_left 1
   refine AllReadyH.nil
   refine AllReadyH.nil
   refine csH (fun KK hKK => ?_) ?_
   rw [if_pos (by rfl)]
   refine wp_allocS rfl ?_
   have HFn := Lib.hid (HF.out.kept ((Below.refl _ _).alloc (Nat.le_refl _) (.cells zSec 29)))
   have hSY := HF.out.le
   have HY := Lib.hid (Obj.new V 29 zSec)
   refine hKK.out _ _ HFn.out (fun hh => ?_)
   clear hKK KK hh HF
   have HF := HFn; clear HFn
   try simp only [Act.put, setIfInBounds_toArray, set_cons_zero, set_cons_succ]
   generalize V.heap.size = Y at *
   generalize V.alloc (.cells zSec 29) = V at *
   refine rdH [13, 14] ?_
   refine csH (fun KK hKK => ?_) ?_
   go_simp
   refine (HUP.out _ HF.out.bel).mono ?_
   rintro e V ⟨rfl, hy⟩
   have HFn := Lib.hid (HF.out.kept hy); clear HF; have HF := HFn; clear HFn
   have HYn := Lib.hid (HY.out.kept hy); clear HY; have HY := HYn; clear HYn
   clear hy
   try go_wp2_with fail
   refine hKK.out _ _ HF.out (fun hh => ?_)
   clear hKK KK hh
   try simp only [Act.put, setIfInBounds_toArray, set_cons_zero, set_cons_succ]
   refine rdH [14] ?_
   refine csH (fun KK hKK => ?_) ?_
   rw [if_pos (by rfl)]
   refine wp_allocS rfl ?_
   have HFn := Lib.hid (HF.out.kept ((Below.refl _ _).alloc (Nat.le_refl _) (.cells zSec 29)))
   have hSX := HF.out.le
   have HX := Lib.hid (Obj.new V 29 zSec)
   have hne : Y ≠ V.heap.size := by have := HY.out.lt; omega
   have HYn := Lib.hid (HY.out.alloc (.cells zSec 29)); clear HY; have HY := HYn; clear HYn
   refine hKK.out _ _ HFn.out (fun hh => ?_)
   clear hKK KK hh HF
   have HF := HFn; clear HFn
   try simp only [Act.put, setIfInBounds_toArray, set_cons_zero, set_cons_succ]
   generalize V.heap.size = X at *
   generalize V.alloc (.cells zSec 29) = V at *
   rotate_left 1
   refine AllReadyH.nil
   refine csH (fun KK hKK => ?_) ?_
   rw [if_pos (by rfl)]
   refine wp_allocS rfl ?_
   have HFn := Lib.hid (HF.out.kept ((Below.refl _ _).alloc (Nat.le_refl _) (.cells zSec 29)))
   have hSX := HF.out.le
   have HX := Lib.hid (Obj.new V 29 zSec)
   have hne : Y ≠ V.heap.size := by have := HY.out.lt; omega
   have HYn := Lib.hid (HY.out.alloc (.cells zSec 29)); clear HY; have HY := HYn; clear HYn
   refine hKK.out _ _ HFn.out (fun hh => ?_)
   clear hKK KK hh HF
   have HF := HFn; clear HFn
   try simp only [Act.put, setIfInBounds_toArray, set_cons_zero, set_cons_succ]
   generalize V.heap.size = X at *
   generalize V.alloc (.cells zSec 29) = V at *
   refine rdH [13] ?_
   refine csH (fun KK hKK => ?_) ?_
   go_simp
   refine (HUP.out _ HF.out.bel).mono ?_
   rintro e V ⟨rfl, hy⟩
   have HFn := Lib.hid (HF.out.kept hy); clear HF; have HF := HFn; clear HFn
   have HXn := Lib.hid (HX.out.kept hy); clear HX; have HX := HXn; clear HXn
   have HYn := Lib.hid (HY.out.kept hy); clear HY; have HY := HYn; clear HYn
   clear hy
   try go_wp2_with fail
   refine hKK.out _ _ HF.out (fun hh => ?_)
   clear hKK KK hh
   try simp only [Act.put, setIfInBounds_toArray, set_cons_zero, set_cons_succ]
   rotate_left 1
   refine AllReadyH.nil
   refine AllReadyH.nil
   refine AllReadyH.nil
   refine csH (fun KK hKK => ?_) ?_
   rw [if_pos (by rfl)]
   refine wp_allocS rfl ?_
   have HFn := Lib.hid (HF.out.kept ((Below.refl _ _).alloc (Nat.le_refl _) (.cells zSec 29)))
   have hSX := HF.out.le
   have HX := Lib.hid (Obj.new V0 29 zSec)
   refine hKK.out _ _ HFn.out (fun hh => ?_)
   clear hKK KK hh HF
   have HF := HFn; clear HFn
   try simp only [Act.put, setIfInBounds_toArray, set_cons_zero, set_cons_succ]
   generalize V0.heap.size = X at *
   generalize V0.alloc (.cells zSec 29) = V at *
   refine rdH [6, 15] ?_
   refine csH (fun KK hKK => ?_) ?_
   go_simp
   refine (HUO.out _ HF.out.bel).mono ?_
   rintro e V ⟨rfl, hy⟩
   have HFn := Lib.hid (HF.out.kept hy); clear HF; have HF := HFn; clear HFn
   have HXn := Lib.hid (HX.out.kept hy); clear HX; have HX := HXn; clear HXn
   clear hy
   try go_wp2_with fail
   refine hKK.out _ _ HF.out (fun hh => ?_)
   clear hKK KK hh
   try simp only [Act.put, setIfInBounds_toArray, set_cons_zero, set_cons_succ]
   refine rdH [13, 15] ?_
   refine csH (fun KK hKK => ?_) ?_
   go_simp
   refine (HUP.out _ HF.out.bel).mono ?_
   rintro e V ⟨rfl, hy⟩
   have HFn := Lib.hid (HF.out.kept hy); clear HF; have HF := HFn; clear HFn
   have HXn := Lib.hid (HX.out.kept hy); clear HX; have HX := HXn; clear HXn
   clear hy
   try go_wp2_with fail
   refine hKK.out _ _ HF.out (fun hh => ?_)
   clear hKK KK hh
   try simp only [Act.put, setIfInBounds_toArray, set_cons_zero, set_cons_succ]
   refine rdH [15] ?_
   refine csH (fun KK hKK => ?_) ?_
   rw [if_pos (by rfl)]
   refine wp_allocS rfl ?_
   have HFn := Lib.hid (HF.out.kept ((Below.refl _ _).alloc (Nat.le_refl _) (.cells zSec 29)))
   have hSY := HF.out.le
   have HY := Lib.hid (Obj.new V 29 zSec)
   have hne : X ≠ V.heap.size := by have := HX.out.lt; omega
   have HXn := Lib.hid (HX.out.alloc (.cells zSec 29)); clear HX; have HX := HXn; clear HXn
   refine hKK.out _ _ HFn.out (fun hh => ?_)
   clear hKK KK hh HF
   have HF := HFn; clear HFn
   try simp only [Act.put, setIfInBounds_toArray, set_cons_zero, set_cons_succ]
   generalize V.heap.size = Y at *
   generalize V.alloc (.cells zSec 29) = V at *
   rotate_left 1
   refine AllReadyH.nil
   refine csH (fun KK hKK => ?_) ?_
   rw [if_pos (by rfl)]
   refine wp_allocS rfl ?_
   have HFn := Lib.hid (HF.out.kept ((Below.refl _ _).alloc (Nat.le_refl _) (.cells zSec 29)))
   have hSY := HF.out.le
   have HY := Lib.hid (Obj.new V 29 zSec)
   have hne : X ≠ V.heap.size := by have := HX.out.lt; omega
   have HXn := Lib.hid (HX.out.alloc (.cells zSec 29)); clear HX; have HX := HXn; clear HXn
   refine hKK.out _ _ HFn.out (fun hh => ?_)
   clear hKK KK hh HF
   have HF := HFn; clear HFn
   try simp only [Act.put, setIfInBounds_toArray, set_cons_zero, set_cons_succ]
   generalize V.heap.size = Y at *
   generalize V.alloc (.cells zSec 29) = V at *
   refine rdH [13] ?_
   refine csH (fun KK hKK => ?_) ?_
   go_simp
   refine (HUP.out _ HF.out.bel).mono ?_
   rintro e V ⟨rfl, hy⟩
   have HFn := Lib.hid (HF.out.kept hy); clear HF; have HF := HFn; clear HFn
   have HXn := Lib.hid (HX.out.kept hy); clear HX; have HX := HXn; clear HXn
   have HYn := Lib.hid (HY.out.kept hy); clear HY; have HY := HYn; clear HYn
   clear hy
   try go_wp2_with fail
   refine hKK.out _ _ HF.out (fun hh => ?_)
   clear hKK KK hh
   try simp only [Act.put, setIfInBounds_toArray, set_cons_zero, set_cons_succ]
   rotate_left 1
   refine AllReadyH.nil
   refine AllReadyH.nil
   refine csH (fun KK hKK => ?_) ?_
   rw [if_pos (by rfl)]
   refine wp_allocS rfl ?_
   have HFn := Lib.hid (HF.out.kept ((Below.refl _ _).alloc (Nat.le_refl _) (.cells zSec 29)))
   have hSY := HF.out.le
   have HY := Lib.hid (Obj.new V 29 zSec)
   have hne : X ≠ V.heap.size := by have := HX.out.lt; omega
   have HXn := Lib.hid (HX.out.alloc (.cells zSec 29)); clear HX; have HX := HXn; clear HXn
   refine hKK.out _ _ HFn.out (fun hh => ?_)
   clear hKK KK hh HF
   have HF := HFn; clear HFn
   try simp only [Act.put, setIfInBounds_toArray, set_cons_zero, set_cons_succ]
   generalize V.heap.size = Y at *
   generalize V.alloc (.cells zSec 29) = V at *
   refine rdH [6] ?_
   refine csH (fun KK hKK => ?_) ?_
   go_simp
   refine (HUO.out _ HF.out.bel).mono ?_
   rintro e V ⟨rfl, hy⟩
   have HFn := Lib.hid (HF.out.kept hy); clear HF; have HF := HFn; clear HFn
   have HXn := Lib.hid (HX.out.kept hy); clear HX; have HX := HXn; clear HXn
   have HYn := Lib.hid (HY.out.kept hy); clear HY; have HY := HYn; clear HYn
   clear hy
   try go_wp2_with fail
   refine hKK.out _ _ HF.out (fun hh => ?_)
   clear hKK KK hh
   try simp only [Act.put, setIfInBounds_toArray, set_cons_zero, set_cons_succ]
   refine rdH [13] ?_
   refine csH (fun KK hKK => ?_) ?_
   go_simp
   refine (HUP.out _ HF.out.bel).mono ?_
   rintro e V ⟨rfl, hy⟩
   have HFn := Lib.hid (HF.out.kept hy); clear HF; have HF := HFn; clear HFn
   have HXn := Lib.hid (HX.out.kept hy); clear HX; have HX := HXn; clear HXn
   have HYn := Lib.hid (HY.out.kept hy); clear HY; have HY := HYn; clear HYn
   clear hy
   try go_wp2_with fail
   refine hKK.out _ _ HF.out (fun hh => ?_)
   clear hKK KK hh
   try simp only [Act.put, setIfInBounds_toArray, set_cons_zero, set_cons_succ]
   rotate_left 1
   refine AllReadyH.nil
   refine AllReadyH.nil
   refine AllReadyH.nil
   refine csH (fun KK hKK => ?_) ?_
   rw [if_pos (by rfl)]
   refine wp_allocS rfl ?_
   have HFn := Lib.hid (HF.out.kept ((Below.refl _ _).alloc (Nat.le_refl _) (.cells zSec 29)))
   have hSY := HF.out.le
   have HY := Lib.hid (Obj.new V0 29 zSec)
   refine hKK.out _ _ HFn.out (fun hh => ?_)
   clear hKK KK hh HF
   have HF := HFn; clear HFn
   try simp only [Act.put, setIfInBounds_toArray, set_cons_zero, set_cons_succ]
   generalize V0.heap.size = Y at *
   generalize V0.alloc (.cells zSec 29) = V at *
   refine rdH [6, 14] ?_
   refine csH (fun KK hKK => ?_) ?_
   go_simp
   refine (HUO.out _ HF.out.bel).mono ?_
   rintro e V ⟨rfl, hy⟩
   have HFn := Lib.hid (HF.out.kept hy); clear HF; have HF := HFn; clear HFn
   have HYn := Lib.hid (HY.out.kept hy); clear HY; have HY := HYn; clear HYn
   clear hy
   try go_wp2_with fail
   refine hKK.out _ _ HF.out (fun hh => ?_)
   clear hKK KK hh
   try simp only [Act.put, setIfInBounds_toArray, set_cons_zero, set_cons_succ]
   refine rdH [13, 14] ?_
   refine csH (fun KK hKK => ?_) ?_
   go_simp
   refine (HUP.out _ HF.out.bel).mono ?_
   rintro e V ⟨rfl, hy⟩
   have HFn := Lib.hid (HF.out.kept hy); clear HF; have HF := HFn; clear HFn
   have HYn := Lib.hid (HY.out.kept hy); clear HY; have HY := HYn; clear HYn
   clear hy
   try go_wp2_with fail
   refine hKK.out _ _ HF.out (fun hh => ?_)
   clear hKK KK hh
   try simp only [Act.put, setIfInBounds_toArray, set_cons_zero, set_cons_succ]
   refine rdH [14] ?_
   refine csH (fun KK hKK => ?_) ?_
   rw [if_pos (by rfl)]
   refine wp_allocS rfl ?_
   have HFn := Lib.hid (HF.out.kept ((Below.refl _ _).alloc (Nat.le_refl _) (.cells zSec 29)))
   have hSX := HF.out.le
   have HX := Lib.hid (Obj.new V 29 zSec)
   have hne : Y ≠ V.heap.size := by have := HY.out.lt; omega
   have HYn := Lib.hid (HY.out.alloc (.cells zSec 29)); clear HY; have HY := HYn; clear HYn
   refine hKK.out _ _ HFn.out (fun hh => ?_)
   clear hKK KK hh HF
   have HF := HFn; clear HFn
   try simp only [Act.put, setIfInBounds_toArray, set_cons_zero, set_cons_succ]
   generalize V.heap.size = X at *
   generalize V.alloc (.cells zSec 29) = V at *
   rotate_left 1
   refine AllReadyH.nil
   refine csH (fun KK hKK => ?_) ?_
   rw [if_pos (by rfl)]
   refine wp_allocS rfl ?_
   have HFn := Lib.hid (HF.out.kept ((Below.refl _ _).alloc (Nat.le_refl _) (.cells zSec 29)))
   have hSX := HF.out.le
   have HX := Lib.hid (Obj.new V 29 zSec)
   have hne : Y ≠ V.heap.size := by have := HY.out.lt; omega
   have HYn := Lib.hid (HY.out.alloc (.cells zSec 29)); clear HY; have HY := HYn; clear HYn
   refine hKK.out _ _ HFn.out (fun hh => ?_)
   clear hKK KK hh HF
   have HF := HFn; clear HFn
   try simp only [Act.put, setIfInBounds_toArray, set_cons_zero, set_cons_succ]
   generalize V.heap.size = X at *
   generalize V.alloc (.cells zSec 29) = V at *
   refine rdH [13] ?_
   refine csH (fun KK hKK => ?_) ?_
   go_simp
   refine (HUP.out _ HF.out.bel).mono ?_
   rintro e V ⟨rfl, hy⟩
   have HFn := Lib.hid (HF.out.kept hy); clear HF; have HF := HFn; clear HFn
   have HXn := Lib.hid (HX.out.kept hy); clear HX; have HX := HXn; clear HXn
   have HYn := Lib.hid (HY.out.kept hy); clear HY; have HY := HYn; clear HYn
   clear hy
   try go_wp2_with fail
   refine hKK.out _ _ HF.out (fun hh => ?_)
   clear hKK KK hh
   try simp only [Act.put, setIfInBounds_toArray, set_cons_zero, set_cons_succ]
   rotate_left 1
   refine AllReadyH.nil
   refine AllReadyH.nil
   refine csH (fun KK hKK => ?_) ?_
   rw [if_pos (by rfl)]
   refine wp_allocS rfl ?_
   have HFn := Lib.hid (HF.out.kept ((Below.refl _ _).alloc (Nat.le_refl _) (.cells zSec 29)))
   have hSX := HF.out.le
   have HX := Lib.hid (Obj.new V 29 zSec)
   have hne : Y ≠ V.heap.size := by have := HY.out.lt; omega
   have HYn := Lib.hid (HY.out.alloc (.cells zSec 29)); clear HY; have HY := HYn; clear HYn
   refine hKK.out _ _ HFn.out (fun hh => ?_)
   clear hKK KK hh HF
   have HF := HFn; clear HFn
   try simp only [Act.put, setIfInBounds_toArray, set_cons_zero, set_cons_succ]
   generalize V.heap.size = X at *
   generalize V.alloc (.cells zSec 29) = V at *
   refine rdH [6] ?_
   refine csH (fun KK hKK => ?_) ?_
   go_simp
   refine (HUO.out _ HF.out.bel).mono ?_
   rintro e V ⟨rfl, hy⟩
   have HFn := Lib.hid (HF.out.kept hy); clear HF; have HF := HFn; clear HFn
   have HXn := Lib.hid (HX.out.kept hy); clear HX; have HX := HXn; clear HXn
   have HYn := Lib.hid (HY.out.kept hy); clear HY; have HY := HYn; clear HYn
   clear hy
   try go_wp2_with fail
   refine hKK.out _ _ HF.out (fun hh => ?_)
   clear hKK KK hh
   try simp only [Act.put, setIfInBounds_toArray, set_cons_zero, set_cons_succ]
   refine rdH [13] ?_
   refine csH (fun KK hKK => ?_) ?_
   go_simp
   refine (HUP.out _ HF.out.bel).mono ?_
   rintro e V ⟨rfl, hy⟩
   have HFn := Lib.hid (HF.out.kept hy); clear HF; have HF := HFn; clear HFn
   have HXn := Lib.hid (HX.out.kept hy); clear HX; have HX := HXn; clear HXn
   have HYn := Lib.hid (HY.out.kept hy); clear HY; have HY := HYn; clear HYn
   clear hy
   try go_wp2_with fail
   refine hKK.out _ _ HF.out (fun hh => ?_)
   clear hKK KK hh
   try simp only [Act.put, setIfInBounds_toArray, set_cons_zero, set_cons_succ]
   rotate_left 1
   refine AllReadyH.nil
   refine AllReadyH.nil
   refine AllReadyH.nil
   refine AllReadyH.nil
   all_goals
    refine onH 16 (fun KK hKK => ?_)
    rw [if_pos (by rfl)]
    refine wp_store_row 29 (.tmp 4) (.tmp 17) rfl X _ rfl rfl 29 _ HX.out HIX.out HSX.out (one_rowT _ _) ?_
    refine hKK.out _ _ ?_ (fun hh6 => ?_)
    ·(try dsimp only)
     exact HF.out.upd ((Upd.refl X _).row _) hSX
    clear hKK KK
    try simp only [Act.put, setIfInBounds_toArray, set_cons_zero, set_cons_succ]
    refine onH 17 (fun KK hKK => ?_)
    rw [if_pos (by rfl)]
    refine wp_store_row 29 (.tmp 5) (.tmp 24) rfl Y _ rfl rfl 29 _ (HY.out.upd ((Upd.refl X _).row (secV uo)) (by omega)) HIY.out HSY.out (one_rowT _ _) ?_
    refine hKK.out _ _ ?_ (fun hh7 => ?_)
    ·(try dsimp only)
     exact hh6.upd ((Upd.refl Y _).row _) hSY
    clear hKK KK
    try simp only [Act.put, setIfInBounds_toArray, set_cons_zero, set_cons_succ]
    refine wpAnyH_done (by kernel_rfl) ?_ _
    unfold Exit.then
    exact ⟨X, Y, by omega, rfl, hh7, (HX.out.row (secV uo)).upd ((Upd.refl Y _).row _) (by omega), (HY.out.upd ((Upd.refl X _).row (secV uo)) (by omega)).row _⟩
  case cont =>
   intro ex aa W hth
   obtain ⟨rfl, X, Y, hXY, rfl, hh, hX, hY⟩ := then_false hth
   have hq := hp.kept hh.bel
   have z := hq.o.free
   have z4 := z 4
   have z5 := z 5
   have z6 := z 6
   have y4 := HY4.out W hh
   have y5 := HY5.out W hh
   have y6 : W.cell? ⟨R, 6, none⟩ = some (pv r.ho c1) := hq.o.cell 6
   have hXR : X ≠ R := hX.ne_type hq.o (by decide)
   have hYR : Y ≠ R := hY.ne_type hq.o (by decide)
   have HF2 : Hid (RgP R r.turn (((W.setCell ⟨R, 6, none⟩ (.pointer (some ⟨b1, 0, none⟩))).setCell ⟨R, 4, none⟩ (.pointer (some ⟨X, 0, none⟩))).setCell ⟨R, 5, none⟩ (.pointer (some ⟨Y, 0, none⟩))) ∧ Upd R w (((W.setCell ⟨R, 6, none⟩ (.pointer (some ⟨b1, 0, none⟩))).setCell ⟨R, 4, none⟩ (.pointer (some ⟨X, 0, none⟩))).setCell ⟨R, 5, none⟩ (.pointer (some ⟨Y, 0, none⟩)))) := by
    have hu : Upd R W (((W.setCell ⟨R, 6, none⟩ (.pointer (some ⟨b1, 0, none⟩))).setCell ⟨R, 4, none⟩ (.pointer (some ⟨X, 0, none⟩))).setCell ⟨R, 5, none⟩ (.pointer (some ⟨Y, 0, none⟩))) := (((Upd.refl R W).set 6 _).set 4 _).set 5 _
    refine ⟨⟨ok.turn, a0, b0, X, Y, b1, ?_, fun e => (hq.ka0 e).upd hu ((hq.ka0 e).ne_type hq.o (by decide)), fun e => (hq.kb0 e).upd hu ((hq.kb0 e).ne_type hq.o (by decide)), fun _ => (show Obj _ X _ (secV (Ky.upd r.o1)) from huo.symm ▸ hX.upd hu (by omega)), fun _ => (show Obj _ Y _ (secV (Ky.upd r.p1)) from hup.symm ▸ hY.upd hu (by omega)), fun _ => (hq.kb1 hs).upd hu ((hq.kb1 hs).ne_type hq.o (by decide))⟩, (Upd.of_below hh.bel R).trans hu⟩
    have h4 := (((hq.o.set 6 (.pointer (some ⟨b1, 0, none⟩))).set 4 (.pointer (some ⟨X, 0, none⟩))).set 5 (.pointer (some ⟨Y, 0, none⟩)))
    refine h4.as ?_
    show #[_, _, _, _, _, _, _, Value.bool (r.s1 != 0)] = #[_, _, _, _, pv (r.s1 == 1) X, pv (r.s1 == 1) Y, pv true b1, Value.bool (r.s1 != 0)]
    rw [hs]
    rfl
   clear hq z hX hY hh hth hp ok HY4 HY5 HOA HOB
   go_wp2
   go_ret
   exact ⟨rfl, HF2.out⟩
 ·have hh : r.has 1 = false := by show (r.s1 == 1) = false; simpa using hs
  rw [hh] at HH ⊢
  rw [if_neg (by decide)]
  have HRT := Lib.hid h
  clear h hs hh ht
  go_enter Tryd.func21, Tryd.ntmps21
  go_wp2_with fail
  refine HH.out.mono ?_
  rintro e w' ⟨rfl, rfl⟩
  go_wp2
  go_ret
  exact ⟨rfl, HRT.out, Upd.refl _ _⟩
end Go.Proofs.YtabfcaidioohfaaDoor
namespace Go.Ky
open List (getElem?_toArray getElem?_cons_zero getElem?_cons_succ setIfInBounds_toArray set_cons_zero set_cons_succ)
open Go.Proofs.YtabfcaidioohfaaDoor Go.RowKit Go
def Rg.sealR (r : Rg) (n : Int) (u : Nat) (more text : List Nat) : List Nat := if r.has n = true then sealW (if n = 0 then r.o0 else r.o1) u more text else []
/-- What a ring opens: the error's number, the text; the ring behind. -/
def Rg.opn (r : Rg) (n : Int) (ph : Bool) (u : Nat) (more b : List Nat) : (Nat × List Nat) × Rg :=
 if r.has n = true then
  if n = 0 then (open' r.p0 u more b, r)
  else if ph = r.p1.ph then (open' r.p1 u more b, r)
  else if r.ho = true ∧ (open' r.q u more b).1 = 0 then (open' r.q u more b, r)
  else (open' (upd r.p1) u more b, if (open' (upd r.p1) u more b).1 = 0 then r.turn else r)
 else ((8, []), r)
end Go.Ky
namespace Go.Proofs.YtabfcaidioohfaaDoor
open List (getElem?_toArray getElem?_cons_zero getElem?_cons_succ setIfInBounds_toArray set_cons_zero set_cons_succ)
open Go Go.RowKit Go.Shelf
set_option linter.unusedVariables false
set_option linter.unusedSimpArgs false
set_option maxRecDepth 100000
theorem no_int (x : Int) : ∀ (r : Ky.Rg) (a0 b0 a1 b1 c1 o : Nat), ¬ (#[pv (r.s0 == 1) a0, pv (r.s0 == 1) b0, Value.pointer none, Value.bool (r.s0 != 0), pv (r.s1 == 1) a1, pv (r.s1 == 1) b1, pv r.ho c1, Value.bool (r.s1 != 0)] : Array Value)[o]? = some (.int .u8 x) := by
 have hp : ∀ (b : Bool) (a : Nat), pv b a ≠ .int .u8 x := fun b a => by cases b <;> intro e <;> cases e
 intro r a0 b0 a1 b1 c1 o h
 rcases o with _ | _ | _ | _ | _ | _ | _ | _ | o
 ·exact hp _ _ (Option.some.inj h)
 ·exact hp _ _ (Option.some.inj h)
 ·cases h
 ·cases h
 ·exact hp _ _ (Option.some.inj h)
 ·exact hp _ _ (Option.some.inj h)
 ·exact hp _ _ (Option.some.inj h)
 ·cases h
 ·cases h
/-- Bytes that lie somewhere do not lie in a ring. -/
theorem rd_ring {w w' : World} {A : Option Addr} {l : List Nat} {R : Nat} {r : Ky.Rg} {a0 b0 a1 b1 c1 : Nat} (hr : Rd w A l) (hp : RP R r a0 b0 a1 b1 c1 w) (hu : Upd R w w') : Rd w' A l := fun h0 => by
 obtain ⟨b, o, rfl, h1, h2⟩ := hr h0
 have hne : b ≠ R := by
  rintro rfl
  have := h2 0 h0
  rw [hp.o.cell] at this
  exact no_int _ _ _ _ _ _ _ _ this
 exact (rd_upd hr hu hne) h0
theorem rgseal_nil (n num : Int) (w : World) (v1 v2 : Value) : Calls Tryd.prog 24 #[.pointer none, .int .i64 n, .int .i64 num, v1, v2] w fun e w' => e = .returned (.slice none 0 0) ∧ w = w' := by
 have HH := Lib.hid (has_nil n w)
 go_enter Tryd.func24, Tryd.ntmps24
 go_wp2_with fail
 refine HH.out.mono ?_
 rintro e w' ⟨rfl, rfl⟩
 go_wp2
 go_ret
 exact ⟨rfl, rfl⟩
theorem rgopen_nil (n num : Int) (ph : Bool) (w : World) (v1 v2 : Value) : Calls Tryd.prog 17 #[.pointer none, .int .i64 n, .bool ph, .int .i64 num, v1, v2] w fun e w' => e = .returned (.tuple #[.slice none 0 0, .int .i64 8]) ∧ w = w' := by
 have HH := Lib.hid (has_nil n w)
 go_enter Tryd.func17, Tryd.ntmps17
 go_wp2_with fail
 refine HH.out.mono ?_
 rintro e w' ⟨rfl, rfl⟩
 go_wp2
 refine bodyPost_ret (results_tmp2 rfl _ _ _) rfl ?_
 exact ⟨rfl, rfl⟩
set_option maxHeartbeats 4000000 in
theorem rgseal_any (R : Nat) (r : Ky.Rg) (n num : Int) (u : Nat) (A1 : Option Addr) (n1 c1 : Nat) (more : List Nat) (A2 : Option Addr) (n2 c2 : Nat) (text : List Nat) (w : World) (hu : IntKind.u64.wrap num = (u : Int)) (hu2 : u < 18446744073709551616) (r1 : Rd w A1 more) (m1 : more.length = n1) (q1 : Ae.bytes more) (k1 : n1 ≤ 100000 ∧ n1 ≤ c1 ∧ c1 ≤ 9223372036854775807) (r2 : Rd w A2 text) (m2 : text.length = n2) (q2 : Ae.bytes text) (k2 : n2 ≤ 100000 ∧ n2 ≤ c2 ∧ c2 ≤ 9223372036854775807) (h : RgP R r w) :
  Calls Tryd.prog 24 #[.pointer (some ⟨R, 0, none⟩), .int .i64 n, .int .i64 num, .slice A1 n1 c1, .slice A2 n2 c2] w fun e w' => ∃ v, e = .returned v ∧ w'.ownsRow w.heap.size 5 1 v (r.sealR n u more text).length ((r.sealR n u more text).map u8v) ∧ Below w.heap.size w w' := by
 have HH := Lib.hid (has_any R r n w h)
 by_cases hn : r.has n = true
 ·obtain ⟨ok, a0, b0, a1, b1, cc1, hp⟩ := h
  rcases has_cases hn with ⟨rfl, hs⟩ | ⟨rfl, hs⟩
  ·have HA := Lib.hid (at_any R 0 w)
   rw [atV_0] at HA
   rw [has_0 hs] at HH
   have y0 : w.cell? ⟨R, 0, none⟩ = some (.pointer (some ⟨a0, 0, none⟩)) := by rw [hp.o.cell 0]; show some (pv (r.s0 == 1) a0) = _; rw [hs]; rfl
   have HO := Lib.hid (hp.ka0 hs)
   have HIS := Lib.hid (sizeSec ok.o0)
   have HSE := Lib.hid (kseal_any r.o0 num u A1 n1 c1 more A2 n2 c2 text w ok.o0 hu hu2 r1 m1 q1 k1 r2 m2 q2 k2)
   have HV : Hid (r.sealR 0 u more text = Ky.sealW r.o0 u more text) := by unfold Hid Ky.Rg.sealR; rw [has_0 hs]; rfl
   have HM : Hid ((Ky.sealW r.o0 u more text).length = n2 + 16) := by unfold Hid Ky.sealW; rw [Gc.sealT_len, m2]
   rw [HV.out, HM.out]
   clear hp ok hs r1 m1 q1 k1 r2 m2 q2 k2 hn hu hu2
   go_enter Tryd.func24, Tryd.ntmps24
   go_wp2_with fail
   refine HH.out.mono ?_
   rintro e w' ⟨rfl, rfl⟩
   go_wp2_with fail
   refine HA.out.mono ?_
   rintro e w' ⟨rfl, rfl⟩
   go_wp2_with (first
    | (refine wpList_load_row rfl 29 (.tmp 21) rfl a0 rfl _ _ _ _ HO.out Tryd.underlying29 rfl HIS.out ?_))
   refine HSE.out.mono ?_
   rintro e w' ⟨v, rfl, ho, hb⟩
   have HR := Lib.hid (And.intro ho hb)
   clear ho hb
   go_wp2
   go_ret
   exact ⟨_, rfl, HR.out.1, HR.out.2⟩
  ·have HA := Lib.hid (at_any R 1 w)
   rw [atV_1] at HA
   rw [has_1 hs] at HH
   have y0 : w.cell? ⟨R, 4, none⟩ = some (.pointer (some ⟨a1, 0, none⟩)) := by rw [hp.o.cell 4]; show some (pv (r.s1 == 1) a1) = _; rw [hs]; rfl
   have HO := Lib.hid (hp.ka1 hs)
   have HIS := Lib.hid (sizeSec ok.o1)
   have HSE := Lib.hid (kseal_any r.o1 num u A1 n1 c1 more A2 n2 c2 text w ok.o1 hu hu2 r1 m1 q1 k1 r2 m2 q2 k2)
   have HV : Hid (r.sealR 1 u more text = Ky.sealW r.o1 u more text) := by unfold Hid Ky.Rg.sealR; rw [has_1 hs]; rfl
   have HM : Hid ((Ky.sealW r.o1 u more text).length = n2 + 16) := by unfold Hid Ky.sealW; rw [Gc.sealT_len, m2]
   rw [HV.out, HM.out]
   clear hp ok hs r1 m1 q1 k1 r2 m2 q2 k2 hn hu hu2
   go_enter Tryd.func24, Tryd.ntmps24
   go_wp2_with fail
   refine HH.out.mono ?_
   rintro e w' ⟨rfl, rfl⟩
   go_wp2_with fail
   refine HA.out.mono ?_
   rintro e w' ⟨rfl, rfl⟩
   go_wp2_with (first
    | (refine wpList_load_row rfl 29 (.tmp 21) rfl a1 rfl _ _ _ _ HO.out Tryd.underlying29 rfl HIS.out ?_))
   refine HSE.out.mono ?_
   rintro e w' ⟨v, rfl, ho, hb⟩
   have HR := Lib.hid (And.intro ho hb)
   clear ho hb
   go_wp2
   go_ret
   exact ⟨_, rfl, HR.out.1, HR.out.2⟩
 ·have hn' : r.has n = false := by simpa using hn
  have HV : Hid (r.sealR n u more text = []) := by unfold Hid Ky.Rg.sealR; rw [hn']; rfl
  rw [hn'] at HH
  rw [HV.out]
  clear h hn hn' r1 m1 q1 k1 r2 m2 q2 k2 hu hu2
  go_enter Tryd.func24, Tryd.ntmps24
  go_wp2_with fail
  refine HH.out.mono ?_
  rintro e w' ⟨rfl, rfl⟩
  go_wp2
  go_ret
  exact ⟨_, rfl, World.ownsRow_nil _ _ _ _, Below.refl _ _⟩
set_option maxHeartbeats 8000000 in
theorem rgopen_fr (R : Nat) (r : Ky.Rg) (n num : Int) (ph : Bool) (u : Nat) (A1 : Option Addr) (n1 c1 : Nat) (more : List Nat) (A2 : Option Addr) (n2 c2 : Nat) (text : List Nat) (w : World) (hu : IntKind.u64.wrap num = (u : Int)) (hu2 : u < 18446744073709551616) (r1 : Rd w A1 more) (m1 : more.length = n1) (q1 : Ae.bytes more) (k1 : n1 ≤ 100000 ∧ n1 ≤ c1 ∧ c1 ≤ 9223372036854775807) (r2 : Rd w A2 text) (m2 : text.length = n2) (q2 : Ae.bytes text) (k2 : n2 ≤ 100000 ∧ n2 ≤ c2 ∧ c2 ≤ 9223372036854775807) (ht : KTab w) (h : RgP R r w) :
  Calls Tryd.prog 17 #[.pointer (some ⟨R, 0, none⟩), .int .i64 n, .bool ph, .int .i64 num, .slice A1 n1 c1, .slice A2 n2 c2] w fun e w' => ∃ A m c, e = .returned (.tuple #[.slice A m c, .int .i64 ((r.opn n ph u more text).1.1 : Int)]) ∧ Rd w' A (r.opn n ph u more text).1.2 ∧ (r.opn n ph u more text).1.2.length = m ∧ m ≤ c ∧ RgP R (r.opn n ph u more text).2 w' ∧ Upd R w w' ∧ Fr w.heap.size A := by
 have HH := Lib.hid (has_any R r n w h)
 have HRG : Hid (∀ W, Below w.heap.size w W → RgP R r W) := fun W hb => h.kept hb
 by_cases hn : r.has n = true
 ·obtain ⟨ok, a0, b0, a1, b1, cc1, hp⟩ := h
  rcases has_cases hn with ⟨rfl, hs⟩ | ⟨rfl, hs⟩
  ·have HA := Lib.hid (at_any R 0 w)
   rw [atV_0] at HA
   rw [hn] at HH
   have y1 : w.cell? ⟨R, 1, none⟩ = some (.pointer (some ⟨b0, 0, none⟩)) := by rw [hp.o.cell 1]; show some (pv (r.s0 == 1) b0) = _; rw [hs]; rfl
   have HO := Lib.hid (hp.kb0 hs)
   have HIS := Lib.hid (sizeSec ok.p0)
   obtain ⟨E, hE⟩ : ∃ E, (Ky.open' r.p0 u more text).1 = E := ⟨_, rfl⟩
   obtain ⟨t, htt⟩ : ∃ t, (Ky.open' r.p0 u more text).2 = t := ⟨_, rfl⟩
   have HOP : Hid (Calls Tryd.prog 11 #[.agg (secV r.p0), .int .i64 num, .slice A1 n1 c1, .slice A2 n2 c2] w fun e w' => ∃ A n c, e = .returned (.tuple #[.slice A n c, .int .i64 (E : Int)]) ∧ Rd w' A t ∧ t.length = n ∧ n ≤ c ∧ Below w.heap.size w w' ∧ Fr w.heap.size A) := by
    have hb := Below.refl w.heap.size w
    rw [← hE, ← htt]; exact kopen_fr r.p0 num u A1 n1 c1 more A2 n2 c2 text w ok.p0 hu hu2 (r1.below hb) m1 q1 k1 (r2.below hb) m2 q2 k2
   have HV : Hid (r.opn 0 ph u more text = ((E, t), r)) := by unfold Hid Ky.Rg.opn; rw [if_pos hn, if_pos rfl, ← hE, ← htt]
   clear hp ok hs r1 m1 q1 k1 r2 m2 q2 k2 hn hu hu2 hE htt ht
   go_enter Tryd.func17, Tryd.ntmps17
   go_wp2_with fail
   refine HH.out.mono ?_
   rintro e w' ⟨rfl, rfl⟩
   go_wp2_with fail
   refine HA.out.mono ?_
   rintro e w' ⟨rfl, rfl⟩
   go_wp2_with (first
    | (refine wpList_load_row rfl 29 (.tmp 43) rfl b0 rfl _ _ _ _ HO.out Tryd.underlying29 rfl HIS.out ?_))
   refine HOP.out.mono ?_
   rintro e x1 ⟨A3, m3, c3, rfl, hr3, hl3, hc3, hx1, hf3⟩
   have HFR := Lib.hid hf3
   clear hf3
   have HF4 : Hid (RgP R r x1 ∧ Upd R w x1 ∧ Rd x1 A3 t ∧ t.length = m3) := ⟨HRG.out _ hx1, Upd.of_below hx1 R, hr3, hl3⟩
   clear hx1 hr3 hl3
   go_wp2
   refine bodyPost_ret (results_tmp2 rfl _ _ _) rfl ?_
   rw [HV.out]
   exact ⟨_, _, _, rfl, HF4.out.2.2.1, HF4.out.2.2.2, hc3, HF4.out.1, HF4.out.2.1, HFR.out⟩
  ·have HA := Lib.hid (at_any R 1 w)
   rw [atV_1] at HA
   rw [hn] at HH
   have y5 : w.cell? ⟨R, 5, none⟩ = some (.pointer (some ⟨b1, 0, none⟩)) := by rw [hp.o.cell 5]; show some (pv (r.s1 == 1) b1) = _; rw [hs]; rfl
   have y60 := (hp.kb1 hs).secP ok.p1
   by_cases hph : ph = r.p1.ph
   ·have HO := Lib.hid (hp.kb1 hs)
    have HIS := Lib.hid (sizeSec ok.p1)
    obtain ⟨E, hE⟩ : ∃ E, (Ky.open' r.p1 u more text).1 = E := ⟨_, rfl⟩
    obtain ⟨t, htt⟩ : ∃ t, (Ky.open' r.p1 u more text).2 = t := ⟨_, rfl⟩
    have HOP : Hid (Calls Tryd.prog 11 #[.agg (secV r.p1), .int .i64 num, .slice A1 n1 c1, .slice A2 n2 c2] w fun e w' => ∃ A n c, e = .returned (.tuple #[.slice A n c, .int .i64 (E : Int)]) ∧ Rd w' A t ∧ t.length = n ∧ n ≤ c ∧ Below w.heap.size w w' ∧ Fr w.heap.size A) := by
     have hb := Below.refl w.heap.size w
     rw [← hE, ← htt]; exact kopen_fr r.p1 num u A1 n1 c1 more A2 n2 c2 text w ok.p1 hu hu2 (r1.below hb) m1 q1 k1 (r2.below hb) m2 q2 k2
    have HV : Hid (r.opn 1 ph u more text = ((E, t), r)) := by unfold Hid Ky.Rg.opn; rw [if_pos hn, if_neg (by decide), if_pos hph, ← hE, ← htt]
    have hpq : (ph == r.p1.ph) = true := by rw [hph]; simp
    rw [← hph] at y60
    clear hp ok hs r1 m1 q1 k1 r2 m2 q2 k2 hn hu hu2 hE htt ht
    go_enter Tryd.func17, Tryd.ntmps17
    go_wp2_with fail
    refine HH.out.mono ?_
    rintro e w' ⟨rfl, rfl⟩
    go_wp2_with fail
    refine HA.out.mono ?_
    rintro e w' ⟨rfl, rfl⟩
    go_wp2_with (first
     | (refine wpList_load_row rfl 29 (.tmp 43) rfl b1 rfl _ _ _ _ HO.out Tryd.underlying29 rfl HIS.out ?_))
    refine HOP.out.mono ?_
    rintro e x1 ⟨A3, m3, c3, rfl, hr3, hl3, hc3, hx1, hf3⟩
    have HFR := Lib.hid hf3
    clear hf3
    have HF4 : Hid (RgP R r x1 ∧ Upd R w x1 ∧ Rd x1 A3 t ∧ t.length = m3) := ⟨HRG.out _ hx1, Upd.of_below hx1 R, hr3, hl3⟩
    clear hx1 hr3 hl3
    go_wp2
    refine bodyPost_ret (results_tmp2 rfl _ _ _) rfl ?_
    rw [HV.out]
    exact ⟨_, _, _, rfl, HF4.out.2.2.1, HF4.out.2.2.2, hc3, HF4.out.1, HF4.out.2.1, HFR.out⟩
   ·obtain ⟨EN, hEN⟩ : ∃ E, (Ky.open' (Ky.upd r.p1) u more text).1 = E := ⟨_, rfl⟩
    obtain ⟨tN, htN⟩ : ∃ t, (Ky.open' (Ky.upd r.p1) u more text).2 = t := ⟨_, rfl⟩
    obtain ⟨EQ, hEQ⟩ : ∃ E, (Ky.open' r.q u more text).1 = E := ⟨_, rfl⟩
    obtain ⟨tQ, htQ⟩ : ∃ t, (Ky.open' r.q u more text).2 = t := ⟨_, rfl⟩
    have HON : Hid (∀ W, Below w.heap.size w W → Calls Tryd.prog 11 #[.agg (secV (Ky.upd r.p1)), .int .i64 num, .slice A1 n1 c1, .slice A2 n2 c2] W fun e w' => ∃ A n c, e = .returned (.tuple #[.slice A n c, .int .i64 (EN : Int)]) ∧ Rd w' A tN ∧ tN.length = n ∧ n ≤ c ∧ Below W.heap.size W w' ∧ Fr W.heap.size A) := fun W hb => by
     rw [← hEN, ← htN]; exact kopen_fr (Ky.upd r.p1) num u A1 n1 c1 more A2 n2 c2 text W (Ky.upd_ok _) hu hu2 (r1.below hb) m1 q1 k1 (r2.below hb) m2 q2 k2
    have HOQ : Hid (∀ W, Below w.heap.size w W → Calls Tryd.prog 11 #[.agg (secV r.q), .int .i64 num, .slice A1 n1 c1, .slice A2 n2 c2] W fun e w' => ∃ A n c, e = .returned (.tuple #[.slice A n c, .int .i64 (EQ : Int)]) ∧ Rd w' A tQ ∧ tQ.length = n ∧ n ≤ c ∧ Below W.heap.size W w' ∧ Fr W.heap.size A) := fun W hb => by
     rw [← hEQ, ← htQ]; exact kopen_fr r.q num u A1 n1 c1 more A2 n2 c2 text W ok.q hu hu2 (r1.below hb) m1 q1 k1 (r2.below hb) m2 q2 k2
    have HUP : Hid (∀ W, Below w.heap.size w W → Calls Tryd.prog 16 #[.agg (secV r.p1)] W fun e w' => e = .returned (.agg (secV (Ky.upd r.p1))) ∧ Below W.heap.size W w') := fun W hb => update_any r.p1 W (ht.below hb) ok.p1
    have HB1 : Hid (∀ W, Below w.heap.size w W → Obj W b1 29 (secV r.p1)) := fun W hb => (hp.kb1 hs).kept hb
    have HQ1 : Hid (r.ho = true → Obj w cc1 29 (secV r.q)) := hp.kc1
    have HIB := Lib.hid (sizeSec ok.p1)
    have HIQ := Lib.hid (sizeSec ok.q)
    have HTU : Hid (∀ W, Below w.heap.size w W → Calls Tryd.prog 21 #[.pointer (some ⟨R, 0, none⟩)] W fun e w' => e = .returned (.bool true) ∧ RgP R r.turn w' ∧ Upd R W w') := fun W hb => by
     have := kturn_any R r W (ht.below hb) (HRG.out W hb)
     rwa [hn, if_pos rfl] at this
    have HRK : Hid (∀ W W' A l, Below w.heap.size w W → Upd R W W' → Rd W A l → Rd W' A l) := fun W W' A l hb hu hr => rd_ring hr (hp.kept hb) hu
    have y6 : w.cell? ⟨R, 6, none⟩ = some (pv r.ho cc1) := hp.o.cell 6
    have HY : Hid (∀ W, Below w.heap.size w W → W.cell? ⟨R, 5, none⟩ = some (.pointer (some ⟨b1, 0, none⟩))) := fun W hb => by rw [(hp.kept hb).o.cell 5]; show some (pv (r.s1 == 1) b1) = _; rw [hs]; rfl
    have HV : Hid (r.opn 1 ph u more text = if r.ho = true ∧ EQ = 0 then ((EQ, tQ), r) else ((EN, tN), if EN = 0 then r.turn else r)) := by
     unfold Hid Ky.Rg.opn; rw [if_pos hn, if_neg (by decide), if_neg hph, ← hEN, ← htN, ← hEQ, ← htQ]
    have hpq : (ph == r.p1.ph) = false := by simpa using hph
    clear hp ok hs r1 m1 q1 k1 r2 m2 q2 k2 hn hu hu2 hEN htN hEQ htQ ht hph
    generalize r.p1.ph = pp at *
    cases hho : r.ho
    ·rw [hho] at y6
     have HRES0 : Hid (EN = 0 → r.opn 1 ph u more text = ((EN, tN), r.turn)) := fun e => by rw [HV.out, if_neg (by rw [hho]; simp), if_pos e]
     have HRES1 : Hid (¬ EN = 0 → r.opn 1 ph u more text = ((EN, tN), r)) := fun e => by rw [HV.out, if_neg (by rw [hho]; simp), if_neg e]
     have hpv : pv false cc1 = .pointer none := rfl
     have HX : Hid (True ∧ Below w.heap.size w w) := ⟨trivial, Below.refl _ _⟩
     clear HV hho HQ1 HOQ HIQ
     go_enter Tryd.func17, Tryd.ntmps17
     go_wp2_with fail
     refine HH.out.mono ?_
     rintro e w' ⟨rfl, rfl⟩
     go_wp2_with fail
     refine HA.out.mono ?_
     rintro e w' ⟨rfl, rfl⟩
     go_wp2_with (first
      | (refine wpList_load_row rfl 29 (.tmp 78) rfl b1 rfl _ _ _ _ (HB1.out _ HX.out.2) Tryd.underlying29 rfl HIB.out ?_))
     refine (HUP.out _ HX.out.2).mono ?_
     rintro e x2 ⟨rfl, hx2⟩
     have HX2 := Lib.hid (HX.out.2.trans (hx2.mono HX.out.2.size))
     clear hx2
     go_wp2_with fail
     refine (HON.out _ HX2.out).mono ?_
     rintro e x3 ⟨A3, m3, c3, rfl, hr3, hl3, hc3, hx3, hf3⟩
     have HFR := Lib.hid (hf3.mono HX2.out.size)
     clear hf3
     have HX3 := Lib.hid (HX2.out.trans (hx3.mono HX2.out.size))
     have HR3 := Lib.hid hr3
     have HL3 := Lib.hid hl3
     clear hx3 hr3 hl3 HX2
     by_cases hE : EN = 0
     ·subst hE
      have HRV := Lib.hid (HRES0.out rfl)
      go_wp2_with fail
      refine (HTU.out _ HX3.out).mono ?_
      rintro e x4 ⟨rfl, hg4, hu4⟩
      have HF4 : Hid (RgP R r.turn x4 ∧ Upd R w x4 ∧ Rd x4 A3 tN) := ⟨hg4, (Upd.of_below HX3.out R).trans hu4, HRK.out _ _ _ _ HX3.out hu4 HR3.out⟩
      clear hg4 hu4
      go_wp2
      refine bodyPost_ret (results_tmp2 rfl _ _ _) rfl ?_
      rw [HRV.out]
      exact ⟨_, _, _, rfl, HF4.out.2.2, HL3.out, hc3, HF4.out.1, HF4.out.2.1, HFR.out⟩
     ·have hEi : ¬ (EN : Int) = 0 := by omega
      have HRV := Lib.hid (HRES1.out hE)
      clear hE
      have HF4 : Hid (RgP R r x3 ∧ Upd R w x3) := ⟨HRG.out _ HX3.out, Upd.of_below HX3.out R⟩
      go_wp2
      refine bodyPost_ret (results_tmp2 rfl _ _ _) rfl ?_
      rw [HRV.out]
      exact ⟨_, _, _, rfl, HR3.out, HL3.out, hc3, HF4.out.1, HF4.out.2, HFR.out⟩
    ·have HQO := Lib.hid (HQ1.out hho)
     rw [hho] at y6
     have hpv : pv true cc1 = .pointer (some ⟨cc1, 0, none⟩) := rfl
     go_enter Tryd.func17, Tryd.ntmps17
     go_wp2_with fail
     refine HH.out.mono ?_
     rintro e w' ⟨rfl, rfl⟩
     go_wp2_with fail
     refine HA.out.mono ?_
     rintro e w' ⟨rfl, rfl⟩
     go_wp2_with (first
      | (refine wpList_load_row rfl 29 (.tmp 61) rfl cc1 rfl _ _ _ _ HQO.out Tryd.underlying29 rfl HIQ.out ?_))
     refine (HOQ.out _ (Below.refl _ _)).mono ?_
     rintro e x1 ⟨A3, m3, c3, rfl, hr3, hl3, hc3, hx1, hf3⟩
     have HFR := Lib.hid hf3
     clear hf3
     by_cases hE : EQ = 0
     ·have HRV : Hid (r.opn 1 ph u more text = ((EQ, tQ), r)) := by unfold Hid; rw [HV.out, if_pos ⟨hho, hE⟩]
      have HF4 : Hid (RgP R r x1 ∧ Upd R w x1 ∧ Rd x1 A3 tQ ∧ tQ.length = m3) := ⟨HRG.out _ hx1, Upd.of_below hx1 R, hr3, hl3⟩
      clear hx1 hr3 hl3
      have hEi : (EQ : Int) = 0 := by omega
      go_wp2
      refine bodyPost_ret (results_tmp2 rfl _ _ _) rfl ?_
      rw [HRV.out, hE]
      exact ⟨_, _, _, rfl, HF4.out.2.2.1, HF4.out.2.2.2, hc3, HF4.out.1, HF4.out.2.1, HFR.out⟩
     ·have HRES0 : Hid (EN = 0 → r.opn 1 ph u more text = ((EN, tN), r.turn)) := fun e => by rw [HV.out, if_neg (by intro e2; exact hE e2.2), if_pos e]
      have HRES1 : Hid (¬ EN = 0 → r.opn 1 ph u more text = ((EN, tN), r)) := fun e => by rw [HV.out, if_neg (by intro e2; exact hE e2.2), if_neg e]
      have hEi : ¬ (EQ : Int) = 0 := by omega
      have HX : Hid (True ∧ Below w.heap.size w x1) := ⟨trivial, hx1⟩
      have y5' := HY.out _ hx1
      clear hx1 hr3 hl3 hc3 hE HV hho HQ1 HOQ HIQ
      go_wp2_with (first
       | (refine wpList_load_row rfl 29 (.tmp 78) rfl b1 rfl _ _ _ _ (HB1.out _ HX.out.2) Tryd.underlying29 rfl HIB.out ?_))
      refine (HUP.out _ HX.out.2).mono ?_
      rintro e x2 ⟨rfl, hx2⟩
      have HX2 := Lib.hid (HX.out.2.trans (hx2.mono HX.out.2.size))
      clear hx2
      go_wp2_with fail
      refine (HON.out _ HX2.out).mono ?_
      rintro e x3 ⟨A3, m3, c3, rfl, hr3, hl3, hc3, hx3, hf3⟩
      have HFR := Lib.hid (hf3.mono HX2.out.size)
      clear hf3
      have HX3 := Lib.hid (HX2.out.trans (hx3.mono HX2.out.size))
      have HR3 := Lib.hid hr3
      have HL3 := Lib.hid hl3
      clear hx3 hr3 hl3 HX2
      by_cases hE : EN = 0
      ·subst hE
       have HRV := Lib.hid (HRES0.out rfl)
       go_wp2_with fail
       refine (HTU.out _ HX3.out).mono ?_
       rintro e x4 ⟨rfl, hg4, hu4⟩
       have HF4 : Hid (RgP R r.turn x4 ∧ Upd R w x4 ∧ Rd x4 A3 tN) := ⟨hg4, (Upd.of_below HX3.out R).trans hu4, HRK.out _ _ _ _ HX3.out hu4 HR3.out⟩
       clear hg4 hu4
       go_wp2
       refine bodyPost_ret (results_tmp2 rfl _ _ _) rfl ?_
       rw [HRV.out]
       exact ⟨_, _, _, rfl, HF4.out.2.2, HL3.out, hc3, HF4.out.1, HF4.out.2.1, HFR.out⟩
      ·have hEi : ¬ (EN : Int) = 0 := by omega
       have HRV := Lib.hid (HRES1.out hE)
       clear hE
       have HF4 : Hid (RgP R r x3 ∧ Upd R w x3) := ⟨HRG.out _ HX3.out, Upd.of_below HX3.out R⟩
       go_wp2
       refine bodyPost_ret (results_tmp2 rfl _ _ _) rfl ?_
       rw [HRV.out]
       exact ⟨_, _, _, rfl, HR3.out, HL3.out, hc3, HF4.out.1, HF4.out.2, HFR.out⟩
 ·have hn' : r.has n = false := by simpa using hn
  have HV : Hid (r.opn n ph u more text = ((8, []), r)) := by unfold Hid Ky.Rg.opn; rw [if_neg hn]
  have HR := Lib.hid h
  rw [hn'] at HH
  clear h hn hn' r1 m1 q1 k1 r2 m2 q2 k2 hu hu2 ht
  go_enter Tryd.func17, Tryd.ntmps17
  go_wp2_with fail
  refine HH.out.mono ?_
  rintro e w' ⟨rfl, rfl⟩
  go_wp2
  refine bodyPost_ret (results_tmp2 rfl _ _ _) rfl ?_
  rw [HV.out]
  exact ⟨_, _, _, rfl, Rd.nil _ _, rfl, Nat.le_refl _, HR.out, Upd.refl _ _, .inl rfl⟩
theorem rgopen_any (R : Nat) (r : Ky.Rg) (n num : Int) (ph : Bool) (u : Nat) (A1 : Option Addr) (n1 c1 : Nat) (more : List Nat) (A2 : Option Addr) (n2 c2 : Nat) (text : List Nat) (w : World) (hu : IntKind.u64.wrap num = (u : Int)) (hu2 : u < 18446744073709551616) (r1 : Rd w A1 more) (m1 : more.length = n1) (q1 : Ae.bytes more) (k1 : n1 ≤ 100000 ∧ n1 ≤ c1 ∧ c1 ≤ 9223372036854775807) (r2 : Rd w A2 text) (m2 : text.length = n2) (q2 : Ae.bytes text) (k2 : n2 ≤ 100000 ∧ n2 ≤ c2 ∧ c2 ≤ 9223372036854775807) (ht : KTab w) (h : RgP R r w) :
  Calls Tryd.prog 17 #[.pointer (some ⟨R, 0, none⟩), .int .i64 n, .bool ph, .int .i64 num, .slice A1 n1 c1, .slice A2 n2 c2] w fun e w' => ∃ A m c, e = .returned (.tuple #[.slice A m c, .int .i64 ((r.opn n ph u more text).1.1 : Int)]) ∧ Rd w' A (r.opn n ph u more text).1.2 ∧ (r.opn n ph u more text).1.2.length = m ∧ m ≤ c ∧ RgP R (r.opn n ph u more text).2 w' ∧ Upd R w w' :=
 (rgopen_fr R r n num ph u A1 n1 c1 more A2 n2 c2 text w hu hu2 r1 m1 q1 k1 r2 m2 q2 k2 ht h).mono fun e w' ⟨A, m, c, h1, h2, h3, h4, h5, h6, _⟩ => ⟨A, m, c, h1, h2, h3, h4, h5, h6⟩
end Go.Proofs.YtabfcaidioohfaaDoor
namespace Go.Ky
open List (getElem?_toArray getElem?_cons_zero getElem?_cons_succ setIfInBounds_toArray set_cons_zero set_cons_succ)
open Go.Proofs.YtabfcaidioohfaaDoor Go.RowKit Go
def zsec : Sec := ⟨List.replicate 16 0, List.replicate 12 0, List.replicate 32 0, false⟩
theorem zsec_ok : zsec.Ok := ⟨rfl, rfl, rfl, Gc.zeros_bytes _, Gc.zeros_bytes _, Gc.zeros_bytes _⟩
/-- A ring without keys. -/
def rg0 : Rg := ⟨0, 0, zsec, zsec, zsec, zsec, zsec, false⟩
theorem rg0_ok : rg0.Ok := ⟨zsec_ok, zsec_ok, zsec_ok, zsec_ok, zsec_ok⟩
def cid3 : List Nat := [99, 105, 100]
def m1 : List Nat := [109]
def text4 : List Nat := [116, 101, 120, 116]
theorem first_ne : first1 cid3 ≠ first2 cid3 := by decide +kernel
theorem open_seal (s : Sec) (u : Nat) (more text : List Nat) : open' s u more (sealW s u more text) = (0, text) := Gc.openC_seal _ _ _ _
end Go.Ky
namespace Go.Proofs.YtabfcaidioohfaaDoor
open List (getElem?_toArray getElem?_cons_zero getElem?_cons_succ setIfInBounds_toArray set_cons_zero set_cons_succ)
open Go Go.RowKit Go.Shelf
set_option linter.unusedVariables false
set_option linter.unusedSimpArgs false
set_option maxRecDepth 100000
theorem u8_inj {x y : List Nat} (qx : Ae.bytes x) (qy : Ae.bytes y) : (x.map UInt8.ofNat == y.map UInt8.ofNat) = decide (x = y) := by
 rw [Bool.eq_iff_iff]
 simp only [beq_iff_eq, decide_eq_true_eq]
 have hm : ∀ l : List Nat, Ae.bytes l → (l.map UInt8.ofNat).map UInt8.toNat = l := fun l ql => by
  rw [List.map_map]
  conv => rhs; rw [← List.map_id l]
  refine List.map_congr_left fun c hc => ?_
  have := ql c hc
  show (UInt8.ofNat c).toNat = c
  rw [UInt8.toNat_ofNat', Nat.mod_eq_of_lt (by omega)]
 exact ⟨fun h => by rw [← hm x qx, h, hm y qy], fun h => by rw [h]⟩
/-- Two secrets, compared. -/
theorem eqIn32 (d : Nat) {x y : List Nat} (hx : x.length = 32) (hy : y.length = 32) (qx : Ae.bytes x) (qy : Ae.bytes y) (w : World) :
  (Op.equalIn (d + 2) 23 (.agg (cellsN x)) (.agg (cellsN y))).run Tryd.prog w = .ok (decide (x = y)) w := by
 rw [cellsN_u8 qx, cellsN_u8 qy, run_equalIn_bytes w d 23 5 32 Tryd.underlying23 Tryd.underlying5 (fun w => by kernel_rfl) _ _ (by simpa using hx) (by simpa using hy), u8_inj qx qy]
theorem neq32 {x y : List Nat} (hx : x.length = 32) (hy : y.length = 32) (qx : Ae.bytes x) (qy : Ae.bytes y) (w : World) :
  (binOp .neq 23 (.agg (cellsN x)) (.agg (cellsN y))).run Tryd.prog w = .ok (.bool (!decide (x = y))) w := by
 rw [run_neq_struct, eqIn32 9998 hx hy qx qy]; rfl
theorem newring_any (w : World) : Calls Tryd.prog 25 #[] w fun e w' => e = .returned (.pointer (some ⟨w.heap.size, 0, none⟩)) ∧ RgP w.heap.size Ky.rg0 w' ∧ Below w.heap.size w w' := by
 have HF : Hid (RgP w.heap.size Ky.rg0 (w.alloc (.cells #[.pointer none, .pointer none, .pointer none, .bool false, .pointer none, .pointer none, .pointer none, .bool false] 85)) ∧ Below w.heap.size w (w.alloc (.cells #[.pointer none, .pointer none, .pointer none, .bool false, .pointer none, .pointer none, .pointer none, .bool false] 85))) :=
  ⟨⟨Ky.rg0_ok, 0, 0, 0, 0, 0, Obj.new w _ _, (fun e => absurd (show (0 : Nat) = 1 from e) (by decide)), (fun e => absurd (show (0 : Nat) = 1 from e) (by decide)), (fun e => absurd (show (0 : Nat) = 1 from e) (by decide)), (fun e => absurd (show (0 : Nat) = 1 from e) (by decide)), fun e => absurd (show false = true from e) (by decide)⟩, (Below.refl _ w).alloc (Nat.le_refl _) _⟩
 go_enter Tryd.func25, Tryd.ntmps25
 go_wp2
 go_ret
 exact ⟨rfl, HF.out⟩
/-- What alive holds: two secrets, two rings. -/
structure AlI (w : World) (Ca Ra Rb : Nat) (L1 L2 : List Nat) (ra rb : Ky.Rg) (V : World) : Prop where
 c1 : Obj V Ca 23 (cellsN L1)
 c2 : Obj V (Ca + 1) 23 (cellsN L2)
 pa : RgP Ra ra V
 pb : RgP Rb rb V
 bel : Below w.heap.size w V
theorem AlI.kept {w V V' : World} {Ca Ra Rb : Nat} {L1 L2 : List Nat} {ra rb : Ky.Rg} (h : AlI w Ca Ra Rb L1 L2 ra rb V) (hb : Below V.heap.size V V') : AlI w Ca Ra Rb L1 L2 ra rb V' :=
 ⟨h.c1.kept hb, h.c2.kept hb, h.pa.kept hb, h.pb.kept hb, h.bel.trans (hb.mono h.bel.size)⟩
theorem AlI.updA {w V V' : World} {Ca Ra Rb : Nat} {L1 L2 : List Nat} {ra rb ra' : Ky.Rg} (h : AlI w Ca Ra Rb L1 L2 ra rb V) (hu : Upd Ra V V') (hp : RgP Ra ra' V') (hw : w.heap.size ≤ Ra) (hne : Rb ≠ Ra) : AlI w Ca Ra Rb L1 L2 ra' rb V' := by
 obtain ⟨cs, ho⟩ := h.pa.obj
 exact ⟨h.c1.upd hu (h.c1.ne_type ho (by decide)), h.c2.upd hu (h.c2.ne_type ho (by decide)), hp, h.pb.upd hu ho hne (by decide), Upd.below h.bel hw hu⟩
theorem AlI.updB {w V V' : World} {Ca Ra Rb : Nat} {L1 L2 : List Nat} {ra rb rb' : Ky.Rg} (h : AlI w Ca Ra Rb L1 L2 ra rb V) (hu : Upd Rb V V') (hp : RgP Rb rb' V') (hw : w.heap.size ≤ Rb) (hne : Rb ≠ Ra) : AlI w Ca Ra Rb L1 L2 ra rb' V' := by
 obtain ⟨cs, ho⟩ := h.pb.obj
 exact ⟨h.c1.upd hu (h.c1.ne_type ho (by decide)), h.c2.upd hu (h.c2.ne_type ho (by decide)), h.pa.upd hu ho (fun e => hne e.symm) (by decide), hp, Upd.below h.bel hw hu⟩
section
variable {P : Program}
theorem wpList_load_roww {ops : Array Oper} {rest : List Oper} {o : Oper} {a : Act} {w : World} {Q : Exit → Act → World → Prop} (hw : Region.wanted o (yielded ops a.tmps) = true) (ty : TypeId) (x : Operand) (ho : o.op = .load ty x)
  (g : Nat) (hx : a.eval x = .pointer (some ⟨g, 0, none⟩)) (t : TypeId) (cs : Array Value) (fr : Nat × Nat) (d : TypeDesc) (hg : w.heap[g]? = some (.cells cs t fr))
  (hu : P.underlying ty = some d) (hd : (match d with | .struct _ | .array _ _ => true | _ => false) = true) (hi : (P.info? ty).map (·.size) = some cs.size)
  (h : wpList P ops Q rest (a.put o.dst (.agg cs)) w) : wpList P ops Q (o :: rest) a w :=
 wpList_step fun K hK => by rw [if_pos hw]; exact wp_load_row ty x ho g hx t cs fr d hg hu hd hi (hK _ _ h)
end
set_option maxHeartbeats 8000000 in
theorem alive_true (w : World) (ht : KTab w) : Calls Tryd.prog 9 #[] w fun e w' => e = .returned (.bool true) ∧ Below w.heap.size w w' := by
 obtain ⟨B, hB⟩ : ∃ B, w.heap.size = B := ⟨_, rfl⟩
 have HT : Hid (∀ W, Below w.heap.size w W → KTab W) := fun W hb => ht.below hb
 obtain ⟨L1, hL1⟩ : ∃ L, Ky.first1 Ky.cid3 = L := ⟨_, rfl⟩
 obtain ⟨L2, hL2⟩ : ∃ L, Ky.first2 Ky.cid3 = L := ⟨_, rfl⟩
 have l1 : L1.length = 32 := hL1 ▸ Ky.lab_len _ _ _
 have l2 : L2.length = 32 := hL2 ▸ Ky.lab_len _ _ _
 have q1 : Ae.bytes L1 := hL1 ▸ Ky.lab_bytes _ _ _
 have q2 : Ae.bytes L2 := hL2 ▸ Ky.lab_bytes _ _ _
 have hne : L1 ≠ L2 := by rw [← hL1, ← hL2]; exact Ky.first_ne
 have kcA := fun (C : Array Value) (n c : Nat) => conv_at w C n c B hB.symm
 obtain ⟨W1, hW1⟩ : ∃ W1, w.alloc (.cells #[.int .u8 99, .int .u8 105, .int .u8 100] 5 (3, 4)) = W1 := ⟨_, rfl⟩
 have b1 : Below w.heap.size w W1 := hW1 ▸ (Below.refl _ w).alloc (Nat.le_refl _) _
 have m1 : Rd W1 (some ⟨B, 0, none⟩) Ky.cid3 := hW1 ▸ lit_rd' w Ky.cid3 (3, 4) hB
 have HFI : Hid (Calls Tryd.prog 36 #[.slice (some ⟨B, 0, none⟩) 3 3] W1 fun e w' => e = .returned (.tuple #[.agg (cellsN L1), .agg (cellsN L2)]) ∧ Below W1.heap.size W1 w') := by
  rw [← hL1, ← hL2]
  exact first_any _ 3 3 Ky.cid3 W1 (HT.out _ b1) m1 rfl (by unfold Ae.bytes Ky.cid3; decide) (by decide)
 have HI1 := Lib.hid (sizeH32 l1)
 have HI2 := Lib.hid (sizeH32 l2)
 have HS1 : Hid ((Z32 : Array Value).size = (cellsN L1).size) := by unfold Hid; rw [cellsN_size, l1]; rfl
 have HS2 : Hid ((Z32 : Array Value).size = (cellsN L2).size) := by unfold Hid; rw [cellsN_size, l2]; rfl
 have HLQ : Hid ((L1.length = 32 ∧ L2.length = 32) ∧ Ae.bytes L1 ∧ Ae.bytes L2) := ⟨⟨l1, l2⟩, q1, q2⟩
 have HNE := Lib.hid (fun w => neq32 l1 l2 q1 q2 w)
 rw [show decide (L1 = L2) = false from decide_eq_false hne] at HNE
 have HW1 := Lib.hid hW1
 have HB1 := Lib.hid b1
 have HB := Lib.hid hB
 clear hL1 hL2 l1 l2 q1 q2 hne hW1 b1 m1 ht
 go_enter Tryd.func9, Tryd.ntmps9
 go_wp2_with fail
 rw [HW1.out]
 refine HFI.out.mono ?_
 rintro e w2 ⟨rfl, hb2⟩
 clear kcA
 obtain ⟨Ca, hCa⟩ : ∃ C, w2.heap.size = C := ⟨_, rfl⟩
 have hb2' := HB1.out.trans (hb2.mono HB1.out.size)
 have hBC : w.heap.size ≤ Ca := hCa ▸ hb2'.size
 obtain ⟨W3, hW3⟩ : ∃ W3, (w2.alloc (.cells Z32 23)).alloc (.cells Z32 23) = W3 := ⟨_, rfl⟩
 have o1 : Obj W3 Ca 23 Z32 := hW3 ▸ hCa ▸ (Obj.new w2 _ _).alloc _
 have o2 : Obj W3 (Ca + 1) 23 Z32 := hW3 ▸ hCa ▸ new2 w2 _ _ _
 have u4 : Upd Ca W3 (W3.setRow Ca (cellsN L1)) := (Upd.refl _ W3).row _
 have o4 : Obj (W3.setRow Ca (cellsN L1)) (Ca + 1) 23 Z32 := o2.upd u4 (by omega)
 have u5 : Upd (Ca + 1) (W3.setRow Ca (cellsN L1)) ((W3.setRow Ca (cellsN L1)).setRow (Ca + 1) (cellsN L2)) := (Upd.refl _ _).row _
 obtain ⟨W5, hW5⟩ : ∃ W5, (W3.setRow Ca (cellsN L1)).setRow (Ca + 1) (cellsN L2) = W5 := ⟨_, rfl⟩
 have HC1 : Hid (Obj W5 Ca 23 (cellsN L1)) := hW5 ▸ (o1.row (cellsN L1)).upd u5 (by omega)
 have HC2 : Hid (Obj W5 (Ca + 1) 23 (cellsN L2)) := hW5 ▸ o4.row (cellsN L2)
 have b3 : Below w.heap.size w W3 := hW3 ▸ (hb2'.alloc hb2'.size _).alloc (by simp; omega) _
 have HB5 : Hid (Below w.heap.size w W5) := hW5 ▸ Upd.below (Upd.below b3 hBC u4) (by omega) u5
 have HO1 := Lib.hid o1
 have HO4 := Lib.hid o4
 have HCA := Lib.hid hCa
 clear hb2 hb2' o1 o2 u4 o4 u5 b3
 go_wp2_with (first
  | (refine wpList_store_row rfl 23 (.tmp 1) (.tmp 17) rfl Ca _ rfl rfl _ _ HO1.out HI1.out HS1.out (one_cellsN _) ?_)
  | (refine wpList_store_row rfl 23 (.tmp 2) (.tmp 18) rfl (Ca + 1) _ rfl rfl _ _ HO4.out HI2.out HS2.out (one_cellsN _) ?_; rw [hW5])
  | fail)
 refine (newring_any W5).mono ?_
 rintro e w6 ⟨rfl, hp6, hb6⟩
 obtain ⟨Ra, hRa⟩ : ∃ R, W5.heap.size = R := ⟨_, rfl⟩
 rw [hRa] at hp6
 rw [hRa]
 go_wp2_with fail
 refine (newring_any w6).mono ?_
 rintro e w7 ⟨rfl, hp7, hb7⟩
 obtain ⟨Rb, hRb⟩ : ∃ R, w6.heap.size = R := ⟨_, rfl⟩
 rw [hRb] at hp7
 rw [hRb]
 have hRB : Rb ≠ Ra := by
  obtain ⟨cs, ho⟩ := hp6.obj
  have := ho.lt
  omega
 have hwa : w.heap.size ≤ Ra := hRa ▸ HB5.out.size
 have hwb : w.heap.size ≤ Rb := hRb ▸ (HB5.out.trans (hb6.mono HB5.out.size)).size
 have HI7 : Hid (AlI w Ca Ra Rb L1 L2 Ky.rg0 Ky.rg0 w7) := ⟨(HC1.out.kept hb6).kept hb7, (HC2.out.kept hb6).kept hb7, hp6.kept hb7, hp7, (HB5.out.trans (hb6.mono HB5.out.size)).trans (hb7.mono (HB5.out.trans (hb6.mono HB5.out.size)).size)⟩
 obtain ⟨ra1, hra1⟩ : ∃ r, Ky.rg0.set 0 L1 L2 = r := ⟨_, rfl⟩
 obtain ⟨rb1, hrb1⟩ : ∃ r, Ky.rg0.set 0 L2 L1 = r := ⟨_, rfl⟩
 obtain ⟨ra2, hra2⟩ : ∃ r, ra1.drop 0 = r := ⟨_, rfl⟩
 obtain ⟨X, hX⟩ : ∃ X, Ky.sealW (Ky.make L1 false) 5 Ky.m1 Ky.text4 = X := ⟨_, rfl⟩
 have lX : X.length = 20 := by rw [← hX]; exact Gc.sealT_len _ _ _ _
 have qm : Ae.bytes Ky.m1 := by unfold Ae.bytes Ky.m1; decide
 have qt : Ae.bytes Ky.text4 := by unfold Ae.bytes Ky.text4; decide
 have qX : Ae.bytes X := by rw [← hX]; exact Gc.sealT_bytes (Ky.make_ok L1 false).qk (Ky.nonce_bytes 5 (Ky.make_ok L1 false)) qt
 have HL0 : Hid (∀ V, RgP Ra Ky.rg0 V → Calls Tryd.prog 19 #[.pointer (some ⟨Ra, 0, none⟩)] V fun e w' => e = .returned (.int .i64 0) ∧ Below V.heap.size V w') := fun V hp => live_any Ra _ V hp
 have HL1' : Hid (∀ V, RgP Ra ra1 V → Calls Tryd.prog 19 #[.pointer (some ⟨Ra, 0, none⟩)] V fun e w' => e = .returned (.int .i64 2) ∧ Below V.heap.size V w') := fun V hp => by
  have := live_any Ra _ V hp
  rwa [← hra1] at this
 have HL2' : Hid (∀ V, RgP Ra ra2 V → Calls Tryd.prog 19 #[.pointer (some ⟨Ra, 0, none⟩)] V fun e w' => e = .returned (.int .i64 0) ∧ Below V.heap.size V w') := fun V hp => by
  have := live_any Ra _ V hp
  rwa [← hra2, ← hra1] at this
 have HSA : Hid (∀ V, Below w.heap.size w V → RgP Ra Ky.rg0 V → Calls Tryd.prog 23 #[.pointer (some ⟨Ra, 0, none⟩), .int .i64 0, .agg (cellsN L1), .agg (cellsN L2)] V fun e w' => e = .returned (.bool true) ∧ RgP Ra ra1 w' ∧ Upd Ra V w') := fun V hb hp => by
  have := set_any Ra Ky.rg0 0 L1 L2 V (HT.out V hb) hp (fun _ => rfl) HLQ.out.1.1 HLQ.out.2.1 HLQ.out.1.2 HLQ.out.2.2
  rwa [show Ky.rg0.fresh 0 = true from rfl, if_pos rfl, hra1] at this
 have HSB : Hid (∀ V, Below w.heap.size w V → RgP Rb Ky.rg0 V → Calls Tryd.prog 23 #[.pointer (some ⟨Rb, 0, none⟩), .int .i64 0, .agg (cellsN L2), .agg (cellsN L1)] V fun e w' => e = .returned (.bool true) ∧ RgP Rb rb1 w' ∧ Upd Rb V w') := fun V hb hp => by
  have := set_any Rb Ky.rg0 0 L2 L1 V (HT.out V hb) hp (fun _ => rfl) HLQ.out.1.2 HLQ.out.2.2 HLQ.out.1.1 HLQ.out.2.1
  rwa [show Ky.rg0.fresh 0 = true from rfl, if_pos rfl, hrb1] at this
 have HSC : Hid (∀ V, Below w.heap.size w V → RgP Ra ra2 V → Calls Tryd.prog 23 #[.pointer (some ⟨Ra, 0, none⟩), .int .i64 0, .agg (cellsN L1), .agg (cellsN L2)] V fun e w' => e = .returned (.bool false) ∧ RgP Ra ra2 w' ∧ Upd Ra V w') := fun V hb hp => by
  have := set_any Ra ra2 0 L1 L2 V (HT.out V hb) hp (fun _ => by rw [← hra2, ← hra1]; rfl) HLQ.out.1.1 HLQ.out.2.1 HLQ.out.1.2 HLQ.out.2.2
  have hf : ra2.fresh 0 = false := by rw [← hra2, ← hra1]; rfl
  rwa [hf, if_neg (by decide)] at this
 have HSE : Hid (∀ V S, Below w.heap.size w V → RgP Ra ra1 V → Rd V (some ⟨S + 1, 0, none⟩) Ky.m1 → Rd V (some ⟨S + 1 + 1, 0, none⟩) Ky.text4 → Calls Tryd.prog 24 #[.pointer (some ⟨Ra, 0, none⟩), .int .i64 0, .int .i64 5, .slice (some ⟨S + 1, 0, none⟩) 1 1, .slice (some ⟨S + 1 + 1, 0, none⟩) 4 4] V fun e w' => ∃ A c, e = .returned (.slice A 20 c) ∧ 20 ≤ c ∧ c ≤ 9223372036854775807 ∧ Rd w' A X ∧ Below V.heap.size V w') := fun V S hb hp r1 r2 =>
  (rgseal_any Ra ra1 0 5 5 _ 1 1 Ky.m1 _ 4 4 Ky.text4 V rfl (by decide) r1 rfl qm (by decide) r2 rfl qt (by decide) hp).mono fun e w' ⟨v, h1, h2, h3⟩ => by
   have hs : ra1.sealR 0 5 Ky.m1 Ky.text4 = X := by rw [← hra1, ← hX]; rfl
   rw [hs, lX] at h2
   obtain ⟨A, c, rfl, _, h4, h5, h6⟩ := own_cap h2
   exact ⟨A, c, h1, h4, h5, h6, h3⟩
 have HOB : Hid (∀ V S A c, Below w.heap.size w V → RgP Rb rb1 V → Rd V (some ⟨S, 0, none⟩) Ky.m1 → Rd V A X → 20 ≤ c → c ≤ 9223372036854775807 → Calls Tryd.prog 17 #[.pointer (some ⟨Rb, 0, none⟩), .int .i64 0, .bool false, .int .i64 5, .slice (some ⟨S, 0, none⟩) 1 1, .slice A 20 c] V fun e w' => ∃ A c, e = .returned (.tuple #[.slice A 4 c, .int .i64 0]) ∧ Rd w' A Ky.text4 ∧ RgP Rb rb1 w' ∧ Upd Rb V w') := fun V S A c hb hp r1 r2 h1 h2 =>
  (rgopen_any Rb rb1 0 5 false 5 _ 1 1 Ky.m1 A 20 c X V rfl (by decide) r1 rfl qm (by decide) r2 lX qX ⟨by omega, h1, h2⟩ (HT.out V hb) hp).mono fun e w' ⟨A', m, c', e1, h3, h4, h5, h6, h7⟩ => by
   have hs : rb1.opn 0 false 5 Ky.m1 X = ((0, Ky.text4), rb1) := by
    rw [← hX, ← Ky.open_seal (Ky.make L1 false) 5 Ky.m1 Ky.text4, ← hrb1]; rfl
   rw [hs] at e1 h3 h4 h6
   obtain rfl : 4 = m := h4
   exact ⟨A', c', e1, h3, h6, h7⟩
 have HDR : Hid (∀ V, RgP Ra ra1 V → Calls Tryd.prog 22 #[.pointer (some ⟨Ra, 0, none⟩), .int .i64 0] V fun e w' => e = .returned (.bool true) ∧ RgP Ra ra2 w' ∧ Upd Ra V w') := fun V hp => by
  have := drop_any Ra ra1 0 V hp
  have hh : ra1.has 0 = true := by rw [← hra1]; rfl
  rwa [hh, if_pos rfl, hra2] at this
 have HOA : Hid (∀ V, Below w.heap.size w V → RgP Ra ra2 V → Calls Tryd.prog 17 #[.pointer (some ⟨Ra, 0, none⟩), .int .i64 0, .bool false, .int .i64 5, .slice none 0 0, .slice none 0 0] V fun e w' => ∃ A m c, e = .returned (.tuple #[.slice A m c, .int .i64 8]) ∧ RgP Ra ra2 w' ∧ Upd Ra V w') := fun V hb hp =>
  (rgopen_any Ra ra2 0 5 false 5 none 0 0 [] none 0 0 [] V rfl (by decide) (Rd.nil _ _) rfl (fun x hx => by cases hx) (by decide) (Rd.nil _ _) rfl (fun x hx => by cases hx) (by decide) (HT.out V hb) hp).mono fun e w' ⟨A', m, c', e1, h3, h4, h5, h6, h7⟩ => by
   have hs : ra2.opn 0 false 5 [] [] = ((8, []), ra2) := by rw [← hra2, ← hra1]; rfl
   rw [hs] at e1 h6
   exact ⟨A', m, c', e1, h6, h7⟩
 clear hp6 hb6 hRa hp7 hb7 hRb HC1 HC2 HB5 hra1 hrb1 hra2 hX lX qm qt qX HO1 HO4 hW5 hW3 hCa HFI
 go_wp2_with fail
 refine (HL0.out _ HI7.out.pa).mono ?_
 rintro e w8 ⟨rfl, hb8⟩
 have HI8 := Lib.hid (HI7.out.kept hb8)
 clear hb8 HI7
 go_wp2_with (first
  | (refine wpList_load_row rfl 23 (.tmp 1) rfl Ca rfl _ _ _ _ HI8.out.c1 Tryd.underlying23 rfl HI1.out ?_)
  | (refine wpList_load_row rfl 23 (.tmp 2) rfl (Ca + 1) rfl _ _ _ _ HI8.out.c2 Tryd.underlying23 rfl HI2.out ?_))
 refine (HSA.out _ HI8.out.bel HI8.out.pa).mono ?_
 rintro e w9 ⟨rfl, hp9, hu9⟩
 have HI9 := Lib.hid (HI8.out.updA hu9 hp9 hwa hRB)
 clear hp9 hu9 HI8
 go_wp2_with (first
  | (refine wpList_load_roww (by rfl) 23 (.tmp 1) rfl Ca rfl _ _ _ _ HI9.out.c1 Tryd.underlying23 rfl HI1.out ?_)
  | (refine wpList_load_roww (by rfl) 23 (.tmp 2) rfl (Ca + 1) rfl _ _ _ _ HI9.out.c2 Tryd.underlying23 rfl HI2.out ?_))
 refine (HSB.out _ HI9.out.bel HI9.out.pb).mono ?_
 rintro e w10 ⟨rfl, hp10, hu10⟩
 have HI10 := Lib.hid (HI9.out.updB hu10 hp10 hwb hRB)
 clear hp10 hu10 HI9
 go_wp2_with fail
 refine (HL1'.out _ HI10.out.pa).mono ?_
 rintro e w11 ⟨rfl, hb11⟩
 have HI11 := Lib.hid (HI10.out.kept hb11)
 clear hb11 HI10
 obtain ⟨S, hS⟩ : ∃ S, w11.heap.size = S := ⟨_, rfl⟩
 have kcA := fun (C : Array Value) (n c : Nat) => conv_at w11 C n c S hS.symm
 have kcB := fun (C0 : Array Value) (fr : Nat × Nat) (C : Array Value) (n c : Nat) => conv_at (w11.alloc (.cells C0 5 fr)) C n c (S + 1) (by simp [hS])
 have kcC := fun (C0 C1 : Array Value) (fr fr1 : Nat × Nat) (C : Array Value) (n c : Nat) => conv_at ((w11.alloc (.cells C0 5 fr)).alloc (.cells C1 5 fr1)) C n c (S + 1 + 1) (by simp [hS])
 obtain ⟨w12, hw12⟩ : ∃ w12, ((w11.alloc (.cells #[.int .u8 109] 5 (1, 2))).alloc (.cells #[.int .u8 109] 5 (1, 2))).alloc (.cells #[.int .u8 116, .int .u8 101, .int .u8 120, .int .u8 116] 5 (4, 5)) = w12 := ⟨_, rfl⟩
 have k12 : Below w11.heap.size w11 w12 := hw12 ▸ (((Below.refl _ w11).alloc (Nat.le_refl _) _).alloc (by simp) _).alloc (by simp; omega) _
 have r0 : Rd w12 (some ⟨S, 0, none⟩) Ky.m1 := hw12 ▸ (lit_rd' w11 Ky.m1 (1, 2) hS).below (((Below.refl _ _).alloc (Nat.le_refl _) _).alloc (by simp) _)
 have r1 : Rd w12 (some ⟨S + 1, 0, none⟩) Ky.m1 := hw12 ▸ (lit_rd' (w11.alloc (.cells #[.int .u8 109] 5 (1, 2))) Ky.m1 (1, 2) (by simp [hS])).below ((Below.refl _ _).alloc (Nat.le_refl _) _)
 have r2 : Rd w12 (some ⟨S + 1 + 1, 0, none⟩) Ky.text4 := hw12 ▸ lit_rd' ((w11.alloc (.cells #[.int .u8 109] 5 (1, 2))).alloc (.cells #[.int .u8 109] 5 (1, 2))) Ky.text4 (4, 5) (by simp [hS])
 have HI12 := Lib.hid (HI11.out.kept k12)
 have HR0 := Lib.hid r0
 have HR1 := Lib.hid r1
 have HR2 := Lib.hid r2
 have HW12 := Lib.hid hw12
 clear k12 r0 r1 r2 hw12 HI11
 go_wp2_with fail
 rw [HW12.out]
 clear kcA kcB kcC hS
 refine (HSE.out _ S HI12.out.bel HI12.out.pa HR1.out HR2.out).mono ?_
 rintro e w13 ⟨A13, c13, rfl, h13a, h13b, hr13, hb13⟩
 have HI13 := Lib.hid (HI12.out.kept hb13)
 have HR13 := Lib.hid hr13
 have HR0' := Lib.hid (HR0.out.below hb13)
 clear hr13 hb13 HI12 HR0 HR1 HR2
 go_wp2_with fail
 refine (HOB.out _ S A13 c13 HI13.out.bel HI13.out.pb HR0'.out HR13.out h13a h13b).mono ?_
 rintro e w14 ⟨A14, c14, rfl, hr14, hp14, hu14⟩
 have HI14 := Lib.hid (HI13.out.updB hu14 hp14 hwb hRB)
 have HR14 := Lib.hid hr14
 clear hr14 hp14 hu14 HI13 HR13 HR0'
 go_wp2_with fail
 refine (HDR.out _ HI14.out.pa).mono ?_
 rintro e w15 ⟨rfl, hp15, hu15⟩
 have HR15 : Hid (Rd w15 A14 Ky.text4) := by
  obtain ⟨_, _, _, _, _, _, hq⟩ := HI14.out.pa
  exact rd_ring HR14.out hq hu15
 have HI15 := Lib.hid (HI14.out.updA hu15 hp15 hwa hRB)
 clear hp15 hu15 HI14 HR14
 go_wp2_with fail
 refine (HOA.out _ HI15.out.bel HI15.out.pa).mono ?_
 rintro e w16 ⟨A16, m16, c16, rfl, hp16, hu16⟩
 have HR16 : Hid (Rd w16 A14 Ky.text4) := by
  obtain ⟨_, _, _, _, _, _, hq⟩ := HI15.out.pa
  exact rd_ring HR15.out hq hu16
 have HI16 := Lib.hid (HI15.out.updA hu16 hp16 hwa hRB)
 clear hp16 hu16 HI15 HR15
 obtain ⟨bb, oo, rfl, hbb, hcc⟩ := HR16.out.some (by decide)
 have hst := str4 w16 bb oo c14 (hcc 0 (by decide)) (hcc 1 (by decide)) (hcc 2 (by decide)) (hcc 3 (by decide))
 have eqg := eqgH
 have hneq := HNE.out
 clear HR16 hcc hbb
 go_wp2_with fail
 refine (HL2'.out _ HI16.out.pa).mono ?_
 rintro e w17 ⟨rfl, hb17⟩
 have HI17 := Lib.hid (HI16.out.kept hb17)
 clear hb17 HI16 hst
 go_wp2_with (first
  | (refine wpList_load_roww (by rfl) 23 (.tmp 1) rfl Ca rfl _ _ _ _ HI17.out.c1 Tryd.underlying23 rfl HI1.out ?_)
  | (refine wpList_load_roww (by rfl) 23 (.tmp 2) rfl (Ca + 1) rfl _ _ _ _ HI17.out.c2 Tryd.underlying23 rfl HI2.out ?_))
 refine (HSC.out _ HI17.out.bel HI17.out.pa).mono ?_
 rintro e w18 ⟨rfl, hp18, hu18⟩
 have HI18 := Lib.hid (HI17.out.updA hu18 hp18 hwa hRB)
 clear hp18 hu18 HI17
 go_wp2
 go_ret
 exact ⟨rfl, HI18.out.bel⟩
end Go.Proofs.YtabfcaidioohfaaDoor
