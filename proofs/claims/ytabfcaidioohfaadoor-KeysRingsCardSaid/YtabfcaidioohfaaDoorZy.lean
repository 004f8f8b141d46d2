/- The document's ring: how it lies; its methods, walked. -/
import Derived.Test.YtabfcaidioohfaaDoorRows
import Derived.Test.YtabfcaidioohfaaDoorZp
import Derived.Test.YtabfcaidioohfaaDoorZa
import Derived.Test.YtabfcaidioohfaaDoorZs
import Derived.Test.YtabfcaidioohfaaDoorZu
import Derived.Test.YtabfcaidioohfaaDoorZk
import Derived.WalkKit
import Derived.Great.Walk
import Derived.OwnWalkIn
import Derived.LoopN
import Derived.LoopIn
import Derived.WalkSpells
import Derived.WalkLawsBesides
import Derived.Laws.Rows
import Derived.Laws.CopyOwn
import Derived.Handy
import Derived.BigQuiet
import Derived.Deep.QuietTactic
import Derived.Deep.MidRow
import Derived.Deep.RegionHeld3
import Derived.IntWalk
import Derived.Lib.Hide
import Derived.Test.YtabfcaidioohfaaDoorZi
import Derived.Test.YtabfcaidioohfaaDoorZj
import Derived.Test.YtabfcaidioohfaaDoorZl
import Derived.Test.YtabfcaidioohfaaDoorZh
import Derived.Test.YtabfcaidioohfaaDoorZw
namespace Go.Ky
open List (getElem?_toArray getElem?_cons_zero getElem?_cons_succ setIfInBounds_toArray set_cons_zero set_cons_succ)
open Go.Proofs.YtabfcaidioohfaaDoor
def Rg.sec (r : Rg) : Nat → Sec
 | 0 => r.o0
 | 1 => r.o1
 | 2 => r.p0
 | 3 => r.p1
 | _ => r.q
theorem Rg.Ok.sec {r : Rg} (h : r.Ok) (i : Nat) : (r.sec i).Ok := by
 unfold Rg.sec; split
 ·exact h.o0
 ·exact h.o1
 ·exact h.p0
 ·exact h.p1
 ·exact h.q
end Go.Ky
namespace Go.Proofs.YtabfcaidioohfaaDoor
open List (getElem?_toArray getElem?_cons_zero getElem?_cons_succ setIfInBounds_toArray set_cons_zero set_cons_succ)
open Go Go.RowKit Go.Shelf
set_option linter.unusedVariables false
set_option linter.unusedSimpArgs false
set_option maxRecDepth 100000
theorem rangeAt_sub {V : World} {b o k : Nat} {x y z : List Value} (h : V.rangeAt b o (x ++ (y ++ z))) (hk : x.length = k) : V.rangeAt b (o + k) y := fun j v hv => by
 have hj := (List.getElem?_eq_some_iff.1 hv).1
 have := h (k + j) v (by rw [List.getElem?_append_right (by omega), hk, Nat.add_sub_cancel_left, List.getElem?_append_left hj]; exact hv)
 rwa [← Nat.add_assoc] at this
theorem sec_nx {V : World} {b o : Nat} {s : Ky.Sec} (h : V.rangeAt b o (secL s)) (hs : s.Ok) : V.rangeAt b (o + 28) (s.nx.map u8v) := by
 have e : secL s = (s.k ++ s.iv).map u8v ++ (s.nx.map u8v ++ [.bool s.ph]) := by unfold secL Ky.Sec.l; simp
 rw [e] at h
 exact rangeAt_sub h (by rw [List.length_map, List.length_append, hs.lk, hs.li])
theorem sec_ph {V : World} {b o : Nat} {s : Ky.Sec} (h : V.rangeAt b o (secL s)) (hs : s.Ok) : V.cell? ⟨b, o + 60, none⟩ = some (.bool s.ph) :=
 h 60 _ (by unfold secL; rw [List.getElem?_append_right (by rw [List.length_map, hs.len]; exact Nat.le_refl _), List.length_map, hs.len]; rfl)
def setL (cur : Array Value) (o : Nat) : List Value → Array Value
 | [] => cur
 | v :: r => setL (cur.setIfInBounds o v) (o + 1) r
theorem setL_size : ∀ (vs : List Value) (cur : Array Value) (o : Nat), (setL cur o vs).size = cur.size
 | [], _, _ => rfl
 | v :: r, cur, o => by unfold setL; rw [setL_size r, Array.size_setIfInBounds]
theorem setL_out : ∀ (vs : List Value) (cur : Array Value) (o k : Nat), k < o ∨ o + vs.length ≤ k → (setL cur o vs)[k]? = cur[k]?
 | [], _, _, _, _ => rfl
 | v :: r, cur, o, k, h => by
  unfold setL
  rw [List.length_cons] at h
  rw [setL_out r _ _ k (by omega), Array.getElem?_setIfInBounds_ne (by omega)]
theorem setL_in : ∀ (vs : List Value) (cur : Array Value) (o j : Nat) (v : Value), o + vs.length ≤ cur.size → vs[j]? = some v → (setL cur o vs)[o + j]? = some v
 | [], _, _, _, _, _, h => by cases h
 | u :: r, cur, o, 0, v, hl, h => by
  unfold setL
  rw [List.length_cons] at hl
  show (setL (cur.setIfInBounds o u) (o + 1) r)[o]? = some v
  rw [setL_out r _ _ o (by omega), Array.getElem?_setIfInBounds_self_of_lt (by omega)]
  simpa using h
 | u :: r, cur, o, j + 1, v, hl, h => by
  unfold setL
  rw [List.length_cons] at hl
  rw [show o + (j + 1) = (o + 1) + j by omega]
  exact setL_in r _ _ j v (by rw [Array.size_setIfInBounds]; omega) (by simpa using h)
theorem obj_setL {b : Nat} {t : TypeId} : ∀ (vs : List Value) (o : Nat) (V : World) (cs : Array Value), Obj V b t cs → Obj (V.setCells b o vs) b t (setL cs o vs)
 | [], _, _, cs, h => h
 | v :: r, o, V, cs, h => by
  rw [World.setCells]
  exact obj_setL r (o + 1) _ _ (h.set o v)
structure RC (cur : Array Value) (a b : Nat) (f : Nat → Ky.Sec) (h : Bool) : Prop where
 sz : cur.size = 369
 c0 : cur[0]? = some (.int .i64 (a : Int))
 c1 : cur[1]? = some (.int .i64 (b : Int))
 rs : ∀ i, i < 6 → i ≠ 4 → ∀ j v, (secL (f i))[j]? = some v → cur[2 + i * 61 + j]? = some v
 ch : cur[368]? = some (.bool h)
 ok : ∀ i, i < 6 → i ≠ 4 → (f i).Ok
theorem RC.set0 {cur : Array Value} {a b : Nat} {f : Nat → Ky.Sec} {h : Bool} (H : RC cur a b f h) (a' : Nat) : RC (cur.setIfInBounds 0 (.int .i64 (a' : Int))) a' b f h :=
 ⟨by rw [Array.size_setIfInBounds]; exact H.sz, by rw [Array.getElem?_setIfInBounds_self_of_lt (by rw [H.sz]; decide)], by rw [Array.getElem?_setIfInBounds_ne (by decide)]; exact H.c1,
  fun i h1 h2 j v hv => by rw [Array.getElem?_setIfInBounds_ne (by omega)]; exact H.rs i h1 h2 j v hv, by rw [Array.getElem?_setIfInBounds_ne (by decide)]; exact H.ch, H.ok⟩
theorem RC.set1 {cur : Array Value} {a b : Nat} {f : Nat → Ky.Sec} {h : Bool} (H : RC cur a b f h) (b' : Nat) : RC (cur.setIfInBounds 1 (.int .i64 (b' : Int))) a b' f h :=
 ⟨by rw [Array.size_setIfInBounds]; exact H.sz, by rw [Array.getElem?_setIfInBounds_ne (by decide)]; exact H.c0, by rw [Array.getElem?_setIfInBounds_self_of_lt (by rw [H.sz]; decide)],
  fun i h1 h2 j v hv => by rw [Array.getElem?_setIfInBounds_ne (by omega)]; exact H.rs i h1 h2 j v hv, by rw [Array.getElem?_setIfInBounds_ne (by decide)]; exact H.ch, H.ok⟩
theorem RC.setH {cur : Array Value} {a b : Nat} {f : Nat → Ky.Sec} {h : Bool} (H : RC cur a b f h) (h' : Bool) : RC (cur.setIfInBounds 368 (.bool h')) a b f h' :=
 ⟨by rw [Array.size_setIfInBounds]; exact H.sz, by rw [Array.getElem?_setIfInBounds_ne (by decide)]; exact H.c0, by rw [Array.getElem?_setIfInBounds_ne (by decide)]; exact H.c1,
  fun i h1 h2 j v hv => by
   have hj := (List.getElem?_eq_some_iff.1 hv).1
   rw [secL_len (H.ok i h1 h2)] at hj
   rw [Array.getElem?_setIfInBounds_ne (by omega)]; exact H.rs i h1 h2 j v hv, by rw [Array.getElem?_setIfInBounds_self_of_lt (by rw [H.sz]; decide)], H.ok⟩
theorem RC.setS {cur : Array Value} {a b : Nat} {f : Nat → Ky.Sec} {h : Bool} (H : RC cur a b f h) {k : Nat} (hk : k < 6) {s : Ky.Sec} (hs : s.Ok) : RC (setL cur (2 + k * 61) (secL s)) a b (fun j => if j = k then s else f j) h := by
 have hl := secL_len hs
 refine ⟨by rw [setL_size]; exact H.sz, by rw [setL_out _ _ _ _ (by omega)]; exact H.c0, by rw [setL_out _ _ _ _ (by omega)]; exact H.c1, fun i h1 h2 j v hv => ?_, by rw [setL_out _ _ _ _ (by omega)]; exact H.ch, fun i h1 h2 => ?_⟩
 ·by_cases hik : i = k
  ·subst hik
   rw [if_pos rfl] at hv
   exact setL_in _ _ _ j v (by rw [hl, H.sz]; omega) hv
  ·rw [if_neg hik] at hv
   have hj := (List.getElem?_eq_some_iff.1 hv).1
   rw [secL_len (H.ok i h1 h2)] at hj
   rw [setL_out _ _ _ _ (by omega)]; exact H.rs i h1 h2 j v hv
 ·by_cases hik : i = k
  ·rw [if_pos hik]; exact hs
  ·rw [if_neg hik]; exact H.ok i h1 h2
theorem RC.cong {cur : Array Value} {a b : Nat} {f g : Nat → Ky.Sec} {h : Bool} (H : RC cur a b f h) (e : ∀ i, i < 6 → i ≠ 4 → g i = f i) : RC cur a b g h :=
 ⟨H.sz, H.c0, H.c1, fun i h1 h2 => by rw [e i h1 h2]; exact H.rs i h1 h2, H.ch, fun i h1 h2 => by rw [e i h1 h2]; exact H.ok i h1 h2⟩
def RX (D a b : Nat) (f : Nat → Ky.Sec) (h : Bool) (V : World) : Prop := ∃ cur, Obj V D 56 cur ∧ RC cur a b f h
section
variable {D a b : Nat} {f : Nat → Ky.Sec} {h : Bool} {V V' : World}
theorem RX.lt (H : RX D a b f h V) : D < V.heap.size := by obtain ⟨_, o, _⟩ := H; exact o.lt
theorem RX.kept (H : RX D a b f h V) (hb : Below V.heap.size V V') : RX D a b f h V' := by obtain ⟨c, o, k⟩ := H; exact ⟨c, o.kept hb, k⟩
theorem RX.upd {g : Nat} (H : RX D a b f h V) (hu : Upd g V V') (hne : D ≠ g) : RX D a b f h V' := by obtain ⟨c, o, k⟩ := H; exact ⟨c, o.upd hu hne, k⟩
theorem RX.cell0 (H : RX D a b f h V) : V.cell? ⟨D, 0, none⟩ = some (.int .i64 (a : Int)) := by obtain ⟨c, o, k⟩ := H; rw [o.cell]; exact k.c0
theorem RX.cell1 (H : RX D a b f h V) : V.cell? ⟨D, 1, none⟩ = some (.int .i64 (b : Int)) := by obtain ⟨c, o, k⟩ := H; rw [o.cell]; exact k.c1
theorem RX.cellH (H : RX D a b f h V) : V.cell? ⟨D, 368, none⟩ = some (.bool h) := by obtain ⟨c, o, k⟩ := H; rw [o.cell]; exact k.ch
theorem RX.free (H : RX D a b f h V) (i : Nat) : V.frozen? ⟨D, i, none⟩ = false := by obtain ⟨c, o, k⟩ := H; exact o.free i
theorem RX.rng (H : RX D a b f h V) (i : Nat) (h1 : i < 6) (h2 : i ≠ 4) : V.rangeAt D (2 + i * 61) (secL (f i)) := by
 obtain ⟨c, o, k⟩ := H
 intro j v hv
 rw [o.cell]; exact k.rs i h1 h2 j v hv
theorem RX.ok (H : RX D a b f h V) (i : Nat) (h1 : i < 6) (h2 : i ≠ 4) : (f i).Ok := by obtain ⟨c, o, k⟩ := H; exact k.ok i h1 h2
theorem RX.there (H : RX D a b f h V) (i : Nat) (h1 : i < 6) {s : Ky.Sec} (hs : s.Ok) : V.there D (2 + i * 61) (secV s).size := by
 obtain ⟨c, o, k⟩ := H
 rw [secV_size hs]
 exact fun j hj => ⟨by rw [o.cell, Array.getElem?_eq_getElem (by rw [k.sz]; omega)]; rfl, o.free _⟩
theorem RX.set0 (H : RX D a b f h V) (a' : Nat) : RX D a' b f h (V.setCell ⟨D, 0, none⟩ (.int .i64 (a' : Int))) := by obtain ⟨c, o, k⟩ := H; exact ⟨_, o.set 0 _, k.set0 a'⟩
theorem RX.set1 (H : RX D a b f h V) (b' : Nat) : RX D a b' f h (V.setCell ⟨D, 1, none⟩ (.int .i64 (b' : Int))) := by obtain ⟨c, o, k⟩ := H; exact ⟨_, o.set 1 _, k.set1 b'⟩
theorem RX.setH (H : RX D a b f h V) (h' : Bool) : RX D a b f h' (V.setCell ⟨D, 368, none⟩ (.bool h')) := by obtain ⟨c, o, k⟩ := H; exact ⟨_, o.set 368 _, k.setH h'⟩
theorem RX.setS (H : RX D a b f h V) {k : Nat} (hk : k < 6) {s : Ky.Sec} (hs : s.Ok) : RX D a b (fun j => if j = k then s else f j) h (V.setCells D (2 + k * 61) (secL s)) := by
 obtain ⟨c, o, K⟩ := H; exact ⟨_, obj_setL _ _ _ _ o, K.setS hk hs⟩
theorem RX.cong {g : Nat → Ky.Sec} (H : RX D a b f h V) (e : ∀ i, i < 6 → i ≠ 4 → g i = f i) : RX D a b g h V := by obtain ⟨c, o, k⟩ := H; exact ⟨c, o, k.cong e⟩
end
def RD (D : Nat) (r : Ky.Rg) (V : World) : Prop := r.Ok ∧ RX D r.s0 r.s1 r.sec r.ho V
theorem RD.kept {D : Nat} {r : Ky.Rg} {V V' : World} (h : RD D r V) (hb : Below V.heap.size V V') : RD D r V' := ⟨h.1, h.2.kept hb⟩
theorem RD.upd {D g : Nat} {r : Ky.Rg} {V V' : World} (h : RD D r V) (hu : Upd g V V') (hne : D ≠ g) : RD D r V' := ⟨h.1, h.2.upd hu hne⟩
theorem rhas_any (D : Nat) (r : Ky.Rg) (n : Int) (w : World) (h : RD D r w) : Calls Tryd.prog 35 #[.pointer (some ⟨D, 0, none⟩), .int .i64 n] w fun e w' => e = .returned (.bool (r.has n)) ∧ w = w' := by
 by_cases h0 : n = 0
 ·subst h0
  have f0 := h.2.cell0
  have HH : Hid (r.has 0 = (r.s0 == 1)) := rfl
  rw [HH.out]
  clear HH h
  generalize r.s0 = s at *
  by_cases hs : s = 1
  ·subst hs
   go_enter Tryd.func35, Tryd.ntmps35
   go_wp2
   go_ret
   exact ⟨rfl, rfl⟩
  ·have hs1 : ¬ (s : Int) = 1 := by omega
   have hs2 : ((s : Int) == 1) = false := by simp; omega
   have hs3 : (s == 1) = false := by simpa using hs
   rw [hs3]
   go_enter Tryd.func35, Tryd.ntmps35
   go_wp2
   go_ret
   exact ⟨rfl, rfl⟩
 by_cases h1 : n = 1
 ·subst h1
  have f0 := h.2.cell1
  have HH : Hid (r.has 1 = (r.s1 == 1)) := rfl
  rw [HH.out]
  clear HH h h0
  generalize r.s1 = s at *
  by_cases hs : s = 1
  ·subst hs
   go_enter Tryd.func35, Tryd.ntmps35
   go_wp2
   go_ret
   exact ⟨rfl, rfl⟩
  ·have hs1 : ¬ (s : Int) = 1 := by omega
   have hs2 : ((s : Int) == 1) = false := by simp; omega
   have hs3 : (s == 1) = false := by simpa using hs
   rw [hs3]
   go_enter Tryd.func35, Tryd.ntmps35
   go_wp2
   go_ret
   exact ⟨rfl, rfl⟩
 have HH : Hid (r.has n = false) := by unfold Hid Ky.Rg.has; rw [if_neg h0, if_neg h1]
 rw [HH.out]
 clear HH h
 by_cases hn : n < 0
 ·have hn' : ¬ 0 ≤ n := by omega
  have hn2 : ¬ n ≥ 0 := by omega
  go_enter Tryd.func35, Tryd.ntmps35
  go_wp2
  go_ret
  exact ⟨rfl, rfl⟩
 ·have hn' : 0 ≤ n := by omega
  have hn2 : n ≥ 0 := by omega
  have hn3 : ¬ n ≤ 1 := by omega
  go_enter Tryd.func35, Tryd.ntmps35
  go_wp2
  go_ret
  exact ⟨rfl, rfl⟩
theorem rlive_any (D : Nat) (r : Ky.Rg) (w : World) (h : RD D r w) : Calls Tryd.prog 33 #[.pointer (some ⟨D, 0, none⟩)] w fun e w' => e = .returned (.int .i64 (r.live : Int)) ∧ w = w' := by
 have H0 := Lib.hid (rhas_any D r 0 w h)
 have H1 := Lib.hid (rhas_any D r 1 w h)
 have fh := h.2.cellH
 have e0 : r.has 0 = (r.s0 == 1) := rfl
 have e1 : r.has 1 = (r.s1 == 1) := rfl
 rw [e0] at H0
 rw [e1] at H1
 have HL : Hid (r.live = (if r.s0 == 1 then 2 else 0) + (if r.s1 == 1 then 2 else 0) + (if r.ho then 1 else 0)) := rfl
 rw [HL.out]
 generalize (r.s0 == 1) = b0 at *
 generalize (r.s1 == 1) = b1 at *
 generalize r.ho = b2 at *
 clear h e0 e1 HL
 cases b0 <;> cases b1 <;> cases b2
 ·go_enter Tryd.func33, Tryd.ntmps33
  go_wp2_with fail
  refine H0.out.mono ?_
  rintro e w' ⟨rfl, rfl⟩
  go_wp2_with fail
  refine H1.out.mono ?_
  rintro e w' ⟨rfl, rfl⟩
  go_wp2
  go_ret
  exact ⟨rfl, rfl⟩
 ·go_enter Tryd.func33, Tryd.ntmps33
  go_wp2_with fail
  refine H0.out.mono ?_
  rintro e w' ⟨rfl, rfl⟩
  go_wp2_with fail
  refine H1.out.mono ?_
  rintro e w' ⟨rfl, rfl⟩
  go_wp2
  go_ret
  exact ⟨rfl, rfl⟩
 ·go_enter Tryd.func33, Tryd.ntmps33
  go_wp2_with fail
  refine H0.out.mono ?_
  rintro e w' ⟨rfl, rfl⟩
  go_wp2_with fail
  refine H1.out.mono ?_
  rintro e w' ⟨rfl, rfl⟩
  go_wp2
  go_ret
  exact ⟨rfl, rfl⟩
 ·go_enter Tryd.func33, Tryd.ntmps33
  go_wp2_with fail
  refine H0.out.mono ?_
  rintro e w' ⟨rfl, rfl⟩
  go_wp2_with fail
  refine H1.out.mono ?_
  rintro e w' ⟨rfl, rfl⟩
  go_wp2
  go_ret
  exact ⟨rfl, rfl⟩
 ·go_enter Tryd.func33, Tryd.ntmps33
  go_wp2_with fail
  refine H0.out.mono ?_
  rintro e w' ⟨rfl, rfl⟩
  go_wp2_with fail
  refine H1.out.mono ?_
  rintro e w' ⟨rfl, rfl⟩
  go_wp2
  go_ret
  exact ⟨rfl, rfl⟩
 ·go_enter Tryd.func33, Tryd.ntmps33
  go_wp2_with fail
  refine H0.out.mono ?_
  rintro e w' ⟨rfl, rfl⟩
  go_wp2_with fail
  refine H1.out.mono ?_
  rintro e w' ⟨rfl, rfl⟩
  go_wp2
  go_ret
  exact ⟨rfl, rfl⟩
 ·go_enter Tryd.func33, Tryd.ntmps33
  go_wp2_with fail
  refine H0.out.mono ?_
  rintro e w' ⟨rfl, rfl⟩
  go_wp2_with fail
  refine H1.out.mono ?_
  rintro e w' ⟨rfl, rfl⟩
  go_wp2
  go_ret
  exact ⟨rfl, rfl⟩
 ·go_enter Tryd.func33, Tryd.ntmps33
  go_wp2_with fail
  refine H0.out.mono ?_
  rintro e w' ⟨rfl, rfl⟩
  go_wp2_with fail
  refine H1.out.mono ?_
  rintro e w' ⟨rfl, rfl⟩
  go_wp2
  go_ret
  exact ⟨rfl, rfl⟩
theorem rphase_any (D : Nat) (r : Ky.Rg) (w : World) (h : RD D r w) : Calls Tryd.prog 34 #[.pointer (some ⟨D, 0, none⟩)] w fun e w' => e = .returned (.bool r.phase) ∧ w = w' := by
 have H1 := Lib.hid (rhas_any D r 1 w h)
 have fp : w.cell? ⟨D, 123, none⟩ = some (.bool r.o1.ph) := sec_ph (h.2.rng 1 (by decide) (by decide)) h.1.o1
 have e1 : r.has 1 = (r.s1 == 1) := rfl
 have HP : Hid (r.phase = ((r.s1 == 1) && r.o1.ph)) := rfl
 rw [HP.out]
 rw [e1] at H1
 generalize (r.s1 == 1) = b1 at *
 generalize r.o1.ph = p at *
 clear h e1 HP
 cases b1
 ·go_enter Tryd.func34, Tryd.ntmps34
  go_wp2_with fail
  refine H1.out.mono ?_
  rintro e w' ⟨rfl, rfl⟩
  go_wp2
  go_ret
  exact ⟨rfl, rfl⟩
 ·go_enter Tryd.func34, Tryd.ntmps34
  go_wp2_with fail
  refine H1.out.mono ?_
  rintro e w' ⟨rfl, rfl⟩
  go_wp2
  go_ret
  exact ⟨rfl, rfl⟩
theorem KTab.upd {g : Nat} {V V' : World} {x : Int} (h : KTab V) (hu : Upd g V V') (hg : V.cell? ⟨g, 0, none⟩ = some (.int .i64 x)) : KTab V' := by
 have n1 : 2 ≠ g := by
  intro e
  subst e
  have := h.t.k 0 (by decide)
  rw [hg] at this; cases this
 have n2 : 1 ≠ g := by
  intro e
  subst e
  have := h.t.f 0 (by decide)
  rw [hg] at this; cases this
 have n3 : 0 ≠ g := by
  intro e
  subst e
  have := h.l 0 (by decide)
  rw [hg] at this; cases this
 have hs := hu.size
 exact ⟨⟨⟨Nat.lt_of_lt_of_le h.t.sz.1 hs, Nat.lt_of_lt_of_le h.t.sz.2 hs⟩, fun i hi => (World.cell?_of_block (a := ⟨_, i, none⟩) (hu.block _ h.t.sz.1 n1)).trans (h.t.k i hi), fun i hi => (World.cell?_of_block (a := ⟨_, i, none⟩) (hu.block _ h.t.sz.2 n2)).trans (h.t.f i hi)⟩,
  Nat.lt_of_lt_of_le h.sz hs, fun i hi => (World.cell?_of_block (a := ⟨_, i, none⟩) (hu.block _ h.sz n3)).trans (h.l i hi)⟩
structure SD (w : World) (D B : Nat) (own peer : List Nat) (a b : Nat) (f : Nat → Ky.Sec) (h : Bool) (V : World) : Prop where
 x : RX D a b f h V
 u : Upd D w V
 t : KTab V
 p1 : Obj V B 23 (cellsN own)
 p2 : Obj V (B + 1) 23 (cellsN peer)
 lt : D < B
theorem SD.kept {w V V' : World} {D B a b : Nat} {own peer : List Nat} {f : Nat → Ky.Sec} {h : Bool} (H : SD w D B own peer a b f h V) (hb : Below V.heap.size V V') : SD w D B own peer a b f h V' :=
 ⟨H.x.kept hb, H.u.trans (Upd.of_below hb D), H.t.below hb, H.p1.kept hb, H.p2.kept hb, H.lt⟩
theorem SD.turn {w V V' : World} {D B a b a' b' : Nat} {own peer : List Nat} {f f' : Nat → Ky.Sec} {h h' : Bool} (H : SD w D B own peer a b f h V) (hu : Upd D V V') (hx : RX D a' b' f' h' V') : SD w D B own peer a' b' f' h' V' :=
 ⟨hx, H.u.trans hu, H.t.upd hu H.x.cell0, H.p1.upd hu (by have := H.lt; omega), H.p2.upd hu (by have := H.lt; omega), H.lt⟩
set_option maxHeartbeats 8000000 in
theorem rset_any (D : Nat) (r : Ky.Rg) (n : Int) (own peer : List Nat) (w : World) (ht : KTab w) (h : RD D r w) (l1 : own.length = 32) (q1 : Ae.bytes own) (l2 : peer.length = 32) (q2 : Ae.bytes peer) :
  Calls Tryd.prog 28 #[.pointer (some ⟨D, 0, none⟩), .int .i64 n, .agg (cellsN own), .agg (cellsN peer)] w fun e w' => e = .returned (.bool (r.fresh n)) ∧ RD D (if r.fresh n = true then r.set n own peer else r) w' ∧ Upd D w w' := by
 obtain ⟨B, hB⟩ : ∃ B, w.heap.size = B := ⟨_, rfl⟩
 obtain ⟨W2, hW2⟩ : ∃ W2, (w.alloc (.cells (cellsN own) 23)).alloc (.cells (cellsN peer) 23) = W2 := ⟨_, rfl⟩
 have hb2 : Below w.heap.size w W2 := hW2 ▸ ((Below.refl _ w).alloc (Nat.le_refl _) _).alloc (by simp) _
 have HS : Hid (SD w D B own peer r.s0 r.s1 r.sec r.ho W2) := ⟨h.2.kept hb2, Upd.of_below hb2 D, ht.below hb2, hW2 ▸ hB ▸ (Obj.new w _ _).alloc _, hW2 ▸ hB ▸ new2 w _ _ _, hB ▸ h.2.lt⟩
 have HOK := Lib.hid h.1
 have HLQ : Hid ((own.length = 32 ∧ Ae.bytes own) ∧ peer.length = 32 ∧ Ae.bytes peer) := ⟨⟨l1, q1⟩, l2, q2⟩
 have HI1 := Lib.hid (sizeH32 l1)
 have HI2 := Lib.hid (sizeH32 l2)
 have HW2 := Lib.hid hW2
 clear h ht hW2 hb2 l1 q1 l2 q2
 by_cases h0 : n = 0
 ·subst h0
  by_cases hs : r.s0 = 0
  ·rw [show r.fresh 0 = true by show (r.s0 == 0) = true; rw [hs]; rfl, if_pos rfl]
   obtain ⟨mo, hmo⟩ : ∃ m, Ky.make own false = m := ⟨_, rfl⟩
   obtain ⟨mp, hmp⟩ : ∃ m, Ky.make peer false = m := ⟨_, rfl⟩
   have HOM : Hid (mo.Ok ∧ mp.Ok) := ⟨hmo ▸ Ky.make_ok _ _, hmp ▸ Ky.make_ok _ _⟩
   have HMO : Hid (∀ W, KTab W → Calls Tryd.prog 38 #[.agg (cellsN own), .bool false] W fun e w' => e = .returned (.agg (secV mo)) ∧ Below W.heap.size W w') := fun W hb => hmo ▸ rmake_any own false W hb HLQ.out.1.1 HLQ.out.1.2
   have HMP : Hid (∀ W, KTab W → Calls Tryd.prog 38 #[.agg (cellsN peer), .bool false] W fun e w' => e = .returned (.agg (secV mp)) ∧ Below W.heap.size W w') := fun W hb => hmp ▸ rmake_any peer false W hb HLQ.out.2.1 HLQ.out.2.2
   have HNM : Hid (Ky.make own false = mo ∧ Ky.make peer false = mp) := ⟨hmo, hmp⟩
   have f0 := HS.out.x.cell0
   rw [hs] at f0
   have z0 := HS.out.x.free 0
   have H3 : Hid (SD w D B own peer 1 r.s1 r.sec r.ho (W2.setCell ⟨D, 0, none⟩ (.int .i64 1))) := HS.out.turn ((Upd.refl D W2).set 0 _) (HS.out.x.set0 1)
   clear hmo hmp hs
   go_enter Tryd.func28, Tryd.ntmps28
   go_upto_region 1 with fail
   rw [HW2.out]
   go_upto_region 4 with fail
   try rw [hB]
   clear f0 z0 hB HW2
   generalize W2.setCell ⟨D, 0, none⟩ (.int .i64 1) = W3 at *
   have HW3 := Lib.hid H3.out
   refine wp_region_held_drew (S := (fun wq => Obj wq B 23 (cellsN own) ∧ Obj wq (B + 1) 23 (cellsN peer))) (by kernel_rfl) ⟨HW3.out.p1, HW3.out.p2⟩ (fun hHeld => ?_)
   refine tkH 0 ?_
   refine tkH 1 ?_
   refine tkH 2 ?_ (hy := by
    refine yieldsIf_load_row (g := B) (t := 23) (cs := cellsN own) (ty := 23) (x := (.tmp 6)) ?_ ?_ ?_ ?_ Tryd.underlying23 rfl HI1.out
    ·rfl
    ·rfl
    ·rfl
    ·exact fun w hSw => hSw.1)
   refine tkH 4 ?_
   refine tkH 5 ?_
   refine onH 3 (fun KK hKK => ?_)
   go_simp
   refine (HMO.out _ (HW3.out.kept (Below.refl _ _).drew).t).mono ?_
   rintro e YW3 ⟨rfl, hb⟩
   have HYW3 := Lib.hid ((HW3.out.kept (Below.refl _ _).drew).kept hb)
   clear hb
   try go_wp2_with fail
   refine hKK.out _ _ ?_ (fun hh => ?_)
   ·(try dsimp only)
    exact ⟨HYW3.out.p1, HYW3.out.p2⟩
   clear hKK KK
   try simp only [Act.put, setIfInBounds_toArray, set_cons_zero, set_cons_succ]
   refine tkH 6 ?_
   refine onH 7 (fun KK hKK => ?_)
   rw [if_pos (by rfl)]
   refine wp_store_mid 29 (.tmp 35) (.tmp 32) rfl D 2 (secV mo) rfl rfl (HYW3.out.x.there 0 (by decide) HOM.out.1) (sizeSec HOM.out.1) (one_rowT _ _) ?_
   rw [secV_list]
   have HZW3 := Lib.hid (HYW3.out.turn (upd_setCells _ _ _ (Upd.refl _ _)) (HYW3.out.x.setS (k := 0) (by decide) HOM.out.1))
   refine hKK.out _ _ ?_ (fun hh2 => ?_)
   ·(try dsimp only)
    exact ⟨HZW3.out.p1, HZW3.out.p2⟩
   clear hKK KK
   try simp only [Act.put, setIfInBounds_toArray, set_cons_zero, set_cons_succ]
   refine wpAnyH_done (by kernel_rfl) ?_ _
   clear hh hh2 hHeld HW3 H3 HYW3 HMO
   generalize YW3.setCells D 2 (secL mo) = W4 at *
   have HW4 := Lib.hid HZW3.out
   clear HZW3
   go_upto_region 5 with fail
   refine wp_region_held_drew (S := (fun wq => Obj wq B 23 (cellsN own) ∧ Obj wq (B + 1) 23 (cellsN peer))) (by kernel_rfl) ⟨HW4.out.p1, HW4.out.p2⟩ (fun hHeld => ?_)
   refine tkH 0 ?_
   refine tkH 1 ?_
   refine tkH 2 ?_ (hy := by
    refine yieldsIf_load_row (g := (B + 1)) (t := 23) (cs := cellsN peer) (ty := 23) (x := (.tmp 7)) ?_ ?_ ?_ ?_ Tryd.underlying23 rfl HI2.out
    ·rfl
    ·rfl
    ·rfl
    ·exact fun w hSw => hSw.2)
   refine tkH 4 ?_
   refine tkH 5 ?_
   refine onH 3 (fun KK hKK => ?_)
   go_simp
   refine (HMP.out _ (HW4.out.kept (Below.refl _ _).drew).t).mono ?_
   rintro e YW4 ⟨rfl, hb⟩
   have HYW4 := Lib.hid ((HW4.out.kept (Below.refl _ _).drew).kept hb)
   clear hb
   try go_wp2_with fail
   refine hKK.out _ _ ?_ (fun hh => ?_)
   ·(try dsimp only)
    exact ⟨HYW4.out.p1, HYW4.out.p2⟩
   clear hKK KK
   try simp only [Act.put, setIfInBounds_toArray, set_cons_zero, set_cons_succ]
   refine tkH 6 ?_
   refine onH 7 (fun KK hKK => ?_)
   rw [if_pos (by rfl)]
   refine wp_store_mid 29 (.tmp 42) (.tmp 39) rfl D 124 (secV mp) rfl rfl (HYW4.out.x.there 2 (by decide) HOM.out.2) (sizeSec HOM.out.2) (one_rowT _ _) ?_
   rw [secV_list]
   have HZW4 := Lib.hid (HYW4.out.turn (upd_setCells _ _ _ (Upd.refl _ _)) (HYW4.out.x.setS (k := 2) (by decide) HOM.out.2))
   refine hKK.out _ _ ?_ (fun hh2 => ?_)
   ·(try dsimp only)
    exact ⟨HZW4.out.p1, HZW4.out.p2⟩
   clear hKK KK
   try simp only [Act.put, setIfInBounds_toArray, set_cons_zero, set_cons_succ]
   refine wpAnyH_done (by kernel_rfl) ?_ _
   clear hh hh2 hHeld HW4 HYW4 HMP
   generalize YW4.setCells D 124 (secL mp) = W5 at *
   go_wp2
   go_ret
   refine ⟨rfl, ⟨HOK.out.set _ _ _, ?_⟩, HZW4.out.u⟩
   unfold Ky.Rg.set
   rw [if_pos rfl, HNM.out.1, HNM.out.2]
   refine HZW4.out.x.cong fun i h1 h2 => ?_
   obtain rfl | rfl | rfl | rfl | rfl : i = 0 ∨ i = 1 ∨ i = 2 ∨ i = 3 ∨ i = 5 := by omega
   all_goals rfl
  ·rw [show r.fresh 0 = false by show (r.s0 == 0) = false; simpa using hs, if_neg (by decide)]
   have f0 := HS.out.x.cell0
   have hs1 : ¬ (r.s0 : Int) = 0 := by omega
   have hs2 : ((r.s0 : Int) != 0) = true := by simp; omega
   go_enter Tryd.func28, Tryd.ntmps28
   go_upto_region 1 with fail
   rw [HW2.out]
   go_wp2
   go_ret
   exact ⟨rfl, ⟨HOK.out, HS.out.x⟩, HS.out.u⟩
 by_cases h1 : n = 1
 ·subst h1
  by_cases hs : r.s1 = 0
  ·rw [show r.fresh 1 = true by show (r.s1 == 0) = true; rw [hs]; rfl, if_pos rfl]
   obtain ⟨mo, hmo⟩ : ∃ m, Ky.make own false = m := ⟨_, rfl⟩
   obtain ⟨mp, hmp⟩ : ∃ m, Ky.make peer false = m := ⟨_, rfl⟩
   have HOM : Hid (mo.Ok ∧ mp.Ok) := ⟨hmo ▸ Ky.make_ok _ _, hmp ▸ Ky.make_ok _ _⟩
   have HMO : Hid (∀ W, KTab W → Calls Tryd.prog 38 #[.agg (cellsN own), .bool false] W fun e w' => e = .returned (.agg (secV mo)) ∧ Below W.heap.size W w') := fun W hb => hmo ▸ rmake_any own false W hb HLQ.out.1.1 HLQ.out.1.2
   have HMP : Hid (∀ W, KTab W → Calls Tryd.prog 38 #[.agg (cellsN peer), .bool false] W fun e w' => e = .returned (.agg (secV mp)) ∧ Below W.heap.size W w') := fun W hb => hmp ▸ rmake_any peer false W hb HLQ.out.2.1 HLQ.out.2.2
   have HNM : Hid (Ky.make own false = mo ∧ Ky.make peer false = mp) := ⟨hmo, hmp⟩
   have f0 := HS.out.x.cell1
   rw [hs] at f0
   have z0 := HS.out.x.free 1
   have H3 : Hid (SD w D B own peer r.s0 1 r.sec r.ho (W2.setCell ⟨D, 1, none⟩ (.int .i64 1))) := HS.out.turn ((Upd.refl D W2).set 1 _) (HS.out.x.set1 1)
   clear hmo hmp hs
   go_enter Tryd.func28, Tryd.ntmps28
   go_upto_region 1 with fail
   rw [HW2.out]
   go_upto_region 4 with fail
   try rw [hB]
   clear f0 z0 hB HW2
   generalize W2.setCell ⟨D, 1, none⟩ (.int .i64 1) = W3 at *
   have HW3 := Lib.hid H3.out
   refine wp_region_held_drew (S := (fun wq => Obj wq B 23 (cellsN own) ∧ Obj wq (B + 1) 23 (cellsN peer))) (by kernel_rfl) ⟨HW3.out.p1, HW3.out.p2⟩ (fun hHeld => ?_)
   refine tkH 0 ?_
   refine tkH 1 ?_
   refine tkH 2 ?_ (hy := by
    refine yieldsIf_load_row (g := B) (t := 23) (cs := cellsN own) (ty := 23) (x := (.tmp 6)) ?_ ?_ ?_ ?_ Tryd.underlying23 rfl HI1.out
    ·rfl
    ·rfl
    ·rfl
    ·exact fun w hSw => hSw.1)
   refine tkH 4 ?_
   refine tkH 5 ?_
   refine onH 3 (fun KK hKK => ?_)
   go_simp
   refine (HMO.out _ (HW3.out.kept (Below.refl _ _).drew).t).mono ?_
   rintro e YW3 ⟨rfl, hb⟩
   have HYW3 := Lib.hid ((HW3.out.kept (Below.refl _ _).drew).kept hb)
   clear hb
   try go_wp2_with fail
   refine hKK.out _ _ ?_ (fun hh => ?_)
   ·(try dsimp only)
    exact ⟨HYW3.out.p1, HYW3.out.p2⟩
   clear hKK KK
   try simp only [Act.put, setIfInBounds_toArray, set_cons_zero, set_cons_succ]
   refine tkH 6 ?_
   refine onH 7 (fun KK hKK => ?_)
   rw [if_pos (by rfl)]
   refine wp_store_mid 29 (.tmp 35) (.tmp 32) rfl D 63 (secV mo) rfl rfl (HYW3.out.x.there 1 (by decide) HOM.out.1) (sizeSec HOM.out.1) (one_rowT _ _) ?_
   rw [secV_list]
   have HZW3 := Lib.hid (HYW3.out.turn (upd_setCells _ _ _ (Upd.refl _ _)) (HYW3.out.x.setS (k := 1) (by decide) HOM.out.1))
   refine hKK.out _ _ ?_ (fun hh2 => ?_)
   ·(try dsimp only)
    exact ⟨HZW3.out.p1, HZW3.out.p2⟩
   clear hKK KK
   try simp only [Act.put, setIfInBounds_toArray, set_cons_zero, set_cons_succ]
   refine wpAnyH_done (by kernel_rfl) ?_ _
   clear hh hh2 hHeld HW3 H3 HYW3 HMO
   generalize YW3.setCells D 63 (secL mo) = W4 at *
   have HW4 := Lib.hid HZW3.out
   clear HZW3
   go_upto_region 5 with fail
   refine wp_region_held_drew (S := (fun wq => Obj wq B 23 (cellsN own) ∧ Obj wq (B + 1) 23 (cellsN peer))) (by kernel_rfl) ⟨HW4.out.p1, HW4.out.p2⟩ (fun hHeld => ?_)
   refine tkH 0 ?_
   refine tkH 1 ?_
   refine tkH 2 ?_ (hy := by
    refine yieldsIf_load_row (g := (B + 1)) (t := 23) (cs := cellsN peer) (ty := 23) (x := (.tmp 7)) ?_ ?_ ?_ ?_ Tryd.underlying23 rfl HI2.out
    ·rfl
    ·rfl
    ·rfl
    ·exact fun w hSw => hSw.2)
   refine tkH 4 ?_
   refine tkH 5 ?_
   refine onH 3 (fun KK hKK => ?_)
   go_simp
   refine (HMP.out _ (HW4.out.kept (Below.refl _ _).drew).t).mono ?_
   rintro e YW4 ⟨rfl, hb⟩
   have HYW4 := Lib.hid ((HW4.out.kept (Below.refl _ _).drew).kept hb)
   clear hb
   try go_wp2_with fail
   refine hKK.out _ _ ?_ (fun hh => ?_)
   ·(try dsimp only)
    exact ⟨HYW4.out.p1, HYW4.out.p2⟩
   clear hKK KK
   try simp only [Act.put, setIfInBounds_toArray, set_cons_zero, set_cons_succ]
   refine tkH 6 ?_
   refine onH 7 (fun KK hKK => ?_)
   rw [if_pos (by rfl)]
   refine wp_store_mid 29 (.tmp 42) (.tmp 39) rfl D 185 (secV mp) rfl rfl (HYW4.out.x.there 3 (by decide) HOM.out.2) (sizeSec HOM.out.2) (one_rowT _ _) ?_
   rw [secV_list]
   have HZW4 := Lib.hid (HYW4.out.turn (upd_setCells _ _ _ (Upd.refl _ _)) (HYW4.out.x.setS (k := 3) (by decide) HOM.out.2))
   refine hKK.out _ _ ?_ (fun hh2 => ?_)
   ·(try dsimp only)
    exact ⟨HZW4.out.p1, HZW4.out.p2⟩
   clear hKK KK
   try simp only [Act.put, setIfInBounds_toArray, set_cons_zero, set_cons_succ]
   refine wpAnyH_done (by kernel_rfl) ?_ _
   clear hh hh2 hHeld HW4 HYW4 HMP
   generalize YW4.setCells D 185 (secL mp) = W5 at *
   go_wp2
   go_ret
   refine ⟨rfl, ⟨HOK.out.set _ _ _, ?_⟩, HZW4.out.u⟩
   unfold Ky.Rg.set
   rw [if_neg (by decide), HNM.out.1, HNM.out.2]
   refine HZW4.out.x.cong fun i h1 h2 => ?_
   obtain rfl | rfl | rfl | rfl | rfl : i = 0 ∨ i = 1 ∨ i = 2 ∨ i = 3 ∨ i = 5 := by omega
   all_goals rfl
  ·rw [show r.fresh 1 = false by show (r.s1 == 0) = false; simpa using hs, if_neg (by decide)]
   have f0 := HS.out.x.cell1
   have hs1 : ¬ (r.s1 : Int) = 0 := by omega
   have hs2 : ((r.s1 : Int) != 0) = true := by simp; omega
   go_enter Tryd.func28, Tryd.ntmps28
   go_upto_region 1 with fail
   rw [HW2.out]
   go_wp2
   go_ret
   exact ⟨rfl, ⟨HOK.out, HS.out.x⟩, HS.out.u⟩
 rw [show r.fresh n = false by unfold Ky.Rg.fresh; rw [if_neg h0, if_neg h1], if_neg (by decide)]
 by_cases hn : n < 0
 ·clear h0 h1
  go_enter Tryd.func28, Tryd.ntmps28
  go_upto_region 1 with fail
  rw [HW2.out]
  go_wp2
  go_ret
  exact ⟨rfl, ⟨HOK.out, HS.out.x⟩, HS.out.u⟩
 ·have hn2 : n > 1 := by omega
  have hn3 : 1 < n := by omega
  clear h0 h1
  go_enter Tryd.func28, Tryd.ntmps28
  go_upto_region 1 with fail
  rw [HW2.out]
  go_wp2
  go_ret
  exact ⟨rfl, ⟨HOK.out, HS.out.x⟩, HS.out.u⟩
structure TD (w : World) (D a b : Nat) (f : Nat → Ky.Sec) (h : Bool) (V : World) : Prop where
 x : RX D a b f h V
 u : Upd D w V
 t : KTab V
theorem TD.kept {w V V' : World} {D a b : Nat} {f : Nat → Ky.Sec} {h : Bool} (H : TD w D a b f h V) (hb : Below V.heap.size V V') : TD w D a b f h V' := ⟨H.x.kept hb, H.u.trans (Upd.of_below hb D), H.t.below hb⟩
theorem TD.turn {w V V' : World} {D a b a' b' : Nat} {f f' : Nat → Ky.Sec} {h h' : Bool} (H : TD w D a b f h V) (hu : Upd D V V') (hx : RX D a' b' f' h' V') : TD w D a' b' f' h' V' := ⟨hx, H.u.trans hu, H.t.upd hu H.x.cell0⟩
theorem rdrop_any (D : Nat) (r : Ky.Rg) (n : Int) (w : World) (h : RD D r w) :
  Calls Tryd.prog 29 #[.pointer (some ⟨D, 0, none⟩), .int .i64 n] w fun e w' => e = .returned (.bool (r.has n)) ∧ RD D (if r.has n = true then r.drop n else r) w' ∧ Upd D w w' := by
 have HH := Lib.hid (rhas_any D r n w h)
 by_cases hn : r.has n = true
 ·rcases has_cases hn with ⟨rfl, hs⟩ | ⟨rfl, hs⟩
  ·rw [hn] at HH ⊢
   rw [if_pos rfl]
   have z0 := h.2.free 0
   have y0 := h.2.cell0
   have HF : Hid (RD D (r.drop 0) (w.setCell ⟨D, 0, none⟩ (.int .i64 2)) ∧ Upd D w (w.setCell ⟨D, 0, none⟩ (.int .i64 2))) := ⟨⟨h.1.drop 0, h.2.set0 2⟩, (Upd.refl D w).set 0 _⟩
   clear h hs hn
   go_enter Tryd.func29, Tryd.ntmps29
   go_wp2_with fail
   refine HH.out.mono ?_
   rintro e w' ⟨rfl, rfl⟩
   go_wp2
   go_ret
   exact ⟨rfl, HF.out⟩
  ·rw [hn] at HH ⊢
   rw [if_pos rfl]
   have z0 := h.2.free 1
   have z1 := h.2.free 368
   have y0 := h.2.cell1
   have y1 := h.2.cellH
   have HF : Hid (RD D (r.drop 1) ((w.setCell ⟨D, 1, none⟩ (.int .i64 2)).setCell ⟨D, 368, none⟩ (.bool false)) ∧ Upd D w ((w.setCell ⟨D, 1, none⟩ (.int .i64 2)).setCell ⟨D, 368, none⟩ (.bool false))) := ⟨⟨h.1.drop 1, (h.2.set1 2).setH false⟩, ((Upd.refl D w).set 1 _).set 368 _⟩
   clear h hs hn
   go_enter Tryd.func29, Tryd.ntmps29
   go_wp2_with fail
   refine HH.out.mono ?_
   rintro e w' ⟨rfl, rfl⟩
   go_wp2
   go_ret
   exact ⟨rfl, HF.out⟩
 ·rw [if_neg hn]
  have hn' : r.has n = false := by simpa using hn
  rw [hn'] at HH ⊢
  have HR := Lib.hid h
  clear h hn hn'
  go_enter Tryd.func29, Tryd.ntmps29
  go_wp2_with fail
  refine HH.out.mono ?_
  rintro e w' ⟨rfl, rfl⟩
  go_wp2
  go_ret
  exact ⟨rfl, HR.out, Upd.refl _ _⟩
set_option maxHeartbeats 8000000 in
theorem rturn_any (D : Nat) (r : Ky.Rg) (w : World) (ht : KTab w) (h : RD D r w) :
  Calls Tryd.prog 30 #[.pointer (some ⟨D, 0, none⟩)] w fun e w' => e = .returned (.bool (r.has 1)) ∧ RD D (if r.has 1 = true then r.turn else r) w' ∧ Upd D w w' := by
 have HH := Lib.hid (rhas_any D r 1 w h)
 by_cases hs : r.s1 = 1
 ·rw [has_1 hs] at HH
  rw [has_1 hs, if_pos rfl]
  have HT0 : Hid (TD w D r.s0 r.s1 r.sec r.ho w) := ⟨h.2, Upd.refl _ _, ht⟩
  have HOK := Lib.hid h.1
  obtain ⟨c1, hc1⟩ : ∃ c, Ky.upd r.o1 = c := ⟨_, rfl⟩
  obtain ⟨c2, hc2⟩ : ∃ c, Ky.upd r.p1 = c := ⟨_, rfl⟩
  have HCO : Hid (c1.Ok ∧ c2.Ok) := ⟨hc1 ▸ Ky.upd_ok _, hc2 ▸ Ky.upd_ok _⟩
  have HCC : Hid (Ky.upd r.o1 = c1 ∧ Ky.upd r.p1 = c2) := ⟨hc1, hc2⟩
  have HM1 : Hid (∀ W, KTab W → Calls Tryd.prog 38 #[.agg (cellsN r.o1.nx), .bool (!r.o1.ph)] W fun e w' => e = .returned (.agg (secV c1)) ∧ Below W.heap.size W w') := fun W hb => hc1 ▸ rmake_any r.o1.nx (!r.o1.ph) W hb h.1.o1.ln h.1.o1.qn
  have HM2 : Hid (∀ W, KTab W → Calls Tryd.prog 38 #[.agg (cellsN r.p1.nx), .bool (!r.p1.ph)] W fun e w' => e = .returned (.agg (secV c2)) ∧ Below W.heap.size W w') := fun W hb => hc2 ▸ rmake_any r.p1.nx (!r.p1.ph) W hb h.1.p1.ln h.1.p1.qn
  have HN1 : Hid ((Tryd.prog.info? 23).map (·.size) = some (r.o1.nx.map u8v).length) := sizeH32' h.1.o1.ln
  have HN2 : Hid ((Tryd.prog.info? 23).map (·.size) = some (r.p1.nx.map u8v).length) := sizeH32' h.1.p1.ln
  have HSP := Lib.hid (sizeSecL h.1.p1)
  clear h ht hs hc1 hc2
  go_enter Tryd.func30, Tryd.ntmps30
  go_wp2_with fail
  refine HH.out.mono ?_
  rintro e w' ⟨rfl, rfl⟩
  go_upto_region 3 with fail
  refine wp_region_held_drew (S := (fun wq => wq.rangeAt D 185 (secL r.p1))) (by kernel_rfl) (HT0.out.x.rng 3 (by decide) (by decide)) (fun hHeld => ?_)
  refine tkH 0 ?_
  refine tkH 1 ?_
  refine tkH 2 ?_
  refine tkH 3 ?_
  refine tkH 4 ?_
  refine tkH 5 (v := .agg (secV r.p1)) ?_ (hy := by
   refine yieldsIf_load_mid ?_ 29 (.tmp 10) ?_ D 185 ?_ (secL r.p1) _ ?_ Tryd.underlying29 rfl HSP.out
   ·rfl
   ·rfl
   ·rfl
   ·exact fun wq hSw => hSw)
  refine tkH 6 ?_
  refine tkH 7 ?_
  refine tkH 8 ?_
  refine onH 9 (fun KK hKK => ?_)
  rw [if_pos (by rfl)]
  refine wp_store_mid 29 (.tmp 14) (.tmp 11) rfl D 307 (secV r.p1) rfl rfl ((HT0.out.kept (Below.refl _ w).drew).x.there 5 (by decide) HOK.out.p1) (sizeSec HOK.out.p1) (one_rowT _ _) ?_
  rw [secV_list]
  have HT3 := Lib.hid ((HT0.out.kept (Below.refl _ w).drew).turn (upd_setCells _ _ _ (Upd.refl _ _)) ((HT0.out.kept (Below.refl _ w).drew).x.setS (k := 5) (by decide) HOK.out.p1))
  refine hKK.out _ _ ?_ (fun hh => ?_)
  ·(try dsimp only)
   exact HT3.out.x.rng 3 (by decide) (by decide)
  clear hKK KK
  try simp only [Act.put, setIfInBounds_toArray, set_cons_zero, set_cons_succ]
  refine wpAnyH_done (by kernel_rfl) ?_ _
  clear hHeld hh HT0
  generalize w.drew.setCells D 307 (secL r.p1) = W3 at *
  have y4 := HT3.out.x.cellH
  have z4 := HT3.out.x.free 368
  have HT4 : Hid (TD w D r.s0 r.s1 (fun j => if j = 5 then r.p1 else r.sec j) true (W3.setCell ⟨D, 368, none⟩ (.bool true))) := HT3.out.turn ((Upd.refl D W3).set 368 _) (HT3.out.x.setH true)
  clear HT3
  go_upto_region 5 with fail
  clear y4 z4
  generalize W3.setCell ⟨D, 368, none⟩ (.bool true) = W4 at *
  have HT4' := Lib.hid (HT4.out.kept (Below.refl _ W4).drew)
  refine wp_region_T 18 (fun wq => wq.rangeAt D 91 (r.o1.nx.map u8v) ∧ wq.cell? ⟨D, 123, none⟩ = some (.bool r.o1.ph)) (by kernel_rfl) ⟨sec_nx (HT4.out.x.rng 1 (by decide) (by decide)) HOK.out.o1, sec_ph (HT4.out.x.rng 1 (by decide) (by decide)) HOK.out.o1⟩ (fun hHeld => ?_)
  refine tkT 0 ?_
  refine tkT 1 ?_
  refine tkT 2 ?_
  refine tkT 3 ?_
  refine tkT 4 ?_
  refine tkT 5 ?_
  refine tkT 6 (v := .agg (cellsN r.o1.nx)) ?_ (hy := by
   refine yieldsIf_load_mid ?_ 23 (.tmp 23) ?_ D 91 ?_ (r.o1.nx.map u8v) _ ?_ Tryd.underlying23 rfl HN1.out
   ·rfl
   ·rfl
   ·rfl
   ·exact fun wq hSw => hSw.1)
  refine tkT 7 ?_
  refine tkT 8 ?_
  refine tkT 9 ?_
  refine tkT 10 ?_
  refine tkT 11 ?_
  refine tkT 12 ?_ (hy := by
   refine Or.inl ⟨by rfl, ?_⟩
   intro wq hSw
   have q0 : wq.cell? ⟨D, 123, none⟩ = some (.bool r.o1.ph) := hSw.2
   go_simp
   all_goals with_reducible rfl)
  refine tkT 13 ?_
  refine tkF 15 [16, 17] ?_
  refine tkF 16 [17] ?_
  refine onT 14 (fun KK hKK => ?_)
  go_simp
  refine (HM1.out _ HT4'.out.t).mono ?_
  rintro e Y5 ⟨rfl, hb⟩
  have HY := Lib.hid (HT4'.out.kept hb)
  clear hb
  try go_wp2_with fail
  refine hKK.out _ _ ?_ (fun hh => ?_)
  ·(try dsimp only)
   exact ⟨sec_nx (HY.out.x.rng 1 (by decide) (by decide)) HOK.out.o1, sec_ph (HY.out.x.rng 1 (by decide) (by decide)) HOK.out.o1⟩
  clear hKK KK
  try simp only [Act.put, setIfInBounds_toArray, set_cons_zero, set_cons_succ]
  refine tkT 17 ?_
  refine laT (fun KK hKK => ?_)
  rw [if_pos (by rfl)]
  refine wp_store_mid 29 (.tmp 35) (.tmp 32) rfl D 63 (secV c1) rfl rfl (HY.out.x.there 1 (by decide) HCO.out.1) (sizeSec HCO.out.1) (one_rowT _ _) ?_
  rw [secV_list]
  have HT5 := Lib.hid (HY.out.turn (upd_setCells _ _ _ (Upd.refl _ _)) (HY.out.x.setS (k := 1) (by decide) HCO.out.1))
  refine hKK.out _ _ ?_
  clear hKK KK
  try simp only [Act.put, setIfInBounds_toArray, set_cons_zero, set_cons_succ]
  refine wpAnyT_done (by kernel_rfl) ?_ _
  clear hHeld hh HT4 HT4' HY
  generalize Y5.setCells D 63 (secL c1) = W5 at *
  go_upto_region 6 with fail
  have HT5' := Lib.hid (HT5.out.kept (Below.refl _ W5).drew)
  refine wp_region_T 18 (fun wq => wq.rangeAt D 213 (r.p1.nx.map u8v) ∧ wq.cell? ⟨D, 245, none⟩ = some (.bool r.p1.ph)) (by kernel_rfl) ⟨sec_nx (HT5.out.x.rng 3 (by decide) (by decide)) HOK.out.p1, sec_ph (HT5.out.x.rng 3 (by decide) (by decide)) HOK.out.p1⟩ (fun hHeld => ?_)
  refine tkT 0 ?_
  refine tkT 1 ?_
  refine tkT 2 ?_
  refine tkT 3 ?_
  refine tkT 4 ?_
  refine tkT 5 ?_
  refine tkT 6 (v := .agg (cellsN r.p1.nx)) ?_ (hy := by
   refine yieldsIf_load_mid ?_ 23 (.tmp 41) ?_ D 213 ?_ (r.p1.nx.map u8v) _ ?_ Tryd.underlying23 rfl HN2.out
   ·rfl
   ·rfl
   ·rfl
   ·exact fun wq hSw => hSw.1)
  refine tkT 7 ?_
  refine tkT 8 ?_
  refine tkT 9 ?_
  refine tkT 10 ?_
  refine tkT 11 ?_
  refine tkT 12 ?_ (hy := by
   refine Or.inl ⟨by rfl, ?_⟩
   intro wq hSw
   have q0 : wq.cell? ⟨D, 245, none⟩ = some (.bool r.p1.ph) := hSw.2
   go_simp
   all_goals with_reducible rfl)
  refine tkT 13 ?_
  refine tkF 15 [16, 17] ?_
  refine tkF 16 [17] ?_
  refine onT 14 (fun KK hKK => ?_)
  go_simp
  refine (HM2.out _ HT5'.out.t).mono ?_
  rintro e Y6 ⟨rfl, hb⟩
  have HY := Lib.hid (HT5'.out.kept hb)
  clear hb
  try go_wp2_with fail
  refine hKK.out _ _ ?_ (fun hh => ?_)
  ·(try dsimp only)
   exact ⟨sec_nx (HY.out.x.rng 3 (by decide) (by decide)) HOK.out.p1, sec_ph (HY.out.x.rng 3 (by decide) (by decide)) HOK.out.p1⟩
  clear hKK KK
  try simp only [Act.put, setIfInBounds_toArray, set_cons_zero, set_cons_succ]
  refine tkT 17 ?_
  refine laT (fun KK hKK => ?_)
  rw [if_pos (by rfl)]
  refine wp_store_mid 29 (.tmp 53) (.tmp 50) rfl D 185 (secV c2) rfl rfl (HY.out.x.there 3 (by decide) HCO.out.2) (sizeSec HCO.out.2) (one_rowT _ _) ?_
  rw [secV_list]
  have HT6 := Lib.hid (HY.out.turn (upd_setCells _ _ _ (Upd.refl _ _)) (HY.out.x.setS (k := 3) (by decide) HCO.out.2))
  refine hKK.out _ _ ?_
  clear hKK KK
  try simp only [Act.put, setIfInBounds_toArray, set_cons_zero, set_cons_succ]
  refine wpAnyT_done (by kernel_rfl) ?_ _
  clear hHeld hh HT5 HT5' HY
  generalize Y6.setCells D 185 (secL c2) = W6 at *
  go_wp2
  go_ret
  refine ⟨rfl, ⟨HOK.out.turn, ?_⟩, HT6.out.u⟩
  unfold Ky.Rg.turn
  rw [HCC.out.1, HCC.out.2]
  refine HT6.out.x.cong fun i h1 h2 => ?_
  obtain rfl | rfl | rfl | rfl | rfl : i = 0 ∨ i = 1 ∨ i = 2 ∨ i = 3 ∨ i = 5 := by omega
  all_goals rfl
 ·have hn : r.has 1 = false := by show (r.s1 == 1) = false; simpa using hs
  rw [hn] at HH ⊢
  rw [if_neg (by decide)]
  have HR := Lib.hid h
  clear h hs hn ht
  go_enter Tryd.func30, Tryd.ntmps30
  go_wp2_with fail
  refine HH.out.mono ?_
  rintro e w' ⟨rfl, rfl⟩
  go_wp2
  go_ret
  exact ⟨rfl, HR.out, Upd.refl _ _⟩
theorem rrseal_any (D : Nat) (r : Ky.Rg) (n : Int) (num : Int) (u : Nat) (A1 : Option Addr) (n1 c1 : Nat) (more : List Nat) (A2 : Option Addr) (n2 c2 : Nat) (text : List Nat) (w : World) (hu : IntKind.u64.wrap num = (u : Int)) (hu2 : u < 18446744073709551616) (r1 : Rd w A1 more) (m1 : more.length = n1) (q1 : Ae.bytes more) (k1 : n1 ≤ 100000 ∧ n1 ≤ c1 ∧ c1 ≤ 9223372036854775807) (r2 : Rd w A2 text) (m2 : text.length = n2) (q2 : Ae.bytes text) (k2 : n2 ≤ 100000 ∧ n2 ≤ c2 ∧ c2 ≤ 9223372036854775807) (h : RD D r w) :
  Calls Tryd.prog 31 #[.pointer (some ⟨D, 0, none⟩), .int .i64 n, .int .i64 num, .slice A1 n1 c1, .slice A2 n2 c2] w fun e w' => ∃ v, e = .returned v ∧ w'.ownsRow w.heap.size 5 1 v (r.sealR n u more text).length ((r.sealR n u more text).map u8v) ∧ Below w.heap.size w w' := by
 have HH := Lib.hid (rhas_any D r n w h)
 by_cases hn : r.has n = true
 ·rcases has_cases hn with ⟨rfl, hs⟩ | ⟨rfl, hs⟩
  ·rw [has_0 hs] at HH
   have HRG := Lib.hid (h.2.rng 0 (by decide) (by decide))
   have HSZ := Lib.hid (sizeSecL h.1.o0)
   have HSE := Lib.hid (rkseal_any r.o0 num u A1 n1 c1 more A2 n2 c2 text w h.1.o0 hu hu2 r1 m1 q1 k1 r2 m2 q2 k2)
   have HV : Hid (r.sealR 0 u more text = Ky.sealW r.o0 u more text) := by unfold Hid Ky.Rg.sealR; rw [has_0 hs]; rfl
   have HM : Hid ((Ky.sealW r.o0 u more text).length = n2 + 16) := by unfold Hid Ky.sealW; rw [Gc.sealT_len, m2]
   rw [HV.out, HM.out]
   clear h hs r1 m1 q1 k1 r2 m2 q2 k2 hn hu hu2
   go_enter Tryd.func31, Tryd.ntmps31
   go_wp2_with fail
   refine HH.out.mono ?_
   rintro e w' ⟨rfl, rfl⟩
   go_wp2_with (first
    | (refine wpList_load_mid rfl 29 (.tmp 19) rfl D 2 rfl _ _ HRG.out Tryd.underlying29 rfl HSZ.out ?_; rw [secL_arr])
    | fail)
   refine HSE.out.mono ?_
   rintro e w' ⟨v, rfl, ho, hb⟩
   have HR := Lib.hid (And.intro ho hb)
   clear ho hb
   go_wp2
   go_ret
   exact ⟨_, rfl, HR.out.1, HR.out.2⟩
  ·rw [has_1 hs] at HH
   have HRG := Lib.hid (h.2.rng 1 (by decide) (by decide))
   have HSZ := Lib.hid (sizeSecL h.1.o1)
   have HSE := Lib.hid (rkseal_any r.o1 num u A1 n1 c1 more A2 n2 c2 text w h.1.o1 hu hu2 r1 m1 q1 k1 r2 m2 q2 k2)
   have HV : Hid (r.sealR 1 u more text = Ky.sealW r.o1 u more text) := by unfold Hid Ky.Rg.sealR; rw [has_1 hs]; rfl
   have HM : Hid ((Ky.sealW r.o1 u more text).length = n2 + 16) := by unfold Hid Ky.sealW; rw [Gc.sealT_len, m2]
   rw [HV.out, HM.out]
   clear h hs r1 m1 q1 k1 r2 m2 q2 k2 hn hu hu2
   go_enter Tryd.func31, Tryd.ntmps31
   go_wp2_with fail
   refine HH.out.mono ?_
   rintro e w' ⟨rfl, rfl⟩
   go_wp2_with (first
    | (refine wpList_load_mid rfl 29 (.tmp 19) rfl D 63 rfl _ _ HRG.out Tryd.underlying29 rfl HSZ.out ?_; rw [secL_arr])
    | fail)
   refine HSE.out.mono ?_
   rintro e w' ⟨v, rfl, ho, hb⟩
   have HR := Lib.hid (And.intro ho hb)
   clear ho hb
   go_wp2
   go_ret
   exact ⟨_, rfl, HR.out.1, HR.out.2⟩
 ·have hn' : r.has n = false := by simpa using hn
  have HV : Hid (r.sealR n u more text = []) := by unfold Hid Ky.Rg.sealR; rw [hn']; rfl
  rw [hn'] at HH
  rw [HV.out]
  clear h hn hn' r1 m1 q1 k1 r2 m2 q2 k2 hu hu2
  go_enter Tryd.func31, Tryd.ntmps31
  go_wp2_with fail
  refine HH.out.mono ?_
  rintro e w' ⟨rfl, rfl⟩
  go_wp2
  go_ret
  exact ⟨_, rfl, World.ownsRow_nil _ _ _ _, Below.refl _ _⟩
theorem Fr.rd {w w' : World} {A : Option Addr} {l : List Nat} {D b : Nat} (h : Fr b A) (hD : D < b) (hr : Rd w A l) (hu : Upd D w w') : Rd w' A l := by
 rcases h with rfl | ⟨g, rfl, hg⟩
 ·intro hp; obtain ⟨_, _, e, _⟩ := hr hp; cases e
 ·exact rd_upd hr hu (by omega)
set_option maxHeartbeats 8000000 in
theorem rropen_fr (D : Nat) (r : Ky.Rg) (n : Int) (ph : Bool) (num : Int) (u : Nat) (A1 : Option Addr) (n1 c1 : Nat) (more : List Nat) (A2 : Option Addr) (n2 c2 : Nat) (text : List Nat) (w : World) (hu : IntKind.u64.wrap num = (u : Int)) (hu2 : u < 18446744073709551616) (r1 : Rd w A1 more) (m1 : more.length = n1) (q1 : Ae.bytes more) (k1 : n1 ≤ 100000 ∧ n1 ≤ c1 ∧ c1 ≤ 9223372036854775807) (r2 : Rd w A2 text) (m2 : text.length = n2) (q2 : Ae.bytes text) (k2 : n2 ≤ 100000 ∧ n2 ≤ c2 ∧ c2 ≤ 9223372036854775807) (ht : KTab w) (h : RD D r w) :
  Calls Tryd.prog 32 #[.pointer (some ⟨D, 0, none⟩), .int .i64 n, .bool ph, .int .i64 num, .slice A1 n1 c1, .slice A2 n2 c2] w fun e w' => ∃ A m c, e = .returned (.tuple #[.slice A m c, .int .i64 ((r.opn n ph u more text).1.1 : Int)]) ∧ Rd w' A (r.opn n ph u more text).1.2 ∧ (r.opn n ph u more text).1.2.length = m ∧ m ≤ c ∧ RD D (r.opn n ph u more text).2 w' ∧ Upd D w w' := by
 have HH := Lib.hid (rhas_any D r n w h)
 have HRG : Hid (∀ W, Below w.heap.size w W → RD D r W) := fun W hb => h.kept hb
 by_cases hn : r.has n = true
 ·have HOP : Hid (∀ s E t, s.Ok → (Ky.open' s u more text).1 = E → (Ky.open' s u more text).2 = t → ∀ W, Below w.heap.size w W → Calls Tryd.prog 12 #[.agg (secV s), .int .i64 num, .slice A1 n1 c1, .slice A2 n2 c2] W fun e w' => ∃ A n c, e = .returned (.tuple #[.slice A n c, .int .i64 (E : Int)]) ∧ Rd w' A t ∧ t.length = n ∧ n ≤ c ∧ Below W.heap.size W w' ∧ Fr W.heap.size A) := fun s E t hs hE ht W hb => by
   rw [← hE, ← ht]; exact rkopen_fr s num u A1 n1 c1 more A2 n2 c2 text W hs hu hu2 (r1.below hb) m1 q1 k1 (r2.below hb) m2 q2 k2
  have HT : Hid (∀ W, Below w.heap.size w W → KTab W) := fun W hb => ht.below hb
  have HDL := Lib.hid h.2.lt
  clear r1 m1 q1 k1 r2 m2 q2 k2 hu hu2 ht
  rcases has_cases hn with ⟨rfl, hs⟩ | ⟨rfl, hs⟩
  ·rw [hn] at HH
   obtain ⟨E, hE⟩ : ∃ E, (Ky.open' r.p0 u more text).1 = E := ⟨_, rfl⟩
   obtain ⟨t, htt⟩ : ∃ t, (Ky.open' r.p0 u more text).2 = t := ⟨_, rfl⟩
   have HO1 := Lib.hid (HOP.out r.p0 E t h.1.p0 hE htt)
   have HV : Hid (r.opn 0 ph u more text = ((E, t), r)) := by unfold Hid Ky.Rg.opn; rw [if_pos hn, if_pos rfl, ← hE, ← htt]
   have HSZ := Lib.hid (sizeSecL h.1.p0)
   have HRS := Lib.hid (h.2.rng 2 (by decide) (by decide))
   clear h hs hn hE htt HOP HT
   go_enter Tryd.func32, Tryd.ntmps32
   go_wp2_with fail
   refine HH.out.mono ?_
   rintro e w' ⟨rfl, rfl⟩
   go_wp2_with (first
    | (refine wpList_load_mid rfl 29 (.tmp 38) rfl D 124 rfl _ _ HRS.out Tryd.underlying29 rfl HSZ.out ?_; rw [secL_arr])
    | fail)
   refine (HO1.out _ (Below.refl _ _)).mono ?_
   rintro e x1 ⟨A3, m3, c3, rfl, hr3, hl3, hc3, hx1, hf3⟩
   have HF4 : Hid (RD D r x1 ∧ Upd D w x1 ∧ Rd x1 A3 t ∧ t.length = m3) := ⟨HRG.out _ hx1, Upd.of_below hx1 D, hr3, hl3⟩
   clear hx1 hr3 hl3 hf3
   go_wp2
   refine bodyPost_ret (results_tmp2 rfl _ _ _) rfl ?_
   rw [HV.out]
   exact ⟨_, _, _, rfl, HF4.out.2.2.1, HF4.out.2.2.2, hc3, HF4.out.1, HF4.out.2.1⟩
  ·rw [hn] at HH
   have y60 : w.cell? ⟨D, 245, none⟩ = some (.bool r.p1.ph) := sec_ph (h.2.rng 3 (by decide) (by decide)) h.1.p1
   by_cases hph : ph = r.p1.ph
   ·have hpq : (ph == r.p1.ph) = true := by rw [hph]; simp
    rw [← hph] at y60 hpq
    obtain ⟨E, hE⟩ : ∃ E, (Ky.open' r.p1 u more text).1 = E := ⟨_, rfl⟩
    obtain ⟨t, htt⟩ : ∃ t, (Ky.open' r.p1 u more text).2 = t := ⟨_, rfl⟩
    have HO1 := Lib.hid (HOP.out r.p1 E t h.1.p1 hE htt)
    have HV : Hid (r.opn 1 ph u more text = ((E, t), r)) := by unfold Hid Ky.Rg.opn; rw [if_pos hn, if_neg (by decide), if_pos hph, ← hE, ← htt]
    have HSZ := Lib.hid (sizeSecL h.1.p1)
    have HRS := Lib.hid (h.2.rng 3 (by decide) (by decide))
    clear h hs hn hE htt HOP HT
    go_enter Tryd.func32, Tryd.ntmps32
    go_wp2_with fail
    refine HH.out.mono ?_
    rintro e w' ⟨rfl, rfl⟩
    go_wp2_with (first
     | (refine wpList_load_mid rfl 29 (.tmp 38) rfl D 185 rfl _ _ HRS.out Tryd.underlying29 rfl HSZ.out ?_; rw [secL_arr])
     | fail)
    refine (HO1.out _ (Below.refl _ _)).mono ?_
    rintro e x1 ⟨A3, m3, c3, rfl, hr3, hl3, hc3, hx1, hf3⟩
    have HF4 : Hid (RD D r x1 ∧ Upd D w x1 ∧ Rd x1 A3 t ∧ t.length = m3) := ⟨HRG.out _ hx1, Upd.of_below hx1 D, hr3, hl3⟩
    clear hx1 hr3 hl3 hf3
    go_wp2
    refine bodyPost_ret (results_tmp2 rfl _ _ _) rfl ?_
    rw [HV.out]
    exact ⟨_, _, _, rfl, HF4.out.2.2.1, HF4.out.2.2.2, hc3, HF4.out.1, HF4.out.2.1⟩
   ·have hpq : (ph == r.p1.ph) = false := by simpa using hph
    obtain ⟨pp, hpp⟩ : ∃ p, r.p1.ph = p := ⟨_, rfl⟩
    have HPP := Lib.hid hpp
    rw [hpp] at y60 hpq
    obtain ⟨EN, hEN⟩ : ∃ E, (Ky.open' (Ky.upd r.p1) u more text).1 = E := ⟨_, rfl⟩
    obtain ⟨tN, htN⟩ : ∃ t, (Ky.open' (Ky.upd r.p1) u more text).2 = t := ⟨_, rfl⟩
    obtain ⟨EQ, hEQ⟩ : ∃ E, (Ky.open' r.q u more text).1 = E := ⟨_, rfl⟩
    obtain ⟨tQ, htQ⟩ : ∃ t, (Ky.open' r.q u more text).2 = t := ⟨_, rfl⟩
    have HV : Hid (r.opn 1 ph u more text = if r.ho = true ∧ EQ = 0 then ((EQ, tQ), r) else ((EN, tN), if EN = 0 then r.turn else r)) := by
     unfold Hid Ky.Rg.opn; rw [if_pos hn, if_neg (by decide), if_neg hph, ← hEN, ← htN, ← hEQ, ← htQ]
    have HON := Lib.hid (HOP.out (Ky.upd r.p1) EN tN (Ky.upd_ok _) hEN htN)
    have HOQ := Lib.hid (HOP.out r.q EQ tQ h.1.q hEQ htQ)
    obtain ⟨c2', hc2⟩ : ∃ c, Ky.upd r.p1 = c := ⟨_, rfl⟩
    have HM2 : Hid (∀ W, Below w.heap.size w W → Calls Tryd.prog 38 #[.agg (cellsN r.p1.nx), .bool (!pp)] W fun e w' => e = .returned (.agg (secV c2')) ∧ Below W.heap.size W w') := fun W hb => by
     rw [← hpp]
     exact hc2 ▸ rmake_any r.p1.nx (!r.p1.ph) W (HT.out W hb) h.1.p1.ln h.1.p1.qn
    rw [hc2] at HON
    have HN2 : Hid ((Tryd.prog.info? 23).map (·.size) = some (r.p1.nx.map u8v).length) := sizeH32' h.1.p1.ln
    have HTU : Hid (∀ W, Below w.heap.size w W → Calls Tryd.prog 30 #[.pointer (some ⟨D, 0, none⟩)] W fun e w' => e = .returned (.bool true) ∧ RD D r.turn w' ∧ Upd D W w') := fun W hb => by
     have := rturn_any D r W (HT.out W hb) (HRG.out W hb)
     rwa [hn, if_pos rfl] at this
    have HP1 := Lib.hid h.1.p1
    have HSQ := Lib.hid (sizeSecL h.1.q)
    have HRQ := Lib.hid (h.2.rng 5 (by decide) (by decide))
    have yh := h.2.cellH
    clear h hs hn hEN htN hEQ htQ hc2 hph HOP HT
    clear hpp
    by_cases hho : r.ho = true
    ·rw [hho] at yh
     have HRG5 := HRQ
     clear HRQ
     go_enter Tryd.func32, Tryd.ntmps32
     go_wp2_with fail
     refine HH.out.mono ?_
     rintro e w' ⟨rfl, rfl⟩
     go_wp2_with (first
      | (refine wpList_load_mid rfl 29 (.tmp 54) rfl D 307 rfl _ _ HRG5.out Tryd.underlying29 rfl HSQ.out ?_; rw [secL_arr])
      | fail)
     refine (HOQ.out _ (Below.refl _ _)).mono ?_
     rintro e x1 ⟨A3, m3, c3, rfl, hr3, hl3, hc3, hx1, hf3⟩
     by_cases hE : EQ = 0
     ·have HRV : Hid (r.opn 1 ph u more text = ((EQ, tQ), r)) := by unfold Hid; rw [HV.out, if_pos ⟨hho, hE⟩]
      have HF4 : Hid (RD D r x1 ∧ Upd D w x1 ∧ Rd x1 A3 tQ ∧ tQ.length = m3) := ⟨HRG.out _ hx1, Upd.of_below hx1 D, hr3, hl3⟩
      clear hx1 hr3 hl3 hf3
      subst hE
      go_wp2
      refine bodyPost_ret (results_tmp2 rfl _ _ _) rfl ?_
      rw [HRV.out]
      exact ⟨_, _, _, rfl, HF4.out.2.2.1, HF4.out.2.2.2, hc3, HF4.out.1, HF4.out.2.1⟩
     ·have HRES : Hid (r.opn 1 ph u more text = ((EN, tN), if EN = 0 then r.turn else r)) := by unfold Hid; rw [HV.out, if_neg (fun e => hE e.2)]
      have hEi : ¬ (EQ : Int) = 0 := by omega
      have hEb : ((EQ : Int) == 0) = false := by simp; omega
      have HX := Lib.hid hx1
      clear hx1 hr3 hl3 hf3 hc3
      go_upto_region 9 with fail
      have HX1 := Lib.hid HX.out.drew
      refine wp_region_held_drew (S := (fun wq => RD D r wq ∧ Below w.heap.size w wq)) (by kernel_rfl) ⟨HRG.out _ HX1.out, HX1.out⟩ (fun hHeld => ?_)
      refine tkH 0 ?_
      refine tkH 1 ?_
      refine tkH 2 ?_
      refine tkH 3 ?_
      refine tkH 4 ?_
      refine tkH 5 (v := .agg (cellsN r.p1.nx)) ?_ (hy := by
       refine yieldsIf_load_mid ?_ 23 (.tmp 70) ?_ D 213 ?_ (r.p1.nx.map u8v) _ ?_ Tryd.underlying23 rfl HN2.out
       ·rfl
       ·rfl
       ·rfl
       ·exact fun wq hSw => sec_nx (hSw.1.2.rng 3 (by decide) (by decide)) HP1.out)
      refine tkH 6 ?_
      refine tkH 7 ?_
      refine tkH 8 ?_
      refine tkH 9 ?_
      refine tkH 10 ?_
      refine tkH 11 ?_ (hy := by
       refine Or.inl ⟨by rfl, ?_⟩
       intro wq hSw
       have q0 : wq.cell? ⟨D, 245, none⟩ = some (.bool r.p1.ph) := sec_ph (hSw.1.2.rng 3 (by decide) (by decide)) HP1.out
       rw [HPP.out] at q0
       go_simp
       all_goals with_reducible rfl)
      refine tkH 12 ?_
      refine tkH 14 ?_
      refine tkH 15 ?_
      refine tkH 16 ?_
      refine onH 13 (fun KK hKK => ?_)
      go_simp
      refine (HM2.out _ HX1.out).mono ?_
      rintro e x2 ⟨rfl, hx2⟩
      have HX2 := Lib.hid (HX1.out.trans (hx2.mono HX1.out.size))
      clear hx2
      try go_wp2_with fail
      refine hKK.out _ _ ?_ (fun hh => ?_)
      ·(try dsimp only)
       exact ⟨HRG.out _ HX2.out, HX2.out⟩
      clear hKK KK
      try simp only [Act.put, setIfInBounds_toArray, set_cons_zero, set_cons_succ]
      refine onH 17 (fun KK hKK => ?_)
      go_simp
      refine (HON.out _ HX2.out).mono ?_
      rintro e x3 ⟨A3, m3, c3, rfl, hr3, hl3, hc3, hx3, hf3⟩
      have HX3 := Lib.hid (HX2.out.trans (hx3.mono HX2.out.size))
      have HR3 := Lib.hid hr3
      have HL3 := Lib.hid hl3
      have HF3 : Hid (D < x2.heap.size ∧ Fr x2.heap.size A3) := ⟨Nat.lt_of_lt_of_le HDL.out HX2.out.size, hf3⟩
      clear hx3 hr3 hl3 hf3
      try go_wp2_with fail
      refine hKK.out _ _ ?_ (fun hh2 => ?_)
      ·(try dsimp only)
       exact ⟨HRG.out _ HX3.out, HX3.out⟩
      clear hKK KK
      try simp only [Act.put, setIfInBounds_toArray, set_cons_zero, set_cons_succ]
      refine tkH 18 ?_
      refine tkH 19 ?_
      refine tkH 20 ?_
      refine tkH 21 ?_
      refine tkH 22 ?_
      refine wpAnyH_done (by kernel_rfl) ?_ _
      by_cases hE2 : EN = 0
      ·subst hE2
       have HRV : Hid (r.opn 1 ph u more text = ((0, tN), r.turn)) := by unfold Hid; rw [HRES.out, if_pos rfl]
       go_wp2_with fail
       refine (HTU.out _ HX3.out).mono ?_
       rintro e x4 ⟨rfl, hg4, hu4⟩
       have HF4 : Hid (RD D r.turn x4 ∧ Upd D w x4 ∧ Rd x4 A3 tN) := ⟨hg4, (Upd.of_below HX3.out D).trans hu4, HF3.out.2.rd HF3.out.1 HR3.out hu4⟩
       clear hg4 hu4
       go_wp2
       refine bodyPost_ret (results_tmp2 rfl _ _ _) rfl ?_
       rw [HRV.out]
       exact ⟨_, _, _, rfl, HF4.out.2.2, HL3.out, hc3, HF4.out.1, HF4.out.2.1⟩
      ·have hEi2 : ¬ (EN : Int) = 0 := by omega
       have hEb2 : ((EN : Int) == 0) = false := by simp; omega
       have HRV : Hid (r.opn 1 ph u more text = ((EN, tN), r)) := by unfold Hid; rw [HRES.out, if_neg hE2]
       have HF4 : Hid (RD D r x3 ∧ Upd D w x3) := ⟨HRG.out _ HX3.out, Upd.of_below HX3.out D⟩
       go_wp2
       refine bodyPost_ret (results_tmp2 rfl _ _ _) rfl ?_
       rw [HRV.out]
       exact ⟨_, _, _, rfl, HR3.out, HL3.out, hc3, HF4.out.1, HF4.out.2⟩
    ·have hho' : r.ho = false := by simpa using hho
     rw [hho'] at yh
     have HRES : Hid (r.opn 1 ph u more text = ((EN, tN), if EN = 0 then r.turn else r)) := by unfold Hid; rw [HV.out, if_neg (fun e => hho e.1)]
     have HX : Hid (Below w.heap.size w w) := Below.refl _ _
     obtain ⟨x1, rfl⟩ : ∃ x, x = w := ⟨_, rfl⟩
     clear HRQ
     go_enter Tryd.func32, Tryd.ntmps32
     go_wp2_with fail
     refine HH.out.mono ?_
     rintro e w' ⟨rfl, rfl⟩
     go_upto_region 9 with fail
     have HX1 := Lib.hid HX.out.drew
     refine wp_region_held_drew (S := (fun wq => RD D r wq ∧ Below x1.heap.size x1 wq)) (by kernel_rfl) ⟨HRG.out _ HX1.out, HX1.out⟩ (fun hHeld => ?_)
     refine tkH 0 ?_
     refine tkH 1 ?_
     refine tkH 2 ?_
     refine tkH 3 ?_
     refine tkH 4 ?_
     refine tkH 5 (v := .agg (cellsN r.p1.nx)) ?_ (hy := by
      refine yieldsIf_load_mid ?_ 23 (.tmp 70) ?_ D 213 ?_ (r.p1.nx.map u8v) _ ?_ Tryd.underlying23 rfl HN2.out
      ·rfl
      ·rfl
      ·rfl
      ·exact fun wq hSw => sec_nx (hSw.1.2.rng 3 (by decide) (by decide)) HP1.out)
     refine tkH 6 ?_
     refine tkH 7 ?_
     refine tkH 8 ?_
     refine tkH 9 ?_
     refine tkH 10 ?_
     refine tkH 11 ?_ (hy := by
      refine Or.inl ⟨by rfl, ?_⟩
      intro wq hSw
      have q0 : wq.cell? ⟨D, 245, none⟩ = some (.bool r.p1.ph) := sec_ph (hSw.1.2.rng 3 (by decide) (by decide)) HP1.out
      rw [HPP.out] at q0
      go_simp
      all_goals with_reducible rfl)
     refine tkH 12 ?_
     refine tkH 14 ?_
     refine tkH 15 ?_
     refine tkH 16 ?_
     refine onH 13 (fun KK hKK => ?_)
     go_simp
     refine (HM2.out _ HX1.out).mono ?_
     rintro e x2 ⟨rfl, hx2⟩
     have HX2 := Lib.hid (HX1.out.trans (hx2.mono HX1.out.size))
     clear hx2
     try go_wp2_with fail
     refine hKK.out _ _ ?_ (fun hh => ?_)
     ·(try dsimp only)
      exact ⟨HRG.out _ HX2.out, HX2.out⟩
     clear hKK KK
     try simp only [Act.put, setIfInBounds_toArray, set_cons_zero, set_cons_succ]
     refine onH 17 (fun KK hKK => ?_)
     go_simp
     refine (HON.out _ HX2.out).mono ?_
     rintro e x3 ⟨A3, m3, c3, rfl, hr3, hl3, hc3, hx3, hf3⟩
     have HX3 := Lib.hid (HX2.out.trans (hx3.mono HX2.out.size))
     have HR3 := Lib.hid hr3
     have HL3 := Lib.hid hl3
     have HF3 : Hid (D < x2.heap.size ∧ Fr x2.heap.size A3) := ⟨Nat.lt_of_lt_of_le HDL.out HX2.out.size, hf3⟩
     clear hx3 hr3 hl3 hf3
     try go_wp2_with fail
     refine hKK.out _ _ ?_ (fun hh2 => ?_)
     ·(try dsimp only)
      exact ⟨HRG.out _ HX3.out, HX3.out⟩
     clear hKK KK
     try simp only [Act.put, setIfInBounds_toArray, set_cons_zero, set_cons_succ]
     refine tkH 18 ?_
     refine tkH 19 ?_
     refine tkH 20 ?_
     refine tkH 21 ?_
     refine tkH 22 ?_
     refine wpAnyH_done (by kernel_rfl) ?_ _
     by_cases hE2 : EN = 0
     ·subst hE2
      have HRV : Hid (r.opn 1 ph u more text = ((0, tN), r.turn)) := by unfold Hid; rw [HRES.out, if_pos rfl]
      go_wp2_with fail
      refine (HTU.out _ HX3.out).mono ?_
      rintro e x4 ⟨rfl, hg4, hu4⟩
      have HF4 : Hid (RD D r.turn x4 ∧ Upd D x1 x4 ∧ Rd x4 A3 tN) := ⟨hg4, (Upd.of_below HX3.out D).trans hu4, HF3.out.2.rd HF3.out.1 HR3.out hu4⟩
      clear hg4 hu4
      go_wp2
      refine bodyPost_ret (results_tmp2 rfl _ _ _) rfl ?_
      rw [HRV.out]
      exact ⟨_, _, _, rfl, HF4.out.2.2, HL3.out, hc3, HF4.out.1, HF4.out.2.1⟩
     ·have hEi2 : ¬ (EN : Int) = 0 := by omega
      have hEb2 : ((EN : Int) == 0) = false := by simp; omega
      have HRV : Hid (r.opn 1 ph u more text = ((EN, tN), r)) := by unfold Hid; rw [HRES.out, if_neg hE2]
      have HF4 : Hid (RD D r x3 ∧ Upd D x1 x3) := ⟨HRG.out _ HX3.out, Upd.of_below HX3.out D⟩
      go_wp2
      refine bodyPost_ret (results_tmp2 rfl _ _ _) rfl ?_
      rw [HRV.out]
      exact ⟨_, _, _, rfl, HR3.out, HL3.out, hc3, HF4.out.1, HF4.out.2⟩
 ·have hn' : r.has n = false := by simpa using hn
  have HV : Hid (r.opn n ph u more text = ((8, []), r)) := by unfold Hid Ky.Rg.opn; rw [if_neg hn]
  have HR : Hid (RD D r w) := h
  rw [hn'] at HH
  clear h hn hn' r1 m1 q1 k1 r2 m2 q2 k2 hu hu2 ht
  go_enter Tryd.func32, Tryd.ntmps32
  go_wp2_with fail
  refine HH.out.mono ?_
  rintro e w' ⟨rfl, rfl⟩
  go_wp2
  refine bodyPost_ret (results_tmp2 rfl _ _ _) rfl ?_
  rw [HV.out]
  exact ⟨_, _, _, rfl, Rd.nil _ _, rfl, Nat.le_refl _, HR.out, Upd.refl _ _⟩
end Go.Proofs.YtabfcaidioohfaaDoor
