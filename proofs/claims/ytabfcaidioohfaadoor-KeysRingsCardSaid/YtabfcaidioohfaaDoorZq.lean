/- Layer 10: KeysRings, walked. -/
import Derived.Test.YtabfcaidioohfaaDoorRows
import Derived.Test.YtabfcaidioohfaaDoorZp
import Derived.Test.YtabfcaidioohfaaDoorZa
import Derived.Test.YtabfcaidioohfaaDoorZs
import Derived.Test.YtabfcaidioohfaaDoorZu
import Derived.Test.YtabfcaidioohfaaDoorZk
import Derived.WalkKit
import Derived.Great.Walk
import Derived.OwnWalkIn
import Derived.LoopN
import Derived.LoopIn
import Derived.WalkSpells
import Derived.WalkLawsBesides
import Derived.Laws.Rows
import Derived.Laws.CopyOwn
import Derived.Handy
import Derived.BigQuiet
import Derived.Deep.QuietTactic
import Derived.Deep.MidRow
import Derived.Deep.RegionHeld3
import Derived.IntWalk
import Derived.Lib.Hide
import Derived.Test.YtabfcaidioohfaaDoorZj
import Derived.Test.YtabfcaidioohfaaDoorZl
import Derived.Test.YtabfcaidioohfaaDoorZh
import Derived.Test.YtabfcaidioohfaaDoorZw
import Derived.Test.YtabfcaidioohfaaDoorZy
import Derived.Test.YtabfcaidioohfaaDoorZg
import Derived.Great.BuildSlice
import Derived.Deep.CutBlock
import Derived.Deep.DeepCutAuto
import Derived.Deep.LoopGhost
import Derived.Deep.Slices
import Derived.OpenShut
namespace Go.Proofs.YtabfcaidioohfaaDoor
open List (getElem?_toArray getElem?_cons_zero getElem?_cons_succ setIfInBounds_toArray set_cons_zero set_cons_succ)
open Go Go.RowKit Go.Shelf
open Go.ChangeShapes Go.WideShapes Go.Deep
set_option linter.unusedVariables false
set_option linter.unusedSimpArgs false
set_option maxRecDepth 100000
/-- Something that is done to two rings. -/
structure Act10 where
 kind : Int
 who : Int
 lv : Int
 n : Int
 A : Option Addr
 tn : Nat
 tc : Nat
 tx : List Nat
 bad : Bool
instance : Inhabited Act10 := ⟨⟨0, 0, 0, 0, none, 0, 0, [], false⟩⟩
def acells (a : Act10) : Array Value := #[.int .i64 a.kind, .int .i64 a.who, .int .i64 a.lv, .int .i64 a.n, .slice a.A a.tn a.tc, .bool a.bad]
structure AOk (w : World) (a : Act10) : Prop where
 r : Rd w a.A a.tx
 l : a.tx.length = a.tn
 q : Ae.bytes a.tx
 c : a.tn ≤ a.tc ∧ a.tc ≤ 9223372036854775807
theorem AOk.below {w w' : World} {a : Act10} (h : AOk w a) (hb : Below w.heap.size w w') : AOk w' a := ⟨h.r.below hb, h.l, h.q, h.c⟩
def Acts10 (w : World) (A : Option Addr) (n : Nat) (l : List Act10) : Prop :=
 l.length = n ∧ (∀ j, j < n → AOk w (l.getD j default)) ∧ (0 < n → ∃ B off, A = some ⟨B, off, none⟩ ∧ B < w.heap.size ∧ ∀ j, j < n → ∀ i v, (acells (l.getD j default))[i]? = some v → w.cell? ⟨B, off + j * 6 + i, none⟩ = some v)
theorem bytes10 {H : Type} {enc : TypeId × Value → H} {w : World} {base : Nat} {held : Bool} {fuel : Nat} {v : Value} {x : DataW H × List MemPlace}
  (h : DataW.trod enc Tryd.prog w base (fun _ => true) held fuel 24 [v] = some x) : ∃ (A : Option Addr) (n c : Nat) (l : List Nat), v = .slice A n c ∧ Rd w A l ∧ l.length = n ∧ Ae.bytes l ∧ n ≤ c ∧ c ≤ maxLen := by
 rcases open_ints Tryd.underlying24 Tryd.underlying5 (by kernel_rfl) h with ⟨hcs, _⟩ | ⟨x, l, c, zs, hcs, _, hl, hm, hz, _, hcell, hwz⟩
 ·simp only [List.cons.injEq, and_true] at hcs
  subst hcs
  exact ⟨none, 0, 0, [], rfl, Rd.nil _ _, rfl, fun x hx => (by cases hx), Nat.le_refl _, Nat.zero_le _⟩
 ·simp only [List.cons.injEq, and_true] at hcs
  subst hcs
  have hI : Ints .u8 w (some x) l (zs.take l) := Ints.of_row hl (by simpa using hz) hcell hwz
  obtain ⟨t, h1, h2, h3⟩ := hI.rd
  exact ⟨some x, l, c, t, rfl, h3, h1, h2, hl, hm⟩
theorem acts10_open {H : Type} {enc : TypeId × Value → H} {w : World} {base : Nat} {held : Bool} {fuel n c : Nat} {A : Option Addr} {x : DataW H × List MemPlace}
  (h : DataW.trod enc Tryd.prog w base (fun _ => true) held fuel 43 [.slice A n c] = some x) : ∃ l, Acts10 w A n l ∧ n ≤ c ∧ c ≤ maxLen := by
 obtain ⟨hl, hm, hc⟩ := rows_open Tryd.underlying43 Tryd.underlying59 (by kernel_rfl) (by kernel_rfl) (by decide) h
 by_cases hn : n = 0
 ·subst hn
  exact ⟨[], ⟨rfl, fun j hj => absurd hj (by omega), fun h => absurd h (by omega)⟩, hl, hm⟩
 ·obtain ⟨B, off, rfl, hb, hc⟩ := hc (by omega)
  obtain ⟨l, hll, hr⟩ := list_of (α := Act10) (fun i a => AOk w a ∧ ∀ k v, (acells a)[k]? = some v → w.cell? ⟨B, off + i * 6 + k, none⟩ = some v) n (by
   intro i hi
   obtain ⟨v0, y0, m0, h0, t0⟩ := hc i 0 _ hi rfl
   obtain ⟨v1, y1, m1, h1, t1⟩ := hc i 1 _ hi rfl
   obtain ⟨v2, y2, m2, h2, t2⟩ := hc i 2 _ hi rfl
   obtain ⟨v3, y3, m3, h3, t3⟩ := hc i 3 _ hi rfl
   obtain ⟨v4, y4, m4, h4, t4⟩ := hc i 4 _ hi rfl
   obtain ⟨v5, y5, m5, h5, t5⟩ := hc i 5 _ hi rfl
   obtain ⟨k0, e0, _, _⟩ := DataW.trod_int Tryd.underlying3 t0
   obtain ⟨k1, e1, _, _⟩ := DataW.trod_int Tryd.underlying3 t1
   obtain ⟨k2, e2, _, _⟩ := DataW.trod_int Tryd.underlying3 t2
   obtain ⟨k3, e3, _, _⟩ := DataW.trod_int Tryd.underlying2 t3
   obtain ⟨A4, n4, c4, l4, rfl, r4, m4, q4, x4, x4'⟩ := bytes10 t4
   obtain ⟨b, e5, _⟩ := DataW.trod_bool Tryd.underlying4 t5
   simp only [List.cons.injEq, and_true] at e0 e1 e2 e3 e5
   subst e0 e1 e2 e3 e5
   refine ⟨⟨k0, k1, k2, k3, A4, n4, c4, l4, b⟩, ⟨r4, m4, q4, x4, x4'⟩, fun k v hk => ?_⟩
   rcases k with _ | _ | _ | _ | _ | _ | k
   ·cases hk; exact h0
   ·cases hk; exact h1
   ·cases hk; exact h2
   ·cases hk; exact h3
   ·cases hk; exact h4
   ·cases hk; exact h5
   ·exact absurd (show (#[] : Array Value)[k]? = some v from hk) (by simp))
  exact ⟨l, ⟨hll, fun j hj => (hr j hj).1, fun _ => ⟨B, off, rfl, hb, fun j hj => (hr j hj).2⟩⟩, hl, hm⟩
/-- The document's ring that has no keys yet. -/
def z369 : Array Value := ([Value.int .i64 0, Value.int .i64 0] ++ ((List.replicate 6 Ky.zsec).flatMap secL ++ [Value.bool false])).toArray
theorem zero369 : Tryd.zeroCells56 = z369 := by kernel_rfl
theorem z369_rs (i : Nat) (h1 : i < 6) : (z369.toList.drop (2 + i * 61)).take 61 = secL Ky.zsec := by
 obtain rfl | rfl | rfl | rfl | rfl | rfl : i = 0 ∨ i = 1 ∨ i = 2 ∨ i = 3 ∨ i = 4 ∨ i = 5 := by omega
 all_goals kernel_rfl
theorem rg0_sec (i : Nat) : Ky.rg0.sec i = Ky.zsec := by unfold Ky.Rg.sec; split <;> rfl
theorem rc0 : RC z369 Ky.rg0.s0 Ky.rg0.s1 Ky.rg0.sec Ky.rg0.ho := by
 refine ⟨by kernel_rfl, by kernel_rfl, by kernel_rfl, fun i h1 h2 j v hv => ?_, by kernel_rfl, fun i _ _ => by rw [rg0_sec]; exact Ky.zsec_ok⟩
 rw [rg0_sec] at hv
 have hj := (List.getElem?_eq_some_iff.1 hv).1
 rw [secL_len Ky.zsec_ok] at hj
 rw [← z369_rs i h1, List.getElem?_take_of_lt hj, List.getElem?_drop] at hv
 simpa using hv
/-- Two rings, and two of the document's. -/
structure RgI (w : World) (X Y : Nat) (R D : Nat → Nat) (r q : Nat → Ky.Rg) (V : World) : Prop where
 bel : Below w.heap.size w V
 lt : w.heap.size ≤ R 0 ∧ R 0 < R 1 ∧ R 1 < X ∧ X < D 0 ∧ D 0 < D 1 ∧ D 1 < Y ∧ Y < V.heap.size
 oX : Obj V X 44 #[.pointer (some ⟨R 0, 0, none⟩), .pointer (some ⟨R 1, 0, none⟩)]
 oY : Obj V Y 52 #[.pointer (some ⟨D 0, 0, none⟩), .pointer (some ⟨D 1, 0, none⟩)]
 rg : ∀ n, n < 2 → RgP (R n) (r n) V
 rd : ∀ n, n < 2 → RD (D n) (q n) V
 hv : ∀ n, n < 2 → (r n).s1 = 0 → (r n).ho = false
def putR (f : Nat → Ky.Rg) (n : Nat) (a : Ky.Rg) : Nat → Ky.Rg := fun j => if j = n then a else f j
theorem putR_same (f : Nat → Ky.Rg) (n : Nat) (a : Ky.Rg) : putR f n a n = a := if_pos rfl
theorem putR_ne (f : Nat → Ky.Rg) {n j : Nat} (a : Ky.Rg) (h : j ≠ n) : putR f n a j = f j := if_neg h
section
variable {w V V' : World} {X Y : Nat} {R D : Nat → Nat} {r q : Nat → Ky.Rg}
theorem RgI.kept (h : RgI w X Y R D r q V) (hb : Below V.heap.size V V') : RgI w X Y R D r q V' := by
 have hs := hb.size
 obtain ⟨l1, l2, l3, l4, l5, l6, l7⟩ := h.lt
 exact ⟨h.bel.trans (hb.mono h.bel.size), ⟨l1, l2, l3, l4, l5, l6, by omega⟩, h.oX.kept hb, h.oY.kept hb, fun n hn => (h.rg n hn).kept hb, fun n hn => (h.rd n hn).kept hb, h.hv⟩
theorem RgI.nums (h : RgI w X Y R D r q V) : (∀ n, n < 2 → w.heap.size ≤ R n ∧ R n < X) ∧ (∀ n, n < 2 → X < D n ∧ D n < Y) ∧ ∀ n m, n < 2 → m < 2 → n ≠ m → R n ≠ R m ∧ D n ≠ D m := by
 obtain ⟨l1, l2, l3, l4, l5, l6, l7⟩ := h.lt
 refine ⟨fun n hn => ?_, fun n hn => ?_, fun n m hn hm hnm => ?_⟩
 ·obtain rfl | rfl : n = 0 ∨ n = 1 := by omega
  ·omega
  ·omega
 ·obtain rfl | rfl : n = 0 ∨ n = 1 := by omega
  ·omega
  ·omega
 ·obtain ⟨rfl, rfl⟩ | ⟨rfl, rfl⟩ : (n = 0 ∧ m = 1) ∨ (n = 1 ∧ m = 0) := by omega
  ·omega
  ·omega
/-- A ring turns. -/
theorem RgI.ring (h : RgI w X Y R D r q V) {n : Nat} (hn : n < 2) {a : Ky.Rg} (hr : RgP (R n) a V') (hu : Upd (R n) V V') (hv : a.s1 = 0 → a.ho = false) : RgI w X Y R D (putR r n a) q V' := by
 have hs := hu.size
 obtain ⟨l1, l2, l3, l4, l5, l6, l7⟩ := h.lt
 obtain ⟨n1, n2, n3⟩ := h.nums
 have k1 := n1 n hn
 obtain ⟨cs, ho⟩ := (h.rg n hn).obj
 refine ⟨Upd.below h.bel k1.1 hu, ⟨l1, l2, l3, l4, l5, l6, by omega⟩, h.oX.upd hu (by omega), h.oY.upd hu (by omega), fun j hj => ?_, fun j hj => (h.rd j hj).upd hu (by have := n2 j hj; omega), fun j hj => ?_⟩
 ·by_cases hjn : j = n
  ·rw [hjn, putR_same]; exact hr
  ·rw [putR_ne r a hjn]
   exact (h.rg j hj).upd hu ho (n3 j n hj hn hjn).1 (by decide)
 ·by_cases hjn : j = n
  ·rw [hjn, putR_same]; exact hv
  ·rw [putR_ne r a hjn]; exact h.hv j hj
/-- The document's turns. -/
theorem RgI.doc (h : RgI w X Y R D r q V) {n : Nat} (hn : n < 2) {a : Ky.Rg} (hr : RD (D n) a V') (hu : Upd (D n) V V') : RgI w X Y R D r (putR q n a) V' := by
 have hs := hu.size
 obtain ⟨l1, l2, l3, l4, l5, l6, l7⟩ := h.lt
 obtain ⟨n1, n2, n3⟩ := h.nums
 have k2 := n2 n hn
 obtain ⟨cs, ho, _⟩ := (h.rd n hn).2
 refine ⟨Upd.below h.bel (by omega) hu, ⟨l1, l2, l3, l4, l5, l6, by omega⟩, h.oX.upd hu (by omega), h.oY.upd hu (by omega), fun j hj => (h.rg j hj).upd hu ho (by have := n1 j hj; omega) (by decide), fun j hj => ?_, h.hv⟩
 by_cases hjn : j = n
 ·rw [hjn, putR_same]; exact hr
 ·rw [putR_ne q a hjn]
  exact (h.rd j hj).upd hu (n3 j n hj hn hjn).2
theorem RgI.px (h : RgI w X Y R D r q V) {n : Nat} (hn : n < 2) : V.cell? ⟨X, n, none⟩ = some (.pointer (some ⟨R n, 0, none⟩)) := by
 obtain rfl | rfl : n = 0 ∨ n = 1 := by omega
 ·exact h.oX.cell 0
 ·exact h.oX.cell 1
theorem RgI.py (h : RgI w X Y R D r q V) {n : Nat} (hn : n < 2) : V.cell? ⟨Y, n, none⟩ = some (.pointer (some ⟨D n, 0, none⟩)) := by
 obtain rfl | rfl : n = 0 ∨ n = 1 := by omega
 ·exact h.oY.cell 0
 ·exact h.oY.cell 1
/-- Old blocks beside the rings stay. -/
theorem RgI.far (h : RgI w X Y R D r q V) {n b : Nat} (hn : n < 2) (hb : Y < b) : b ≠ R n ∧ b ≠ D n := by
 obtain ⟨l1, l2, l3, l4, l5, l6, l7⟩ := h.lt
 obtain ⟨n1, n2, n3⟩ := h.nums
 have := n1 n hn
 have := n2 n hn
 omega
end
/-- The same, and what is to be done. -/
structure RaI (w : World) (X Y : Nat) (R D : Nat → Nat) (r q : Nat → Ky.Rg) (T : Nat) (a : Act10) (V : World) : Prop where
 g : RgI w X Y R D r q V
 t : Obj V T 59 (acells a)
 yt : Y < T
/-- And two secrets. -/
structure PqI (w : World) (X Y : Nat) (R D : Nat → Nat) (r q : Nat → Ky.Rg) (T : Nat) (a : Act10) (C : Nat) (P Q : List Nat) (V : World) : Prop where
 i : RaI w X Y R D r q T a V
 p : Obj V C 23 (cellsN P)
 s : Obj V (C + 1) 23 (cellsN Q)
 yc : Y < C
 lp : P.length = 32 ∧ Ae.bytes P
 lq : Q.length = 32 ∧ Ae.bytes Q
section
variable {w V V' : World} {X Y T C : Nat} {R D : Nat → Nat} {r q : Nat → Ky.Rg} {a : Act10} {P Q : List Nat}
theorem RaI.kept (h : RaI w X Y R D r q T a V) (hb : Below V.heap.size V V') : RaI w X Y R D r q T a V' := ⟨h.g.kept hb, h.t.kept hb, h.yt⟩
theorem RaI.ring (h : RaI w X Y R D r q T a V) {n : Nat} (hn : n < 2) {b : Ky.Rg} (hr : RgP (R n) b V') (hu : Upd (R n) V V') (hv : b.s1 = 0 → b.ho = false) : RaI w X Y R D (putR r n b) q T a V' := ⟨h.g.ring hn hr hu hv, h.t.upd hu (h.g.far hn h.yt).1, h.yt⟩
theorem RaI.doc (h : RaI w X Y R D r q T a V) {n : Nat} (hn : n < 2) {b : Ky.Rg} (hr : RD (D n) b V') (hu : Upd (D n) V V') : RaI w X Y R D r (putR q n b) T a V' := ⟨h.g.doc hn hr hu, h.t.upd hu (h.g.far hn h.yt).2, h.yt⟩
theorem PqI.kept (h : PqI w X Y R D r q T a C P Q V) (hb : Below V.heap.size V V') : PqI w X Y R D r q T a C P Q V' := ⟨h.i.kept hb, h.p.kept hb, h.s.kept hb, h.yc, h.lp, h.lq⟩
theorem PqI.ring (h : PqI w X Y R D r q T a C P Q V) {n : Nat} (hn : n < 2) {b : Ky.Rg} (hr : RgP (R n) b V') (hu : Upd (R n) V V') (hv : b.s1 = 0 → b.ho = false) : PqI w X Y R D (putR r n b) q T a C P Q V' :=
 ⟨h.i.ring hn hr hu hv, h.p.upd hu (h.i.g.far hn h.yc).1, h.s.upd hu (h.i.g.far hn (by have := h.yc; omega)).1, h.yc, h.lp, h.lq⟩
theorem PqI.doc (h : PqI w X Y R D r q T a C P Q V) {n : Nat} (hn : n < 2) {b : Ky.Rg} (hr : RD (D n) b V') (hu : Upd (D n) V V') : PqI w X Y R D r (putR q n b) T a C P Q V' :=
 ⟨h.i.doc hn hr hu, h.p.upd hu (h.i.g.far hn h.yc).2, h.s.upd hu (h.i.g.far hn (by have := h.yc; omega)).2, h.yc, h.lp, h.lq⟩
theorem RaI.updT (h : RaI w X Y R D r q T a V) {b : Nat} {ty : TypeId} {cs : Array Value} (ho : Obj V b ty cs) (hb : Y < b) (hu : Upd b V V') (h1 : 29 ≠ ty) (h2 : 59 ≠ ty) : RaI w X Y R D r q T a V' := by
 have hs := hu.size
 obtain ⟨l1, l2, l3, l4, l5, l6, l7⟩ := h.g.lt
 obtain ⟨n1, n2, n3⟩ := h.g.nums
 exact ⟨⟨Upd.below h.g.bel (by omega) hu, ⟨l1, l2, l3, l4, l5, l6, by omega⟩, h.g.oX.upd hu (by omega), h.g.oY.upd hu (by omega), fun j hj => (h.g.rg j hj).upd hu ho (by have := n1 j hj; omega) h1, fun j hj => (h.g.rd j hj).upd hu (by have := n2 j hj; omega), h.g.hv⟩, h.t.upd hu (h.t.ne_type ho h2), h.yt⟩
theorem PqI.put1 (h : PqI w X Y R D r q T a C P Q V) {P' : List Nat} (l : P'.length = 32 ∧ Ae.bytes P') : PqI w X Y R D r q T a C P' Q (V.setRow C (cellsN P')) := by
 have hu : Upd C V (V.setRow C (cellsN P')) := (Upd.refl C V).row _
 exact ⟨h.i.updT h.p h.yc hu (by decide) (by decide), h.p.row _, h.s.upd hu (by omega), h.yc, l, h.lq⟩
theorem PqI.put2 (h : PqI w X Y R D r q T a C P Q V) {Q' : List Nat} (l : Q'.length = 32 ∧ Ae.bytes Q') : PqI w X Y R D r q T a C P Q' (V.setRow (C + 1) (cellsN Q')) := by
 have hu : Upd (C + 1) V (V.setRow (C + 1) (cellsN Q')) := (Upd.refl (C + 1) V).row _
 have hy := h.yc
 exact ⟨h.i.updT h.s (by omega) hu (by decide) (by decide), h.p.upd hu (by omega), h.s.row _, h.yc, h.lp, l⟩
theorem PqI.start (h : RaI w X Y R D r q T a V) (lp : P.length = 32 ∧ Ae.bytes P) (lq : Q.length = 32 ∧ Ae.bytes Q) :
  ∃ C W3 V3, V.heap.size = C ∧ (V.alloc (.cells #[.int .u8 0, .int .u8 0, .int .u8 0, .int .u8 0, .int .u8 0, .int .u8 0, .int .u8 0, .int .u8 0, .int .u8 0, .int .u8 0, .int .u8 0, .int .u8 0, .int .u8 0, .int .u8 0, .int .u8 0, .int .u8 0, .int .u8 0, .int .u8 0, .int .u8 0, .int .u8 0, .int .u8 0, .int .u8 0, .int .u8 0, .int .u8 0, .int .u8 0, .int .u8 0, .int .u8 0, .int .u8 0, .int .u8 0, .int .u8 0, .int .u8 0, .int .u8 0] 23)).alloc (.cells #[.int .u8 0, .int .u8 0, .int .u8 0, .int .u8 0, .int .u8 0, .int .u8 0, .int .u8 0, .int .u8 0, .int .u8 0, .int .u8 0, .int .u8 0, .int .u8 0, .int .u8 0, .int .u8 0, .int .u8 0, .int .u8 0, .int .u8 0, .int .u8 0, .int .u8 0, .int .u8 0, .int .u8 0, .int .u8 0, .int .u8 0, .int .u8 0, .int .u8 0, .int .u8 0, .int .u8 0, .int .u8 0, .int .u8 0, .int .u8 0, .int .u8 0, .int .u8 0] 23) = W3 ∧ (W3.setRow C (cellsN P)).setRow (C + 1) (cellsN Q) = V3 ∧ Obj W3 C 23 #[.int .u8 0, .int .u8 0, .int .u8 0, .int .u8 0, .int .u8 0, .int .u8 0, .int .u8 0, .int .u8 0, .int .u8 0, .int .u8 0, .int .u8 0, .int .u8 0, .int .u8 0, .int .u8 0, .int .u8 0, .int .u8 0, .int .u8 0, .int .u8 0, .int .u8 0, .int .u8 0, .int .u8 0, .int .u8 0, .int .u8 0, .int .u8 0, .int .u8 0, .int .u8 0, .int .u8 0, .int .u8 0, .int .u8 0, .int .u8 0, .int .u8 0, .int .u8 0] ∧ Obj (W3.setRow C (cellsN P)) (C + 1) 23 #[.int .u8 0, .int .u8 0, .int .u8 0, .int .u8 0, .int .u8 0, .int .u8 0, .int .u8 0, .int .u8 0, .int .u8 0, .int .u8 0, .int .u8 0, .int .u8 0, .int .u8 0, .int .u8 0, .int .u8 0, .int .u8 0, .int .u8 0, .int .u8 0, .int .u8 0, .int .u8 0, .int .u8 0, .int .u8 0, .int .u8 0, .int .u8 0, .int .u8 0, .int .u8 0, .int .u8 0, .int .u8 0, .int .u8 0, .int .u8 0, .int .u8 0, .int .u8 0] ∧ PqI w X Y R D r q T a C P Q V3 := by
 have tw := twoH V P Q
 exact ⟨_, _, _, rfl, rfl, rfl, tw.1, tw.2.1, h.kept tw.2.2.2.2, tw.2.2.1, tw.2.2.2.1, h.g.lt.2.2.2.2.2.2, lp, lq⟩
theorem same_one {A B : Option Addr} {n : Nat} (l : List Nat) (w : World) (hA : Rd w A l) (hB : Rd w B l) (hn : l.length = n) (hk : n ≤ 1000000) (c d : Nat) :
  Calls Tryd.prog 13 #[.slice A n c, .slice B n d] w fun e w' => e = .returned (.bool true) ∧ ∃ q, w' = w.drewN q := by
 have h := same_any A B c d n n l l w hA hB hn hn hk
 rw [decide_eq_true rfl] at h
 exact h
theorem seal_le (r : Ky.Rg) (n : Int) (u : Nat) (tx : List Nat) (ok : r.Ok) (q : Ae.bytes tx) : (r.sealR n u [109] tx).length ≤ tx.length + 16 ∧ Ae.bytes (r.sealR n u [109] tx) := by
 have key : ∀ s : Ky.Sec, s.Ok → (Ky.sealW s u [109] tx).length ≤ tx.length + 16 ∧ Ae.bytes (Ky.sealW s u [109] tx) := fun s hs => ⟨Nat.le_of_eq (Gc.sealT_len _ _ _ _), Gc.sealT_bytes hs.qk (Ky.nonce_bytes u hs) q⟩
 unfold Ky.Rg.sealR
 split
 ·split
  ·exact key _ ok.o0
  ·exact key _ ok.o1
 ·exact ⟨Nat.zero_le _, fun x hx => by cases hx⟩
theorem openC_le (key nonce more b : List Nat) : (Gc.openC key nonce more b).2.length ≤ b.length := by
 unfold Gc.openC
 split
 ·exact Nat.zero_le _
 ·split
  ·exact Nat.zero_le _
  ·rename_i t ht
   unfold Gc.openT at ht
   split at ht
   ·cases ht
    show (Gc.ciph key nonce (b.take (b.length - 16))).length ≤ b.length
    rw [Gc.ciph_len, List.length_take]; omega
   ·cases ht
theorem opn_le (r : Ky.Rg) (n : Int) (ph : Bool) (u : Nat) (m b : List Nat) : (r.opn n ph u m b).1.2.length ≤ b.length := by
 have key : ∀ s : Ky.Sec, (Ky.open' s u m b).2.length ≤ b.length := fun s => openC_le _ _ _ _
 unfold Ky.Rg.opn
 split
 ·split
  ·exact key _
  ·split
   ·exact key _
   ·split
    ·exact key _
    ·exact key _
 ·exact Nat.zero_le _
theorem ptr2 {t : TypeId} {B n : Nat} {G : Nat → Nat} (h : Obj V B t #[.pointer (some ⟨G 0, 0, none⟩), .pointer (some ⟨G 1, 0, none⟩)]) (hn : n < 2) : V.cell? ⟨B, n, none⟩ = some (.pointer (some ⟨G n, 0, none⟩)) := by
 obtain rfl | rfl : n = 0 ∨ n = 1 := by omega
 ·exact h.cell 0
 ·exact h.cell 1
end
theorem hv_set {r : Ky.Rg} (h : r.s1 = 0 → r.ho = false) (n : Int) (a b : List Nat) : (if r.fresh n = true then r.set n a b else r).s1 = 0 → (if r.fresh n = true then r.set n a b else r).ho = false := by
 split
 ·unfold Ky.Rg.set; split
  ·exact h
  ·intro e; exact absurd (show (1 : Nat) = 0 from e) (by decide)
 ·exact h
theorem hv_drop {r : Ky.Rg} (h : r.s1 = 0 → r.ho = false) (n : Int) : (if r.has n = true then r.drop n else r).s1 = 0 → (if r.has n = true then r.drop n else r).ho = false := by
 split
 ·unfold Ky.Rg.drop; split
  ·exact h
  ·intro _; rfl
 ·exact h
theorem hv_turn {r : Ky.Rg} (h : r.s1 = 0 → r.ho = false) : (if r.has 1 = true then r.turn else r).s1 = 0 → (if r.has 1 = true then r.turn else r).ho = false := by
 split
 ·rename_i hh
  intro e
  rcases has_cases hh with ⟨e', _⟩ | ⟨_, e'⟩
  ·exact absurd e' (by decide)
  ·exact absurd ((show r.s1 = 0 from e).symm.trans e') (by decide)
 ·exact h
theorem hv_opn {r : Ky.Rg} (h : r.s1 = 0 → r.ho = false) (n : Int) (ph : Bool) (u : Nat) (m b : List Nat) : (r.opn n ph u m b).2.s1 = 0 → (r.opn n ph u m b).2.ho = false := by
 unfold Ky.Rg.opn
 split
 ·rename_i hh
  split
  ·exact h
  ·rename_i h0
   split
   ·exact h
   ·split
    ·exact h
    ·show (if (Ky.open' (Ky.upd r.p1) u m b).1 = 0 then r.turn else r).s1 = 0 → (if (Ky.open' (Ky.upd r.p1) u m b).1 = 0 then r.turn else r).ho = false
     split
     ·intro e
      rcases has_cases hh with ⟨e', _⟩ | ⟨_, e'⟩
      ·exact absurd e' h0
      ·exact absurd ((show r.s1 = 0 from e).symm.trans e') (by decide)
     ·exact h
 ·exact h
section
variable {w V V' : World} {X Y T C : Nat} {R D : Nat → Nat} {r q : Nat → Ky.Rg} {a : Act10} {P Q : List Nat}
theorem pq_set {v : Nat} (hv : v < 2) (lv : Int) (h0 : PqI w X Y R D r r T a C P Q V) :
  ∃ (fb : Bool) (r' : Ky.Rg), (∀ V, KTab V → PqI w X Y R D r r T a C P Q V → Calls Tryd.prog 23 #[.pointer (some ⟨R v, 0, none⟩), .int .i64 lv, .agg (cellsN P), .agg (cellsN Q)] V fun e w' => e = .returned (.bool fb) ∧ PqI w X Y R D (putR r v r') r T a C P Q w') ∧
   (∀ V, KTab V → PqI w X Y R D (putR r v r') r T a C P Q V → Calls Tryd.prog 28 #[.pointer (some ⟨D v, 0, none⟩), .int .i64 lv, .agg (cellsN P), .agg (cellsN Q)] V fun e w' => e = .returned (.bool fb) ∧ PqI w X Y R D (putR r v r') (putR r v r') T a C P Q w') :=
 ⟨(r v).fresh lv, if (r v).fresh lv = true then (r v).set lv P Q else r v,
  fun V ht h => (set_any (R v) (r v) lv P Q V ht (h.i.g.rg v hv) (h.i.g.hv v hv) h.lp.1 h.lp.2 h.lq.1 h.lq.2).mono fun e w' ⟨h1, h2, h3⟩ => ⟨h1, h.ring hv h2 h3 (hv_set (h.i.g.hv v hv) lv P Q)⟩,
  fun V ht h => (rset_any (D v) (r v) lv P Q V ht (h.i.g.rd v hv) h.lp.1 h.lp.2 h.lq.1 h.lq.2).mono fun e w' ⟨h1, h2, h3⟩ => ⟨h1, h.doc hv h2 h3⟩⟩
theorem ra_seal {v : Nat} (hv : v < 2) (lv num : Int) {At : Option Addr} {tn tc : Nat} {tx : List Nat} (h0 : RaI w X Y R D r r T a V) (hr : Rd w At tx) (hl : tx.length = tn) (hq : Ae.bytes tx) (hc : tn ≤ tc ∧ tc ≤ 9223372036854775807) (h100 : tn ≤ 100) :
  ∃ (m : Nat) (S : List Nat), (m ≤ 116 ∧ Ae.bytes S ∧ S.length = m) ∧
   (∀ V G, RaI w X Y R D r r T a V → Rd V (some ⟨G, 0, none⟩) [109] → Calls Tryd.prog 24 #[.pointer (some ⟨R v, 0, none⟩), .int .i64 lv, .int .i64 num, .slice (some ⟨G, 0, none⟩) 1 1, .slice At tn tc] V fun e w' => ∃ A c, e = .returned (.slice A m c) ∧ (m ≤ c ∧ c ≤ 9223372036854775807) ∧ w'.ownsRow (Y + 1) 5 1 (.slice A m c) m (S.map u8v) ∧ Rd w' A S ∧ Below V.heap.size V w') ∧
   (∀ V G, RaI w X Y R D r r T a V → Rd V (some ⟨G, 0, none⟩) [109] → Calls Tryd.prog 31 #[.pointer (some ⟨D v, 0, none⟩), .int .i64 lv, .int .i64 num, .slice (some ⟨G, 0, none⟩) 1 1, .slice At tn tc] V fun e w' => ∃ A c, e = .returned (.slice A m c) ∧ Rd w' A S ∧ Below V.heap.size V w') := by
 obtain ⟨u, hu, hu2⟩ := u64_of (n := num)
 obtain ⟨S, hS⟩ : ∃ S, (r v).sealR lv u [109] tx = S := ⟨_, rfl⟩
 have h1 := seal_le (r v) lv u tx (h0.g.rg v hv).1 hq
 rw [hS, hl] at h1
 refine ⟨S.length, S, ⟨by omega, h1.2, rfl⟩, fun V G h hg => ?_, fun V G h hg => ?_⟩
 ·refine (rgseal_any (R v) (r v) lv num u (some ⟨G, 0, none⟩) 1 1 [109] At tn tc tx V hu hu2 hg rfl (by unfold Ae.bytes; decide) (by decide) (hr.below h.g.bel) hl hq ⟨by omega, hc⟩ (h.g.rg v hv)).mono fun e w' ⟨x, k1, k2, k3⟩ => ?_
  rw [hS] at k2
  obtain ⟨A, c, rfl, _, h4, h5, h6⟩ := own_cap k2
  exact ⟨A, c, k1, ⟨h4, h5⟩, own_base k2 (Nat.succ_le_of_lt h.g.lt.2.2.2.2.2.2), h6, k3⟩
 ·refine (rrseal_any (D v) (r v) lv num u (some ⟨G, 0, none⟩) 1 1 [109] At tn tc tx V hu hu2 hg rfl (by unfold Ae.bytes; decide) (by decide) (hr.below h.g.bel) hl hq ⟨by omega, hc⟩ (h.g.rd v hv)).mono fun e w' ⟨x, k1, k2, k3⟩ => ?_
  rw [hS] at k2
  obtain ⟨A, c, rfl, _, h4, h5, h6⟩ := own_cap k2
  exact ⟨A, c, k1, h6, k3⟩
theorem ra_open {o m c6 : Nat} (ho : o < 2) (lv num : Int) (ph : Bool) {A6 : Option Addr} {S : List Nat} (hl : S.length = m) (hq : Ae.bytes S) (hm : m ≤ 116) (hc : m ≤ c6 ∧ c6 ≤ 9223372036854775807) (hfa : Fr (Y + 1) A6) :
  ∃ (E : Nat) (t : List Nat) (r' : Ky.Rg), t.length ≤ 1000000 ∧
   (∀ V G, KTab V → RaI w X Y R D r r T a V → Rd V (some ⟨G, 0, none⟩) [109] → Rd V A6 S → Calls Tryd.prog 17 #[.pointer (some ⟨R o, 0, none⟩), .int .i64 lv, .bool ph, .int .i64 num, .slice (some ⟨G, 0, none⟩) 1 1, .slice A6 m c6] V fun e w' => ∃ A n c, e = .returned (.tuple #[.slice A n c, .int .i64 (E : Int)]) ∧ Rd w' A t ∧ t.length = n ∧ RaI w X Y R D (putR r o r') r T a w' ∧ Fr (Y + 1) A ∧ Rd w' A6 S) ∧
   (∀ V G, KTab V → RaI w X Y R D (putR r o r') r T a V → Rd V (some ⟨G, 0, none⟩) [109] → Rd V A6 S → Calls Tryd.prog 32 #[.pointer (some ⟨D o, 0, none⟩), .int .i64 lv, .bool ph, .int .i64 num, .slice (some ⟨G, 0, none⟩) 1 1, .slice A6 m c6] V fun e w' => ∃ A n c, e = .returned (.tuple #[.slice A n c, .int .i64 (E : Int)]) ∧ Rd w' A t ∧ t.length = n ∧ RaI w X Y R D (putR r o r') (putR r o r') T a w' ∧ ∀ A', Fr (Y + 1) A' → Rd V A' t → Rd w' A' t) := by
 obtain ⟨u, hu, hu2⟩ := u64_of (n := num)
 obtain ⟨x, hx⟩ : ∃ x, (r o).opn lv ph u [109] S = x := ⟨_, rfl⟩
 have hle := opn_le (r o) lv ph u [109] S
 rw [hx] at hle
 refine ⟨x.1.1, x.1.2, x.2, by omega, fun V G ht h hg hs => ?_, fun V G ht h hg hs => ?_⟩
 ·have hvv := hv_opn (h.g.hv o ho) lv ph u [109] S
  rw [hx] at hvv
  have hn := h.g.nums
  refine (rgopen_fr (R o) (r o) lv num ph u (some ⟨G, 0, none⟩) 1 1 [109] A6 m c6 S V hu hu2 hg rfl (by unfold Ae.bytes; decide) (by decide) hs hl hq ⟨by omega, hc⟩ ht (h.g.rg o ho)).mono fun e w' ⟨A, n, c, k1, k2, k3, k4, k5, k6, k7⟩ => ?_
  rw [hx] at k1 k2 k3 k5
  exact ⟨A, n, c, k1, k2, k3, h.ring ho k5 k6 hvv, k7.mono (Nat.succ_le_of_lt h.g.lt.2.2.2.2.2.2), hfa.rd (by have := (hn.1 o ho).2; have := hn.2.1 o ho; omega) hs k6⟩
 ·have hn := h.g.nums
  refine (rropen_fr (D o) (r o) lv ph num u (some ⟨G, 0, none⟩) 1 1 [109] A6 m c6 S V hu hu2 hg rfl (by unfold Ae.bytes; decide) (by decide) hs hl hq ⟨by omega, hc⟩ ht (h.g.rd o ho)).mono fun e w' ⟨A, n, c, k1, k2, k3, k4, k5, k6⟩ => ?_
  rw [hx] at k1 k2 k3 k5
  exact ⟨A, n, c, k1, k2, k3, h.doc ho k5 k6, fun A' hA hr => hA.rd (by have := hn.2.1 o ho; omega) hr k6⟩
end
set_option maxHeartbeats 16000000 in
theorem keysRings_small (A1 : Option Addr) (n1 c1 : Nat) (ci : List Nat) (A2 : Option Addr) (n2 c2 : Nat) (cl : List Nat) (A3 : Option Addr) (n3 c3 : Nat) (sv : List Nat) (A4 : Option Addr) (n4 c4 : Nat) (l : List Act10) (w : World) (ht : KTab w)
  (r1 : Rd w A1 ci) (m1 : ci.length = n1) (q1 : Ae.bytes ci) (k1 : n1 ≤ 100) (r2 : Rd w A2 cl) (m2 : cl.length = n2) (q2 : Ae.bytes cl) (k2 : n2 ≤ 100 ∧ n2 ≤ c2 ∧ c2 ≤ maxLen)
  (r3 : Rd w A3 sv) (m3 : sv.length = n3) (q3 : Ae.bytes sv) (k3 : n3 ≤ 100) (i4 : Acts10 w A4 n4 l) (k4 : n4 ≤ 40) :
  Calls Tryd.prog 6 #[.slice A1 n1 c1, .slice A2 n2 c2, .slice A3 n3 c3, .slice A4 n4 c4] w fun e w' => e = .returned (.bool true) ∧ Below w.heap.size w w' := by
 have t1 : ¬ (n1 : Int) > 100 := by omega
 have t1' : ¬ 100 < (n1 : Int) := by omega
 have t2 : ¬ (n2 : Int) > 100 := by omega
 have t2' : ¬ 100 < (n2 : Int) := by omega
 have t3 : ¬ (n3 : Int) > 100 := by omega
 have t3' : ¬ 100 < (n3 : Int) := by omega
 have t4 : ¬ (n4 : Int) > 40 := by omega
 have t4' : ¬ 40 < (n4 : Int) := by omega
 have HT : Hid (∀ W, Below w.heap.size w W → KTab W) := fun W hb => ht.below hb
 have HAL := Lib.hid (alive_true w ht)
 have HFI : Hid (∀ W, Below w.heap.size w W → ∃ L1 L2, (L1.length = 32 ∧ Ae.bytes L1) ∧ (L2.length = 32 ∧ Ae.bytes L2) ∧ Calls Tryd.prog 26 #[.slice A1 n1 c1] W fun e w' => e = .returned (.tuple #[.agg (cellsN L1), .agg (cellsN L2)]) ∧ Below W.heap.size W w') := fun W hb =>
  ⟨_, _, ⟨Ky.lab_len _ _ _, Ky.lab_bytes _ _ _⟩, ⟨Ky.lab_len _ _ _, Ky.lab_bytes _ _ _⟩, rfirst_any A1 n1 c1 ci W (ht.below hb) (r1.below hb) m1 q1 (by omega)⟩
 have HLA : Hid (∀ W, Below w.heap.size w W → ∃ L1 L2, (L1.length = 32 ∧ Ae.bytes L1) ∧ (L2.length = 32 ∧ Ae.bytes L2) ∧ Calls Tryd.prog 27 #[.slice A2 n2 c2, .slice A3 n3 c3] W fun e w' => e = .returned (.tuple #[.agg (cellsN L1), .agg (cellsN L2)]) ∧ Below W.heap.size W w') := fun W hb =>
  ⟨_, _, ⟨Ky.lab_len _ _ _, Ky.lab_bytes _ _ _⟩, ⟨Ky.lab_len _ _ _, Ky.lab_bytes _ _ _⟩, rlater_any A2 n2 c2 cl A3 n3 c3 sv W (ht.below hb) (r2.below hb) m2 q2 ⟨by omega, k2.2⟩ (r3.below hb) m3 q3 (by omega)⟩
 have HAC : Hid (∀ W, Below w.heap.size w W → ∀ k, k < n4 → AOk w (l.getD k default) ∧ ∃ B off, A4 = some ⟨B, off, none⟩ ∧ ∀ i v, (acells (l.getD k default))[i]? = some v → W.cell? ⟨B, off + k * 6 + i, none⟩ = some v) := fun W hb k hk => by
  obtain ⟨B, off, e, hB, hc⟩ := i4.2.2 (by omega)
  exact ⟨i4.2.1 k hk, B, off, e, fun i v hv => (hb.cell (p := ⟨B, off + k * 6 + i, none⟩) hB).trans (hc k hk i v hv)⟩
 have HSN : Hid (∀ W, Calls Tryd.prog 23 #[.pointer none, .int .i64 0, .agg #[.int .u8 0, .int .u8 0, .int .u8 0, .int .u8 0, .int .u8 0, .int .u8 0, .int .u8 0, .int .u8 0, .int .u8 0, .int .u8 0, .int .u8 0, .int .u8 0, .int .u8 0, .int .u8 0, .int .u8 0, .int .u8 0, .int .u8 0, .int .u8 0, .int .u8 0, .int .u8 0, .int .u8 0, .int .u8 0, .int .u8 0, .int .u8 0, .int .u8 0, .int .u8 0, .int .u8 0, .int .u8 0, .int .u8 0, .int .u8 0, .int .u8 0, .int .u8 0], .agg #[.int .u8 0, .int .u8 0, .int .u8 0, .int .u8 0, .int .u8 0, .int .u8 0, .int .u8 0, .int .u8 0, .int .u8 0, .int .u8 0, .int .u8 0, .int .u8 0, .int .u8 0, .int .u8 0, .int .u8 0, .int .u8 0, .int .u8 0, .int .u8 0, .int .u8 0, .int .u8 0, .int .u8 0, .int .u8 0, .int .u8 0, .int .u8 0, .int .u8 0, .int .u8 0, .int .u8 0, .int .u8 0, .int .u8 0, .int .u8 0, .int .u8 0, .int .u8 0]] W fun e w' => e = .returned (.bool false) ∧ Below W.heap.size W w') := fun W => set_nil 0 (List.replicate 32 0) (List.replicate 32 0) W
 clear ht r1 m1 q1 k1 r2 m2 q2 k2 r3 m3 q3 k3 i4
 go_enter Tryd.func6, Tryd.ntmps6
 go_wp2_with fail
 refine HAL.out.mono ?_
 rintro e w1 ⟨rfl, hb1⟩
 have HB1 := Lib.hid hb1
 clear hb1 HAL
 go_wp2_with fail
 refine (rgopen_nil 0 0 false w1 _ _).mono ?_
 rintro e w' ⟨rfl, rfl⟩
 go_wp2_with fail
 refine (has_nil 0 w1).mono ?_
 rintro e w' ⟨rfl, rfl⟩
 go_wp2_with fail
 refine (live_nil w1).mono ?_
 rintro e w2 ⟨rfl, hb2⟩
 have HB2 := Lib.hid (HB1.out.trans (hb2.mono HB1.out.size))
 clear hb2 HB1
 go_wp2_with fail
 refine (phase_nil w2).mono ?_
 rintro e w' ⟨rfl, rfl⟩
 go_wp2_with fail
 refine (turn_nil w2).mono ?_
 rintro e w' ⟨rfl, rfl⟩
 go_wp2_with fail
 refine (drop_nil 0 w2).mono ?_
 rintro e w' ⟨rfl, rfl⟩
 go_wp2_with fail
 refine (HSN.out w2).mono ?_
 rintro e w3 ⟨rfl, hb3⟩
 have HB3 := Lib.hid (HB2.out.trans (hb3.mono HB2.out.size))
 clear hb3 HB2 HSN
 go_wp2_with fail
 refine (rgseal_nil 0 0 w3 _ _).mono ?_
 rintro e w' ⟨rfl, rfl⟩
 go_wp2_with fail
 refine (newring_any w3).mono ?_
 rintro e w6 ⟨rfl, hp6, hb6⟩
 obtain ⟨R0, hR0⟩ : ∃ R, w3.heap.size = R := ⟨_, rfl⟩
 rw [hR0] at hp6
 rw [hR0]
 go_wp2_with fail
 refine (newring_any w6).mono ?_
 rintro e w7 ⟨rfl, hp7, hb7⟩
 obtain ⟨R1, hR1⟩ : ∃ R, w6.heap.size = R := ⟨_, rfl⟩
 rw [hR1] at hp7
 rw [hR1]
 have hlt6 := (hp6.obj.elim fun _ h => h.lt)
 have hlt7 := (hp7.obj.elim fun _ h => h.lt)
 have hB6 := HB3.out.trans (hb6.mono HB3.out.size)
 have hB7 : Below w.heap.size w w7 := hB6.trans (hb7.mono hB6.size)
 have hR0w : w.heap.size ≤ R0 := hR0 ▸ HB3.out.size
 obtain ⟨X, hX⟩ : ∃ X, w7.heap.size = X := ⟨_, rfl⟩
 obtain ⟨W8, hW8⟩ : ∃ W, w7.alloc (.cells #[.pointer (some ⟨R0, 0, none⟩), .pointer (some ⟨R1, 0, none⟩)] 44) = W := ⟨_, rfl⟩
 have hb78 : Below w7.heap.size w7 W8 := hW8 ▸ (Below.refl _ w7).alloc (Nat.le_refl _) _
 have hs8 : W8.heap.size = X + 1 := by rw [← hW8, World.size_alloc, hX]
 have hoX : Obj W8 X 44 #[.pointer (some ⟨R0, 0, none⟩), .pointer (some ⟨R1, 0, none⟩)] := hW8 ▸ hX ▸ Obj.new w7 _ _
 obtain ⟨W11, hW11⟩ : ∃ W, ((W8.alloc (.cells z369 56)).alloc (.cells z369 56)).alloc (.cells #[.pointer (some ⟨X + 1, 0, none⟩), .pointer (some ⟨X + 1 + 1, 0, none⟩)] 52) = W := ⟨_, rfl⟩
 have HI0 : Hid (RgI w X (X + 1 + 1 + 1) (fun n => if n = 0 then R0 else R1) (fun n => if n = 0 then X + 1 else X + 1 + 1) (fun _ => Ky.rg0) (fun _ => Ky.rg0) W11 ∧ W11.heap.size = X + 1 + 1 + 1 + 1) := by
  have b9 : Below W8.heap.size W8 (W8.alloc (.cells z369 56)) := (Below.refl _ W8).alloc (Nat.le_refl _) _
  have o9 : Obj (W8.alloc (.cells z369 56)) (X + 1) 56 z369 := hs8 ▸ Obj.new W8 _ _
  obtain ⟨W9, h9⟩ : ∃ W, W8.alloc (.cells z369 56) = W := ⟨_, rfl⟩
  rw [h9] at b9 o9 hW11
  have s9 : W9.heap.size = X + 1 + 1 := by rw [← h9, World.size_alloc, hs8]
  have b10 : Below W9.heap.size W9 (W9.alloc (.cells z369 56)) := (Below.refl _ W9).alloc (Nat.le_refl _) _
  have o10 : Obj (W9.alloc (.cells z369 56)) (X + 1 + 1) 56 z369 := s9 ▸ Obj.new W9 _ _
  obtain ⟨W10, h10⟩ : ∃ W, W9.alloc (.cells z369 56) = W := ⟨_, rfl⟩
  rw [h10] at b10 o10 hW11
  have s10 : W10.heap.size = X + 1 + 1 + 1 := by rw [← h10, World.size_alloc, s9]
  have b11 : Below W10.heap.size W10 W11 := hW11 ▸ (Below.refl _ W10).alloc (Nat.le_refl _) _
  have o11 : Obj W11 (X + 1 + 1 + 1) 52 #[.pointer (some ⟨X + 1, 0, none⟩), .pointer (some ⟨X + 1 + 1, 0, none⟩)] := by rw [← hW11, ← s10]; exact Obj.new W10 _ _
  have s11 : W11.heap.size = X + 1 + 1 + 1 + 1 := by rw [← hW11, World.size_alloc, s10]
  have k7 : Below w7.heap.size w7 W11 := (hb78.trans (b9.mono hb78.size)).trans ((b10.mono (by rw [s9]; omega)).trans (b11.mono (by rw [s10]; omega)))
  refine ⟨⟨hB7.trans (k7.mono hB7.size), ⟨hR0w, by show R0 < R1; omega, by show R1 < X; omega, by show X < X + 1; omega, by show X + 1 < X + 1 + 1; omega, by show X + 1 + 1 < X + 1 + 1 + 1; omega, by rw [s11]; omega⟩, ((hoX.kept b9).kept b10).kept b11, o11, fun n hn => ?_, fun n hn => ?_, fun _ _ _ => rfl⟩, s11⟩
  ·obtain rfl | rfl : n = 0 ∨ n = 1 := by omega
   ·exact (hp6.kept hb7).kept k7
   ·exact hp7.kept k7
  ·obtain rfl | rfl : n = 0 ∨ n = 1 := by omega
   ·exact ⟨Ky.rg0_ok, _, (o9.kept b10).kept b11, rc0⟩
   ·exact ⟨Ky.rg0_ok, _, o10.kept b11, rc0⟩
 have HW8 := Lib.hid hW8
 have HW11 := Lib.hid hW11
 have HX := Lib.hid hX
 have HS8 := Lib.hid hs8
 clear hp6 hp7 hb6 hb7 hlt6 hlt7 hB6 hB7 hR0w hb78 hoX hW8 hW11 hR0 hR1 HB3 hs8 hX
 as_aux_lemma =>
 go_upto_region 10 with fail
 rw [HW8.out, HX.out]
 go_wp2
 rw [HS8.out, zero369, HW11.out]
 obtain ⟨R, D, r0, hI0⟩ : ∃ R D r, RgI w X (X + 1 + 1 + 1) R D r r W11 := ⟨_, _, _, HI0.out.1⟩
 obtain ⟨Y, hY⟩ : ∃ Y, X + 1 + 1 + 1 = Y := ⟨_, rfl⟩
 rw [hY] at hI0
 rw [hY]
 have HI1 := Lib.hid hI0
 clear hI0 hY HI0 HW8 HW11 HX HS8
 as_aux_lemma =>
 go_loopg [14] n4 (fun g i wr => ∃ (k : Nat) (r : Nat → Ky.Rg), k + g = n4 ∧ i = .int .i64 (k : Int) ∧ RgI w X Y R D r r wr)
 case atStart => exact ⟨0, r0, by omega, rfl, HI1.out⟩
 case round =>
  clear HI1
  obtain ⟨k, r, hk, rfl, hI⟩ := hrel
  have HI := Lib.hid hI
  clear hI
  by_cases hlt : k < n4
  ·as_aux_lemma =>
   have hki : (k : Int) < (n4 : Int) := by omega
   obtain ⟨hok, B, off, rfl, hc⟩ := HAC.out wr HI.out.bel k hlt
   generalize l.getD k default = a at *
   obtain ⟨kind, who, lv, num, At, tn, tc, tx, bad⟩ := a
   have f0 : wr.cell? ⟨B, off + k * 6, none⟩ = some (.int .i64 kind) := hc 0 _ rfl
   have f1 : wr.cell? ⟨B, off + k * 6 + 1, none⟩ = some (.int .i64 who) := hc 1 _ rfl
   have f2 : wr.cell? ⟨B, off + k * 6 + 2, none⟩ = some (.int .i64 lv) := hc 2 _ rfl
   have f3 : wr.cell? ⟨B, off + k * 6 + 3, none⟩ = some (.int .i64 num) := hc 3 _ rfl
   have f4 : wr.cell? ⟨B, off + k * 6 + 4, none⟩ = some (.slice At tn tc) := hc 4 _ rfl
   have f5 : wr.cell? ⟨B, off + k * 6 + 5, none⟩ = some (.bool bad) := hc 5 _ rfl
   have HOK := Lib.hid hok
   clear hc hok
   obtain ⟨T, hT⟩ : ∃ T, wr.heap.size = T := ⟨_, rfl⟩
   obtain ⟨W2, hW2⟩ : ∃ W, wr.alloc (.cells #[.int .i64 kind, .int .i64 who, .int .i64 lv, .int .i64 num, .slice At tn tc, .bool bad] 59) = W := ⟨_, rfl⟩
   have hb2 : Below wr.heap.size wr W2 := hW2 ▸ (Below.refl _ wr).alloc (Nat.le_refl _) _
   have HI2 : Hid (RaI w X Y R D r r T ⟨kind, who, lv, num, At, tn, tc, tx, bad⟩ W2) := ⟨HI.out.kept hb2, hW2 ▸ hT ▸ Obj.new wr _ _, hT ▸ HI.out.lt.2.2.2.2.2.2⟩
   have HW2 := Lib.hid hW2
   have HTT := Lib.hid hT
   clear hT hW2 hb2
   go_upto_if 109 with fail
   rw [HTT.out, HW2.out]
   clear f0 f1 f2 f3 f4 f5 HW2 HTT HI
   go_cut [16] (fun s wx => ∃ v : Nat, v < 2 ∧ s = .int .i64 (v : Int) ∧ wx = W2)
   case first =>
    by_cases hw : who.tmod 2 = 0
    ·have hw2 : (who.tmod 2 != 0) = false := by rw [hw]; rfl
     go_wp2_with fail
     go_meet
     exact ⟨0, by decide, rfl, rfl⟩
    ·have hw2 : (who.tmod 2 != 0) = true := by simpa using hw
     go_wp2_with fail
     go_meet
     exact ⟨1, by decide, rfl, rfl⟩
   case rest =>
    as_aux_lemma =>
    obtain ⟨v, hv, rfl, rfl⟩ := hcut
    have hvi : (v : Int) < 2 := by omega
    have g0 : wc.cell? ⟨T, 0, none⟩ = some (.int .i64 kind) := HI2.out.t.cell 0
    have g2 : wc.cell? ⟨T, 2, none⟩ = some (.int .i64 lv) := HI2.out.t.cell 2
    have HV := Lib.hid hv
    go_upto_block 2 with fail
    go_cut [17] (fun s wx => s = .bool true ∧ ∃ r' : Nat → Ky.Rg, RaI w X Y R D r' r' T ⟨kind, who, lv, num, At, tn, tc, tx, bad⟩ wx)
    case first =>
     by_cases hk0 : kind = 0
     ·subst hk0
      as_aux_lemma =>
       obtain ⟨L1, L2, hl1, hl2, hF⟩ := HFI.out wc HI2.out.g.bel
       have HF := Lib.hid hF
       have HIF1 := Lib.hid (sizeH32 hl1.1)
       have HIF2 := Lib.hid (sizeH32 hl2.1)
       have HZF1 : Hid ((#[.int .u8 0, .int .u8 0, .int .u8 0, .int .u8 0, .int .u8 0, .int .u8 0, .int .u8 0, .int .u8 0, .int .u8 0, .int .u8 0, .int .u8 0, .int .u8 0, .int .u8 0, .int .u8 0, .int .u8 0, .int .u8 0, .int .u8 0, .int .u8 0, .int .u8 0, .int .u8 0, .int .u8 0, .int .u8 0, .int .u8 0, .int .u8 0, .int .u8 0, .int .u8 0, .int .u8 0, .int .u8 0, .int .u8 0, .int .u8 0, .int .u8 0, .int .u8 0] : Array Value).size = (cellsN L1).size) := by unfold Hid; rw [cellsN_size, hl1.1]; rfl
       have HZF2 : Hid ((#[.int .u8 0, .int .u8 0, .int .u8 0, .int .u8 0, .int .u8 0, .int .u8 0, .int .u8 0, .int .u8 0, .int .u8 0, .int .u8 0, .int .u8 0, .int .u8 0, .int .u8 0, .int .u8 0, .int .u8 0, .int .u8 0, .int .u8 0, .int .u8 0, .int .u8 0, .int .u8 0, .int .u8 0, .int .u8 0, .int .u8 0, .int .u8 0, .int .u8 0, .int .u8 0, .int .u8 0, .int .u8 0, .int .u8 0, .int .u8 0, .int .u8 0, .int .u8 0] : Array Value).size = (cellsN L2).size) := by unfold Hid; rw [cellsN_size, hl2.1]; rfl
       have HLQ := Lib.hid (And.intro hl1 hl2)
       have k0 : wc.cell? ⟨T, 0, none⟩ = some (.int .i64 0) := HI2.out.t.cell 0
       clear hF hl1 hl2 g0 g2 hv HFI
       go_wp2_with fail
       refine HF.out.mono ?_
       rintro e v1 ⟨rfl, hb⟩
       obtain ⟨C, W3, V3, hC, hW3, hV3, ho1, ho2, hp3⟩ := PqI.start (HI2.out.kept hb) HLQ.out.1 HLQ.out.2
       have HO1 := Lib.hid ho1
       have HO2 := Lib.hid ho2
       have HP3 := Lib.hid hp3
       have HV3 := Lib.hid hV3
       clear ho1 ho2 hp3 hb hV3 HF k0
       have k2 : V3.cell? ⟨T, 2, none⟩ = some (.int .i64 lv) := HP3.out.i.t.cell 2
       go_upto_region 22 with (first
        | (refine wpList_store_row rfl 23 (.tmp 18) (.tmp 117) rfl C _ rfl rfl _ _ HO1.out HIF1.out HZF1.out (one_cellsN _) ?_)
        | (refine wpList_store_row rfl 23 (.tmp 19) (.tmp 118) rfl (C + 1) _ rfl rfl _ _ HO2.out HIF2.out HZF2.out (one_cellsN _) ?_; rw [HV3.out])
        | fail)
       go_upto_if 121 with fail
       clear hW3 hC HO1 HO2 HV3 HIF1 HIF2 HZF1 HZF2 HLQ HI2
       go_cut [18] (fun s wx => s = .pointer (some ⟨C, 0, none⟩) ∧ ∃ P Q, PqI w X Y R D r r T ⟨0, who, lv, num, At, tn, tc, tx, bad⟩ C P Q wx)
       case first =>
        as_aux_lemma =>
        by_cases hlv : lv = 1
        ·have hlv2 : (lv == 1) = true := by simpa using hlv
         obtain ⟨M1, M2, hl1, hl2, hL⟩ := HLA.out V3 HP3.out.i.g.bel
         have HL := Lib.hid hL
         have HIF1 := Lib.hid (sizeH32 hl1.1)
         have HIF2 := Lib.hid (sizeH32 hl2.1)
         have HQ1 := Lib.hid (And.intro hl1 hl2)
         clear hL hl1 hl2
         go_wp2_with fail
         refine HL.out.mono ?_
         rintro e v4 ⟨rfl, hb⟩
         have HP4 := Lib.hid (HP3.out.kept hb)
         have HP5 := Lib.hid (HP4.out.put1 HQ1.out.1)
         have HP6 := Lib.hid (HP5.out.put2 HQ1.out.2)
         have HS1 : Hid ((cellsN L1).size = (cellsN M1).size) := by unfold Hid; rw [cellsN_size, cellsN_size, HP4.out.lp.1, HQ1.out.1.1]
         have HS2 : Hid ((cellsN L2).size = (cellsN M2).size) := by unfold Hid; rw [cellsN_size, cellsN_size, HP4.out.lq.1, HQ1.out.2.1]
         clear hb HP3 HL
         go_wp2_with (first
          | (refine wpList_store_row rfl 23 (.tmp 18) (.tmp 126) rfl C _ rfl rfl _ _ HP4.out.p HIF1.out HS1.out (one_cellsN _) ?_)
          | (refine wpList_store_row rfl 23 (.tmp 19) (.tmp 127) rfl (C + 1) _ rfl rfl _ _ HP5.out.s HIF2.out HS2.out (one_cellsN _) ?_)
          | fail)
         go_meet
         exact ⟨rfl, _, _, HP6.out⟩
        ·have hlv2 : (lv == 1) = false := by simpa using hlv
         go_wp2_with fail
         go_meet
         exact ⟨rfl, _, _, HP3.out⟩
       case rest =>
        as_aux_lemma =>
        obtain ⟨rfl, P, Q, hP⟩ := hcut
        have HP := Lib.hid hP
        clear hP HP3 k2
        go_upto_if 129 with fail
        go_cut [18] (fun s wx => s = .pointer (some ⟨C, 0, none⟩) ∧ ∃ P Q, PqI w X Y R D r r T ⟨0, who, lv, num, At, tn, tc, tx, bad⟩ C P Q wx)
        case first =>
         as_aux_lemma =>
         by_cases hv1 : v = 1
         ·have hv2 : ((v : Int) == 1) = true := by simp; omega
          have HP5 := Lib.hid (HP.out.put1 HP.out.lq)
          have HP6 := Lib.hid (HP5.out.put2 HP.out.lp)
          have HS1 : Hid ((cellsN P).size = (cellsN Q).size) := by unfold Hid; rw [cellsN_size, cellsN_size, HP.out.lp.1, HP.out.lq.1]
          have HS2 := Lib.hid HS1.out.symm
          have HIP := Lib.hid (sizeH32 HP.out.lp.1)
          have HIQ := Lib.hid (sizeH32 HP.out.lq.1)
          go_wp2_with (first
           | (refine wpList_load_row rfl 23 (.tmp 19) rfl (C + 1) rfl _ _ _ _ HP.out.s Tryd.underlying23 rfl HIQ.out ?_)
           | (refine wpList_load_row rfl 23 (.tmp 18) rfl C rfl _ _ _ _ HP.out.p Tryd.underlying23 rfl HIP.out ?_)
           | (refine wpList_store_row rfl 23 (.tmp 18) (.tmp 130) rfl C _ rfl rfl _ _ HP.out.p HIQ.out HS1.out (one_cellsN _) ?_)
           | (refine wpList_store_row rfl 23 (.tmp 19) (.tmp 131) rfl (C + 1) _ rfl rfl _ _ HP5.out.s HIP.out HS2.out (one_cellsN _) ?_)
           | fail)
          go_meet
          exact ⟨rfl, _, _, HP6.out⟩
         ·have hv2 : ¬ (v : Int) = 1 := by omega
          have hv3 : ((v : Int) == 1) = false := by simp; omega
          go_wp2_with fail
          go_meet
          exact ⟨rfl, _, _, HP.out⟩
        case rest =>
         as_aux_lemma =>
         clear HP
         obtain ⟨rfl, P, Q, hP⟩ := hcut
         have HI3 := Lib.hid (hP.kept (Below.refl _ wc).drew)
         obtain ⟨fb, r', hp1, hp2⟩ := pq_set HV.out lv hP
         have HP1 := Lib.hid hp1
         have HP2 := Lib.hid hp2
         have HIP := Lib.hid (sizeH32 hP.lp.1)
         have HIQ := Lib.hid (sizeH32 hP.lq.1)
         clear hP hp1 hp2
         go_upto_region 26 with fail
         refine wp_region_held_drew (S := (fun wq => Obj wq T 59 (acells ⟨0, who, lv, num, At, tn, tc, tx, bad⟩) ∧ Obj wq X 44 #[.pointer (some ⟨R 0, 0, none⟩), .pointer (some ⟨R 1, 0, none⟩)] ∧ Obj wq Y 52 #[.pointer (some ⟨D 0, 0, none⟩), .pointer (some ⟨D 1, 0, none⟩)] ∧ Obj wq C 23 (cellsN P) ∧ Obj wq (C + 1) 23 (cellsN Q))) (by kernel_rfl) ⟨HI3.out.i.t, HI3.out.i.g.oX, HI3.out.i.g.oY, HI3.out.p, HI3.out.s⟩ (fun hHeld => ?_)
         refine tkH 0 ?_
         refine tkH 1 ?_
         refine tkH 2 ?_
         refine tkH 3 ?_ (hy := by
          refine Or.inl ⟨by rfl, ?_⟩
          intro wq hSw
          have q0 : wq.cell? ⟨X, v, none⟩ = some (.pointer (some ⟨R v, 0, none⟩)) := ptr2 (hSw.2.1) HV.out
          go_simp
          all_goals with_reducible rfl)
         refine tkH 4 ?_
         refine tkH 5 ?_ (hy := by
          refine Or.inl ⟨by rfl, ?_⟩
          intro wq hSw
          have q0 : wq.cell? ⟨T, 2, none⟩ = some (.int .i64 lv) := (hSw.1).cell 2
          go_simp
          all_goals with_reducible rfl)
         refine tkH 6 ?_ (hy := by
          refine yieldsIf_load_row (g := C) (t := 23) (cs := cellsN P) (ty := 23) (x := (.tmp 18)) ?_ ?_ ?_ ?_ Tryd.underlying23 rfl HIP.out
          ·rfl
          ·rfl
          ·rfl
          ·exact fun w hSw => hSw.2.2.2.1)
         refine tkH 7 ?_ (hy := by
          refine yieldsIf_load_row (g := (C + 1)) (t := 23) (cs := cellsN Q) (ty := 23) (x := (.tmp 19)) ?_ ?_ ?_ ?_ Tryd.underlying23 rfl HIQ.out
          ·rfl
          ·rfl
          ·rfl
          ·exact fun w hSw => hSw.2.2.2.2)
         refine tkH 9 ?_
         refine tkH 10 ?_
         refine tkH 11 ?_
         refine tkH 12 ?_ (hy := by
          refine Or.inl ⟨by rfl, ?_⟩
          intro wq hSw
          have q0 : wq.cell? ⟨Y, v, none⟩ = some (.pointer (some ⟨D v, 0, none⟩)) := ptr2 (hSw.2.2.1) HV.out
          go_simp
          all_goals with_reducible rfl)
         refine tkH 13 ?_
         refine tkH 14 ?_ (hy := by
          refine Or.inl ⟨by rfl, ?_⟩
          intro wq hSw
          have q0 : wq.cell? ⟨T, 2, none⟩ = some (.int .i64 lv) := (hSw.1).cell 2
          go_simp
          all_goals with_reducible rfl)
         refine tkH 15 ?_ (hy := by
          refine yieldsIf_load_row (g := C) (t := 23) (cs := cellsN P) (ty := 23) (x := (.tmp 18)) ?_ ?_ ?_ ?_ Tryd.underlying23 rfl HIP.out
          ·rfl
          ·rfl
          ·rfl
          ·exact fun w hSw => hSw.2.2.2.1)
         refine tkH 16 ?_ (hy := by
          refine yieldsIf_load_row (g := (C + 1)) (t := 23) (cs := cellsN Q) (ty := 23) (x := (.tmp 19)) ?_ ?_ ?_ ?_ Tryd.underlying23 rfl HIQ.out
          ·rfl
          ·rfl
          ·rfl
          ·exact fun w hSw => hSw.2.2.2.2)
         refine onH 8 (fun KK hKK => ?_)
         go_simp
         refine (HP1.out _ (HT.out _ HI3.out.i.g.bel) HI3.out).mono ?_
         rintro e V4 ⟨rfl, hI4⟩
         have HI4 := Lib.hid hI4
         clear hI4
         try go_wp2_with fail
         refine hKK.out _ _ ?_ (fun hh => ?_)
         ·(try dsimp only)
          exact ⟨HI4.out.i.t, HI4.out.i.g.oX, HI4.out.i.g.oY, HI4.out.p, HI4.out.s⟩
         clear hKK KK
         try simp only [Act.put, setIfInBounds_toArray, set_cons_zero, set_cons_succ]
         refine onH 17 (fun KK hKK => ?_)
         go_simp
         refine (HP2.out _ (HT.out _ HI4.out.i.g.bel) HI4.out).mono ?_
         rintro e V5 ⟨rfl, hI5⟩
         have HI5 := Lib.hid hI5
         clear hI5
         try go_wp2_with fail
         refine hKK.out _ _ ?_ (fun hh2 => ?_)
         ·(try dsimp only)
          exact ⟨HI5.out.i.t, HI5.out.i.g.oX, HI5.out.i.g.oY, HI5.out.p, HI5.out.s⟩
         clear hKK KK
         try simp only [Act.put, setIfInBounds_toArray, set_cons_zero, set_cons_succ]
         refine tkH 18 ?_
         refine tkH 19 ?_
         refine wpAnyH_done (by kernel_rfl) ?_ _
         go_wp2_with fail
         go_meet
         exact ⟨rfl, _, HI5.out.i⟩
     have e0 : (kind == 0) = false := by simpa using hk0
     by_cases hk1 : kind = 1
     ·subst hk1
      as_aux_lemma =>
       obtain ⟨fb, hfb⟩ : ∃ b, (r v).has lv = b := ⟨_, rfl⟩
       obtain ⟨r', hr'⟩ : ∃ r', (if (r v).has lv = true then (r v).drop lv else r v) = r' := ⟨_, rfl⟩
       have HVV : Hid (r'.s1 = 0 → r'.ho = false) := hr' ▸ hv_drop (HI2.out.g.hv v HV.out) lv
       have HP1 : Hid (∀ V, RaI w X Y R D r r T ⟨1, who, lv, num, At, tn, tc, tx, bad⟩ V → Calls Tryd.prog 22 #[.pointer (some ⟨R v, 0, none⟩), .int .i64 lv] V fun e w' => e = .returned (.bool fb) ∧ RaI w X Y R D (putR r v r') r T ⟨1, who, lv, num, At, tn, tc, tx, bad⟩ w') := fun V h =>
        (drop_any (R v) (r v) lv V (h.g.rg v HV.out)).mono fun e w' ⟨h1, h2, h3⟩ => ⟨hfb ▸ h1, h.ring HV.out (hr' ▸ h2) h3 HVV.out⟩
       have HP2 : Hid (∀ V, RaI w X Y R D (putR r v r') r T ⟨1, who, lv, num, At, tn, tc, tx, bad⟩ V → Calls Tryd.prog 29 #[.pointer (some ⟨D v, 0, none⟩), .int .i64 lv] V fun e w' => e = .returned (.bool fb) ∧ RaI w X Y R D (putR r v r') (putR r v r') T ⟨1, who, lv, num, At, tn, tc, tx, bad⟩ w') := fun V h =>
        (rdrop_any (D v) (r v) lv V (h.g.rd v HV.out)).mono fun e w' ⟨h1, h2, h3⟩ => ⟨hfb ▸ h1, h.doc HV.out (hr' ▸ h2) h3⟩
       clear hfb hr' g0 g2 hv
       have k0 : wc.cell? ⟨T, 0, none⟩ = some (.int .i64 1) := HI2.out.t.cell 0
       go_upto_region 28 with fail
       have HI3 := Lib.hid (HI2.out.kept (Below.refl _ wc).drew)
       refine wp_region_held_drew (S := (fun wq => Obj wq T 59 (acells ⟨1, who, lv, num, At, tn, tc, tx, bad⟩) ∧ Obj wq X 44 #[.pointer (some ⟨R 0, 0, none⟩), .pointer (some ⟨R 1, 0, none⟩)] ∧ Obj wq Y 52 #[.pointer (some ⟨D 0, 0, none⟩), .pointer (some ⟨D 1, 0, none⟩)])) (by kernel_rfl) ⟨HI3.out.t, HI3.out.g.oX, HI3.out.g.oY⟩ (fun hHeld => ?_)
       refine tkH 0 ?_
       refine tkH 1 ?_
       refine tkH 2 ?_
       refine tkH 3 ?_ (hy := by
        refine Or.inl ⟨by rfl, ?_⟩
        intro wq hSw
        have q0 : wq.cell? ⟨X, v, none⟩ = some (.pointer (some ⟨R v, 0, none⟩)) := ptr2 (hSw.2.1) HV.out
        go_simp
        all_goals with_reducible rfl)
       refine tkH 4 ?_
       refine tkH 5 ?_ (hy := by
        refine Or.inl ⟨by rfl, ?_⟩
        intro wq hSw
        have q0 : wq.cell? ⟨T, 2, none⟩ = some (.int .i64 lv) := (hSw.1).cell 2
        go_simp
        all_goals with_reducible rfl)
       refine tkH 7 ?_
       refine tkH 8 ?_
       refine tkH 9 ?_
       refine tkH 10 ?_ (hy := by
        refine Or.inl ⟨by rfl, ?_⟩
        intro wq hSw
        have q0 : wq.cell? ⟨Y, v, none⟩ = some (.pointer (some ⟨D v, 0, none⟩)) := ptr2 (hSw.2.2) HV.out
        go_simp
        all_goals with_reducible rfl)
       refine tkH 11 ?_
       refine tkH 12 ?_ (hy := by
        refine Or.inl ⟨by rfl, ?_⟩
        intro wq hSw
        have q0 : wq.cell? ⟨T, 2, none⟩ = some (.int .i64 lv) := (hSw.1).cell 2
        go_simp
        all_goals with_reducible rfl)
       refine onH 6 (fun KK hKK => ?_)
       go_simp
       refine (HP1.out _ HI3.out).mono ?_
       rintro e V4 ⟨rfl, hI4⟩
       have HI4 := Lib.hid hI4
       clear hI4
       try go_wp2_with fail
       refine hKK.out _ _ ?_ (fun hh => ?_)
       ·(try dsimp only)
        exact ⟨HI4.out.t, HI4.out.g.oX, HI4.out.g.oY⟩
       clear hKK KK
       try simp only [Act.put, setIfInBounds_toArray, set_cons_zero, set_cons_succ]
       refine onH 13 (fun KK hKK => ?_)
       go_simp
       refine (HP2.out _ HI4.out).mono ?_
       rintro e V5 ⟨rfl, hI5⟩
       have HI5 := Lib.hid hI5
       clear hI5
       try go_wp2_with fail
       refine hKK.out _ _ ?_ (fun hh2 => ?_)
       ·(try dsimp only)
        exact ⟨HI5.out.t, HI5.out.g.oX, HI5.out.g.oY⟩
       clear hKK KK
       try simp only [Act.put, setIfInBounds_toArray, set_cons_zero, set_cons_succ]
       refine tkH 14 ?_
       refine tkH 15 ?_
       refine wpAnyH_done (by kernel_rfl) ?_ _
       go_wp2_with fail
       go_meet
       exact ⟨rfl, _, HI5.out⟩
     have e1 : (kind == 1) = false := by simpa using hk1
     by_cases hk2 : kind = 2
     ·subst hk2
      as_aux_lemma =>
       obtain ⟨fb, hfb⟩ : ∃ b, (r v).has 1 = b := ⟨_, rfl⟩
       obtain ⟨r', hr'⟩ : ∃ r', (if (r v).has 1 = true then (r v).turn else r v) = r' := ⟨_, rfl⟩
       have HVV : Hid (r'.s1 = 0 → r'.ho = false) := hr' ▸ hv_turn (HI2.out.g.hv v HV.out)
       have HP1 : Hid (∀ V, RaI w X Y R D r r T ⟨2, who, lv, num, At, tn, tc, tx, bad⟩ V → Calls Tryd.prog 21 #[.pointer (some ⟨R v, 0, none⟩)] V fun e w' => e = .returned (.bool fb) ∧ RaI w X Y R D (putR r v r') r T ⟨2, who, lv, num, At, tn, tc, tx, bad⟩ w') := fun V h =>
        (kturn_any (R v) (r v) V (HT.out V h.g.bel) (h.g.rg v HV.out)).mono fun e w' ⟨h1, h2, h3⟩ => ⟨hfb ▸ h1, h.ring HV.out (hr' ▸ h2) h3 HVV.out⟩
       have HP2 : Hid (∀ V, RaI w X Y R D (putR r v r') r T ⟨2, who, lv, num, At, tn, tc, tx, bad⟩ V → Calls Tryd.prog 30 #[.pointer (some ⟨D v, 0, none⟩)] V fun e w' => e = .returned (.bool fb) ∧ RaI w X Y R D (putR r v r') (putR r v r') T ⟨2, who, lv, num, At, tn, tc, tx, bad⟩ w') := fun V h =>
        (rturn_any (D v) (r v) V (HT.out V h.g.bel) (h.g.rd v HV.out)).mono fun e w' ⟨h1, h2, h3⟩ => ⟨hfb ▸ h1, h.doc HV.out (hr' ▸ h2) h3⟩
       clear hfb hr' g0 g2 hv
       have k0 : wc.cell? ⟨T, 0, none⟩ = some (.int .i64 2) := HI2.out.t.cell 0
       go_upto_region 30 with fail
       have HI3 := Lib.hid (HI2.out.kept (Below.refl _ wc).drew)
       refine wp_region_held_drew (S := (fun wq => Obj wq T 59 (acells ⟨2, who, lv, num, At, tn, tc, tx, bad⟩) ∧ Obj wq X 44 #[.pointer (some ⟨R 0, 0, none⟩), .pointer (some ⟨R 1, 0, none⟩)] ∧ Obj wq Y 52 #[.pointer (some ⟨D 0, 0, none⟩), .pointer (some ⟨D 1, 0, none⟩)])) (by kernel_rfl) ⟨HI3.out.t, HI3.out.g.oX, HI3.out.g.oY⟩ (fun hHeld => ?_)
       refine tkH 0 ?_
       refine tkH 1 ?_
       refine tkH 2 ?_
       refine tkH 3 ?_ (hy := by
        refine Or.inl ⟨by rfl, ?_⟩
        intro wq hSw
        have q0 : wq.cell? ⟨X, v, none⟩ = some (.pointer (some ⟨R v, 0, none⟩)) := ptr2 (hSw.2.1) HV.out
        go_simp
        all_goals with_reducible rfl)
       refine tkH 5 ?_
       refine tkH 6 ?_
       refine tkH 7 ?_
       refine tkH 8 ?_ (hy := by
        refine Or.inl ⟨by rfl, ?_⟩
        intro wq hSw
        have q0 : wq.cell? ⟨Y, v, none⟩ = some (.pointer (some ⟨D v, 0, none⟩)) := ptr2 (hSw.2.2) HV.out
        go_simp
        all_goals with_reducible rfl)
       refine onH 4 (fun KK hKK => ?_)
       go_simp
       refine (HP1.out _ HI3.out).mono ?_
       rintro e V4 ⟨rfl, hI4⟩
       have HI4 := Lib.hid hI4
       clear hI4
       try go_wp2_with fail
       refine hKK.out _ _ ?_ (fun hh => ?_)
       ·(try dsimp only)
        exact ⟨HI4.out.t, HI4.out.g.oX, HI4.out.g.oY⟩
       clear hKK KK
       try simp only [Act.put, setIfInBounds_toArray, set_cons_zero, set_cons_succ]
       refine onH 9 (fun KK hKK => ?_)
       go_simp
       refine (HP2.out _ HI4.out).mono ?_
       rintro e V5 ⟨rfl, hI5⟩
       have HI5 := Lib.hid hI5
       clear hI5
       try go_wp2_with fail
       refine hKK.out _ _ ?_ (fun hh2 => ?_)
       ·(try dsimp only)
        exact ⟨HI5.out.t, HI5.out.g.oX, HI5.out.g.oY⟩
       clear hKK KK
       try simp only [Act.put, setIfInBounds_toArray, set_cons_zero, set_cons_succ]
       refine tkH 10 ?_
       refine tkH 11 ?_
       refine wpAnyH_done (by kernel_rfl) ?_ _
       go_wp2_with fail
       go_meet
       exact ⟨rfl, _, HI5.out⟩
     have e2 : (kind == 2) = false := by simpa using hk2
     by_cases hk3 : kind = 3
     ·subst hk3
      as_aux_lemma =>
       by_cases htn : tn ≤ 100
       ·as_aux_lemma =>
        have htn1 : ¬ (tn : Int) > 100 := by omega
        have htn2 : ¬ 100 < (tn : Int) := by omega
        obtain ⟨ph, hph⟩ : ∃ p, (r v).phase = p := ⟨_, rfl⟩
        obtain ⟨m, S, hsl, hsp, hsd⟩ := ra_seal hv lv num HI2.out HOK.out.r HOK.out.l HOK.out.q HOK.out.c htn
        have HSL := Lib.hid hsl
        have HSP := Lib.hid hsp
        have HSD := Lib.hid hsd
        have HPC : Hid (Calls Tryd.prog 20 #[.pointer (some ⟨R v, 0, none⟩)] wc fun e w' => e = .returned (.bool ph) ∧ wc = w') := by
         have hpc := phase_any (R v) (r v) wc (HI2.out.g.rg v hv)
         rw [hph] at hpc
         exact hpc
        have k0 : wc.cell? ⟨T, 0, none⟩ = some (.int .i64 3) := HI2.out.t.cell 0
        have k4 : wc.cell? ⟨T, 4, none⟩ = some (.slice At tn tc) := HI2.out.t.cell 4
        have kx := HI2.out.g.px hv
        clear hph hsl hsp hsd g0 g2 hv htn
        go_wp2_with fail
        refine HPC.out.mono ?_
        rintro e w' ⟨rfl, rfl⟩
        clear k0 k4 kx HPC
        go_upto_region 35 with fail
        have HI3 := Lib.hid (HI2.out.kept (Below.refl _ wc).drew)
        refine wp_region_held_drew (S := (fun wq => Obj wq T 59 (acells ⟨3, who, lv, num, At, tn, tc, tx, bad⟩) ∧ Obj wq X 44 #[.pointer (some ⟨R 0, 0, none⟩), .pointer (some ⟨R 1, 0, none⟩)])) (by kernel_rfl) ⟨HI3.out.t, HI3.out.g.oX⟩ (fun hHeld5 => ?_)
        generalize wc.drew = Wd5 at *
        obtain ⟨G5, hG5⟩ : ∃ G, Wd5.heap.size = G := ⟨_, rfl⟩
        have HA5 := Lib.hid (HI3.out.kept ((Below.refl _ Wd5).alloc (Nat.le_refl _) (.cells #[.int .u8 109] 5)))
        have HB5 := Lib.hid (HI3.out.kept ((Below.refl _ Wd5).alloc (Nat.le_refl _) (.cells #[.int .u8 109] 5 (1, 2))))
        have HM5 : Hid (Rd (Wd5.alloc (.cells #[.int .u8 109] 5 (1, 2))) (some ⟨G5, 0, none⟩) [109]) := lit_rd' Wd5 [109] (1, 2) hG5
        have kc5 := fun (C : Array Value) (n c : Nat) => conv_at Wd5 C n c G5 hG5.symm
        refine tkH 0 ?_
        refine tkH 1 ?_
        refine tkH 2 ?_
        refine tkH 3 ?_ (hy := by
         refine Or.inl ⟨by rfl, ?_⟩
         intro wq hSw
         have q0 : wq.cell? ⟨X, v, none⟩ = some (.pointer (some ⟨R v, 0, none⟩)) := ptr2 (hSw.2) HV.out
         go_simp
         all_goals with_reducible rfl)
        refine tkH 4 ?_
        refine tkH 5 ?_ (hy := by
         refine Or.inl ⟨by rfl, ?_⟩
         intro wq hSw
         have q0 : wq.cell? ⟨T, 2, none⟩ = some (.int .i64 lv) := (hSw.1).cell 2
         go_simp
         all_goals with_reducible rfl)
        refine tkH 6 ?_
        refine tkH 7 ?_ (hy := by
         refine Or.inl ⟨by rfl, ?_⟩
         intro wq hSw
         have q0 : wq.cell? ⟨T, 3, none⟩ = some (.int .i64 num) := (hSw.1).cell 3
         go_simp
         all_goals with_reducible rfl)
        refine tkH 10 ?_
        refine tkH 11 ?_ (hy := by
         refine Or.inl ⟨by rfl, ?_⟩
         intro wq hSw
         have q0 : wq.cell? ⟨T, 4, none⟩ = some (.slice At tn tc) := (hSw.1).cell 4
         go_simp
         all_goals with_reducible rfl)
        refine onH 8 (fun KK hKK => ?_)
        go_simp
        try rw [hG5]
        refine hKK.out _ _ ?_ (fun hha5 => ?_)
        ·(try dsimp only)
         exact ⟨HA5.out.t, HA5.out.g.oX⟩
        clear hKK KK
        try simp only [Act.put, setIfInBounds_toArray, set_cons_zero, set_cons_succ]
        refine onH 9 (fun KK hKK => ?_)
        go_simp
        refine hKK.out _ _ ?_ (fun hhb5 => ?_)
        ·(try dsimp only)
         exact ⟨HB5.out.t, HB5.out.g.oX⟩
        clear hKK KK
        try simp only [Act.put, setIfInBounds_toArray, set_cons_zero, set_cons_succ]
        clear kc5 hG5
        refine onH 12 (fun KK hKK => ?_)
        go_simp
        refine (HSP.out _ G5 HB5.out HM5.out).mono ?_
        rintro e V6 ⟨A6, c6, rfl, hc6, ho6, hr6, hb6⟩
        have HI6 := Lib.hid (HB5.out.kept hb6)
        have HR6 := Lib.hid hr6
        have HO6 := Lib.hid ho6
        have HC6 := Lib.hid hc6
        clear hb6 hr6 ho6 hc6
        try go_wp2_with fail
        refine hKK.out _ _ ?_ (fun hhc5 => ?_)
        ·(try dsimp only)
         exact ⟨HI6.out.t, HI6.out.g.oX⟩
        clear hKK KK
        try simp only [Act.put, setIfInBounds_toArray, set_cons_zero, set_cons_succ]
        refine tkH 13 ?_
        refine wpAnyH_done (by kernel_rfl) ?_ _
        clear hHeld5 hha5 hhb5 hhc5 HA5 HB5 HM5 HSP
        clear HI2 HI3
        as_aux_lemma =>
        go_upto_region 36 with fail
        have HI7 := Lib.hid (HI6.out.kept (Below.refl _ V6).drew)
        have HR7 := Lib.hid (HR6.out.below (Below.refl _ V6).drew)
        have HO7 : Hid (V6.drew.ownsRow (Y + 1) 5 1 (.slice A6 m c6) m (S.map u8v)) := ownsRow_kept HO6.out (Below.refl _ V6).drew
        refine wp_region_held_drew (S := (fun wq => Obj wq T 59 (acells ⟨3, who, lv, num, At, tn, tc, tx, bad⟩) ∧ Obj wq Y 52 #[.pointer (some ⟨D 0, 0, none⟩), .pointer (some ⟨D 1, 0, none⟩)])) (by kernel_rfl) ⟨HI7.out.t, HI7.out.g.oY⟩ (fun hHeld7 => ?_)
        generalize V6.drew = Wd7 at *
        obtain ⟨G7, hG7⟩ : ∃ G, Wd7.heap.size = G := ⟨_, rfl⟩
        have HA7 := Lib.hid (HI7.out.kept ((Below.refl _ Wd7).alloc (Nat.le_refl _) (.cells #[.int .u8 109] 5)))
        have HB7 := Lib.hid (HI7.out.kept ((Below.refl _ Wd7).alloc (Nat.le_refl _) (.cells #[.int .u8 109] 5 (1, 2))))
        have HM7 : Hid (Rd (Wd7.alloc (.cells #[.int .u8 109] 5 (1, 2))) (some ⟨G7, 0, none⟩) [109]) := lit_rd' Wd7 [109] (1, 2) hG7
        have kc7 := fun (C : Array Value) (n c : Nat) => conv_at Wd7 C n c G7 hG7.symm
        refine tkH 0 ?_
        refine tkH 1 ?_
        refine tkH 2 ?_
        refine tkH 3 ?_ (hy := by
         refine Or.inl ⟨by rfl, ?_⟩
         intro wq hSw
         have q0 : wq.cell? ⟨Y, v, none⟩ = some (.pointer (some ⟨D v, 0, none⟩)) := ptr2 (hSw.2) HV.out
         go_simp
         all_goals with_reducible rfl)
        refine tkH 4 ?_
        refine tkH 5 ?_ (hy := by
         refine Or.inl ⟨by rfl, ?_⟩
         intro wq hSw
         have q0 : wq.cell? ⟨T, 2, none⟩ = some (.int .i64 lv) := (hSw.1).cell 2
         go_simp
         all_goals with_reducible rfl)
        refine tkH 6 ?_
        refine tkH 7 ?_ (hy := by
         refine Or.inl ⟨by rfl, ?_⟩
         intro wq hSw
         have q0 : wq.cell? ⟨T, 3, none⟩ = some (.int .i64 num) := (hSw.1).cell 3
         go_simp
         all_goals with_reducible rfl)
        refine tkH 10 ?_
        refine tkH 11 ?_ (hy := by
         refine Or.inl ⟨by rfl, ?_⟩
         intro wq hSw
         have q0 : wq.cell? ⟨T, 4, none⟩ = some (.slice At tn tc) := (hSw.1).cell 4
         go_simp
         all_goals with_reducible rfl)
        refine onH 8 (fun KK hKK => ?_)
        go_simp
        try rw [hG7]
        refine hKK.out _ _ ?_ (fun hha7 => ?_)
        ·(try dsimp only)
         exact ⟨HA7.out.t, HA7.out.g.oY⟩
        clear hKK KK
        try simp only [Act.put, setIfInBounds_toArray, set_cons_zero, set_cons_succ]
        refine onH 9 (fun KK hKK => ?_)
        go_simp
        refine hKK.out _ _ ?_ (fun hhb7 => ?_)
        ·(try dsimp only)
         exact ⟨HB7.out.t, HB7.out.g.oY⟩
        clear hKK KK
        try simp only [Act.put, setIfInBounds_toArray, set_cons_zero, set_cons_succ]
        clear kc7 hG7
        refine onH 12 (fun KK hKK => ?_)
        go_simp
        refine (HSD.out _ G7 HB7.out HM7.out).mono ?_
        rintro e V8 ⟨A8, c8, rfl, hr8, hb8⟩
        have HI8 := Lib.hid (HB7.out.kept hb8)
        have HR8 := Lib.hid hr8
        have hal := (Below.refl _ Wd7).alloc (Nat.le_refl _) (.cells #[.int .u8 109] 5 (1, 2))
        have HR6b := Lib.hid ((HR7.out.below hal).below hb8)
        have HO8 := Lib.hid (ownsRow_kept (ownsRow_kept HO7.out hal) hb8)
        clear hb8 hr8 hal
        try go_wp2_with fail
        refine hKK.out _ _ ?_ (fun hhc7 => ?_)
        ·(try dsimp only)
         exact ⟨HI8.out.t, HI8.out.g.oY⟩
        clear hKK KK
        try simp only [Act.put, setIfInBounds_toArray, set_cons_zero, set_cons_succ]
        refine tkH 13 ?_
        refine wpAnyH_done (by kernel_rfl) ?_ _
        clear hHeld7 hha7 hhb7 hhc7 HA7 HB7 HM7 HSD
        clear HI6 HI7 HR6 HR7 HO6 HO7
        as_aux_lemma =>
        have HSM := Lib.hid (same_one S V8 HR6b.out HR8.out HSL.out.2.2 (by have := HSL.out.1; omega) c6 c8)
        go_wp2_with fail
        refine HSM.out.mono ?_
        rintro e V9 ⟨rfl, q9, hq9⟩
        have hb9 := below_drewN' hq9
        have HI9 := Lib.hid (HI8.out.kept hb9)
        have HR9 := Lib.hid (HR6b.out.below hb9)
        have HO9 := Lib.hid (ownsRow_kept HO8.out hb9)
        clear hq9 hb9 HSM HI8 HR6b HR8 HO8
        have HFA := Lib.hid (fr_own HO9.out)
        have k5 : V9.cell? ⟨T, 5, none⟩ = some (.bool bad) := HI9.out.t.cell 5
        obtain ⟨bb, hbb⟩ : ∃ b, (bad && decide (0 < m)) = b := ⟨_, rfl⟩
        have HBB := Lib.hid hbb
        clear hbb
        go_upto_region 39 with fail
        go_cut [228] (fun s wx => s = .bool bb ∧ wx = V9)
        case first =>
         as_aux_lemma =>
         by_cases hbad : bad = true
         ·have k6 : V9.cell? ⟨T, 5, none⟩ = some (.bool true) := by rw [k5, hbad]
          clear k5
          by_cases hm0 : 0 < m
          ·have hb0 : bb = true := by rw [← HBB.out, decide_eq_true hm0, hbad]; rfl
           have hm1 : (m : Int) > 0 := by omega
           have hm2 : 0 < (m : Int) := by omega
           clear hbad
           go_wp2_with fail
           go_meet
           exact ⟨by rw [hb0], rfl⟩
          ·have hb0 : bb = false := by rw [← HBB.out, decide_eq_false hm0, hbad]; rfl
           have hm1 : ¬ (m : Int) > 0 := by omega
           have hm2 : ¬ 0 < (m : Int) := by omega
           clear hbad
           go_wp2_with fail
           go_meet
           exact ⟨by rw [hb0], rfl⟩
         ·have hbf : bad = false := by simpa using hbad
          have k6 : V9.cell? ⟨T, 5, none⟩ = some (.bool false) := by rw [k5, hbf]
          have hb0 : bb = false := by rw [← HBB.out, hbf]; rfl
          clear k5 hbad hbf
          go_wp2_with fail
          go_meet
          exact ⟨by rw [hb0], rfl⟩
        case rest =>
        as_aux_lemma =>
        obtain ⟨rfl, rfl⟩ := hcut
        clear k5
        go_upto_if 228 with fail
        go_cut [21] (fun s wx => s = .slice A6 m c6 ∧ ∃ S' : List Nat, S'.length = m ∧ Ae.bytes S' ∧ Rd wx A6 S' ∧ RaI w X Y R D r r T ⟨3, who, lv, num, At, tn, tc, tx, bad⟩ wx)
        case first =>
         as_aux_lemma =>
         cases bb
         ·go_wp2_with fail
          go_meet
          exact ⟨rfl, S, HSL.out.2.2, HSL.out.2.1, HR9.out, HI9.out⟩
         ·have hm0 : 0 < m := by have h := HBB.out; simp only [Bool.and_eq_true, decide_eq_true_eq] at h; exact h.2
          have hm1 : (m : Int) > 0 := by omega
          have hm2 : 0 < (m : Int) := by omega
          obtain ⟨g, cap, tail, e5, hg, hcap, hog, hmx, _⟩ := own_row (n := m) (l := S) (by simpa using HO9.out) hm0
          obtain ⟨rfl, rfl⟩ : A6 = some ⟨g, 0, none⟩ ∧ c6 = cap := by cases e5; exact ⟨rfl, rfl⟩
          have d0 := hog.getT 0 (by rw [HSL.out.2.2]; exact hm0)
          have d1 := hog.free 0
          obtain ⟨x, hx⟩ : ∃ x, S.getD 0 0 = x := ⟨_, rfl⟩
          have hx8 : x < 256 := by rw [← hx]; exact Ae.bytes_get HSL.out.2.1 0
          rw [hx] at d0
          obtain ⟨y, hy, hy8⟩ : ∃ y : Nat, IntKind.u8.wrap ((x : Int) + 1) = (y : Int) ∧ y < 256 := ⟨(x + 1) % 256, by rw [IntKind.wrap_u8]; omega, Nat.mod_lt _ (by decide)⟩
          have o8 := hog.setT 0 y (by rw [HSL.out.2.2]; exact hm0)
          have HI10 := Lib.hid (HI9.out.updT hog (by omega) ((Upd.refl g wc).set 0 (.int .u8 (y : Int))) (by decide) (by decide))
          have HR10 : Hid (Rd (wc.setCell ⟨g, 0, none⟩ (.int .u8 (y : Int))) (some ⟨g, 0, none⟩) (S.set 0 y)) := rowT_rd o8
          have HQ10 : Hid ((S.set 0 y).length = m ∧ Ae.bytes (S.set 0 y)) := ⟨by rw [List.length_set]; exact HSL.out.2.2, fun c hc => by
           rcases List.mem_or_eq_of_mem_set hc with h | rfl
           ·exact HSL.out.2.1 c h
           ·exact hy8⟩
          clear hog o8 hx HI9 HR9 HO9 hmx e5 hg hcap
          go_wp2_with fail
          go_meet
          exact ⟨rfl, _, HQ10.out.1, HQ10.out.2, HR10.out, HI10.out⟩
        case rest =>
         as_aux_lemma =>
         clear HI9 HR9 HO9
         obtain ⟨rfl, S', hSl, hSq, hSr, hSi⟩ := hcut
         obtain ⟨o, ho⟩ : ∃ o, v + o = 1 := ⟨1 - v, by have := HV.out; omega⟩
         have ho2 : o < 2 := by omega
         have e3o : (1 : Int) - (v : Int) = (o : Int) := by omega
         have hoi : (o : Int) < 2 := by omega
         have ho0 : (0 : Int) ≤ (o : Int) := Int.natCast_nonneg o
         have how : IntKind.i64.wrap (o : Int) = (o : Int) := by rw [IntKind.wrap_i64]; omega
         have hot : (o : Int).toNat = o := Int.toNat_natCast o
         obtain ⟨E, t, r', htl, hop, hod⟩ := ra_open (w := w) (X := X) (R := R) (D := D) (r := r) (T := T) (a := ⟨3, who, lv, num, At, tn, tc, tx, bad⟩) ho2 lv num ph hSl hSq HSL.out.1 HC6.out HFA.out
         have HTL := Lib.hid htl
         have HOP := Lib.hid hop
         have HOD := Lib.hid hod
         have HI10 := Lib.hid (hSi.kept (Below.refl _ wc).drew)
         have HR10 := Lib.hid (hSr.below (Below.refl _ wc).drew)
         have HO := Lib.hid ho2
         clear htl hop hod hSl hSq hSr hSi ho2 ho
         go_upto_region 41 with fail
         refine wp_region_held_drew (S := (fun wq => Obj wq T 59 (acells ⟨3, who, lv, num, At, tn, tc, tx, bad⟩) ∧ Obj wq X 44 #[.pointer (some ⟨R 0, 0, none⟩), .pointer (some ⟨R 1, 0, none⟩)])) (by kernel_rfl) ⟨HI10.out.t, HI10.out.g.oX⟩ (fun hHeld11 => ?_)
         generalize wc.drew = Wd11 at *
         obtain ⟨G11, hG11⟩ : ∃ G, Wd11.heap.size = G := ⟨_, rfl⟩
         have HA11 := Lib.hid (HI10.out.kept ((Below.refl _ Wd11).alloc (Nat.le_refl _) (.cells #[.int .u8 109] 5)))
         have HB11 := Lib.hid (HI10.out.kept ((Below.refl _ Wd11).alloc (Nat.le_refl _) (.cells #[.int .u8 109] 5 (1, 2))))
         have HM11 : Hid (Rd (Wd11.alloc (.cells #[.int .u8 109] 5 (1, 2))) (some ⟨G11, 0, none⟩) [109]) := lit_rd' Wd11 [109] (1, 2) hG11
         have kc11 := fun (C : Array Value) (n c : Nat) => conv_at Wd11 C n c G11 hG11.symm
         have HS11 := Lib.hid (HR10.out.below ((Below.refl _ Wd11).alloc (Nat.le_refl _) (.cells #[.int .u8 109] 5 (1, 2))))
         refine tkH 0 ?_
         refine tkH 1 ?_
         refine tkH 2 ?_
         refine tkH 3 ?_
         refine tkH 4 ?_ (hy := by
          refine Or.inl ⟨by rfl, ?_⟩
          intro wq hSw
          have q0 : wq.cell? ⟨X, o, none⟩ = some (.pointer (some ⟨R o, 0, none⟩)) := ptr2 (hSw.2) HO.out
          go_simp
          all_goals with_reducible rfl)
         refine tkH 5 ?_
         refine tkH 6 ?_ (hy := by
          refine Or.inl ⟨by rfl, ?_⟩
          intro wq hSw
          have q0 : wq.cell? ⟨T, 2, none⟩ = some (.int .i64 lv) := (hSw.1).cell 2
          go_simp
          all_goals with_reducible rfl)
         refine tkH 7 ?_
         refine tkH 8 ?_
         refine tkH 9 ?_ (hy := by
          refine Or.inl ⟨by rfl, ?_⟩
          intro wq hSw
          have q0 : wq.cell? ⟨T, 3, none⟩ = some (.int .i64 num) := (hSw.1).cell 3
          go_simp
          all_goals with_reducible rfl)
         refine tkH 12 ?_
         refine onH 10 (fun KK hKK => ?_)
         go_simp
         try rw [hG11]
         refine hKK.out _ _ ?_ (fun hha11 => ?_)
         ·(try dsimp only)
          exact ⟨HA11.out.t, HA11.out.g.oX⟩
         clear hKK KK
         try simp only [Act.put, setIfInBounds_toArray, set_cons_zero, set_cons_succ]
         refine onH 11 (fun KK hKK => ?_)
         go_simp
         refine hKK.out _ _ ?_ (fun hhb11 => ?_)
         ·(try dsimp only)
          exact ⟨HB11.out.t, HB11.out.g.oX⟩
         clear hKK KK
         try simp only [Act.put, setIfInBounds_toArray, set_cons_zero, set_cons_succ]
         clear kc11 hG11
         refine onH 13 (fun KK hKK => ?_)
         go_simp
         refine (HOP.out _ G11 (HT.out _ HB11.out.g.bel) HB11.out HM11.out HS11.out).mono ?_
         rintro e V12 ⟨A12, n12, c12, rfl, hr12, hl12, hI12, hf12, hs12⟩
         have HI12 := Lib.hid hI12
         have HT12 := Lib.hid hr12
         have HL12 := Lib.hid hl12
         have HF12 := Lib.hid hf12
         have HR12 := Lib.hid hs12
         clear hr12 hl12 hI12 hf12 hs12
         try go_wp2_with fail
         refine hKK.out _ _ ?_ (fun hhc11 => ?_)
         ·(try dsimp only)
          exact ⟨HI12.out.t, HI12.out.g.oX⟩
         clear hKK KK
         try simp only [Act.put, setIfInBounds_toArray, set_cons_zero, set_cons_succ]
         refine tkH 14 ?_
         refine tkH 15 ?_
         refine tkH 16 ?_
         refine tkH 17 ?_
         refine tkH 18 ?_
         refine wpAnyH_done (by kernel_rfl) ?_ _
         clear hHeld11 hha11 hhb11 hhc11 HA11 HB11 HM11 HS11 HOP
         clear HI10 HR10
         as_aux_lemma =>
         go_upto_region 42 with fail
         have HI13 := Lib.hid (HI12.out.kept (Below.refl _ V12).drew)
         have HR13 := Lib.hid (HR12.out.below (Below.refl _ V12).drew)
         have HT13 := Lib.hid (HT12.out.below (Below.refl _ V12).drew)
         refine wp_region_held_drew (S := (fun wq => Obj wq T 59 (acells ⟨3, who, lv, num, At, tn, tc, tx, bad⟩) ∧ Obj wq Y 52 #[.pointer (some ⟨D 0, 0, none⟩), .pointer (some ⟨D 1, 0, none⟩)])) (by kernel_rfl) ⟨HI13.out.t, HI13.out.g.oY⟩ (fun hHeld13 => ?_)
         generalize V12.drew = Wd13 at *
         obtain ⟨G13, hG13⟩ : ∃ G, Wd13.heap.size = G := ⟨_, rfl⟩
         have HA13 := Lib.hid (HI13.out.kept ((Below.refl _ Wd13).alloc (Nat.le_refl _) (.cells #[.int .u8 109] 5)))
         have HB13 := Lib.hid (HI13.out.kept ((Below.refl _ Wd13).alloc (Nat.le_refl _) (.cells #[.int .u8 109] 5 (1, 2))))
         have HM13 : Hid (Rd (Wd13.alloc (.cells #[.int .u8 109] 5 (1, 2))) (some ⟨G13, 0, none⟩) [109]) := lit_rd' Wd13 [109] (1, 2) hG13
         have kc13 := fun (C : Array Value) (n c : Nat) => conv_at Wd13 C n c G13 hG13.symm
         have HS13 := Lib.hid (HR13.out.below ((Below.refl _ Wd13).alloc (Nat.le_refl _) (.cells #[.int .u8 109] 5 (1, 2))))
         refine tkH 0 ?_
         refine tkH 1 ?_
         refine tkH 2 ?_
         refine tkH 3 ?_
         refine tkH 4 ?_ (hy := by
          refine Or.inl ⟨by rfl, ?_⟩
          intro wq hSw
          have q0 : wq.cell? ⟨Y, o, none⟩ = some (.pointer (some ⟨D o, 0, none⟩)) := ptr2 (hSw.2) HO.out
          go_simp
          all_goals with_reducible rfl)
         refine tkH 5 ?_
         refine tkH 6 ?_ (hy := by
          refine Or.inl ⟨by rfl, ?_⟩
          intro wq hSw
          have q0 : wq.cell? ⟨T, 2, none⟩ = some (.int .i64 lv) := (hSw.1).cell 2
          go_simp
          all_goals with_reducible rfl)
         refine tkH 7 ?_
         refine tkH 8 ?_
         refine tkH 9 ?_ (hy := by
          refine Or.inl ⟨by rfl, ?_⟩
          intro wq hSw
          have q0 : wq.cell? ⟨T, 3, none⟩ = some (.int .i64 num) := (hSw.1).cell 3
          go_simp
          all_goals with_reducible rfl)
         refine tkH 12 ?_
         refine onH 10 (fun KK hKK => ?_)
         go_simp
         try rw [hG13]
         refine hKK.out _ _ ?_ (fun hha13 => ?_)
         ·(try dsimp only)
          exact ⟨HA13.out.t, HA13.out.g.oY⟩
         clear hKK KK
         try simp only [Act.put, setIfInBounds_toArray, set_cons_zero, set_cons_succ]
         refine onH 11 (fun KK hKK => ?_)
         go_simp
         refine hKK.out _ _ ?_ (fun hhb13 => ?_)
         ·(try dsimp only)
          exact ⟨HB13.out.t, HB13.out.g.oY⟩
         clear hKK KK
         try simp only [Act.put, setIfInBounds_toArray, set_cons_zero, set_cons_succ]
         clear kc13 hG13
         refine onH 13 (fun KK hKK => ?_)
         go_simp
         refine (HOD.out _ G13 (HT.out _ HB13.out.g.bel) HB13.out HM13.out HS13.out).mono ?_
         rintro e V14 ⟨A14, n14, c14, rfl, hr14, hl14, hI14, hu14⟩
         have HI14 := Lib.hid hI14
         have HU14 := Lib.hid hr14
         have HL14 := Lib.hid hl14
         have hta := HT13.out.below ((Below.refl _ Wd13).alloc (Nat.le_refl _) (.cells #[.int .u8 109] 5 (1, 2)))
         have HT14 := Lib.hid (hu14 _ HF12.out hta)
         clear hr14 hl14 hI14 hu14 hta
         try go_wp2_with fail
         refine hKK.out _ _ ?_ (fun hhc13 => ?_)
         ·(try dsimp only)
          exact ⟨HI14.out.t, HI14.out.g.oY⟩
         clear hKK KK
         try simp only [Act.put, setIfInBounds_toArray, set_cons_zero, set_cons_succ]
         refine tkH 14 ?_
         refine tkH 15 ?_
         refine tkH 16 ?_
         refine tkH 17 ?_
         refine tkH 18 ?_
         refine wpAnyH_done (by kernel_rfl) ?_ _
         clear hHeld13 hha13 hhb13 hhc13 HA13 HB13 HM13 HS13 HOD
         clear HI12 HI13 HR12 HR13 HT12 HT13
         as_aux_lemma =>
         obtain rfl : n12 = n14 := HL12.out.symm.trans HL14.out
         have HSM := Lib.hid (same_one t V14 HT14.out HU14.out HL12.out (by have := HTL.out; have := HL12.out; omega) c12 c14)
         go_wp2_with fail
         refine HSM.out.mono ?_
         rintro e V15 ⟨rfl, q15, hq15⟩
         have HI15 := Lib.hid (HI14.out.kept (below_drewN' hq15))
         clear hq15 HSM HI14 HT14 HU14
         go_wp2_with fail
         go_meet
         exact ⟨rfl, _, HI15.out⟩
       ·have htn1 : (tn : Int) > 100 := by omega
        have htn2 : 100 < (tn : Int) := by omega
        have k0 : wc.cell? ⟨T, 0, none⟩ = some (.int .i64 3) := HI2.out.t.cell 0
        have k4 : wc.cell? ⟨T, 4, none⟩ = some (.slice At tn tc) := HI2.out.t.cell 4
        go_wp2
        go_ret
        exact ⟨rfl, HI2.out.g.bel⟩
     have e3 : (kind == 3) = false := by simpa using hk3
     go_wp2_with fail
     go_meet
     exact ⟨rfl, r, HI2.out⟩
    case rest =>
     as_aux_lemma =>
      clear g0 g2 HI2
      obtain ⟨rfl, r, hI⟩ := hcut
      have HI3 := Lib.hid hI
      clear hI
      go_wp2_with fail
      go_loopg [27, 17] 2 (fun g i s wz => ∃ j : Nat, j + g = 2 ∧ i = .int .i64 (j : Int) ∧ s = .bool true ∧ RaI w X Y R D r r T ⟨kind, who, lv, num, At, tn, tc, tx, bad⟩ wz)
      case atStart => exact ⟨0, rfl, rfl, rfl, HI3.out⟩
      case round =>
       clear HI3
       obtain ⟨j, hj, rfl, rfl, hI⟩ := hrel
       have HI4 := Lib.hid hI
       clear hI
       by_cases hj2 : j < 2
       ·have hji : (j : Int) < 2 := by omega
        have HJ := Lib.hid hj2
        obtain ⟨lvv, hlv⟩ : ∃ x, (r j).live = x := ⟨_, rfl⟩
        obtain ⟨ph, hph⟩ : ∃ x, (r j).phase = x := ⟨_, rfl⟩
        obtain ⟨hs, hhs⟩ : ∃ x, (r j).has lv = x := ⟨_, rfl⟩
        have HLP : Hid (∀ V, RaI w X Y R D r r T ⟨kind, who, lv, num, At, tn, tc, tx, bad⟩ V → Calls Tryd.prog 19 #[.pointer (some ⟨R j, 0, none⟩)] V fun e w' => e = .returned (.int .i64 (lvv : Int)) ∧ RaI w X Y R D r r T ⟨kind, who, lv, num, At, tn, tc, tx, bad⟩ w') := fun V h =>
         (live_any (R j) (r j) V (h.g.rg j HJ.out)).mono fun e w' ⟨h1, h2⟩ => ⟨hlv ▸ h1, h.kept h2⟩
        have HLD : Hid (∀ V, RaI w X Y R D r r T ⟨kind, who, lv, num, At, tn, tc, tx, bad⟩ V → Calls Tryd.prog 33 #[.pointer (some ⟨D j, 0, none⟩)] V fun e w' => e = .returned (.int .i64 (lvv : Int)) ∧ V = w') := fun V h => hlv ▸ rlive_any (D j) (r j) V (h.g.rd j HJ.out)
        have HPP : Hid (∀ V, RaI w X Y R D r r T ⟨kind, who, lv, num, At, tn, tc, tx, bad⟩ V → Calls Tryd.prog 20 #[.pointer (some ⟨R j, 0, none⟩)] V fun e w' => e = .returned (.bool ph) ∧ V = w') := fun V h => hph ▸ phase_any (R j) (r j) V (h.g.rg j HJ.out)
        have HPD : Hid (∀ V, RaI w X Y R D r r T ⟨kind, who, lv, num, At, tn, tc, tx, bad⟩ V → Calls Tryd.prog 34 #[.pointer (some ⟨D j, 0, none⟩)] V fun e w' => e = .returned (.bool ph) ∧ V = w') := fun V h => hph ▸ rphase_any (D j) (r j) V (h.g.rd j HJ.out)
        have HHP : Hid (∀ V, RaI w X Y R D r r T ⟨kind, who, lv, num, At, tn, tc, tx, bad⟩ V → Calls Tryd.prog 18 #[.pointer (some ⟨R j, 0, none⟩), .int .i64 lv] V fun e w' => e = .returned (.bool hs) ∧ V = w') := fun V h => hhs ▸ has_any (R j) (r j) lv V (h.g.rg j HJ.out)
        have HHD : Hid (∀ V, RaI w X Y R D r r T ⟨kind, who, lv, num, At, tn, tc, tx, bad⟩ V → Calls Tryd.prog 35 #[.pointer (some ⟨D j, 0, none⟩), .int .i64 lv] V fun e w' => e = .returned (.bool hs) ∧ V = w') := fun V h => hhs ▸ rhas_any (D j) (r j) lv V (h.g.rd j HJ.out)
        clear hlv hph hhs hj2
        go_upto_region 47 with fail
        have HI5 := Lib.hid (HI4.out.kept (Below.refl _ wr).drew)
        refine wp_region_held_drew (S := (fun wq => Obj wq T 59 (acells ⟨kind, who, lv, num, At, tn, tc, tx, bad⟩) ∧ Obj wq X 44 #[.pointer (some ⟨R 0, 0, none⟩), .pointer (some ⟨R 1, 0, none⟩)] ∧ Obj wq Y 52 #[.pointer (some ⟨D 0, 0, none⟩), .pointer (some ⟨D 1, 0, none⟩)])) (by kernel_rfl) ⟨HI5.out.t, HI5.out.g.oX, HI5.out.g.oY⟩ (fun hHeld => ?_)
        refine tkH 0 ?_
        refine tkH 1 ?_
        refine tkH 2 ?_
        refine tkH 3 ?_
        refine tkH 4 ?_
        refine tkH 5 ?_ (hy := by
         refine Or.inl ⟨by rfl, ?_⟩
         intro wq hSw
         have q0 : wq.cell? ⟨X, j, none⟩ = some (.pointer (some ⟨R j, 0, none⟩)) := ptr2 (hSw.2.1) HJ.out
         go_simp
         all_goals with_reducible rfl)
        refine tkH 7 ?_
        refine tkH 8 ?_
        refine tkH 9 ?_
        refine tkH 10 ?_ (hy := by
         refine Or.inl ⟨by rfl, ?_⟩
         intro wq hSw
         have q0 : wq.cell? ⟨Y, j, none⟩ = some (.pointer (some ⟨D j, 0, none⟩)) := ptr2 (hSw.2.2) HJ.out
         go_simp
         all_goals with_reducible rfl)
        refine onH 6 (fun KK hKK => ?_)
        go_simp
        refine (HLP.out _ HI5.out).mono ?_
        rintro e V6 ⟨rfl, hI6⟩
        have HI6 := Lib.hid hI6
        clear hI6
        try go_wp2_with fail
        refine hKK.out _ _ ?_ (fun hh1 => ?_)
        ·(try dsimp only)
         exact ⟨HI6.out.t, HI6.out.g.oX, HI6.out.g.oY⟩
        clear hKK KK
        try simp only [Act.put, setIfInBounds_toArray, set_cons_zero, set_cons_succ]
        refine onH 11 (fun KK hKK => ?_)
        go_simp
        refine (HLD.out _ HI6.out).mono ?_
        rintro e w' ⟨rfl, rfl⟩
        try go_wp2_with fail
        refine hKK.out _ _ ?_ (fun hh2 => ?_)
        ·(try dsimp only)
         exact ⟨HI6.out.t, HI6.out.g.oX, HI6.out.g.oY⟩
        clear hKK KK
        try simp only [Act.put, setIfInBounds_toArray, set_cons_zero, set_cons_succ]
        refine tkH 12 ?_
        refine tkH 13 ?_
        refine tkH 14 ?_
        refine tkH 15 ?_
        refine tkH 16 ?_
        refine tkH 17 ?_
        refine tkH 18 ?_ (hy := by
         refine Or.inl ⟨by rfl, ?_⟩
         intro wq hSw
         have q0 : wq.cell? ⟨X, j, none⟩ = some (.pointer (some ⟨R j, 0, none⟩)) := ptr2 (hSw.2.1) HJ.out
         go_simp
         all_goals with_reducible rfl)
        refine tkH 20 ?_
        refine tkH 21 ?_
        refine tkH 22 ?_
        refine tkH 23 ?_ (hy := by
         refine Or.inl ⟨by rfl, ?_⟩
         intro wq hSw
         have q0 : wq.cell? ⟨Y, j, none⟩ = some (.pointer (some ⟨D j, 0, none⟩)) := ptr2 (hSw.2.2) HJ.out
         go_simp
         all_goals with_reducible rfl)
        refine onH 19 (fun KK hKK => ?_)
        go_simp
        refine (HPP.out _ HI6.out).mono ?_
        rintro e w' ⟨rfl, rfl⟩
        try go_wp2_with fail
        refine hKK.out _ _ ?_ (fun hh3 => ?_)
        ·(try dsimp only)
         exact ⟨HI6.out.t, HI6.out.g.oX, HI6.out.g.oY⟩
        clear hKK KK
        try simp only [Act.put, setIfInBounds_toArray, set_cons_zero, set_cons_succ]
        refine onH 24 (fun KK hKK => ?_)
        go_simp
        refine (HPD.out _ HI6.out).mono ?_
        rintro e w' ⟨rfl, rfl⟩
        try go_wp2_with fail
        refine hKK.out _ _ ?_ (fun hh4 => ?_)
        ·(try dsimp only)
         exact ⟨HI6.out.t, HI6.out.g.oX, HI6.out.g.oY⟩
        clear hKK KK
        try simp only [Act.put, setIfInBounds_toArray, set_cons_zero, set_cons_succ]
        refine tkH 25 ?_
        refine tkH 26 ?_
        refine tkH 27 ?_
        refine tkH 28 ?_
        refine tkH 29 ?_
        refine tkH 30 ?_
        refine tkH 31 ?_ (hy := by
         refine Or.inl ⟨by rfl, ?_⟩
         intro wq hSw
         have q0 : wq.cell? ⟨X, j, none⟩ = some (.pointer (some ⟨R j, 0, none⟩)) := ptr2 (hSw.2.1) HJ.out
         go_simp
         all_goals with_reducible rfl)
        refine tkH 32 ?_
        refine tkH 33 ?_ (hy := by
         refine Or.inl ⟨by rfl, ?_⟩
         intro wq hSw
         have q0 : wq.cell? ⟨T, 2, none⟩ = some (.int .i64 lv) := (hSw.1).cell 2
         go_simp
         all_goals with_reducible rfl)
        refine tkH 35 ?_
        refine tkH 36 ?_
        refine tkH 37 ?_
        refine tkH 38 ?_ (hy := by
         refine Or.inl ⟨by rfl, ?_⟩
         intro wq hSw
         have q0 : wq.cell? ⟨Y, j, none⟩ = some (.pointer (some ⟨D j, 0, none⟩)) := ptr2 (hSw.2.2) HJ.out
         go_simp
         all_goals with_reducible rfl)
        refine tkH 39 ?_
        refine tkH 40 ?_ (hy := by
         refine Or.inl ⟨by rfl, ?_⟩
         intro wq hSw
         have q0 : wq.cell? ⟨T, 2, none⟩ = some (.int .i64 lv) := (hSw.1).cell 2
         go_simp
         all_goals with_reducible rfl)
        refine onH 34 (fun KK hKK => ?_)
        go_simp
        refine (HHP.out _ HI6.out).mono ?_
        rintro e w' ⟨rfl, rfl⟩
        try go_wp2_with fail
        refine hKK.out _ _ ?_ (fun hh5 => ?_)
        ·(try dsimp only)
         exact ⟨HI6.out.t, HI6.out.g.oX, HI6.out.g.oY⟩
        clear hKK KK
        try simp only [Act.put, setIfInBounds_toArray, set_cons_zero, set_cons_succ]
        refine onH 41 (fun KK hKK => ?_)
        go_simp
        refine (HHD.out _ HI6.out).mono ?_
        rintro e w' ⟨rfl, rfl⟩
        try go_wp2_with fail
        refine hKK.out _ _ ?_ (fun hh6 => ?_)
        ·(try dsimp only)
         exact ⟨HI6.out.t, HI6.out.g.oX, HI6.out.g.oY⟩
        clear hKK KK
        try simp only [Act.put, setIfInBounds_toArray, set_cons_zero, set_cons_succ]
        refine tkH 42 ?_
        refine tkH 43 ?_
        refine tkH 44 ?_
        refine wpAnyH_done (by kernel_rfl) ?_ _
        clear hHeld hh1 hh2 hh3 hh4 hh5 hh6 HLP HLD HPP HPD HHP HHD
        go_wp2_with fail
        go_roundg (2 - (j + 1))
        case measure => omega
        case rel => exact ⟨j + 1, by omega, by simp, rfl, HI6.out⟩
       ·obtain rfl : 2 = j := by omega
        go_wp2_with fail
        go_roundg (n4 - (k + 1))
        case measure => omega
        case rel => exact ⟨k + 1, r, by omega, by simp, HI4.out.g⟩
  ·obtain rfl : n4 = k := by omega
   go_wp2
   go_ret
   exact ⟨rfl, HI.out.bel⟩
set_option maxHeartbeats 4000000 in
theorem keysRings_walk (A1 : Option Addr) (n1 c1 : Nat) (z1 : List Int) (A2 : Option Addr) (n2 c2 : Nat) (z2 : List Int) (A3 : Option Addr) (n3 c3 : Nat) (z3 : List Int) (A4 : Option Addr) (n4 c4 : Nat) (l : List Act10) (w : World)
  (i1 : Ints .u8 w A1 n1 z1) (x1 : n1 ≤ c1 ∧ c1 ≤ maxLen) (i2 : Ints .u8 w A2 n2 z2) (x2 : n2 ≤ c2 ∧ c2 ≤ maxLen) (i3 : Ints .u8 w A3 n3 z3) (x3 : n3 ≤ c3 ∧ c3 ≤ maxLen) (i4 : Acts10 w A4 n4 l) (x4 : n4 ≤ c4 ∧ c4 ≤ maxLen) (ht : KTab w) :
  Calls Tryd.prog 6 #[.slice A1 n1 c1, .slice A2 n2 c2, .slice A3 n3 c3, .slice A4 n4 c4] w fun e w' => e = .returned (.bool true) ∧ Below w.heap.size w w' := by
 obtain ⟨l1, m1, q1, r1⟩ := i1.rd
 obtain ⟨l2, m2, q2, r2⟩ := i2.rd
 obtain ⟨l3, m3, q3, r3⟩ := i3.rd
 by_cases hh : n1 ≤ 100 ∧ n2 ≤ 100 ∧ n3 ≤ 100 ∧ n4 ≤ 40
 ·exact keysRings_small A1 n1 c1 l1 A2 n2 c2 l2 A3 n3 c3 l3 A4 n4 c4 l w ht r1 m1 q1 hh.1 r2 m2 q2 ⟨hh.2.1, x2⟩ r3 m3 q3 hh.2.2.1 i4 hh.2.2.2
 ·have HAL := Lib.hid (alive_true w ht)
  have hc : (100 < (n1 : Int)) ∨ (¬ 100 < (n1 : Int) ∧ 100 < (n2 : Int)) ∨ (¬ 100 < (n1 : Int) ∧ ¬ 100 < (n2 : Int) ∧ 100 < (n3 : Int)) ∨ (¬ 100 < (n1 : Int) ∧ ¬ 100 < (n2 : Int) ∧ ¬ 100 < (n3 : Int) ∧ 40 < (n4 : Int)) := by omega
  clear i1 m1 q1 r1 i2 m2 q2 r2 i3 m3 q3 r3 i4 ht hh x1 x2 x3 x4
  go_enter Tryd.func6, Tryd.ntmps6
  go_wp2_with fail
  refine HAL.out.mono ?_
  rintro e w1 ⟨rfl, hb1⟩
  have HA := Lib.hid hb1
  clear hb1
  rcases hc with h1 | ⟨h1, h2⟩ | ⟨h1, h2, h3⟩ | ⟨h1, h2, h3, h4⟩
  ·have h1' : (n1 : Int) > 100 := by omega
   go_wp2
   go_ret
   exact ⟨rfl, HA.out⟩
  ·have h1' : ¬ (n1 : Int) > 100 := by omega
   have h2' : (n2 : Int) > 100 := by omega
   go_wp2
   go_ret
   exact ⟨rfl, HA.out⟩
  ·have h1' : ¬ (n1 : Int) > 100 := by omega
   have h2' : ¬ (n2 : Int) > 100 := by omega
   have h3' : (n3 : Int) > 100 := by omega
   go_wp2
   go_ret
   exact ⟨rfl, HA.out⟩
  ·have h1' : ¬ (n1 : Int) > 100 := by omega
   have h2' : ¬ (n2 : Int) > 100 := by omega
   have h3' : ¬ (n3 : Int) > 100 := by omega
   have h4' : (n4 : Int) > 40 := by omega
   go_wp2
   go_ret
   exact ⟨rfl, HA.out⟩
end Go.Proofs.YtabfcaidioohfaaDoor
