/- Layer 15's ledger, walked: Last. -/
import Derived.RangeFuncNested
import Derived.RangeFuncBound
import Derived.RangeFuncCalls
import Derived.RangeFuncLeaves
import Derived.RangeFuncBox
import Derived.Shelf.Abstract
import Derived.Shelf.RegionOpen
import Derived.WalkKit
import Derived.OwnWalkIn
import Derived.TacticsInMore
import Derived.LoopNIn
import Derived.LoopIn
import Derived.WalkSpells
import Derived.IntWalk
import Derived.Lib.Hide
import Derived.Test.YtlldomgfjmkcdaaRows
import Derived.Test.YtlldomgfjmkcdaaAid
import Derived.Test.YtlldomgfjmkcdaaLgW
import Derived.Test.YtlldomgfjmkcdaaLgA
import Derived.Test.YtlldomgfjmkcdaaLgB
import Derived.Test.YtlldomgfjmkcdaaLgF
import Derived.Test.YtlldomgfjmkcdaaRsF
import Derived.Test.YtlldomgfjmkcdaaLgR
import Derived.Test.YtlldomgfjmkcdaaItM
namespace Go.Proofs.Ytlldomgfjmkcdaa.Rm
open Go Go.RowKit Go.Shelf
set_option linter.unusedVariables false
set_option linter.unusedSimpArgs false
attribute [local go_sem] Oper.semAt_some

/-- When the last one in flight was sent. -/
def lastS (r : Nat × Bool) (p : PS) : Nat × Bool := if p.ask then (p.tm, true) else r
def lastL (l : List PS) : Nat × Bool := l.foldl lastS (0, false)

/-- Between two rounds: none of the last i asks. -/
structure LaI (w : World) (B Bx g n c : Nat) (A : Option Addr) (l : List PS) (i : Nat) (V : World) : Prop where
  r0 : ∃ v, Obj V B 29 #[v]
  r1 : ∃ v, Obj V (B + 1) 4 #[v]
  x0 : Obj V Bx 25 #[.slice A n c]
  row : 0 < n → A = some ⟨g, 0, none⟩ ∧ g < V.heap.size ∧ RowC V g l
  none : ∀ j, j < i → (l.getD (n - 1 - j) default).ask = false
  bel : Below w.heap.size w V
theorem LaI.own {w : World} {B Bx g n c D : Nat} {A : Option Addr} {l : List PS} (hw : w.heap.size = B) (h1 : B + 1 < D) (h2 : Bx < D) (h3 : 0 < n → g < D) : OwnFrom D (LaI w B Bx g n c A l) := by
  intro i W V row h hgr hr
  have hk : ∀ j, j < D → j < W.heap.size → V.heap[j]? = W.heap[j]? := fun j hj hl => hgr.block j hl (fun e => by have := (hr j e.symm).1; omega)
  obtain ⟨v0, e0⟩ := h.r0
  obtain ⟨v1, e1⟩ := h.r1
  refine ⟨⟨v0, (hk _ (by omega) e0.lt).trans e0⟩, ⟨v1, (hk _ (by omega) e1.lt).trans e1⟩, (hk _ h2 h.x0.lt).trans h.x0, fun hn => ?_, h.none, ⟨hgr.os.trans h.bel.os, hgr.tape.trans h.bel.tape, hgr.output.trans h.bel.output, Nat.le_trans h.bel.size hgr.size, fun k hk' => (hk k (by omega) (by have := h.bel.size; omega)).trans (h.bel.block k hk')⟩⟩
  obtain ⟨e, hg, hrow⟩ := h.row hn
  exact ⟨e, Nat.lt_of_lt_of_le hg hgr.size, hrow.to (hk g (h3 hn) hg)⟩
/-- Behind the loop's variable. -/
structure LaM (w : World) (B Bx g n c : Nat) (A : Option Addr) (l : List PS) (fr : Nat → Nat → Array Value) (D i : Nat) (a : Act) (W : World) : Prop where
  st : LaI w B Bx g n c A l i W
  ex : ∃ z, D ≤ z ∧ a = { tmps := fr z i, defers := [] } ∧ Obj W z 32 (pc (l.getD (n - 1 - i) default)).toArray
theorem LaM.own {w : World} {B Bx g n c D : Nat} {A : Option Addr} {l : List PS} {fr : Nat → Nat → Array Value} (a : Act) (hw : w.heap.size = B) (h1 : B + 1 < D) (h2 : Bx < D) (h3 : 0 < n → g < D) : OwnFrom D (fun i W => LaM w B Bx g n c A l fr D i a W) := by
  intro i W V row h hgr hr
  obtain ⟨z, hz, ha, ho⟩ := h.ex
  refine ⟨LaI.own hw h1 h2 h3 i W V row h.st hgr hr, z, hz, ha, ?_⟩
  refine (hgr.block z ho.lt (fun e => ?_)).trans ho
  obtain ⟨_, o, ho2, hc⟩ := hr z e.symm
  have ho' : W.heap[z]? = _ := ho
  rw [ho'] at ho2; cases ho2; cases hc
/-- Left: it asks. -/
structure LaX (w : World) (B n : Nat) (l : List PS) (c : Code) (i : Nat) (V : World) : Prop where
  ret : c = .ret
  lt : i < n
  r0 : Obj V B 29 #[.int .u64 ((l.getD (n - 1 - i) default).tm : Int)]
  r1 : Obj V (B + 1) 4 #[.bool true]
  ask : (l.getD (n - 1 - i) default).ask = true
  none : ∀ j, j < i → (l.getD (n - 1 - j) default).ask = false
  bel : Below w.heap.size w V
theorem LaX.own {w : World} {B n D : Nat} {l : List PS} (hw : w.heap.size = B) (h1 : B + 1 < D) (c : Code) : OwnFrom D (LaX w B n l c) := by
  intro i W V row h hgr hr
  have hk : ∀ j, j < D → j < W.heap.size → V.heap[j]? = W.heap[j]? := fun j hj hl => hgr.block j hl (fun e => by have := (hr j e.symm).1; omega)
  exact ⟨h.ret, h.lt, (hk _ (by omega) h.r0.lt).trans h.r0, (hk _ (by omega) h.r1.lt).trans h.r1, h.ask, h.none, ⟨hgr.os.trans h.bel.os, hgr.tape.trans h.bel.tape, hgr.output.trans h.bel.output, Nat.le_trans h.bel.size hgr.size, fun k hk' => (hk k (by omega) (by have := h.bel.size; omega)).trans (h.bel.block k hk')⟩⟩
theorem last_skip : ∀ (l : List PS) (r : Nat × Bool), (∀ p ∈ l, p.ask = false) → l.foldl lastS r = r
  | [], _, _ => rfl
  | p :: t, r, h => by
    have h0 := h p (by simp)
    rw [List.foldl_cons, show lastS r p = r by unfold lastS; rw [h0]; rfl]
    exact last_skip t r fun q hq => h q (by simp [hq])
theorem last_at {l : List PS} {n i : Nat} (hl : l.length = n) (hi : i < n) (ha : (l.getD (n - 1 - i) default).ask = true) (hn : ∀ j, j < i → (l.getD (n - 1 - j) default).ask = false) : lastL l = ((l.getD (n - 1 - i) default).tm, true) := by
  have hk : n - 1 - i < l.length := by omega
  unfold lastL
  conv => lhs; rw [← List.take_append_drop (n - 1 - i + 1) l]
  rw [List.foldl_append, take_next l _ hk, List.foldl_append, last_skip]
  · show lastS _ _ = _
    unfold lastS; rw [if_pos ha]
  · intro p hp
    obtain ⟨m, hm, rfl⟩ := List.getElem_of_mem hp
    rw [List.length_drop] at hm
    rw [List.getElem_drop]
    have := hn (n - 1 - (n - 1 - i + 1 + m)) (by omega)
    rw [show n - 1 - (n - 1 - (n - 1 - i + 1 + m)) = n - 1 - i + 1 + m by omega, List.getD_eq_getElem?_getD, List.getElem?_eq_getElem (by omega)] at this
    exact this
theorem last_no {l : List PS} {n : Nat} (hl : l.length = n) (hn : ∀ j, j < n → (l.getD (n - 1 - j) default).ask = false) : lastL l = (0, false) := by
  unfold lastL
  refine last_skip _ _ fun p hp => ?_
  obtain ⟨m, hm, rfl⟩ := List.getElem_of_mem hp
  have := hn (n - 1 - m) (by omega)
  rw [show n - 1 - (n - 1 - m) = m by omega, List.getD_eq_getElem?_getD, List.getElem?_eq_getElem hm] at this
  exact this
theorem keeps_alloc (D : Nat) (W : World) (o : _root_.Go.Obj) : KeepsFrom D W (W.alloc o) :=
  ⟨by simp, fun j o' _ hj _ => (Below.heap_alloc W o j (Array.getElem?_eq_some_iff.1 hj).1).trans hj⟩
set_option maxRecDepth 100000 in
set_option maxHeartbeats 4000000 in
theorem last_any (a base : Nat) (v : Value) (x : LS) (w : World) (h : StV w base a v x) (hn : x.l.length ≤ 1000) :
    Calls Try.prog 17 #[.pointer (some ⟨a, 0, none⟩)] w fun e w' => e = .returned (.tuple #[.int .u64 ((lastL x.l).1 : Int), .bool (lastL x.l).2]) ∧ Below w.heap.size w w' := by
  refine (callsIn_wide (n := 3)).1 ?_
  refine callsIn_of_wp_marks Try.func17 rfl trivial ?_ rfl
  simp only [Try.ntmps17, List.size_toArray, List.length_cons, List.length_nil, Nat.reduceAdd, Nat.reduceSub, Array.replicate_succ, Array.replicate_zero, List.push_toArray, List.append_toArray, List.nil_append, List.cons_append]
  refine wpIn_wide.2 ?_
  obtain ⟨B, hB⟩ : ∃ B, w.heap.size = B := ⟨_, rfl⟩
  obtain ⟨W1, hW1⟩ : ∃ W1, (w.alloc (.cells #[.int .u64 0] 29)).alloc (.cells #[.bool false] 4) = W1 := ⟨_, rfl⟩
  have hb1 : Below w.heap.size w W1 := hW1 ▸ ((Below.refl _ w).alloc (Nat.le_refl _) _).alloc (by simp) _
  have o0 : Obj W1 B 29 #[.int .u64 0] := hW1 ▸ hB ▸ (Obj.new w _ _).alloc _
  have o1 : Obj W1 (B + 1) 4 #[.bool false] := by
    have := Obj.new (w.alloc (.cells #[.int .u64 0] 29)) 4 #[.bool false]
    rw [World.size_alloc, hB] at this
    exact hW1 ▸ this
  have HL := Lib.hid (list_any a base v x W1 (h.kept hb1) hn)
  have O0 := Lib.hid o0
  have O1 := Lib.hid o1
  have HB1 := Lib.hid hb1
  obtain ⟨l, hl⟩ : ∃ l, x.l = l := ⟨_, rfl⟩
  rw [hl] at HL hn ⊢
  clear hl
  obtain ⟨n, hln⟩ : ∃ n, l.length = n := ⟨_, rfl⟩
  rw [hln] at HL hn
  have HLN := Lib.hid hln
  clear h hb1 o0 o1 hln
  go_wp2_with fail
  refine HL.out.mono ?_
  rintro e w2 ⟨v2, rfl, ho, hb⟩
  obtain ⟨A, c, rfl, _, _, _, _, _⟩ := ownS_rb ho
  have HO := Lib.hid ho
  have HB := Lib.hid hb
  clear ho hb
  go_wp2_with fail
  refine (backward_any A n c _).mono ?_
  rintro e w3 ⟨rfl, rfl⟩
  go_wp2
  obtain ⟨Bx, hBx⟩ : ∃ Bx, w2.heap.size = Bx := ⟨_, rfl⟩
  obtain ⟨g, hg⟩ : ∃ g, 0 < n → A = some ⟨g, 0, none⟩ ∧ g < w2.heap.size ∧ RowC w2 g l := by
    by_cases hp : 0 < n
    · obtain ⟨g, c', e, _, hgl, _⟩ := ownS_cells HO.out (i := 0) (by rw [HLN.out]; exact hp)
      cases e
      refine ⟨g, fun _ => ⟨rfl, hgl, fun i hi => ?_⟩⟩
      obtain ⟨g', c'', e, _, _, q⟩ := ownS_cells HO.out (i := i) hi
      cases e
      exact q
    · exact ⟨0, fun h => absurd h hp⟩
  have hI0 : LaI w B Bx g n c A l 0 (w2.alloc (.cells #[.slice A n c] 25)) := by
    have hba : Below w2.heap.size w2 (w2.alloc (.cells #[.slice A n c] 25)) := (Below.refl _ w2).alloc (Nat.le_refl _) _
    refine ⟨⟨_, (O0.out.kept HB.out).kept hba⟩, ⟨_, (O1.out.kept HB.out).kept hba⟩, hBx ▸ Obj.new w2 _ _, fun hp => ?_, fun j hj => by omega, HB1.out.trans ((HB.out.trans (hba.mono HB.out.size)).mono HB1.out.size)⟩
    obtain ⟨e, h1, h2⟩ := hg hp
    exact ⟨e, by simp; omega, h2.to (hba.block g h1)⟩
  have hBB : B + 1 < Bx := by have := (O1.out.kept HB.out).lt; omega
  have hgb : 0 < n → g < Bx + 1 := fun hp => by have := (hg hp).2.1; omega
  have hsz : (w2.alloc (.cells #[.slice A n c] 25)).heap.size = Bx + 1 := by simp [hBx]
  rw [hBx]
  have HI0 := Lib.hid hI0
  have HSZ := Lib.hid hsz
  have HBX := Lib.hid hBx
  have HW := Lib.hid hB
  obtain ⟨kf, hkf⟩ : ∃ kf : Nat → Nat, ∀ i, kf i = n - 1 - i := ⟨fun i => n - 1 - i, fun _ => rfl⟩
  have hEnc : encB l = fun i => #[.int .i64 (kf i : Int), agS (l.getD (kf i) default)] := by
    funext i; unfold encB; rw [hkf, HLN.out]
  have hG := back1_gives Fence.wide 2 trivial rfl (by omega) Bx n c A l HLN.out (by omega)
  rw [hEnc] at hG
  obtain ⟨fr, hfr⟩ : ∃ fr : Nat → Nat → Array Value, fr = (fun z i => #[.pointer (some ⟨a, 0, none⟩), undef, .pointer (some ⟨B, 0, none⟩), .pointer (some ⟨B + 1, 0, none⟩), undef, .pointer (some ⟨z, 0, none⟩), .pointer (some ⟨a, 0, none⟩), .slice A n c, .func (.func 44) #[] #[.pointer (some ⟨Bx, 0, none⟩)], .int .i64 (kf i : Int), agS (l.getD (kf i) default), undef, undef, undef, undef]) := ⟨_, rfl⟩
  have HFR := Lib.hid hfr
  have HKF := Lib.hid hkf
  clear hI0 hg hEnc hB hW1 hfr hkf
  refine (wpIn_wide (n := 3)).1 ?_
  refine wpIn_rangeFunc_mx (n := 3) rfl (by omega) (gf := 44) (lb := #[.pointer (some ⟨Bx, 0, none⟩)]) rfl trivial (enters_of Try.func44 (by kernel_rfl) rfl)
    hG (fun i => rfl) (LaI w B Bx g n c A l) (LaX w B n l) (LaM w B Bx g n c A l fr (Bx + 1)) ?own ?ownx ?ownm ?tell HI0.out ?assign ?body ?done ?stop
  case own => rw [hsz]; exact LaI.own HW.out (by omega) (by omega) hgb
  case ownx => rw [hsz]; exact LaX.own HW.out (by omega)
  case ownm => rw [hsz]; intro a'; exact LaM.own a' HW.out (by omega) (by omega) hgb
  case tell => intro i V hV; exact ⟨hV.x0.cell 0, fun hp => ⟨g, (hV.row hp).1, (hV.row hp).2.2⟩⟩
  case assign =>
    intro l' i W hI hiN
    have hkN : kf i = n - 1 - i := HKF.out i
    rw [hsz]
    have hba : Below W.heap.size W (W.alloc (.cells (pc (l.getD (kf i) default)).toArray 32)) := (Below.refl _ W).alloc (Nat.le_refl _) _
    have HFI : Hid (KeepsFrom (Bx + 1) W (W.alloc (.cells (pc (l.getD (kf i) default)).toArray 32)) ∧ LaM w B Bx g n c A l fr (Bx + 1) i
        { tmps := #[.pointer (some ⟨a, 0, none⟩), undef, .pointer (some ⟨B, 0, none⟩), .pointer (some ⟨B + 1, 0, none⟩), undef, .pointer (some ⟨W.heap.size, 0, none⟩), .pointer (some ⟨a, 0, none⟩), .slice A n c, .func (.func 44) #[] #[.pointer (some ⟨Bx, 0, none⟩)], .int .i64 (kf i : Int), agS (l.getD (kf i) default), undef, undef, undef, undef], defers := [] }
        (W.alloc (.cells (pc (l.getD (kf i) default)).toArray 32))) := by
      refine ⟨keeps_alloc _ _ _, ⟨?_, W.heap.size, ?_, by rw [HFR.out], by rw [← hkN]; exact Obj.new W _ _⟩⟩
      · obtain ⟨v0, e0⟩ := hI.r0
        obtain ⟨v1, e1⟩ := hI.r1
        refine ⟨⟨v0, e0.kept hba⟩, ⟨v1, e1.kept hba⟩, hI.x0.kept hba, fun hp => ?_, hI.none, hI.bel.trans (hba.mono hI.bel.size)⟩
        obtain ⟨q0, q1, q2⟩ := hI.row hp
        exact ⟨q0, Nat.lt_of_lt_of_le q1 hba.size, q2.to (hba.block g q1)⟩
      · have := hI.x0.lt; omega
    clear hba hI hkN hG
    generalize l.getD (kf i) default = p at *
    generalize kf i = k at *
    obtain ⟨num, tm, sz, ask, fa, fn, fc⟩ := p
    unfold agS at HFI ⊢
    dsimp only
    gi_wp2
    exact HFI.out
  case body =>
    rintro l' i a' W ⟨hst, z, hz, rfl, ho⟩ hiN
    obtain ⟨v0, e0⟩ := hst.r0
    obtain ⟨v1, e1⟩ := hst.r1
    rw [hsz]
    have HST := Lib.hid hst
    have hx0l := hst.x0.lt
    obtain ⟨p, hp⟩ : ∃ p, l.getD (n - 1 - i) default = p := ⟨_, rfl⟩
    rw [hp] at ho
    have HP := Lib.hid hp
    rw [HFR.out]
    dsimp only
    rw [HKF.out i, hp]
    clear hp hst hG
    obtain ⟨k, hk⟩ : ∃ k, n - 1 - i = k := ⟨_, rfl⟩
    rw [hk] at HP ⊢
    have HK := Lib.hid hk
    clear hk
    obtain ⟨num, tm, sz, ask, fa, fn, fc⟩ := p
    unfold agS
    have s1 : W.cell? ⟨z, 1, none⟩ = some (.int .u64 (tm : Int)) := by rw [ho.cell]; rfl
    have s3 : W.cell? ⟨z, 3, none⟩ = some (.bool ask) := by rw [ho.cell]; rfl
    cases ask with
    | true =>
      have c0 : W.cell? ⟨B, 0, none⟩ = some v0 := by rw [e0.cell]; rfl
      have z0 := e0.free 0
      have u1 : Upd B W (W.setCell ⟨B, 0, none⟩ (.int .u64 (tm : Int))) := (Upd.refl _ W).set 0 _
      have x0 := e0.set 0 (.int .u64 (tm : Int))
      have x1 := e1.upd u1 (by omega)
      have c1 : (W.setCell ⟨B, 0, none⟩ (.int .u64 (tm : Int))).cell? ⟨B + 1, 0, none⟩ = some v1 := by rw [x1.cell]; rfl
      have z1 := x1.free 0
      have u2 : Upd (B + 1) (W.setCell ⟨B, 0, none⟩ (.int .u64 (tm : Int))) ((W.setCell ⟨B, 0, none⟩ (.int .u64 (tm : Int))).setCell ⟨B + 1, 0, none⟩ (.bool true)) := (Upd.refl _ _).set 0 _
      have HFI : Hid (KeepsFrom (Bx + 1) W ((W.setCell ⟨B, 0, none⟩ (.int .u64 (tm : Int))).setCell ⟨B + 1, 0, none⟩ (.bool true)) ∧ LaX w B n l .ret i ((W.setCell ⟨B, 0, none⟩ (.int .u64 (tm : Int))).setCell ⟨B + 1, 0, none⟩ (.bool true))) := by
        refine ⟨⟨Nat.le_trans u1.size u2.size, fun j o hj hjo _ => ?_⟩, rfl, hiN, (x0.upd u2 (by omega)).as (by rw [HK.out, HP.out]; rfl), (x1.set 0 _).as rfl, by rw [HK.out, HP.out], HST.out.none, ?_⟩
        · have hjl := (Array.getElem?_eq_some_iff.1 hjo).1
          exact (u2.block j (Nat.lt_of_lt_of_le hjl u1.size) (by omega)).trans ((u1.block j hjl (by omega)).trans hjo)
        · have hb := HST.out.bel
          have hw := HW.out
          exact ⟨u2.os.trans (u1.os.trans hb.os), u2.tape.trans (u1.tape.trans hb.tape), u2.output.trans (u1.output.trans hb.output), by have := hb.size; have := u1.size; have := u2.size; omega, fun j hj => (u2.block j (by have := hb.size; have := u1.size; omega) (by omega)).trans ((u1.block j (by have := hb.size; omega) (by omega)).trans (hb.block j hj))⟩
      clear u1 u2 x0 x1 e0 e1 ho
      gi_wp2
      exact HFI.out
    | false =>
      have HFI : Hid (KeepsFrom (Bx + 1) W W ∧ LaI w B Bx g n c A l (i + 1) W) := by
        refine ⟨KeepsFrom.refl _ _, HST.out.r0, HST.out.r1, HST.out.x0, HST.out.row, fun j hj => ?_, HST.out.bel⟩
        by_cases hji : j = i
        · rw [hji, HK.out, HP.out]
        · exact HST.out.none j (by omega)
      clear e0 e1 ho
      gi_wp2
      exact HFI.out
  case done =>
    intro D V hD hI hK
    have hI' : LaI w B Bx g n c A l n V := hI
    rw [hsz] at hD
    have hw := HW.out
    obtain ⟨v0, e0⟩ := hI'.r0
    obtain ⟨v1, e1⟩ := hI'.r1
    have c0 : V.cell? ⟨B, 0, none⟩ = some v0 := by rw [e0.cell]; rfl
    have z0 := e0.free 0
    have u1 : Upd B V (V.setCell ⟨B, 0, none⟩ (.int .u64 0)) := (Upd.refl _ V).set 0 _
    have x0 := e0.set 0 (.int .u64 0)
    have x1 := e1.upd u1 (by omega)
    have c1 : (V.setCell ⟨B, 0, none⟩ (.int .u64 0)).cell? ⟨B + 1, 0, none⟩ = some v1 := by rw [x1.cell]; rfl
    have z1 := x1.free 0
    have u2 : Upd (B + 1) (V.setCell ⟨B, 0, none⟩ (.int .u64 0)) ((V.setCell ⟨B, 0, none⟩ (.int .u64 0)).setCell ⟨B + 1, 0, none⟩ (.bool false)) := (Upd.refl _ _).set 0 _
    obtain ⟨V2, hV2⟩ : ∃ V2, (V.setCell ⟨B, 0, none⟩ (.int .u64 0)).setCell ⟨B + 1, 0, none⟩ (.bool false) = V2 := ⟨_, rfl⟩
    have y0 : Obj V2 B 29 #[.int .u64 0] := hV2 ▸ (x0.upd u2 (by omega)).as rfl
    have y1 : Obj V2 (B + 1) 4 #[.bool false] := hV2 ▸ (x1.set 0 _).as rfl
    have hb := hI'.bel
    have yb : Below w.heap.size w V2 := hV2 ▸ ⟨u2.os.trans (u1.os.trans hb.os), u2.tape.trans (u1.tape.trans hb.tape), u2.output.trans (u1.output.trans hb.output), by have := hb.size; have := u1.size; have := u2.size; omega, fun j hj => (u2.block j (by have := hb.size; have := u1.size; omega) (by omega)).trans ((u1.block j (by have := hb.size; omega) (by omega)).trans (hb.block j hj))⟩
    have hK2 : V2.heap[D]? = some (.deferred (some [])) := by
      have hd := (Array.getElem?_eq_some_iff.1 hK).1
      rw [← hV2]; exact (u2.block D (by have := u1.size; omega) (by omega)).trans ((u1.block D hd (by omega)).trans hK)
    have ho : ∀ j, j ≠ D → (V2.putObj D (.deferred none)).heap[j]? = V2.heap[j]? := fun j hj => World.putObj_heap_other (by omega)
    have q0 : Obj (V2.putObj D (.deferred none)) B _ _ := (ho B (by omega)).trans y0
    have q1 : Obj (V2.putObj D (.deferred none)) (B + 1) _ _ := (ho (B + 1) (by omega)).trans y1
    have p0 : (V2.putObj D (.deferred none)).cell? ⟨B, 0, none⟩ = some (.int .u64 0) := by rw [q0.cell]; rfl
    have p1 : (V2.putObj D (.deferred none)).cell? ⟨B + 1, 0, none⟩ = some (.bool false) := by rw [q1.cell]; rfl
    have hgp := grownBy_putObj' V2 D (.deferred none)
    have HFI : Hid (lastL l = (0, false) ∧ Below w.heap.size w (V2.putObj D (.deferred none))) := ⟨last_no HLN.out hI'.none, ⟨hgp.os.trans yb.os, hgp.tape.trans yb.tape, hgp.output.trans yb.output, Nat.le_trans yb.size hgp.size, fun j hj => (ho j (by omega)).trans (yb.block j hj)⟩⟩
    have HK2 := Lib.hid hK2
    clear hI hI' hK q0 q1 hw e0 e1 u1 x0 x1 u2 y0 y1 hb yb ho hgp hG hK2
    go_wp2
    refine ⟨by simp, .inl ⟨_, _, rfl, run_takeDeferred HK2.out, ?_⟩⟩
    exact ⟨.tuple #[.int .u64 0, .bool false], by simp [results, Try.results17, go_sem, p0, p1], by rw [HFI.out.1]; rfl, HFI.out.2⟩
  case stop =>
    rintro D c' i V hD hX hK
    have hw := HW.out
    rw [hsz] at hD
    obtain rfl := hX.ret
    have ho : ∀ j, j ≠ D → (V.putObj D (.deferred none)).heap[j]? = V.heap[j]? := fun j hj => World.putObj_heap_other (by omega)
    have y0 : Obj (V.putObj D (.deferred none)) B _ _ := (ho B (by omega)).trans hX.r0
    have y1 : Obj (V.putObj D (.deferred none)) (B + 1) _ _ := (ho (B + 1) (by omega)).trans hX.r1
    obtain ⟨tm, htm⟩ : ∃ tm, (l.getD (n - 1 - i) default).tm = tm := ⟨_, rfl⟩
    have p0 : (V.putObj D (.deferred none)).cell? ⟨B, 0, none⟩ = some (.int .u64 (tm : Int)) := by rw [y0.cell, htm]; rfl
    have p1 : (V.putObj D (.deferred none)).cell? ⟨B + 1, 0, none⟩ = some (.bool true) := by rw [y1.cell]; rfl
    have hgp := grownBy_putObj' V D (.deferred none)
    have yb := hX.bel
    have HFI : Hid (lastL l = (tm, true) ∧ Below w.heap.size w (V.putObj D (.deferred none))) := ⟨by rw [← htm]; exact last_at HLN.out hX.lt hX.ask hX.none, ⟨hgp.os.trans yb.os, hgp.tape.trans yb.tape, hgp.output.trans yb.output, Nat.le_trans yb.size hgp.size, fun j hj => (ho j (by omega)).trans (yb.block j hj)⟩⟩
    have HK2 := Lib.hid hK
    clear hX hK hw y0 y1 yb ho hgp hG htm
    gi_wp2
    refine ⟨by simp, .inl ⟨_, _, rfl, run_takeDeferred HK2.out, ?_⟩⟩
    exact ⟨.tuple #[.int .u64 (tm : Int), .bool true], by simp [results, Try.results17, go_sem, p0, p1], by rw [HFI.out.1], HFI.out.2⟩
end Go.Proofs.Ytlldomgfjmkcdaa.Rm
