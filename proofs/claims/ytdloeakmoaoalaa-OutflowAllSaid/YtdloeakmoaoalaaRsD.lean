/- Layer 16's reasm, walked: Read. -/
import Derived.RangeFuncNested
import Derived.RangeFuncBound
import Derived.RangeFuncCalls
import Derived.RangeFuncLeaves
import Derived.RangeFuncBox
import Derived.Shelf.Abstract
import Derived.Shelf.RegionOpen
import Derived.WalkKit
import Derived.OwnWalkIn
import Derived.TacticsInMore
import Derived.LoopNIn
import Derived.LoopIn
import Derived.Maps.OwnIn
import Derived.Maps.AppendAt
import Derived.WalkSpells
import Derived.IntWalk
import Derived.Test.YtdloeakmoaoalaaRows
import Derived.Test.YtdloeakmoaoalaaAid
import Derived.Test.YtdloeakmoaoalaaPlainRs
import Derived.Test.YtdloeakmoaoalaaRsW
import Derived.Test.YtdloeakmoaoalaaRsA
import Derived.Test.YtdloeakmoaoalaaRsF
import Derived.Test.YtdloeakmoaoalaaRsC
namespace Go.Proofs.Ytdloeakmoaoalaa.Rm
open Go Go.RowKit Go.Shelf Go.Maps
set_option linter.unusedVariables false
set_option linter.unusedSimpArgs false
attribute [local go_sem] Oper.semAt_some

def b8 (n : Nat) : Value := .int .u8 (n : Int)
theorem info8 : (Try.prog.info? 5).map (fun i => (i.zero, i.size, i.bytes)) = some (some (.int .u8 0), 1, 1) := by kernel_rfl

/-- A slice of bytes that reads as a list. -/
def Rb (w : World) (A : Option Addr) (l : List Nat) : Prop := 0 < l.length → ∃ b off, A = some ⟨b, off, none⟩ ∧ b < w.heap.size ∧ ∀ i, i < l.length → w.cell? ⟨b, off + i, none⟩ = some (b8 (l.getD i 0))
theorem Rb.below {w w' : World} {A : Option Addr} {l : List Nat} (h : Rb w A l) (hb : Below w.heap.size w w') : Rb w' A l := fun hp => by
  obtain ⟨b, off, e, h1, h2⟩ := h hp
  exact ⟨b, off, e, Nat.lt_of_lt_of_le h1 hb.size, fun i hi => (hb.cell (p := ⟨b, off + i, none⟩) h1).trans (h2 i hi)⟩
theorem own_rb {w : World} {base n : Nat} {v : Value} {l : List Nat} (h : w.ownsRow base 5 1 v n (l.map b8)) : ∃ A c, v = .slice A n c ∧ l.length = n ∧ n ≤ c ∧ c ≤ maxLen ∧ Rb w A l ∧ (A = none ∨ ∃ g, A = some ⟨g, 0, none⟩ ∧ base ≤ g) := by
  obtain ⟨h1, h2⟩ := h
  simp at h1
  rcases h2 with ⟨rfl, rfl⟩ | ⟨g, cap, cur, rfl, hb, hg, hn, hc, hs, ht⟩
  · exact ⟨none, 0, rfl, h1, Nat.le_refl _, Nat.zero_le _, fun hp => by omega, Or.inl rfl⟩
  · refine ⟨_, cap, rfl, h1, hn, hc, fun hp => ⟨g, 0, rfl, ?_, fun j hj => ?_⟩, Or.inr ⟨g, rfl, hb⟩⟩
    · rcases Nat.lt_or_ge g w.heap.size with h | h
      · exact h
      · rw [Array.getElem?_eq_none h] at hg; cases hg
    · rw [Nat.zero_add, cell_of_row w g j cur _ _ hg]
      have hj2 : j < n := by omega
      have h3 : (cur.toList.take (n * 1))[j]? = cur[j]? := by rw [List.getElem?_take]; simp [hj2]
      rw [← h3, ht, List.getElem?_map, List.getElem?_eq_getElem hj]
      simp [b8, List.getD_eq_getElem?_getD, hj]
theorem own_kept {W V : World} {base k : Nat} {v : Value} {xs : List Value} {row : Option Nat} (h : W.ownsRow base 5 1 v k xs) (hg : W.grownBy V row) (hr : ∀ r, row = some r → ∃ o : Go.Obj, W.heap[r]? = some o ∧ o.isCells = false) : V.ownsRow base 5 1 v k xs := by
  refine h.kept hg ?_
  rcases h.2 with ⟨rfl, _⟩ | ⟨g, cap, cur, rfl, _, hgb, _⟩
  · exact .inl rfl
  · refine .inr fun e' => ?_
    obtain ⟨o, ho, hc⟩ := hr g (by simpa [Value.ownBlock] using e'.symm)
    rw [hgb] at ho; cases ho; cases hc
/-- Between two rounds of Read's loop. -/
structure RdI (B a mb : Nat) (x : Rs.S) (k : Int) (w : World) (i : Nat) (V : World) : Prop where
  p : Obj V B 52 #[.pointer (some ⟨a, 0, none⟩)]
  n : Obj V (B + 1) 3 #[.int .i64 k]
  out : ∃ v, Boxed V (B + 2) 28 v ∧ V.ownsRow B 5 1 v i ((Rs.bytes x i).map b8)
  q : Obj V (B + 3) 52 #[.pointer (some ⟨a, 0, none⟩)]
  bs : Bs V a mb (Rs.readK x i)
  upd : Upd2 a mb w V
  le : i ≤ k.toNat
theorem RdI.own {B a mb : Nat} {x : Rs.S} {k : Int} {w : World} (hB : a < B ∧ mb < B) (hw : w.heap.size = B) : OwnFrom (B + 4) (RdI B a mb x k w) := by
  rintro i W V row h hg hr
  have hW : B + 4 ≤ W.heap.size := h.q.lt
  have hk : ∀ j, j < B + 4 → V.heap[j]? = W.heap[j]? := fun j hj => hg.block j (by omega) (fun e => by have := (hr j e.symm).1; omega)
  obtain ⟨v, h1, h2⟩ := h.out
  exact ⟨(hk _ (by omega)).trans h.p, (hk _ (by omega)).trans h.n, ⟨v, (hk _ (by omega)).trans h1, own_kept h2 hg fun r e => (hr r e).2⟩, (hk _ (by omega)).trans h.q,
    ⟨(hk _ (by omega)).trans h.bs.1, h.bs.2.to (hk _ (by omega))⟩,
    ⟨hg.os.trans h.upd.os, hg.tape.trans h.upd.tape, hg.output.trans h.upd.output, Nat.le_trans h.upd.size hg.size, fun j hj h1 h2 => (hk j (by omega)).trans (h.upd.block j hj h1 h2)⟩, h.le⟩
/-- A round that goes on: behind the append. -/
theorem RdI.round {B a mb : Nat} {x : Rs.S} {k : Int} {w W w1 : World} {i g cap : Nat} {v : Value} {tmp : Go.Obj} {q c : Nat} (hw : w.heap.size = B) (hB : a < B ∧ mb < B) (hab : a ≠ mb) (h : RdI B a mb x k w i W) (hv : Boxed W (B + 2) 28 v) (hrow : W.ownsRow B 5 1 v i ((Rs.bytes x i).map b8))
    (hq : x.rd + i = q) (hc : x.m q = some c) (hlt : i < k.toNat)
    (hown' : w1.ownsRow B 5 1 (.slice (some ⟨g, 0, none⟩) (i + 1) cap) (i + 1) ((Rs.bytes x i).map b8 ++ [.int .u8 (c : Int)])) (hgrow : (W.alloc tmp).grownBy w1 v.ownBlock) :
    Boxed w1 (B + 2) 28 v ∧ (∃ w2, w1.setCell ⟨B + 2, 0, none⟩ (.slice (some ⟨g, 0, none⟩) (i + 1) cap) = w2 ∧ Obj w2 B 52 #[.pointer (some ⟨a, 0, none⟩)] ∧ Obj w2 a 72 #[.int .i64 (x.win : Int), .int .u64 ((Rs.readK x i).rd : Int), .int .u64 (x.top : Int), .int .u64 (x.size : Int), .bool x.known, .map (some mb)] ∧
      ∃ w3, w2.setCell ⟨a, 1, none⟩ (.int .u64 ((q : Int) + 1)) = w3 ∧ Obj w3 B 52 #[.pointer (some ⟨a, 0, none⟩)] ∧ w3.cell? ⟨a, 5, none⟩ = some (.map (some mb)) ∧ MpAt w3 mb (Rs.readK x i).m (Rs.readK x i).cnt ∧ (Rs.readK x i).m q = some c ∧
        ∀ w4, MpAt w4 mb (fun j => if j = q then none else (Rs.readK x i).m j) ((Rs.readK x i).cnt - 1) → Upd mb w3 w4 → KeepsFrom (B + 4) W w4 ∧ RdI B a mb x k w (i + 1) w4) := by
  have hBW : B + 4 ≤ W.heap.size := h.q.lt
  obtain ⟨k1, k2, k3, k4, k5⟩ := hv.appended (by decide) hrow (by omega) (by omega) hown' hgrow
  have n0 := (show Boxed W B _ _ from h.p).not_row (by decide) hrow
  have n1 := (show Boxed W (B + 1) _ _ from h.n).not_row (by decide) hrow
  have n3 := (show Boxed W (B + 3) _ _ from h.q).not_row (by decide) hrow
  have low : ∀ j, j < B → some j ≠ v.ownBlock := fun j hj e => by
    have := (hrow.lt j e.symm).1
    omega
  have hblk : ∀ j, j < B + 4 → some j ≠ v.ownBlock → j ≠ B + 2 → (w1.setCell ⟨B + 2, 0, none⟩ (.slice (some ⟨g, 0, none⟩) (i + 1) cap)).heap[j]? = W.heap[j]? := fun j hj hne h2 =>
    (Below.heap_setCell _ _ _ _ h2).trans ((hgrow.block j (by simp; omega) hne).trans (Below.heap_alloc W tmp j (by omega)))
  refine ⟨k1, _, rfl, (hblk B (by omega) n0 (by omega)).trans h.p, (hblk a (by omega) (low a hB.1) (by omega)).trans h.bs.1, ?_⟩
  obtain ⟨w2, hw2⟩ : ∃ w2, w1.setCell ⟨B + 2, 0, none⟩ (.slice (some ⟨g, 0, none⟩) (i + 1) cap) = w2 := ⟨_, rfl⟩
  rw [hw2] at k2 k3 k4 k5 hblk ⊢
  have e0 : Obj w2 B 52 #[.pointer (some ⟨a, 0, none⟩)] := (hblk B (by omega) n0 (by omega)).trans h.p
  have e1 : Obj w2 (B + 1) 3 #[.int .i64 k] := (hblk (B + 1) (by omega) n1 (by omega)).trans h.n
  have e3 : Obj w2 (B + 3) 52 #[.pointer (some ⟨a, 0, none⟩)] := (hblk (B + 3) (by omega) n3 (by omega)).trans h.q
  have ea : Obj w2 a 72 #[.int .i64 (x.win : Int), .int .u64 ((Rs.readK x i).rd : Int), .int .u64 (x.top : Int), .int .u64 (x.size : Int), .bool x.known, .map (some mb)] := (hblk a (by omega) (low a hB.1) (by omega)).trans h.bs.1
  have em : MpAt w2 mb (Rs.readK x i).m (Rs.readK x i).cnt := h.bs.2.to (hblk mb (by omega) (low mb hB.2) (by omega))
  refine ⟨_, rfl, ?_⟩
  obtain ⟨w3, hw3⟩ : ∃ w3, w2.setCell ⟨a, 1, none⟩ (.int .u64 ((q : Int) + 1)) = w3 := ⟨_, rfl⟩
  have hu3 : Upd a w2 w3 := hw3 ▸ (Upd.refl a w2).set 1 _
  have fa := ea.set 1 (.int .u64 ((q : Int) + 1))
  rw [hw3] at fa ⊢
  have fm := em.upd hu3 (fun e => hab e.symm)
  have hmq : (Rs.readK x i).m q = some c := by
    show (if x.rd ≤ q ∧ q < x.rd + i then none else x.m q) = some c
    rw [if_neg (by omega), hc]
  refine ⟨e0.upd hu3 (by omega), by rw [fa.cell]; rfl, fm, hmq, fun w4 hm4 hu4 => ?_⟩
  have hl2 : B + 4 ≤ w2.heap.size := e3.lt
  have hl3 : B + 4 ≤ w3.heap.size := Nat.le_trans hl2 hu3.size
  have hbb : ∀ j, j < w2.heap.size → j ≠ a → j ≠ mb → w4.heap[j]? = w2.heap[j]? := fun j hj h1 h2 => (hu4.block j (by have := hu3.size; omega) h2).trans (hu3.block j hj h1)
  refine ⟨?_, ⟨(hbb B (by omega) (by omega) (by omega)).trans e0, (hbb (B + 1) (by omega) (by omega) (by omega)).trans e1, ⟨_, (hbb (B + 2) (by omega) (by omega) (by omega)).trans k2, ?_⟩, (hbb (B + 3) (by omega) (by omega) (by omega)).trans e3, ⟨?_, ?_⟩, ?_, by omega⟩⟩
  · refine ⟨Nat.le_trans k4.size (Nat.le_trans hu3.size hu4.size), fun j o hBj hj ho => ?_⟩
    have := k4.same j o hj ho
    exact (hbb j (Array.getElem?_eq_some_iff.1 this).1 (by omega) (by omega)).trans this
  · rw [Rs.bytes_succ, hq, hc, List.map_append]
    refine ⟨k3.1, ?_⟩
    rcases k3.2 with h0 | ⟨g', cap', cur, e, h1, h2, h3⟩
    · exact Or.inl h0
    · exact Or.inr ⟨g', cap', cur, e, h1, (hbb g' (Array.getElem?_eq_some_iff.1 h2).1 (by omega) (by omega)).trans h2, h3⟩
  · refine (hu4.block a (by omega) hab).trans ?_
    have e : ((Rs.readK x (i + 1)).rd : Int) = (q : Int) + 1 := by show ((x.rd + (i + 1) : Nat) : Int) = _; omega
    refine fa.as ?_
    rw [e]; rfl
  · rw [Rs.readK_succ, hq]; exact hm4
  · exact ⟨hu4.os.trans (hu3.os.trans (k5.os.trans h.upd.os)), hu4.tape.trans (hu3.tape.trans (k5.tape.trans h.upd.tape)), hu4.output.trans (hu3.output.trans (k5.output.trans h.upd.output)), by have := hu3.size; have := hu4.size; omega,
      fun j hj h1 h2 => (hbb j (by omega) h1 h2).trans ((k5.block j (by omega)).trans (h.upd.block j hj h1 h2))⟩
set_option maxRecDepth 100000 in
set_option maxHeartbeats 8000000 in
theorem read_in (F : Fence) (n : Nat) (h11 : F.fn 34) (h22 : F.fn 48) (h23 : F.fn 52) (hro : F.round = none) (hn : 3 ≤ n) (a mb : Nat) (k : Int) (x : Rs.S) (w : World) (h : Bs w a mb x) (hok : Rs.Ok x) :
    CallsIn F n Try.prog 34 #[.pointer (some ⟨a, 0, none⟩), .int .i64 k] w fun e w' => ∃ v, e = .returned v ∧ w'.ownsRow w.heap.size 5 1 v (Rs.many x k) ((Rs.bytes x (Rs.many x k)).map b8) ∧ Bs w' a mb (Rs.read x k).2 ∧ Upd2 a mb w w' := by
  have h1 : 1 ≤ n := by omega
  obtain ⟨i0, hi, hz0, hz1, hz2⟩ := info_parts info8
  refine callsIn_of_wp_marks Try.func34 rfl h11 ?_ hro
  simp only [Try.ntmps34, List.size_toArray, List.length_cons, List.length_nil, Nat.reduceAdd, Nat.reduceSub, Array.replicate_succ, Array.replicate_zero, List.push_toArray, List.append_toArray, List.nil_append, List.cons_append]
  gi_wp2_with (gi_at_call 48; refine (row_in F (n - 1) h22 hro _ _).mono ?_; rintro e w' ⟨rfl, rfl⟩)
  obtain ⟨B, hB⟩ : ∃ B, w.heap.size = B := ⟨_, rfl⟩
  have hab := h.ne
  have hlt : a < B ∧ mb < B := hB ▸ h.lt
  have hrl := Rs.runF_le x.m x.win x.rd
  have hrd : Rs.ready x ≤ 100000 := Nat.le_trans hrl hok.win
  have hr4 := hok.rd
  have H0 : ∃ W4, ((((w.alloc (.cells #[.pointer (some ⟨a, 0, none⟩)] 52)).alloc (.cells #[.int .i64 k] 3)).alloc (.cells #[.slice none 0 0] 28)).alloc (.cells #[.pointer (some ⟨a, 0, none⟩)] 52)) = W4 ∧ W4.heap.size = B + 4 ∧ RdI B a mb x k w 0 W4 := by
    refine ⟨_, rfl, by simp [hB], ?_⟩
    have b1 := Obj.new w 52 #[.pointer (some ⟨a, 0, none⟩)]
    have b2 := Obj.new (w.alloc (.cells #[.pointer (some ⟨a, 0, none⟩)] 52)) 3 #[.int .i64 k]
    have b3 := Obj.new ((w.alloc (.cells #[.pointer (some ⟨a, 0, none⟩)] 52)).alloc (.cells #[.int .i64 k] 3)) 28 #[.slice none 0 0]
    have b4 := Obj.new (((w.alloc (.cells #[.pointer (some ⟨a, 0, none⟩)] 52)).alloc (.cells #[.int .i64 k] 3)).alloc (.cells #[.slice none 0 0] 28)) 52 #[.pointer (some ⟨a, 0, none⟩)]
    simp only [World.size_alloc, hB, Nat.add_assoc, Nat.reduceAdd] at b1 b2 b3 b4
    have hL : Below w.heap.size w ((((w.alloc (.cells #[.pointer (some ⟨a, 0, none⟩)] 52)).alloc (.cells #[.int .i64 k] 3)).alloc (.cells #[.slice none 0 0] 28)).alloc (.cells #[.pointer (some ⟨a, 0, none⟩)] 52)) := ((((Below.refl _ w).alloc (Nat.le_refl _) _).alloc (by simp) _).alloc (by simp; omega) _).alloc (by simp; omega) _
    exact ⟨((b1.alloc _).alloc _).alloc _, (b2.alloc _).alloc _, ⟨_, (b3.alloc _), World.ownsRow_nil _ _ _ _⟩, b4, by rw [Rs.readK_zero]; exact h.kept hL, Upd2.below hL, Nat.zero_le _⟩
  obtain ⟨W4, hW4, hsz, hI0⟩ := H0
  rw [hW4, hB]
  simp only [Nat.add_assoc, Nat.reduceAdd]
  obtain ⟨qf, hqf⟩ : ∃ qf : Nat → Nat, ∀ i, qf i = x.rd + i := ⟨fun i => x.rd + i, fun _ => rfl⟩
  obtain ⟨cf, hcf⟩ : ∃ cf : Nat → Nat, ∀ i, cf i = (x.m (x.rd + i)).getD 0 := ⟨fun i => (x.m (x.rd + i)).getD 0, fun _ => rfl⟩
  have hEnc : encR x.rd x.m = fun i => #[.int .u64 (qf i : Int), .int .u8 (cf i : Int)] := by
    funext i; unfold encR; rw [hqf, hcf]
  have hG := row1_gives F (n - 1) h23 hro (by omega) (B + 3) a mb x.rd (Rs.ready x) x.m (fun i hi => Rs.ready_in x i hi) hok.stop (by omega)
  rw [hEnc] at hG
  have HIN : Hid (∀ i, i < Rs.ready x → ∃ c, x.m (qf i) = some c ∧ cf i = c ∧ c < 256) := fun i hi => by
    obtain ⟨c, hc⟩ := Rs.ready_in x i hi
    exact ⟨c, by rw [hqf]; exact hc, by rw [hcf, hc]; rfl, hok.by_ _ c hc⟩
  have HQF := Lib.hid hqf
  have HFIN : Hid (∀ (D i : Nat) (V : World), B + 4 ≤ D → RdI B a mb x k w i V → i = Rs.many x k → V.heap[D]? = some (.deferred (some [])) → ∃ v, V.cell? ⟨B + 2, 0, none⟩ = some v ∧ ((V.putObj D (.deferred none)).ownsRow B 5 1 v (Rs.many x k) ((Rs.bytes x (Rs.many x k)).map b8) ∧ Bs (V.putObj D (.deferred none)) a mb (Rs.read x k).2 ∧ Upd2 a mb w (V.putObj D (.deferred none)))) := by
    intro D i V hD hI hi hK
    subst hi
    obtain ⟨v, q1, q2⟩ := hI.out
    have ho : ∀ j, j ≠ D → (V.putObj D (.deferred none)).heap[j]? = V.heap[j]? := fun j hj => World.putObj_heap_other (by omega)
    refine ⟨v, q1.cell, ownsRow_putObj q2 _ hK rfl, ⟨(ho a (by omega)).trans hI.bs.1, hI.bs.2.to (ho mb (by omega))⟩, ?_⟩
    have hg := grownBy_putObj' V D (.deferred none)
    exact ⟨hg.os.trans hI.upd.os, hg.tape.trans hI.upd.tape, hg.output.trans hI.upd.output, Nat.le_trans hI.upd.size hg.size, fun j hj h1 h2 => (ho j (by omega)).trans (hI.upd.block j hj h1 h2)⟩
  have HOWN := Lib.hid (RdI.own (a := a) (mb := mb) (x := x) (k := k) (w := w) hlt hB)
  clear hqf hcf hEnc
  refine wpIn_rangeFunc_ix hro h1 (gf := 52) (lb := #[.pointer (some ⟨B + 3, 0, none⟩)]) rfl h23 (enters_of Try.func52 (by kernel_rfl) rfl)
    hG (fun i => rfl) (fun i V => RdI B a mb x k w i V) (fun c i V => c = .exit 0 ∧ RdI B a mb x k w i V ∧ i = Rs.many x k) ?own ?ownx ?tell hI0
    (fun i => { tmps := #[.pointer (some ⟨a, 0, none⟩), .int .i64 k, .pointer (some ⟨B, 0, none⟩), .pointer (some ⟨B + 1, 0, none⟩), .slice none 0 0, .pointer (some ⟨B + 2, 0, none⟩), .int .u64 (qf i : Int), .int .u8 (cf i : Int), .pointer (some ⟨a, 0, none⟩), .func (.func 52) #[] #[.pointer (some ⟨B + 3, 0, none⟩)], .int .u64 (qf i : Int), .int .u8 (cf i : Int), undef, undef, undef, undef, undef, undef, undef, undef, undef, undef, undef, undef, undef, undef, undef, undef, undef, undef, undef], defers := [] }) ?assign ?body ?done ?stop
  case own => rw [hsz]; exact HOWN.out
  case ownx =>
    rw [hsz]
    rintro c i V V' row ⟨e, h1, h2⟩ hg hr
    exact ⟨e, HOWN.out i V V' row h1 hg hr, h2⟩
  case tell =>
    intro i V hV
    refine ⟨hV.q.cell 0, by rw [hV.bs.1.cell]; rfl, fun e => ?_, _, _, hV.bs.2, ?_⟩
    · subst e; rw [hV.bs.1.cell]; rfl
    · show (if x.rd ≤ x.rd + i ∧ x.rd + i < x.rd + i then none else x.m (x.rd + i)) = _
      rw [if_neg (by omega)]
  case assign =>
    intro l i W K hK
    dsimp only at hK ⊢
    generalize qf i = q at *
    generalize cf i = c at *
    gi_wp2
    simpa using hK
  case body =>
    intro l i W hI hiN
    obtain ⟨v, hv, hrow⟩ := hI.out
    obtain ⟨A, cp, rfl, hle0, hle, hcm, -, -⟩ := own_rb hrow
    obtain ⟨c, hc, hcfi, hcb⟩ := HIN.out i hiN
    have hq := HQF.out i
    rw [hcfi]
    generalize qf i = q at *
    have c0 := (show Boxed W B _ _ from hI.p).cell
    have c1 := (show Boxed W (B + 1) _ _ from hI.n).cell
    have c2 := hv.cell
    by_cases hk : (i : Int) < k
    · have hd : decide (k ≤ (i : Int)) = false := by simp; omega
      have HC : Hid (x.m q = some c ∧ x.rd + i = q ∧ i < k.toNat ∧ q < 9223372036854775807) := ⟨hc, by omega, by omega, by omega⟩
      have HI := Lib.hid hI
      have HV := Lib.hid hv
      have HR := Lib.hid hrow
      have HLT := Lib.hid hlt
      have HB := Lib.hid hB
      have HSZ := Lib.hid hsz
      have hBW : B + 4 ≤ W.heap.size := hI.q.lt
      have hwq : IntKind.u64.wrap ((q : Int) + 1) = (q : Int) + 1 := by rw [IntKind.wrap_u64]; omega
      have hq64 : q < 18446744073709551616 := by omega
      have hi9 : i + 1 ≤ 100001 := by omega
      clear hG HIN HQF HFIN HOWN hI hv hrow hc hq hcfi hlt hB hW4 hsz hI0 hle0 hle hcm hcb h hok hrl hrd hr4 hk
      gi_wp2_with (first
        | (gi_at_builtin; refine wpListIn_append_own _ rfl _ _ 28 rfl B 5 i0 (.int .u8 0) 1 1 Try.underlying28 hi hz0 hz1 hz2 rfl (by decide) _ i _ rfl (HR.out.alloc _) ⟨W.heap.size, 0, none⟩ 1 1 [.int .u8 (c : Int)] rfl rfl (cell_one_new _ _ _) (by simp [Value.oneCell']) (by unfold maxLen; omega) (by omega) (by simp; omega) ?_; intro v' w1 hown' hgrow _; obtain ⟨g', cap', rfl⟩ := ownsRow_succ hown'; obtain ⟨hv1, w2, hw2, p0, pa, w3, hw3, p3, p5, pm, pq, pf⟩ := RdI.round HB.out HLT.out hab HI.out HV.out HR.out HC.out.2.1 HC.out.1 HC.out.2.2.1 hown' hgrow; have d2 := hv1.cell; have z2 := hv1.frozen; have e0 := (show Boxed w2 B _ _ from p0).cell; have ea := pa.cell 1; have za := pa.free 1; have e3 := (show Boxed w3 B _ _ from p3).cell; have HPM := Lib.hid pm; have HPQ := Lib.hid pq; have HPF := Lib.hid pf; clear hown' hgrow hv1 p0 pa p3 pm pq pf)
        | (refine wpListIn_mdel _ rfl _ _ rfl rfl HPM.out q hq64 rfl HPQ.out ?_; intro w4 hm4 hu4; obtain ⟨hkf, hri⟩ := HPF.out w4 hm4 hu4))
      exact ⟨by rw [HSZ.out]; exact hkf, hri⟩
    · have hd : decide (k ≤ (i : Int)) = true := by simp; omega
      have HE : Hid (RdI B a mb x k w i W ∧ i = Rs.many x k) := ⟨hI, by have := hI.le; unfold Rs.many; omega⟩
      clear hG HIN HQF HFIN HOWN hI hv hrow hc hq hcfi hlt hB hW4 hI0 hle0 hle hcm hcb h hok hrl hrd hr4 hk
      gi_wp2
      exact ⟨KeepsFrom.refl _ _, rfl, HE.out⟩
  case done =>
    intro D V hD hI hK
    obtain ⟨v, c2, hP⟩ := HFIN.out D _ V (by omega) hI (by have := hI.le; unfold Rs.many; omega) hK
    have HP := Lib.hid hP
    have HB := Lib.hid hB
    clear hG HIN HQF HFIN HOWN hI hP hlt hB hW4 hI0 h hok hrl hrd hr4 hsz hD
    gi_wp2
    refine ⟨by simp, .inl ⟨_, _, rfl, run_takeDeferred hK, ?_⟩⟩
    refine ⟨_, results_tmp rfl _ _ _, v, rfl, ?_⟩
    rw [HB.out]
    exact HP.out
  case stop =>
    rintro D c i V hD ⟨rfl, hI, hi9⟩ hK
    obtain ⟨v, c2, hP⟩ := HFIN.out D _ V (by omega) hI hi9 hK
    have HP := Lib.hid hP
    have HB := Lib.hid hB
    clear hG HIN HQF HFIN HOWN hI hP hlt hB hW4 hI0 h hok hrl hrd hr4 hsz hD hi9
    gi_wp2
    refine ⟨by simp, .inl ⟨_, _, rfl, run_takeDeferred hK, ?_⟩⟩
    refine ⟨_, results_tmp rfl _ _ _, v, rfl, ?_⟩
    rw [HB.out]
    exact HP.out
theorem read_any (a mb : Nat) (k : Int) (x : Rs.S) (w : World) (h : Bs w a mb x) (hok : Rs.Ok x) :
    Calls Try.prog 34 #[.pointer (some ⟨a, 0, none⟩), .int .i64 k] w fun e w' => ∃ v, e = .returned v ∧ w'.ownsRow w.heap.size 5 1 v (Rs.many x k) ((Rs.bytes x (Rs.many x k)).map b8) ∧ Bs w' a mb (Rs.read x k).2 ∧ Upd2 a mb w w' :=
  (callsIn_wide (n := 3)).1 (read_in _ 3 trivial trivial trivial rfl (by omega) a mb k x w h hok)
end Go.Proofs.Ytdloeakmoaoalaa.Rm
