/- Layer 15's document, walked: Ack and Lost. -/
import Derived.Test.YtlldomgfjmkcdaaRows
import Derived.Test.YtlldomgfjmkcdaaAid
import Derived.Test.YtlldomgfjmkcdaaHeldT
import Derived.Test.YtlldomgfjmkcdaaLgW
import Derived.Test.YtlldomgfjmkcdaaLgA
import Derived.Test.YtlldomgfjmkcdaaLgD
import Derived.Test.YtlldomgfjmkcdaaLgL
import Derived.Test.YtlldomgfjmkcdaaLgN
import Derived.Test.YtlldomgfjmkcdaaLgO
import Derived.Test.YtlldomgfjmkcdaaLgQ
import Derived.Test.YtlldomgfjmkcdaaLaD
import Derived.Test.YtlldomgfjmkcdaaLaE
import Derived.Lib.AppendZeros
import Derived.BigQuiet
import Derived.Deep.QuietTactic
import Derived.Deep.CutBlock
import Derived.Deep.DeepCutAuto
import Derived.Lib.Hide
namespace Go.Proofs.Ytlldomgfjmkcdaa
open Go Go.RowKit
set_option linter.unusedVariables false
set_option linter.unusedSimpArgs false

/-- Two rows of one's own, beside a block that may turn. -/
structure Tw (w : World) (D : Nat) (v1 v2 : Value) (g l : List PS) (W : World) : Prop where
  own1 : W.ownsRow w.heap.size 32 5 v1 g.length (flatS g)
  own2 : W.ownsRow w.heap.size 32 5 v2 l.length (flatS l)
  ne : ∀ b, v1.ownBlock = some b → v2.ownBlock = some b → False
  upd : Upd D w W
theorem Tw.swap {w W : World} {D : Nat} {v1 v2 : Value} {g l : List PS} (h : Tw w D v1 v2 g l W) : Tw w D v2 v1 l g W := ⟨h.own2, h.own1, fun b e1 e2 => h.ne b e2 e1, h.upd⟩
theorem own_grown {w w' : World} {base n : Nat} {v : Value} {xs : List Value} {row : Option Nat} (h : w.ownsRow base 32 5 v n xs) (hg : w.grownBy w' row) (hne : ∀ b, v.ownBlock = some b → row = some b → False) : w'.ownsRow base 32 5 v n xs := by
  refine ⟨h.1, ?_⟩
  rcases h.2 with h0 | ⟨g, cap, cur, e, hb1, hc, h3⟩
  · exact .inl h0
  · exact .inr ⟨g, cap, cur, e, hb1, (hg.block g (Array.getElem?_eq_some_iff.1 hc).1 (fun e2 => hne g (by rw [e]; rfl) e2.symm)).trans hc, h3⟩
theorem Tw.app {w W : World} {D : Nat} {v1 v2 : Value} {g l : List PS} (h : Tw w D v1 v2 g l W) (hD : D < w.heap.size) (p : PS) (hg : g.length ≤ 1000) :
    ∃ A3 c3 W3, (Builtin.append_ #[25, 25] 25 #[v1, .slice (some ⟨W.heap.size, 0, none⟩) 1 1]).run Try.prog (W.alloc (.cells (pc p).toArray 32)) = .ok (.slice A3 (g.length + 1) c3) W3 ∧
      Tw w D (.slice A3 (g.length + 1) c3) v2 (g ++ [p]) l W3 ∧ ∀ k, k < w.heap.size → W3.heap[k]? = W.heap[k]? := by
  have hba : Below W.heap.size W (W.alloc (.cells (pc p).toArray 32)) := (Below.refl _ W).alloc (Nat.le_refl _) _
  have ho1 := ownS_kept h.own1 hba
  have ho2 := ownS_kept h.own2 hba
  have hws := h.upd.size
  obtain ⟨v3, W3, hr3, ho3, hg3, hf3⟩ := ownS_app2 (W.alloc (.cells (pc p).toArray 32)) 25 ho1 ⟨W.heap.size, 0, none⟩ 1 1 [p] rfl (litS_src W p) (by omega) (Nat.le_trans hws hba.size)
  obtain ⟨A3, c3, rfl, _, _, _, _, _⟩ := ownS_rb ho3
  have hob : ∀ k, v1.ownBlock = some k → w.heap.size ≤ k := fun k e => (ho1.lt k e).1
  have hs3 : W.heap.size ≤ W3.heap.size := Nat.le_trans hba.size hg3.size
  refine ⟨A3, c3, W3, hr3, ⟨by rw [List.length_append]; exact ho3, own_grown ho2 hg3 (fun b e1 e2 => h.ne b e2 e1), fun b e1 e2 => ?_, ?_⟩, fun k hk => ?_⟩
  · rcases hf3 b e1 with h1 | h1
    · exact h.ne b h1 e2
    · have := (h.own2.lt b e2).2
      have := hba.size
      omega
  · exact ⟨hg3.os.trans (hba.os.trans h.upd.os), hg3.tape.trans (hba.tape.trans h.upd.tape), hg3.output.trans (hba.output.trans h.upd.output), Nat.le_trans hws hs3, fun k hk hne => ((hg3.block k (by have := hba.size; omega) (fun e => by have := hob k e.symm; omega)).trans (hba.block k (by omega))).trans (h.upd.block k hk hne)⟩
  · exact (hg3.block k (by have := hba.size; omega) (fun e => by have := hob k e.symm; omega)).trans (hba.block k (by omega))
theorem Tw.set {w W : World} {D : Nat} {v1 v2 : Value} {g l : List PS} (h : Tw w D v1 v2 g l W) (hD : D < w.heap.size) {W' : World} (hu : Upd D W W') : Tw w D v1 v2 g l W' :=
  ⟨own_updG h.own1 hu (fun e => by have := (h.own1.lt D e).1; omega), own_updG h.own2 hu (fun e => by have := (h.own2.lt D e).1; omega), h.ne, h.upd.trans hu⟩
theorem Tw.same {w W W' : World} {D : Nat} {v1 v2 : Value} {g l : List PS} (h : Tw w D v1 v2 g l W) (hb : Below W.heap.size W W') : Tw w D v1 v2 g l W' :=
  ⟨ownS_kept h.own1 hb, ownS_kept h.own2 hb, h.ne, ⟨hb.os.trans h.upd.os, hb.tape.trans h.upd.tape, hb.output.trans h.upd.output, Nat.le_trans h.upd.size hb.size, fun k hk hne => (hb.block k (Nat.lt_of_lt_of_le hk h.upd.size)).trans (h.upd.block k hk hne)⟩⟩
/-- Behind the document's Ack or Lost. -/
structure RPart (w w' : World) (D : Nat) (gv v' : Value) (y : List PS) (Pd : PS → Bool) (nx ak' : Nat) : Prop where
  gone : w'.ownsRow w.heap.size 32 5 gv (y.filter Pd).length (flatS (y.filter Pd))
  ds : DS w' D v' (y.filter (fun p => !Pd p)) nx ak'
  new : ∀ g, v'.ownBlock = some g → w.heap.size ≤ g
  ne : ∀ b, gv.ownBlock = some b → v'.ownBlock = some b → False
  upd : Upd D w w'
theorem filter_next (f : PS → Bool) (y : List PS) (k : Nat) (h : k < y.length) : (y.take (k + 1)).filter f = (y.take k).filter f ++ (if f (y.getD k default) then [y.getD k default] else []) := by
  rw [take_next y k h, List.filter_append]
  congr 1
  rw [List.filter_cons, List.filter_nil]
theorem filt_len (f : PS → Bool) (y : List PS) (k : Nat) : ((y.take k).filter f).length ≤ y.length :=
  Nat.le_trans (List.length_filter_le _ _) (by rw [List.length_take]; omega)
theorem rpart_fin {w W : World} {D n nx ak' : Nat} {v1 v2 v : Value} {y : List PS} {Pd : PS → Bool} (hD : D < w.heap.size) (hn : y.length ≤ n) (hT : Tw w D v1 v2 ((y.take n).filter Pd) ((y.take n).filter (fun p => !Pd p)) W) (hO : Obj W D 59 #[v, .int .i64 (nx : Int), .int .i64 (ak' : Int)]) :
    RPart w (W.setCell ⟨D, 0, none⟩ v2) D v1 v2 y Pd nx ak' := by
  rw [List.take_of_length_le hn] at hT
  have u : Upd D W (W.setCell ⟨D, 0, none⟩ v2) := (Upd.refl _ W).set 0 _
  have hT2 := hT.set hD u
  exact ⟨hT2.own1, ⟨hO.set 0 v2, own_base hT2.own2 (by omega)⟩, fun g e => (hT.own2.lt g e).1, hT.ne, hT2.upd⟩

/-- Between the rounds of the document's loops. -/
structure TwI (w : World) (D : Nat) (v : Value) (nx ak : Nat) (y : List PS) (Pd : PS → Bool) (k : Nat) (v1 v2 : Value) (W : World) : Prop where
  tw : Tw w D v1 v2 ((y.take k).filter Pd) ((y.take k).filter (fun p => !Pd p)) W
  obj : Obj W D 59 #[v, .int .i64 (nx : Int), .int .i64 (ak : Int)]
theorem TwI.kept {w W W' : World} {D nx ak k : Nat} {v v1 v2 : Value} {y : List PS} {Pd : PS → Bool} (h : TwI w D v nx ak y Pd k v1 v2 W) (hb : Below W.heap.size W W') : TwI w D v nx ak y Pd k v1 v2 W' := ⟨h.tw.same hb, h.obj.kept hb⟩
theorem TwI.app1 {w W : World} {D nx ak k n : Nat} {A1 : Option Addr} {c1 : Nat} {v v2 : Value} {y : List PS} {Pd : PS → Bool} (h : TwI w D v nx ak y Pd k (.slice A1 n c1) v2 W) (hD : D < w.heap.size) (hk : k < y.length) (hy : y.length ≤ 1000) (hp : Pd (y.getD k default) = true) :
    ∃ A3 c3 W3, (Builtin.append_ #[25, 25] 25 #[.slice A1 n c1, .slice (some ⟨W.heap.size, 0, none⟩) 1 1]).run Try.prog (W.alloc (.cells (pc (y.getD k default)).toArray 32)) = .ok (.slice A3 (n + 1) c3) W3 ∧ TwI w D v nx ak y Pd (k + 1) (.slice A3 (n + 1) c3) v2 W3 := by
  obtain ⟨A3, c3, W3, h1, h2, h3⟩ := h.tw.app hD (y.getD k default) (Nat.le_trans (filt_len Pd y k) hy)
  obtain ⟨_, _, e, hl, _⟩ := ownS_rb h.tw.own1
  cases e
  refine ⟨A3, c3, W3, h1, ⟨?_, (h3 D hD).trans h.obj⟩⟩
  rw [filter_next Pd y k hk, filter_next (fun p => !Pd p) y k hk, if_pos hp, if_neg (by rw [hp]; simp), List.append_nil]
  exact h2
theorem TwI.app2 {w W : World} {D nx ak k n : Nat} {A2 : Option Addr} {c2 : Nat} {v v1 : Value} {y : List PS} {Pd : PS → Bool} (h : TwI w D v nx ak y Pd k v1 (.slice A2 n c2) W) (hD : D < w.heap.size) (hk : k < y.length) (hy : y.length ≤ 1000) (hp : Pd (y.getD k default) = false) :
    ∃ A3 c3 W3, (Builtin.append_ #[25, 25] 25 #[.slice A2 n c2, .slice (some ⟨W.heap.size, 0, none⟩) 1 1]).run Try.prog (W.alloc (.cells (pc (y.getD k default)).toArray 32)) = .ok (.slice A3 (n + 1) c3) W3 ∧ TwI w D v nx ak y Pd (k + 1) v1 (.slice A3 (n + 1) c3) W3 := by
  obtain ⟨A3, c3, W3, h1, h2, h3⟩ := h.tw.swap.app hD (y.getD k default) (Nat.le_trans (filt_len (fun p => !Pd p) y k) hy)
  obtain ⟨_, _, e, hl, _⟩ := ownS_rb h.tw.own2
  cases e
  refine ⟨A3, c3, W3, h1, ⟨?_, (h3 D hD).trans h.obj⟩⟩
  rw [filter_next Pd y k hk, filter_next (fun p => !Pd p) y k hk, if_neg (by rw [hp]; simp), if_pos (by rw [hp]; rfl), List.append_nil]
  exact h2.swap
theorem TwI.setA {w W : World} {D nx ak k : Nat} {v v1 v2 : Value} {y : List PS} {Pd : PS → Bool} (h : TwI w D v nx ak y Pd k v1 v2 W) (hD : D < w.heap.size) (m : Nat) : TwI w D v nx m y Pd k v1 v2 (W.setCell ⟨D, 2, none⟩ (.int .i64 (m : Int))) := by
  have ho := h.obj.set 2 (.int .i64 (m : Int))
  exact ⟨h.tw.set hD ((Upd.refl _ W).set 2 _), ho⟩
theorem TwI.start {w W : World} {D nx ak : Nat} {v : Value} {y : List PS} (Pd : PS → Bool) (h : DS w D v y nx ak) (hb : Below w.heap.size w W) : TwI w D v nx ak y Pd 0 (.slice none 0 0) (.slice none 0 0) W :=
  ⟨⟨World.ownsRow_nil _ _ _ _, World.ownsRow_nil _ _ _ _, fun b e => (by cases e), ⟨hb.os, hb.tape, hb.output, hb.size, fun k hk _ => hb.block k hk⟩⟩, h.obj.kept hb⟩
/-- What a round reads of its packet. -/
theorem TwI.reads {w W : World} {D nx ak ak0 k n c : Nat} {A : Option Addr} {v1 v2 : Value} {y : List PS} {Pd : PS → Bool} (h : TwI w D (.slice A n c) nx ak y Pd k v1 v2 W) (h0 : DS w D (.slice A n c) y nx ak0) (hk : k < y.length) :
    ∃ g, A = some ⟨g, 0, none⟩ ∧ (W.cell? ⟨g, k * 5, none⟩ = some (.int .i64 ((y.getD k default).num : Int)) ∧ W.cell? ⟨g, k * 5 + 1, none⟩ = some (.int .u64 ((y.getD k default).tm : Int)) ∧
      W.cell? ⟨g, k * 5 + 2, none⟩ = some (.int .i64 ((y.getD k default).sz : Int)) ∧ W.cell? ⟨g, k * 5 + 3, none⟩ = some (.bool (y.getD k default).ask) ∧ W.cell? ⟨g, k * 5 + 4, none⟩ = some (.slice (y.getD k default).fa (y.getD k default).fn (y.getD k default).fc)) := by
  obtain ⟨g, c', e, _, hg, f0, f1, f2, f3, f4⟩ := ownS_cells (own_updG h0.own h.tw.upd (fun e => by have := (h0.own.lt D e).1; omega)) hk
  cases e
  exact ⟨g, rfl, f0, f1, f2, f3, f4⟩
end Go.Proofs.Ytlldomgfjmkcdaa
