/- The document's answer for layer 17, walked: Write. -/
import Derived.Test.YtdloeakmoaoalaaRows
import Derived.Test.YtdloeakmoaoalaaAid
import Derived.Test.YtdloeakmoaoalaaPlainOf
import Derived.Test.YtdloeakmoaoalaaPlainOf2
import Derived.Test.YtdloeakmoaoalaaPlainOf4
import Derived.Test.YtdloeakmoaoalaaPlainOf5
import Derived.Test.YtdloeakmoaoalaaOfW
import Derived.Test.YtdloeakmoaoalaaOfX
import Derived.Test.YtdloeakmoaoalaaOfA
import Derived.Test.YtdloeakmoaoalaaOfB
import Derived.Test.YtdloeakmoaoalaaOfC
import Derived.Test.YtdloeakmoaoalaaOfE
import Derived.Test.YtdloeakmoaoalaaOfM
import Derived.Test.YtdloeakmoaoalaaOfP
import Derived.Test.YtdloeakmoaoalaaOfQ
import Derived.Test.YtdloeakmoaoalaaOfR
import Derived.Test.YtdloeakmoaoalaaOfV
import Derived.Test.YtdloeakmoaoalaaOfZ
import Derived.Test.YtdloeakmoaoalaaOfZ2
import Derived.Test.YtdloeakmoaoalaaHeldT
import Derived.WalkKit
import Derived.OwnWalk
import Derived.Laws.Rows
import Derived.Laws.Tables
import Derived.Deep.AppendSrc
import Derived.WalkSpells
import Derived.WalkLawsBesides
import Derived.BigQuiet
import Derived.Handy
import Derived.Lib.Walk
import Derived.Lib.Hide
import Derived.Lib.AppendZeros
import Derived.IntWalk
namespace Go.Proofs.Ytdloeakmoaoalaa
open Go.RowKit
set_option linter.unusedVariables false
set_option linter.unusedSimpArgs false

theorem Upd3.trans2 {r hb hs hb' hs' : Nat} {w w1 w2 : World} (h : Upd3 r hb hs w w1) (k : Upd3 r hb' hs' w1 w2) (h1 : hb' = hb ∨ w.heap.size ≤ hb') (h2 : hs' = hs ∨ w.heap.size ≤ hs') : Upd3 r hb hs w w2 := by
  have hz := h.size
  exact ⟨k.os.trans h.os, k.tape.trans h.tape, k.output.trans h.output, Nat.le_trans hz k.size, fun q hq a b c => (k.block q (by omega) a (by omega) (by omega)).trans (h.block q hq a b c)⟩
/-- append of one int. -/
theorem RowI.append1 {w : World} {v : Value} {g : Nat} {l : List Nat} (hR : RowI w v g l) (B d : Nat) (hB : w.cell? ⟨B, 0, none⟩ = some (i64v d)) (hm : l.length + 1 ≤ 100000000) :
    ∃ v' w' g', (∀ ty, (Builtin.append_ #[38, 38] ty #[v, .slice (some ⟨B, 0, none⟩) 1 1]).run Try.prog w = .ok v' w') ∧ RowI w' v' g' (l ++ [d]) ∧ (g' = g ∨ w.heap.size ≤ g') ∧ Upd g w w' := by
  have hsrc : Src Try.prog 1 38 (.slice (some ⟨B, 0, none⟩) 1 1) [d].length ([d].map i64v) w := by
    refine Src.ofSlice w Try.underlying38 ⟨B, 0, none⟩ 1 1 _ (by simp) (fun j u hj => ?_) (fun u hu => by obtain ⟨y, _, rfl⟩ := List.mem_map.1 hu; rfl)
    rw [Addr.add_lit]
    cases j with
    | zero =>
      simp only [List.map_cons, List.map_nil, List.getElem?_cons_zero] at hj
      rw [← hj]; exact hB
    | succ j => simp at hj
  exact RowI.append hR hsrc hm (by simp)

/-- One byte more, in the document's text. -/
theorem Rf.byte {r hb0 hs0 d : Nat} {y : Of.B} {wq : World} (h : Rf wq r hb0 hs0 y) (hcap : y.b.length ≤ 2000) :
    ∃ base c b1 n1 c1 w3 hb hs, (y.b.length ≤ c ∧ c ≤ maxLen) ∧ wq.cell? ⟨r, 0, none⟩ = some (.slice base y.b.length c) ∧ wq.cell? ⟨r, 2, none⟩ = some (.bool y.fin) ∧ r < wq.heap.size ∧
      (∀ ty, (Builtin.append_ #[28, 28] ty #[.slice base y.b.length c, .slice (some ⟨wq.heap.size, 0, none⟩) 1 1]).run Try.prog (wq.drew.alloc (.cells #[.int .u8 (d : Int)] 5)) = .ok (.slice b1 n1 c1) w3) ∧
      w3.cell? ⟨r, 0, none⟩ = some (.slice base y.b.length c) ∧ w3.frozen? ⟨r, 0, none⟩ = false ∧
      (∀ k, k < wq.heap.size → k ≠ hb0 → w3.heap[k]? = wq.heap[k]?) ∧ r < w3.heap.size ∧
      Rf (w3.setCell ⟨r, 0, none⟩ (.slice b1 n1 c1)) r hb hs { y with b := y.b ++ [d] } ∧ (hb = hb0 ∨ wq.heap.size ≤ hb) ∧ (hs = hs0 ∨ wq.heap.size ≤ hs) ∧ Upd3 r hb0 hs0 wq (w3.setCell ⟨r, 0, none⟩ (.slice b1 n1 c1)) := by
  obtain ⟨hb, hs, h, hrb, hr, hbs, hfb, hfs⟩ := h.fresh
  obtain ⟨vb, vs, hO, hb1, hs1⟩ := h
  obtain ⟨base, c, rfl, hlc, hcm, -, -⟩ := hb1.form
  have hal : Below wq.heap.size wq (wq.drew.alloc (.cells #[.int .u8 (d : Int)] 5)) := ((Below.refl _ _).drew).alloc (Nat.le_refl _) _
  have hO1 := hO.kept hal
  have hb2 := hb1.kept hal
  have hs2 := hs1.kept hal
  have hrd : Rb (wq.drew.alloc (.cells #[.int .u8 (d : Int)] 5)) (some ⟨wq.heap.size, 0, none⟩) [d] := fun _ => by
    refine ⟨wq.heap.size, 0, rfl, by simp, fun i hi => ?_⟩
    have : i = 0 := by simp at hi; omega
    subst this
    exact ((Obj.new wq.drew _ _).cell 0)
  obtain ⟨v1, w3, g', hrun, hR3, hg, hu⟩ := hb2.appendRb hrd 1 (by simp) (by simp; omega)
  obtain ⟨b1, c1, rfl, -, -, -, -⟩ := hR3.form
  obtain ⟨n1, hn1⟩ : ∃ n1, (y.b ++ [d]).length = n1 := ⟨_, rfl⟩
  rw [hn1] at hrun hR3
  have hz := hal.size
  have hO3 := hO1.upd hu hrb
  have hs3 := hs2.upd hu (Ne.symm hbs)
  have hu4 : Upd r w3 (w3.setCell ⟨r, 0, none⟩ (.slice b1 n1 c1)) := (Upd.refl r w3).set _ _
  have hO4 := hO3.set 0 (.slice b1 n1 c1)
  have hzu := hu.size
  have hrl := hO.lt
  have hrow : RowB (w3.setCell ⟨r, 0, none⟩ (.slice b1 n1 c1)) (.slice b1 n1 c1) g' (y.b ++ [d]) := by
    rcases hR3 with h | ⟨c', rest, e1, e2, e3, e4, e5⟩
    · exact Or.inl h
    · exact RowB.upd (Or.inr ⟨c', rest, e1, e2, e3, e4, e5⟩) hu4 (Ne.symm (hO3.apart e5 (by decide)))
  have hrows : RowI (w3.setCell ⟨r, 0, none⟩ (.slice b1 n1 c1)) vs hs y.s := hs3.upd hu4 (Ne.symm hr)
  have hblk : ∀ k, k < wq.heap.size → k ≠ hb0 → w3.heap[k]? = wq.heap[k]? := fun k hk hne => (hu.block k (by omega) (by omega)).trans (hal.block k hk)
  refine ⟨base, c, b1, n1, c1, w3, g', hs, ⟨hlc, hcm⟩, by rw [hO.cell]; rfl, by rw [hO.cell]; rfl, hrl, hrun, by rw [hO3.cell]; rfl, hO3.free _, hblk, hO3.lt, ⟨_, _, hO4.as rfl, hrow, hrows⟩, by omega, hfs, ?_⟩
  exact ⟨hu4.os.trans (hu.os.trans hal.os), hu4.tape.trans (hu.tape.trans hal.tape), hu4.output.trans (hu.output.trans hal.output), Nat.le_trans (Nat.le_trans hz hzu) hu4.size, fun k hk a b _ => (hu4.block k (by omega) a).trans (hblk k hk b)⟩
/-- One state more. -/
theorem Rf.state {r hb0 hs0 : Nat} {y : Of.B} {wq : World} (h : Rf wq r hb0 hs0 y) (hcap : y.s.length ≤ 2000) :
    ∃ base c b2 n2 c2 w6 hb hs, wq.cell? ⟨r, 1, none⟩ = some (.slice base y.s.length c) ∧
      (∀ ty, (Builtin.append_ #[38, 38] ty #[.slice base y.s.length c, .slice (some ⟨wq.heap.size, 0, none⟩) 1 1]).run Try.prog (wq.alloc (.cells #[.int .i64 0] 3)) = .ok (.slice b2 n2 c2) w6) ∧
      w6.frozen? ⟨r, 1, none⟩ = false ∧ r < w6.heap.size ∧ w6.cell? ⟨r, 1, none⟩ = some (.slice base y.s.length c) ∧
      Rf (w6.setCell ⟨r, 1, none⟩ (.slice b2 n2 c2)) r hb hs { y with s := y.s ++ [0] } ∧ (hb = hb0 ∨ wq.heap.size ≤ hb) ∧ (hs = hs0 ∨ wq.heap.size ≤ hs) ∧ Upd3 r hb0 hs0 wq (w6.setCell ⟨r, 1, none⟩ (.slice b2 n2 c2)) := by
  obtain ⟨hb, hs, h, hrb, hr, hbs, hfb, hfs⟩ := h.fresh
  obtain ⟨vb, vs, hO, hb1, hs1⟩ := h
  obtain ⟨base, c, rfl, hlc, hcm, -, -⟩ := hs1.form
  have hal : Below wq.heap.size wq (wq.alloc (.cells #[.int .i64 0] 3)) := (Below.refl _ _).alloc (Nat.le_refl _) _
  have hO1 := hO.kept hal
  have hb2 := hb1.kept hal
  have hs2 := hs1.kept hal
  obtain ⟨v2, w6, g', hrun, hR3, hg, hu⟩ := hs2.append1 wq.heap.size 0 ((Obj.new wq _ _).cell 0) (by omega)
  obtain ⟨b2, c2, rfl, -, -, -, -⟩ := hR3.form
  obtain ⟨n2, hn2⟩ : ∃ n2, (y.s ++ [0]).length = n2 := ⟨_, rfl⟩
  rw [hn2] at hrun hR3
  have hz := hal.size
  have hO3 := hO1.upd hu hr
  have hb3 := hb2.upd hu hbs
  have hu4 : Upd r w6 (w6.setCell ⟨r, 1, none⟩ (.slice b2 n2 c2)) := (Upd.refl r w6).set _ _
  have hO4 := hO3.set 1 (.slice b2 n2 c2)
  have hzu := hu.size
  have hrow : RowI (w6.setCell ⟨r, 1, none⟩ (.slice b2 n2 c2)) (.slice b2 n2 c2) g' (y.s ++ [0]) := by
    rcases hR3 with h | ⟨c', rest, e1, e2, e3, e4, e5⟩
    · exact Or.inl h
    · exact RowI.upd (Or.inr ⟨c', rest, e1, e2, e3, e4, e5⟩) hu4 (Ne.symm (hO3.apart e5 (by decide)))
  have hblk : ∀ k, k < wq.heap.size → k ≠ hs0 → w6.heap[k]? = wq.heap[k]? := fun k hk hne => (hu.block k (by omega) (by omega)).trans (hal.block k hk)
  refine ⟨base, c, b2, n2, c2, w6, hb, g', by rw [hO.cell]; rfl, hrun, hO3.free _, hO3.lt, by rw [hO3.cell]; rfl, ⟨_, _, hO4.as rfl, hb3.upd hu4 (Ne.symm hrb), hrow⟩, hfb, by omega, ?_⟩
  exact ⟨hu4.os.trans (hu.os.trans hal.os), hu4.tape.trans (hu.tape.trans hal.tape), hu4.output.trans (hu.output.trans hal.output), Nat.le_trans (Nat.le_trans hz hzu) hu4.size, fun k hk a _ b => (hu4.block k (by omega) a).trans (hblk k hk b)⟩

set_option maxRecDepth 100000 in
set_option maxHeartbeats 4000000 in
theorem rwrite_any (W : World) (r hb0 hs0 : Nat) (A : Option Addr) (c : Nat) (data : List Nat) (x : Of.B) (w : World) (h : Rf w r hb0 hs0 x) (hok : Of.Ok x) (hW : Below W.heap.size W w) (zr : W.heap.size ≤ r) (zb : W.heap.size ≤ hb0) (zs : W.heap.size ≤ hs0)
    (hd : Rb W A data) (hlc : data.length ≤ c) (hcm : c ≤ maxLen) (hdl : data.length ≤ 1000000) :
    Calls Try.prog 23 #[.pointer (some ⟨r, 0, none⟩), .slice A data.length c] w fun e w' => e = .returned (.int .i64 ((Of.write x data).1 : Nat)) ∧ ∃ hb hs, Rf w' r hb hs (Of.write x data).2 ∧ (hb = hb0 ∨ w.heap.size ≤ hb) ∧ (hs = hs0 ∨ w.heap.size ≤ hs) ∧ Upd3 r hb0 hs0 w w' := by
  have hcap := hok.cap
  have hlen := hok.len
  have hci : c ≤ 9223372036854775807 := by simp only [maxLen] at hcm; omega
  have hWz := hW.size
  obtain ⟨K, hK⟩ : ∃ K, (Of.write x data).1 = K := ⟨_, rfl⟩
  have hKf : (Of.write x data).2 = Of.writeK x data K ∧ K ≤ data.length ∧ x.b.length + K ≤ 2000 ∧ (x.fin = true → K = 0) ∧ (K = data.length ∨ x.b.length + K = 2000 ∨ x.fin = true) := by
    cases hf : x.fin with
    | true =>
      have := Of.write_eqf x data hf
      rw [this] at hK ⊢
      simp only at hK ⊢
      subst hK
      exact ⟨(Of.writeK_zero x data).symm, by omega, by omega, fun _ => (by first | rfl | omega), Or.inr (Or.inr (by first | rfl | exact hf | trivial))⟩
    | false =>
      have := Of.write_eq x data hf
      rw [this] at hK ⊢
      simp only at hK ⊢
      subst hK
      exact ⟨rfl, by omega, by omega, fun h => by simp at h, by omega⟩
  obtain ⟨hKe, hK1, hK2, hK3, hK4⟩ := hKf
  have HKE := Lib.hid hKe
  have HK := Lib.hid hK
  rw [hK]
  have H0 : Hid (Rf w r hb0 hs0 (Of.writeK x data 0)) := by unfold Hid; rw [Of.writeK_zero]; exact h
  -- the round's facts
  have HRD : Hid (∀ k hb hs wq, k ≤ K → Rf wq r hb hs (Of.writeK x data k) → (hb = hb0 ∨ w.heap.size ≤ hb) → (hs = hs0 ∨ w.heap.size ≤ hs) → Upd3 r hb0 hs0 w wq →
      ∃ base cb, wq.cell? ⟨r, 0, none⟩ = some (.slice base (x.b.length + k) cb) ∧ wq.cell? ⟨r, 2, none⟩ = some (.bool x.fin) ∧ r < wq.heap.size ∧
      (k < K → ∃ B o b1 n1 c1 w3 base2 cs b2 n2 c2 w6 hb' hs', A = some ⟨B, o, none⟩ ∧ wq.cell? ⟨B, o + k, none⟩ = some (.int .u8 (data.getD k 0 : Nat)) ∧ B < wq.heap.size ∧
        (∀ ty, (Builtin.append_ #[28, 28] ty #[.slice base (x.b.length + k) cb, .slice (some ⟨wq.heap.size, 0, none⟩) 1 1]).run Try.prog (wq.drew.alloc (.cells #[.int .u8 (data.getD k 0 : Nat)] 5)) = .ok (.slice b1 n1 c1) w3) ∧
        w3.cell? ⟨r, 0, none⟩ = some (.slice base (x.b.length + k) cb) ∧ w3.cell? ⟨B, o + k, none⟩ = some (.int .u8 (data.getD k 0 : Nat)) ∧ w3.frozen? ⟨r, 0, none⟩ = false ∧ r < w3.heap.size ∧
        (w3.setCell ⟨r, 0, none⟩ (.slice b1 n1 c1)).cell? ⟨r, 1, none⟩ = some (.slice base2 (x.b.length + k) cs) ∧
        (∀ ty, (Builtin.append_ #[38, 38] ty #[.slice base2 (x.b.length + k) cs, .slice (some ⟨w3.heap.size, 0, none⟩) 1 1]).run Try.prog ((w3.setCell ⟨r, 0, none⟩ (.slice b1 n1 c1)).alloc (.cells #[.int .i64 0] 3)) = .ok (.slice b2 n2 c2) w6) ∧
        w6.frozen? ⟨r, 1, none⟩ = false ∧ r < w6.heap.size ∧ w6.cell? ⟨r, 1, none⟩ = some (.slice base2 (x.b.length + k) cs) ∧
        Rf (w6.setCell ⟨r, 1, none⟩ (.slice b2 n2 c2)) r hb' hs' (Of.writeK x data (k + 1)) ∧ (hb' = hb0 ∨ w.heap.size ≤ hb') ∧ (hs' = hs0 ∨ w.heap.size ≤ hs') ∧ Upd3 r hb0 hs0 w (w6.setCell ⟨r, 1, none⟩ (.slice b2 n2 c2)))) := fun k hb hs wq hk hq h1 h2 hu => by
    have hbl : (Of.writeK x data k).b.length = x.b.length + k := by
      show (x.b ++ data.take k).length = _
      rw [List.length_append, List.length_take]; omega
    have hsl : (Of.writeK x data k).s.length = x.b.length + k := by
      show (x.s ++ List.replicate k 0).length = _
      rw [List.length_append, List.length_replicate, hlen]
    obtain ⟨base, cb, b1, n1, c1, w3, hb1, hs1, q1, q2, q3, q4, q5, q6, q7, q8, q9, q10, q11, q12, q13⟩ := hq.byte (d := data.getD k 0) (by rw [hbl]; omega)
    rw [hbl] at q2 q5 q6
    refine ⟨base, cb, q2, q3, q4, fun hkK => ?_⟩
    obtain ⟨base2, cs, b2, n2, c2, w6, hb2, hs2, p1, p2, p3, p4, p9, p5, p6, p7, p8⟩ := q10.state (by show (Of.writeK x data k).s.length ≤ 2000; rw [hsl]; omega)
    obtain ⟨B, o, rfl, hBl, hcell⟩ := hd (by omega)
    have hz := hu.size
    have hBw : w.heap[B]? = W.heap[B]? := hW.block B hBl
    have hBq : wq.heap[B]? = w.heap[B]? := hu.block B (by omega) (by omega) (by omega) (by omega)
    have hB3 : w3.heap[B]? = wq.heap[B]? := q8 B (by omega) (by omega)
    have hc := hcell k (by omega)
    have e1 : wq.cell? ⟨B, o + k, none⟩ = W.cell? ⟨B, o + k, none⟩ := World.cell?_of_block (hBq.trans hBw)
    have e2 : w3.cell? ⟨B, o + k, none⟩ = W.cell? ⟨B, o + k, none⟩ := World.cell?_of_block (hB3.trans (hBq.trans hBw))
    have hsl' : ({ Of.writeK x data k with b := (Of.writeK x data k).b ++ [data.getD k 0] } : Of.B).s.length = x.b.length + k := hsl
    rw [hsl'] at p1 p2 p9
    rw [show (w3.setCell ⟨r, 0, none⟩ (.slice b1 n1 c1)).heap.size = w3.heap.size by simp] at p2
    have hzz := q13.size
    refine ⟨B, o, b1, n1, c1, w3, base2, cs, b2, n2, c2, w6, hb2, hs2, rfl, e1.trans hc, by omega, q5, q6, e2.trans hc, q7, q9, p1, p2, p3, p4, p9, ?_, by omega, by omega, ?_⟩
    · rw [Of.writeK_succ x data k (by omega)]; exact p5
    · have t1 : Upd3 r hb0 hs0 w (w3.setCell ⟨r, 0, none⟩ (.slice b1 n1 c1)) := hu.trans2 q13 h1 h2
      exact t1.trans2 p8 (by omega) (by omega)
  clear h hok hd hKe hK hlen hW zr zb zs hWz hcm
  go_enter Try.func23, Try.ntmps23
  go_wp2
  go_loopw [5] (fun i wr => ∃ k hb hs : Nat, k ≤ K ∧ i = .int .i64 k ∧ Rf wr r hb hs (Of.writeK x data k) ∧ (hb = hb0 ∨ w.heap.size ≤ hb) ∧ (hs = hs0 ∨ w.heap.size ≤ hs) ∧ Upd3 r hb0 hs0 w wr) (fun i _ => K - (intOf i).toNat)
  case atStart => exact ⟨0, hb0, hs0, Nat.zero_le _, rfl, H0.out, Or.inl rfl, Or.inl rfl, Upd3.refl _ _ _ _⟩
  case round =>
    obtain ⟨k, hb, hs, hk, rfl, hq, h1, h2, hu⟩ := hrel
    obtain ⟨base, cb, f0, f2, hrl, hstep⟩ := HRD.out k hb hs wr hk hq h1 h2 hu
    obtain ⟨m, hm⟩ : ∃ m, x.b.length + k = m := ⟨_, rfl⟩
    rw [hm] at f0 hstep
    have HST := Lib.hid hstep
    have HQ := Lib.hid (And.intro hq (And.intro h1 (And.intro h2 hu)))
    clear hstep hq h1 h2 hu HRD H0
    by_cases hkK : k < K
    · have hfin : x.fin = false := by
        cases hf : x.fin with
        | false => rfl
        | true => have := hK3 hf; omega
      rw [hfin] at f2
      have hm2 : m < 2000 := by omega
      obtain ⟨B, o, b1, n1, c1, w3, base2, cs, b2, n2, c2, w6, hb', hs', rfl, fB, hBl, r1, g0, gB, z0, l3, g1, r2, z1, l6, g6, hR2, h12, h22, hu2⟩ := HST.out hkK
      have hkd : k < data.length := by omega
      have hkc : k < c := by omega
      have hk3 : IntKind.i64.wrap ((k : Int) + 1) = (k : Int) + 1 := by rw [IntKind.wrap_i64]; omega
      have HR1 := Lib.hid r1
      have HR2 := Lib.hid (r2 38)
      have HE := Lib.hid (And.intro hR2 (And.intro h12 (And.intro h22 hu2)))
      have HKL : Hid (k + 1 ≤ K) := hkK
      have hS : wr.cell? ⟨r, 0, none⟩ = some (.slice base m cb) ∧ wr.cell? ⟨B, o + k, none⟩ = some (.int .u8 (data.getD k 0 : Nat)) := ⟨f0, fB⟩
      clear r1 r2 hR2 h12 h22 hu2 HST HQ hfin hm hK1 hK2 hK3 hK4 hkK hk hcap
      generalize data.getD k 0 = dk at *
      generalize data.length = dl at *
      have hA0 : (wr.drew.alloc (.cells #[.int .u8 (dk : Int)] 5)).cell? ⟨r, 0, none⟩ = some (.slice base m cb) := (World.cell?_alloc_past _ _ _ (by simpa using hrl)).trans f0
      have hA1 : (wr.drew.alloc (.cells #[.int .u8 (dk : Int)] 5)).cell? ⟨B, o + k, none⟩ = some (.int .u8 (dk : Int)) := (World.cell?_alloc_past _ _ _ (by simpa using hBl)).trans fB
      go_wp2
      refine wp_region_T 13 (fun w' => w'.cell? ⟨r, 0, none⟩ = some (.slice base m cb) ∧ w'.cell? ⟨B, o + k, none⟩ = some (.int .u8 (dk : Int))) (by kernel_rfl) hS (fun hHeld => ?_)
      refine wpAnyT_take (i := 0) (oi := ?_) (v := ?_) ?_ ?_ ?_ ?_ ?_ ?_ ?_ (by assumption) ?_
      rotate_left 2
      · simp only [List.getElem?_toArray, List.getElem?_cons_zero, List.getElem?_cons_succ]
        rfl
      · kernel_rfl
      · kernel_rfl
      · kernel_rfl
      · kernel_rfl
      · exact fun _ _ _ h => h
      · refine Or.inl ⟨by rfl, ?_⟩
        intro w hSw
        (try dsimp only at hSw)
        go_simp
        all_goals with_reducible rfl
      simp only [Act.put, List.setIfInBounds_toArray, List.set_cons_zero, List.set_cons_succ]
      refine wpAnyT_take (i := 1) (oi := ?_) (v := ?_) ?_ ?_ ?_ ?_ ?_ ?_ ?_ (by assumption) ?_
      rotate_left 2
      · simp only [List.getElem?_toArray, List.getElem?_cons_zero, List.getElem?_cons_succ]
        rfl
      · kernel_rfl
      · kernel_rfl
      · kernel_rfl
      · kernel_rfl
      · exact fun _ _ _ h => h
      · refine Or.inl ⟨by rfl, ?_⟩
        intro w hSw
        (try dsimp only at hSw)
        go_simp
        all_goals with_reducible rfl
      simp only [Act.put, List.setIfInBounds_toArray, List.set_cons_zero, List.set_cons_succ]
      refine wpAnyT_take (i := 2) (oi := ?_) (v := ?_) ?_ ?_ ?_ ?_ ?_ ?_ ?_ (by assumption) ?_
      rotate_left 2
      · simp only [List.getElem?_toArray, List.getElem?_cons_zero, List.getElem?_cons_succ]
        rfl
      · kernel_rfl
      · kernel_rfl
      · kernel_rfl
      · kernel_rfl
      · exact fun _ _ _ h => h
      · refine Or.inl ⟨by rfl, ?_⟩
        intro w hSw
        (try dsimp only at hSw)
        go_simp
        all_goals with_reducible rfl
      simp only [Act.put, List.setIfInBounds_toArray, List.set_cons_zero, List.set_cons_succ]
      refine wpAnyT_take (i := 3) (oi := ?_) (v := ?_) ?_ ?_ ?_ ?_ ?_ ?_ ?_ (by assumption) ?_
      rotate_left 2
      · simp only [List.getElem?_toArray, List.getElem?_cons_zero, List.getElem?_cons_succ]
        rfl
      · kernel_rfl
      · kernel_rfl
      · kernel_rfl
      · kernel_rfl
      · exact fun _ _ _ h => h
      · refine Or.inl ⟨by rfl, ?_⟩
        intro w hSw
        (try dsimp only at hSw)
        go_simp
        all_goals with_reducible rfl
      simp only [Act.put, List.setIfInBounds_toArray, List.set_cons_zero, List.set_cons_succ]
      refine wpAnyT_take (i := 4) (oi := ?_) (v := ?_) ?_ ?_ ?_ ?_ ?_ ?_ ?_ (by assumption) ?_
      rotate_left 2
      · simp only [List.getElem?_toArray, List.getElem?_cons_zero, List.getElem?_cons_succ]
        rfl
      · kernel_rfl
      · kernel_rfl
      · kernel_rfl
      · kernel_rfl
      · exact fun _ _ _ h => h
      · refine Or.inl ⟨by rfl, ?_⟩
        intro w' hSw
        (try dsimp only at hSw)
        obtain ⟨q, q'⟩ := hSw
        go_simp
        all_goals with_reducible rfl
      simp only [Act.put, List.setIfInBounds_toArray, List.set_cons_zero, List.set_cons_succ]
      refine wpAnyT_take (i := 5) (oi := ?_) (v := ?_) ?_ ?_ ?_ ?_ ?_ ?_ ?_ (by assumption) ?_
      rotate_left 2
      · simp only [List.getElem?_toArray, List.getElem?_cons_zero, List.getElem?_cons_succ]
        rfl
      · kernel_rfl
      · kernel_rfl
      · kernel_rfl
      · kernel_rfl
      · exact fun _ _ _ h => h
      · refine Or.inl ⟨by rfl, ?_⟩
        intro w hSw
        (try dsimp only at hSw)
        go_simp
        all_goals with_reducible rfl
      simp only [Act.put, List.setIfInBounds_toArray, List.set_cons_zero, List.set_cons_succ]
      refine wpAnyT_take (i := 6) (oi := ?_) (v := ?_) ?_ ?_ ?_ ?_ ?_ ?_ ?_ (by assumption) ?_
      rotate_left 2
      · simp only [List.getElem?_toArray, List.getElem?_cons_zero, List.getElem?_cons_succ]
        rfl
      · kernel_rfl
      · kernel_rfl
      · kernel_rfl
      · kernel_rfl
      · exact fun _ _ _ h => h
      · refine Or.inl ⟨by rfl, ?_⟩
        intro w hSw
        (try dsimp only at hSw)
        go_simp
        all_goals with_reducible rfl
      simp only [Act.put, List.setIfInBounds_toArray, List.set_cons_zero, List.set_cons_succ]
      refine wpAnyT_take (i := 7) (oi := ?_) (v := ?_) ?_ ?_ ?_ ?_ ?_ ?_ ?_ (by assumption) ?_
      rotate_left 2
      · simp only [List.getElem?_toArray, List.getElem?_cons_zero, List.getElem?_cons_succ]
        rfl
      · kernel_rfl
      · kernel_rfl
      · kernel_rfl
      · kernel_rfl
      · exact fun _ _ _ h => h
      · refine Or.inl ⟨by rfl, ?_⟩
        intro w hSw
        (try dsimp only at hSw)
        go_simp
        all_goals with_reducible rfl
      simp only [Act.put, List.setIfInBounds_toArray, List.set_cons_zero, List.set_cons_succ]
      refine wpAnyT_take (i := 8) (oi := ?_) (v := ?_) ?_ ?_ ?_ ?_ ?_ ?_ ?_ (by assumption) ?_
      rotate_left 2
      · simp only [List.getElem?_toArray, List.getElem?_cons_zero, List.getElem?_cons_succ]
        rfl
      · kernel_rfl
      · kernel_rfl
      · kernel_rfl
      · kernel_rfl
      · exact fun _ _ _ h => h
      · refine Or.inl ⟨by rfl, ?_⟩
        intro w' hSw
        (try dsimp only at hSw)
        obtain ⟨q, q'⟩ := hSw
        go_simp
        all_goals with_reducible rfl
      simp only [Act.put, List.setIfInBounds_toArray, List.set_cons_zero, List.set_cons_succ]
      refine wpAnyT_one (i := 9) (o := ?_) (by kernel_rfl) ?_ (fun KK hKK => ?_)
      rotate_left
      · simp only [List.getElem?_toArray, List.getElem?_cons_zero, List.getElem?_cons_succ]
        rfl
      go_simp
      refine hKK.out _ _ ?_ (fun h9 => ?_)
      · (try dsimp only)
        exact ⟨hA0, hA1⟩
      clear hKK KK
      try simp only [Act.put, List.setIfInBounds_toArray, List.set_cons_zero, List.set_cons_succ]
      refine wpAnyT_one (i := 10) (o := ?_) (by kernel_rfl) ?_ (fun KK hKK => ?_)
      rotate_left
      · simp only [List.getElem?_toArray, List.getElem?_cons_zero, List.getElem?_cons_succ]
        rfl
      rw [if_pos (by rfl)]
      refine Lib.wp_append_run _ _ _ _ _ rfl _ _ rfl rfl _ _ (HR1.out _) ?_
      refine hKK.out _ _ ?_ (fun h10 => ?_)
      · (try dsimp only)
        exact ⟨g0, gB⟩
      clear hKK KK
      try simp only [Act.put, List.setIfInBounds_toArray, List.set_cons_zero, List.set_cons_succ]
      refine wpAnyT_one (i := 11) (o := ?_) (by kernel_rfl) ?_ (fun KK hKK => ?_)
      rotate_left
      · simp only [List.getElem?_toArray, List.getElem?_cons_zero, List.getElem?_cons_succ]
        rfl
      go_simp
      refine hKK.out _ _ ?_ (fun h11 => ?_)
      · (try dsimp only)
        exact ⟨g0, gB⟩
      clear hKK KK
      try simp only [Act.put, List.setIfInBounds_toArray, List.set_cons_zero, List.set_cons_succ]
      refine wpAnyT_one (i := 12) (o := ?_) (by kernel_rfl) ?_ (fun KK hKK => ?_)
      rotate_left
      · simp only [List.getElem?_toArray, List.getElem?_cons_zero, List.getElem?_cons_succ]
        rfl
      go_simp
      refine hKK.out _ _ ?_ (fun h12 => ?_)
      · (try dsimp only)
        exact ⟨g0, gB⟩
      clear hKK KK
      try simp only [Act.put, List.setIfInBounds_toArray, List.set_cons_zero, List.set_cons_succ]
      refine wpAnyT_last (o := ?_) (by kernel_rfl) ?_ (fun KK hKK => ?_)
      rotate_left
      · simp only [List.getElem?_toArray, List.getElem?_cons_zero, List.getElem?_cons_succ]
        rfl
      go_simp
      refine hKK.out _ _ ?_
      clear hKK KK
      try simp only [Act.put, List.setIfInBounds_toArray, List.set_cons_zero, List.set_cons_succ]
      refine wpAnyT_done (by kernel_rfl) ?_ _
      go_wp2_with (at_builtin; refine Lib.wpList_append_run _ rfl _ _ _ _ rfl _ _ rfl rfl _ _ HR2.out ?_)
      go_roundw
      case rel => exact ⟨k + 1, hb', hs', HKL.out, by go_num, HE.out.1, HE.out.2.1, HE.out.2.2.1, HE.out.2.2.2⟩
      case measure => simp [intOf]; have := HKL.out; omega
    · obtain rfl : K = k := by omega
      have HEND : Hid (∃ hb hs, Rf wr r hb hs (Of.write x data).2 ∧ (hb = hb0 ∨ w.heap.size ≤ hb) ∧ (hs = hs0 ∨ w.heap.size ≤ hs) ∧ Upd3 r hb0 hs0 w wr) := ⟨hb, hs, by rw [HKE.out]; exact HQ.out.1, HQ.out.2.1, HQ.out.2.2.1, HQ.out.2.2.2⟩
      clear HST HQ HKE hkK hk HK hK3
      by_cases t1 : (K : Int) < (data.length : Int)
      · by_cases t2 : m < 2000
        · have hfin : x.fin = true := by
            rcases hK4 with h | h | h
            · omega
            · omega
            · exact h
          rw [hfin] at f2
          clear hK4 hK2 hm hcap hfin
          generalize data.length = dl at *
          go_wp2
          go_ret
          exact ⟨rfl, HEND.out⟩
        · have t2' : ¬ (m : Int) < 2000 := by omega
          clear hK4 hK2 hm hcap t2
          generalize data.length = dl at *
          go_wp2
          go_ret
          exact ⟨rfl, HEND.out⟩
      · clear hK4 hK2 hm hcap hK1
        generalize data.length = dl at *
        go_wp2
        go_ret
        exact ⟨rfl, HEND.out⟩
end Go.Proofs.Ytdloeakmoaoalaa
