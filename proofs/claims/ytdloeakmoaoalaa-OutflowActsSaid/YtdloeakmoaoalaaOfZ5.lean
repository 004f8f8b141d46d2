/- Layer 17's outflow: the nil buffer; a buffer beside the document's. -/
import Derived.Test.YtdloeakmoaoalaaRows
import Derived.Test.YtdloeakmoaoalaaAid
import Derived.Test.YtdloeakmoaoalaaPlainOf
import Derived.Test.YtdloeakmoaoalaaPlainOf2
import Derived.Test.YtdloeakmoaoalaaPlainOf4
import Derived.Test.YtdloeakmoaoalaaPlainOf5
import Derived.Test.YtdloeakmoaoalaaOfW
import Derived.Test.YtdloeakmoaoalaaOfX
import Derived.Test.YtdloeakmoaoalaaOfA
import Derived.Test.YtdloeakmoaoalaaOfB
import Derived.Test.YtdloeakmoaoalaaOfC
import Derived.Test.YtdloeakmoaoalaaOfE
import Derived.Test.YtdloeakmoaoalaaOfM
import Derived.Test.YtdloeakmoaoalaaOfN
import Derived.Test.YtdloeakmoaoalaaOfP
import Derived.Test.YtdloeakmoaoalaaOfQ
import Derived.Test.YtdloeakmoaoalaaOfR
import Derived.Test.YtdloeakmoaoalaaOfU
import Derived.Test.YtdloeakmoaoalaaOfV
import Derived.Test.YtdloeakmoaoalaaOfZ
import Derived.Test.YtdloeakmoaoalaaOfZ2
import Derived.Test.YtdloeakmoaoalaaOfZ3
import Derived.Test.YtdloeakmoaoalaaOfZ4
import Derived.WalkKit
import Derived.OwnWalk
import Derived.Laws.Rows
import Derived.Laws.Tables
import Derived.WalkSpells
import Derived.WalkLawsBesides
import Derived.BigQuiet
import Derived.Handy
import Derived.Lib.Walk
import Derived.Lib.Hide
import Derived.IntWalk
namespace Go.Proofs.Ytdloeakmoaoalaa
open Go.RowKit
set_option linter.unusedVariables false
set_option linter.unusedSimpArgs false

theorem turn_nil (off : Nat) (n : Int) (en : Bool) (f : Value) (w : World) :
    Calls Try.prog 36 #[.pointer none, .int .u64 (off : Int), .int .i64 n, .bool en, f] w fun e w' => e = .returned (.tuple #[]) ∧ w = w' := by
  go_enter Try.func36, Try.ntmps36
  go_wp2
  ((try simp only [Exit.inBlock, Exit.then]); refine bodyPost_ret (results_none rfl _ _ _) rfl ?_)
  exact ⟨rfl, rfl⟩
theorem nil_acked (w : World) : Calls Try.prog 10 #[.pointer none, .int .u64 0, .int .i64 1, .bool true] w fun e w' => e = .returned (.tuple #[]) ∧ w = w' := by
  go_enter Try.func10, Try.ntmps10
  go_wp2_with fail
  refine (turn_nil 0 1 true _ _).mono ?_
  rintro e w' ⟨rfl, rfl⟩
  go_wp2
  go_end0
  exact ⟨rfl, rfl⟩
theorem nil_lost (w : World) : Calls Try.prog 11 #[.pointer none, .int .u64 0, .int .i64 1, .bool true] w fun e w' => e = .returned (.tuple #[]) ∧ w = w' := by
  go_enter Try.func11, Try.ntmps11
  go_wp2_with fail
  refine (turn_nil 0 1 true _ _).mono ?_
  rintro e w' ⟨rfl, rfl⟩
  go_wp2
  go_end0
  exact ⟨rfl, rfl⟩
theorem nil_write (v : Value) (w : World) : Calls Try.prog 13 #[.pointer none, v] w fun e w' => e = .returned (.int .i64 0) ∧ w = w' := by
  go_enter Try.func13, Try.ntmps13
  go_wp2
  go_ret
  exact ⟨rfl, rfl⟩
theorem nil_finish (w : World) : Calls Try.prog 14 #[.pointer none] w fun e w' => e = .returned (.bool false) ∧ w = w' := by
  go_enter Try.func14, Try.ntmps14
  go_wp2
  go_ret
  exact ⟨rfl, rfl⟩
theorem nil_raise (w : World) : Calls Try.prog 15 #[.pointer none, .int .u64 5] w fun e w' => e = .returned (.bool false) ∧ w = w' := by
  go_enter Try.func15, Try.ntmps15
  go_wp2
  go_ret
  exact ⟨rfl, rfl⟩
theorem nil_written (w : World) : Calls Try.prog 16 #[.pointer none] w fun e w' => e = .returned (.int .i64 0) ∧ w = w' := by
  go_enter Try.func16, Try.ntmps16
  go_wp2
  go_ret
  exact ⟨rfl, rfl⟩
theorem nil_sent (w : World) : Calls Try.prog 17 #[.pointer none] w fun e w' => e = .returned (.int .u64 0) ∧ w = w' := by
  go_enter Try.func17, Try.ntmps17
  go_wp2
  go_ret
  exact ⟨rfl, rfl⟩
theorem nil_some (w : World) : Calls Try.prog 18 #[.pointer none] w fun e w' => e = .returned (.bool false) ∧ w = w' := by
  go_enter Try.func18, Try.ntmps18
  go_wp2
  go_ret
  exact ⟨rfl, rfl⟩
theorem nil_blocked (w : World) : Calls Try.prog 19 #[.pointer none] w fun e w' => e = .returned (.bool false) ∧ w = w' := by
  go_enter Try.func19, Try.ntmps19
  go_wp2
  go_ret
  exact ⟨rfl, rfl⟩
theorem nil_done (w : World) : Calls Try.prog 20 #[.pointer none] w fun e w' => e = .returned (.bool false) ∧ w = w' := by
  go_enter Try.func20, Try.ntmps20
  go_wp2
  go_ret
  exact ⟨rfl, rfl⟩
theorem nil_had (w : World) : Calls Try.prog 21 #[.pointer none, .int .u64 0, .int .i64 0] w fun e w' => e = .returned (.bool false) ∧ w = w' := by
  go_enter Try.func21, Try.ntmps21
  go_wp2
  go_ret
  exact ⟨rfl, rfl⟩

theorem Bf.upd3 {w w' : World} {r hb hs a gb gs : Nat} {x : Of.B} (h : Bf w a gb gs x) (hu : Upd3 r hb hs w w') (h1 : a ≠ r ∧ a ≠ hb ∧ a ≠ hs) (h2 : gb ≠ r ∧ gb ≠ hb ∧ gb ≠ hs) (h3 : gs ≠ r ∧ gs ≠ hb ∧ gs ≠ hs) : Bf w' a gb gs x := by
  obtain ⟨vb, vs, k1, k2, k3, k4⟩ := h
  exact ⟨vb, vs, k1.upd3 hu h1.1 h1.2.1 h1.2.2, k2.to fun hl => hu.block gb hl h2.1 h2.2.1 h2.2.2, k3.to fun hl => hu.block gs hl h3.1 h3.2.1 h3.2.2, k4⟩
/-- The two buffers beside each other. -/
structure Du (W : World) (a gb gs r hb hs : Nat) (x y : Of.B) (w : World) : Prop where
  bf : Bf w a gb gs x
  rf : Rf w r hb hs y
  bel : Below W.heap.size W w
  za : W.heap.size ≤ a ∧ W.heap.size ≤ gb ∧ W.heap.size ≤ gs
  zr : W.heap.size ≤ r ∧ W.heap.size ≤ hb ∧ W.heap.size ≤ hs
  la : a < w.heap.size ∧ gb < w.heap.size ∧ gs < w.heap.size
  lr : r < w.heap.size ∧ hb < w.heap.size ∧ hs < w.heap.size
  sr : r ≠ a ∧ r ≠ gb ∧ r ≠ gs
  sb : hb ≠ a ∧ hb ≠ gb ∧ hb ≠ gs
  ss : hs ≠ a ∧ hs ≠ gb ∧ hs ≠ gs
variable {W w w' : World} {a gb gs r hb hs gb' gs' hb' hs' : Nat} {x y x' y' : Of.B}
theorem Upd3.belowW2 (hL : Below W.heap.size W w) (hu : Upd3 a gb gs w w') (h1 : W.heap.size ≤ a ∧ W.heap.size ≤ gb ∧ W.heap.size ≤ gs) : Below W.heap.size W w' :=
  ⟨hu.os.trans hL.os, hu.tape.trans hL.tape, hu.output.trans hL.output, Nat.le_trans hL.size hu.size, fun k hk => (hu.block k (Nat.lt_of_lt_of_le hk hL.size) (by omega) (by omega) (by omega)).trans (hL.block k hk)⟩
theorem num_new {g1 g' g0 a n : Nat} (e : g1 = g' ∨ g1 = a) (k : g' = g0 ∨ n ≤ g') : g1 = g0 ∨ g1 = a ∨ n ≤ g1 := by
  rcases e with rfl | e
  · rcases k with k | k
    · exact Or.inl k
    · exact Or.inr (Or.inr k)
  · exact Or.inr (Or.inl e)
theorem num_ne {k g1 g0 a n : Nat} (h : g1 = g0 ∨ g1 = a ∨ n ≤ g1) (h1 : k ≠ g0) (h2 : k ≠ a) (hk : k < n) : k ≠ g1 := by
  rintro rfl
  rcases h with h | h | h
  · exact h1 h
  · exact h2 h
  · omega
theorem num_low {m g1 g0 a n : Nat} (h : g1 = g0 ∨ g1 = a ∨ n ≤ g1) (h1 : m ≤ g0) (h2 : m ≤ a) (hk : m ≤ n) : m ≤ g1 := by
  rcases h with rfl | rfl | h
  · exact h1
  · exact h2
  · omega
theorem Du.below (h : Du W a gb gs r hb hs x y w) (hk : Below w.heap.size w w') : Du W a gb gs r hb hs x y w' := by
  have hz := hk.size
  obtain ⟨d1, d2, d3, z1, z2, la, lr, s1, s2, s3⟩ := h
  exact ⟨d1.kept hk, d2.kept hk, d3.trans (hk.mono d3.size), z1, z2, ⟨by omega, by omega, by omega⟩, ⟨by omega, by omega, by omega⟩, s1, s2, s3⟩
/-- The two beside each other and an act's block. -/
def DuA (W : World) (a r g : Nat) (cs : Array Value) (x y : Of.B) (w : World) : Prop :=
  ∃ gb gs hb hs, Du W a gb gs r hb hs x y w ∧ Obj w g 42 cs ∧ g ≠ a ∧ g ≠ r ∧ g ≠ gb ∧ g ≠ gs ∧ g ≠ hb ∧ g ≠ hs
variable {g : Nat} {cs : Array Value}
theorem DuA.mk' (h : Du W a gb gs r hb hs x y w) : DuA W a r w.heap.size cs x y (w.alloc (.cells cs 42)) := by
  have h2 := h.below (w' := w.alloc (.cells cs 42)) ((Below.refl _ _).alloc (Nat.le_refl _) _)
  have la := h.la; have lr := h.lr
  exact ⟨gb, gs, hb, hs, h2, Obj.new w _ _, by omega, by omega, by omega, by omega, by omega, by omega⟩
theorem DuA.below (h : DuA W a r g cs x y w) (hk : Below w.heap.size w w') : DuA W a r g cs x y w' := by
  obtain ⟨gb, gs, hb, hs, h1, h2, h3⟩ := h
  exact ⟨gb, gs, hb, hs, h1.below hk, h2.kept hk, h3⟩
theorem DuA.draws (h : DuA W a r g cs x y w) (q : Nat) : DuA W a r g cs x y (w.drewN q) := h.below (below_draws w q)
theorem DuA.act (h : DuA W a r g cs x y w) : Obj w g 42 cs := by
  obtain ⟨gb, gs, hb, hs, h1, h2, h3⟩ := h; exact h2
theorem DuA.bel (h : DuA W a r g cs x y w) : Below W.heap.size W w := by
  obtain ⟨gb, gs, hb, hs, h1, h2, h3⟩ := h; exact h1.bel
theorem DuA.lt (h : DuA W a r g cs x y w) : a < w.heap.size ∧ r < w.heap.size ∧ g < w.heap.size := by
  obtain ⟨gb, gs, hb, hs, h1, h2, h3⟩ := h; exact ⟨h1.la.1, h1.lr.1, h2.lt⟩
theorem Du.actB (h1 : Du W a gb gs r hb hs x y w) (h2 : Obj w g 42 cs) (h3 : g ≠ a ∧ g ≠ r ∧ g ≠ gb ∧ g ≠ gs ∧ g ≠ hb ∧ g ≠ hs) (hB : Bf w' a gb' gs' x') (k2 : gb' = gb ∨ w.heap.size ≤ gb') (k3 : gs' = gs ∨ w.heap.size ≤ gs') (k4 : Upd3 a gb gs w w') : DuA W a r g cs x' y w' := by
  obtain ⟨h3, h4, h5, h6, h7, h8⟩ := h3
  obtain ⟨gb1, gs1, k1', lb, ls, e1, e2⟩ := hB.norm
  have hl := h2.lt
  have hz := k4.size
  obtain ⟨d1, d2, d3, ⟨a1, a2, a3⟩, ⟨r1, r2, r3⟩, ⟨la1, la2, la3⟩, ⟨lr1, lr2, lr3⟩, s1, s2, s3⟩ := h1
  have hW := d3.size
  have E1 := num_new e1 k2
  have E2 := num_new e2 k3
  exact ⟨gb1, gs1, hb, hs, ⟨k1', d2.upd3 k4 s1 s2 s3, k4.belowW2 d3 ⟨a1, a2, a3⟩, ⟨a1, num_low E1 a2 a1 hW, num_low E2 a3 a1 hW⟩, ⟨r1, r2, r3⟩, ⟨Nat.lt_of_lt_of_le la1 hz, lb, ls⟩, ⟨Nat.lt_of_lt_of_le lr1 hz, Nat.lt_of_lt_of_le lr2 hz, Nat.lt_of_lt_of_le lr3 hz⟩,
    ⟨s1.1, num_ne E1 s1.2.1 s1.1 lr1, num_ne E2 s1.2.2 s1.1 lr1⟩, ⟨s2.1, num_ne E1 s2.2.1 s2.1 lr2, num_ne E2 s2.2.2 s2.1 lr2⟩, ⟨s3.1, num_ne E1 s3.2.1 s3.1 lr3, num_ne E2 s3.2.2 s3.1 lr3⟩⟩,
    h2.upd3 k4 h3 h5 h6, h3, h4, num_ne E1 h5 h3 hl, num_ne E2 h6 h3 hl, h7, h8⟩
theorem Du.actR (h1 : Du W a gb gs r hb hs x y w) (h2 : Obj w g 42 cs) (h3 : g ≠ a ∧ g ≠ r ∧ g ≠ gb ∧ g ≠ gs ∧ g ≠ hb ∧ g ≠ hs) (hR : Rf w' r hb' hs' y') (k2 : hb' = hb ∨ w.heap.size ≤ hb') (k3 : hs' = hs ∨ w.heap.size ≤ hs') (k4 : Upd3 r hb hs w w') : DuA W a r g cs x y' w' := by
  obtain ⟨h3, h4, h5, h6, h7, h8⟩ := h3
  obtain ⟨hb1, hs1, k1', lb, ls, e1, e2⟩ := hR.norm
  have hl := h2.lt
  have hz := k4.size
  obtain ⟨d1, d2, d3, ⟨a1, a2, a3⟩, ⟨r1, r2, r3⟩, ⟨la1, la2, la3⟩, ⟨lr1, lr2, lr3⟩, s1, s2, s3⟩ := h1
  have hW := d3.size
  have E1 := num_new e1 k2
  have E2 := num_new e2 k3
  exact ⟨gb, gs, hb1, hs1, ⟨d1.upd3 k4 ⟨s1.1.symm, s2.1.symm, s3.1.symm⟩ ⟨s1.2.1.symm, s2.2.1.symm, s3.2.1.symm⟩ ⟨s1.2.2.symm, s2.2.2.symm, s3.2.2.symm⟩, k1', k4.belowW2 d3 ⟨r1, r2, r3⟩, ⟨a1, a2, a3⟩, ⟨r1, num_low E1 r2 r1 hW, num_low E2 r3 r1 hW⟩, ⟨Nat.lt_of_lt_of_le la1 hz, Nat.lt_of_lt_of_le la2 hz, Nat.lt_of_lt_of_le la3 hz⟩, ⟨Nat.lt_of_lt_of_le lr1 hz, lb, ls⟩, s1,
    ⟨(num_ne E1 s2.1.symm s1.1.symm la1).symm, (num_ne E1 s2.2.1.symm s1.2.1.symm la2).symm, (num_ne E1 s2.2.2.symm s1.2.2.symm la3).symm⟩, ⟨(num_ne E2 s3.1.symm s1.1.symm la1).symm, (num_ne E2 s3.2.1.symm s1.2.1.symm la2).symm, (num_ne E2 s3.2.2.symm s1.2.2.symm la3).symm⟩⟩,
    h2.upd3 k4 h4 h7 h8, h3, h4, h5, h6, num_ne E1 h7 h4 hl, num_ne E2 h8 h4 hl⟩
/-- A field of the document's buffer, stored outright. -/
theorem DuA.setR (h : DuA W a r g cs x y w) (i : Nat) (v : Value) (hy : ∀ vb vs : Value, (#[vb, vs, .bool y.fin, .int .i64 (y.en : Int), .int .u64 (y.lim : Int)] : Array Value).setIfInBounds i v = #[vb, vs, .bool y'.fin, .int .i64 (y'.en : Int), .int .u64 (y'.lim : Int)]) (hb : y'.b = y.b) (hs : y'.s = y.s) : DuA W a r g cs x y' (w.setCell ⟨r, i, none⟩ v) := by
  obtain ⟨gb, gs, hb0, hs0, h1, h2, h3⟩ := h
  obtain ⟨hb1, hs1, h, hrb, hr, hbs, hfb, hfs⟩ := h1.rf.fresh
  obtain ⟨vb, vs, hO, q1, q2⟩ := h
  have hu : Upd r w (w.setCell ⟨r, i, none⟩ v) := (Upd.refl r w).set _ _
  exact h1.actR h2 h3 ⟨vb, vs, (hO.set i v).as (hy vb vs), by rw [hb]; exact q1.upd hu (Ne.symm hrb), by rw [hs]; exact q2.upd hu (Ne.symm hr)⟩ hfb hfs ((Upd3.one hu hb1 hs1).back hfb hfs)

theorem DuA.cellR (h : DuA W a r g cs x y w) : ∃ base c, y.b.length ≤ c ∧ w.cell? ⟨r, 0, none⟩ = some (.slice base y.b.length c) ∧ w.cell? ⟨r, 2, none⟩ = some (.bool y.fin) ∧ w.cell? ⟨r, 4, none⟩ = some (.int .u64 (y.lim : Int)) ∧ w.frozen? ⟨r, 2, none⟩ = false ∧ w.frozen? ⟨r, 4, none⟩ = false := by
  obtain ⟨gb, gs, hb, hs, h1, h2, h3⟩ := h
  obtain ⟨vb, vs, hO, q1, q2⟩ := h1.rf
  obtain ⟨base, c, rfl, hl, _⟩ := q1.form
  exact ⟨base, c, hl, by rw [hO.cell]; rfl, by rw [hO.cell]; rfl, by rw [hO.cell]; rfl, hO.free _, hO.free _⟩

theorem DuA.write (h : DuA W a r g cs x y w) (hok : Of.Ok x) (A : Option Addr) (c : Nat) (data : List Nat) (hd : Rb W A data) (hlc : data.length ≤ c) (hcm : c ≤ maxLen) (hdl : data.length ≤ 1000000) :
    Calls Try.prog 13 #[.pointer (some ⟨a, 0, none⟩), .slice A data.length c] w fun e w' => e = .returned (.int .i64 ((Of.write x data).1 : Nat)) ∧ DuA W a r g cs (Of.write x data).2 y w' := by
  obtain ⟨gb, gs, hb, hs, h1, h2, h3⟩ := h
  refine (write_any a gb gs A c data x w h1.bf hok (hd.below h1.bel) hlc hcm hdl).mono ?_
  rintro e w' ⟨gb', gs', rfl, hB, hg1, hg2, hu⟩
  exact ⟨rfl, h1.actB h2 h3 hB hg1 hg2 hu⟩
theorem DuA.rwrite (h : DuA W a r g cs x y w) (hok : Of.Ok y) (A : Option Addr) (c : Nat) (data : List Nat) (hd : Rb W A data) (hlc : data.length ≤ c) (hcm : c ≤ maxLen) (hdl : data.length ≤ 1000000) :
    Calls Try.prog 23 #[.pointer (some ⟨r, 0, none⟩), .slice A data.length c] w fun e w' => e = .returned (.int .i64 ((Of.write y data).1 : Nat)) ∧ DuA W a r g cs x (Of.write y data).2 w' := by
  obtain ⟨gb, gs, hb, hs, h1, h2, h3⟩ := h
  refine (rwrite_any W r hb hs A c data y w h1.rf hok h1.bel h1.zr.1 h1.zr.2.1 h1.zr.2.2 hd hlc hcm hdl).mono ?_
  rintro e w' ⟨rfl, hb', hs', hR, hg1, hg2, hu⟩
  exact ⟨rfl, h1.actR h2 h3 hR hg1 hg2 hu⟩
theorem DuA.finish (h : DuA W a r g cs x y w) :
    Calls Try.prog 14 #[.pointer (some ⟨a, 0, none⟩)] w fun e w' => e = .returned (.bool (Of.finish x).1) ∧ DuA W a r g cs (Of.finish x).2 y w' := by
  obtain ⟨gb, gs, hb, hs, h1, h2, h3⟩ := h
  refine (finish_any a gb gs x w h1.bf).mono ?_
  rintro e w' ⟨rfl, hB, hu⟩
  exact ⟨rfl, h1.actB h2 h3 hB (Or.inl rfl) (Or.inl rfl) (Upd3.one hu gb gs)⟩
theorem DuA.raise (h : DuA W a r g cs x y w) (lim : Nat) :
    Calls Try.prog 15 #[.pointer (some ⟨a, 0, none⟩), .int .u64 (lim : Int)] w fun e w' => e = .returned (.bool (Of.raise x lim).1) ∧ DuA W a r g cs (Of.raise x lim).2 y w' := by
  obtain ⟨gb, gs, hb, hs, h1, h2, h3⟩ := h
  refine (raise_any a gb gs lim x w h1.bf).mono ?_
  rintro e w' ⟨rfl, hB, hu⟩
  exact ⟨rfl, h1.actB h2 h3 hB (Or.inl rfl) (Or.inl rfl) (Upd3.one hu gb gs)⟩
/-- Beside a slice that the program's Next made. -/
def DuN (W : World) (a r g : Nat) (cs : Array Value) (x y : Of.B) (A : Option Addr) (l : List Nat) (w : World) : Prop :=
  ∃ gb gs hb hs, Du W a gb gs r hb hs x y w ∧ Obj w g 42 cs ∧ (g ≠ a ∧ g ≠ r ∧ g ≠ gb ∧ g ≠ gs ∧ g ≠ hb ∧ g ≠ hs) ∧ Rb w A l ∧ (A = none ∨ ∃ k, A = some ⟨k, 0, none⟩ ∧ k ≠ r ∧ k ≠ hb ∧ k ≠ hs)
theorem DuN.dua {A : Option Addr} {l : List Nat} (h : DuN W a r g cs x y A l w) : DuA W a r g cs x y w := by
  obtain ⟨gb, gs, hb, hs, h1, h2, h3, _⟩ := h; exact ⟨gb, gs, hb, hs, h1, h2, h3⟩
theorem DuA.next (h : DuA W a r g cs x y w) (hok : Of.Ok x) (many : Nat) (hm0 : 0 < many) (hm : many ≤ 9223372036854775807) :
    Calls Try.prog 12 #[.pointer (some ⟨a, 0, none⟩), .int .i64 (many : Int)] w fun e w' => ∃ A c, e = .returned (.tuple #[.int .u64 ((Of.due x many).1 : Nat), .slice A (outB x many).length c, .bool (Of.due x many).2.2.1, .bool (Of.due x many).2.2.2])
      ∧ DuN W a r g cs (Of.next x many) y A (outB x many) w' := by
  obtain ⟨gb, gs, hb, hs, h1, h2, h3⟩ := h
  refine (next_row a gb gs many x w h1.bf hok hm0 hm).mono ?_
  rintro e w' ⟨A, c, rfl, q1, q2, q3, q4, hB, hu⟩
  have hz := hu.size
  have lr := h1.lr
  refine ⟨A, c, rfl, gb, gs, hb, hs, ⟨hB, h1.rf.upd3 hu h1.sr h1.sb h1.ss, hu.belowW2 h1.bel h1.za, h1.za, h1.zr, ⟨Nat.lt_of_lt_of_le h1.la.1 hz, Nat.lt_of_lt_of_le h1.la.2.1 hz, Nat.lt_of_lt_of_le h1.la.2.2 hz⟩, ⟨Nat.lt_of_lt_of_le lr.1 hz, Nat.lt_of_lt_of_le lr.2.1 hz, Nat.lt_of_lt_of_le lr.2.2 hz⟩, h1.sr, h1.sb, h1.ss⟩, h2.upd3 hu h3.1 h3.2.2.1 h3.2.2.2.1, h3, q3, ?_⟩
  rcases q4 with h | ⟨k, h, hk⟩
  · exact Or.inl h
  · exact Or.inr ⟨k, h, by omega, by omega, by omega⟩
/-- The document's Next, beside what the program's told. -/
theorem DuN.rnext {A0 : Option Addr} {l : List Nat} (h : DuN W a r g cs x y A0 l w) (hok : Of.Ok y) (many : Nat) (hm0 : 0 < many) (hm : many ≤ 9223372036854775807) :
    Calls Try.prog 24 #[.pointer (some ⟨r, 0, none⟩), .int .i64 (many : Int), .bool true] w fun e w' => ∃ A c, e = .returned (.tuple #[.int .i64 ((Of.due y many).1 : Nat), .slice A (outB y many).length c, .bool (Of.due y many).2.2.1, .bool (Of.due y many).2.2.2])
      ∧ Rb w' A (outB y many) ∧ Rb w' A0 l ∧ DuA W a r g cs x (Of.next y many) w' := by
  obtain ⟨gb, gs, hb, hs, h1, h2, h3, h4, h5⟩ := h
  refine (rnextT_any r hb hs many hm0 hm y w h1.rf hok).mono ?_
  rintro e w' ⟨A, c, rfl, q1, q2, q3, hb', hs', hR, hg1, hg2, hu⟩
  refine ⟨A, c, rfl, q3, fun hp => ?_, h1.actR h2 h3 hR hg1 hg2 hu⟩
  obtain ⟨b, off, e, hlt, hc⟩ := h4 hp
  rcases h5 with h5 | ⟨k, h5, k1, k2, k3⟩
  · rw [h5] at e; cases e
  · rw [h5] at e; simp only [Option.some.injEq, Addr.mk.injEq, and_true] at e
    obtain ⟨rfl, rfl⟩ := e
    exact ⟨k, 0, h5, Nat.lt_of_lt_of_le hlt hu.size, fun i hi => (World.cell?_of_block (hu.block k hlt k1 k2 k3)).trans (hc i hi)⟩
theorem DuA.rsome (h : DuA W a r g cs x y w) (hok : Of.Ok y) :
    Calls Try.prog 24 #[.pointer (some ⟨r, 0, none⟩), .int .i64 1, .bool false] w fun e w' => ∃ v1 v2 v3, e = .returned (.tuple #[v1, v2, v3, .bool (Of.some_ y)]) ∧ DuA W a r g cs x y w' := by
  have h0 := h
  obtain ⟨gb, gs, hb, hs, h1, h2, h3⟩ := h
  refine (rnextF_any r hb hs 1 (by omega) (by omega) y w h1.rf hok).mono ?_
  rintro e w' ⟨A, c, rfl, q1, q2, q3, hb', hs', hR, hg1, hg2, hu⟩
  exact ⟨_, _, _, rfl, h0.below hu⟩
theorem DuA.acked (h : DuA W a r g cs x y w) (hok : Of.Ok x) (off : Nat) (n : Int) (en : Bool) :
    Calls Try.prog 10 #[.pointer (some ⟨a, 0, none⟩), .int .u64 (off : Int), .int .i64 n, .bool en] w fun e w' => e = .returned (.tuple #[]) ∧ DuA W a r g cs (Of.turn x off n en Of.fAck) y w' := by
  obtain ⟨gb, gs, hb, hs, h1, h2, h3⟩ := h
  refine (acked_any a gb gs off n en x w h1.bf hok).mono ?_
  rintro e w' ⟨rfl, hB, hu⟩
  exact ⟨rfl, h1.actB h2 h3 hB (Or.inl rfl) (Or.inl rfl) hu⟩
theorem DuA.lost (h : DuA W a r g cs x y w) (hok : Of.Ok x) (off : Nat) (n : Int) (en : Bool) :
    Calls Try.prog 11 #[.pointer (some ⟨a, 0, none⟩), .int .u64 (off : Int), .int .i64 n, .bool en] w fun e w' => e = .returned (.tuple #[]) ∧ DuA W a r g cs (Of.turn x off n en Of.fLost) y w' := by
  obtain ⟨gb, gs, hb, hs, h1, h2, h3⟩ := h
  refine (lost_any a gb gs off n en x w h1.bf hok).mono ?_
  rintro e w' ⟨rfl, hB, hu⟩
  exact ⟨rfl, h1.actB h2 h3 hB (Or.inl rfl) (Or.inl rfl) hu⟩
theorem DuA.racked (h : DuA W a r g cs x y w) (hok : Of.Ok y) (off : Nat) (hoff : off < 18446744073709551616) (n : Int) (hn : -9223372036854775808 ≤ n ∧ n ≤ 9223372036854775807) (en : Bool) :
    Calls Try.prog 26 #[.pointer (some ⟨r, 0, none⟩), .int .u64 (off : Int), .int .i64 n, .bool en] w fun e w' => e = .returned (.tuple #[]) ∧ DuA W a r g cs x (Of.turn y off n en Of.fAck) w' := by
  obtain ⟨gb, gs, hb, hs, h1, h2, h3⟩ := h
  refine (racked_any r hb hs off hoff n hn en y w h1.rf hok).mono ?_
  rintro e w' ⟨rfl, hb', hs', hR, hg1, hg2, hu⟩
  exact ⟨rfl, h1.actR h2 h3 hR hg1 hg2 hu⟩
theorem DuA.rlost (h : DuA W a r g cs x y w) (hok : Of.Ok y) (off : Nat) (hoff : off < 18446744073709551616) (n : Int) (hn : -9223372036854775808 ≤ n ∧ n ≤ 9223372036854775807) (en : Bool) :
    Calls Try.prog 27 #[.pointer (some ⟨r, 0, none⟩), .int .u64 (off : Int), .int .i64 n, .bool en] w fun e w' => e = .returned (.tuple #[]) ∧ DuA W a r g cs x (Of.turn y off n en Of.fLost) w' := by
  obtain ⟨gb, gs, hb, hs, h1, h2, h3⟩ := h
  refine (rlost_any r hb hs off hoff n hn en y w h1.rf hok).mono ?_
  rintro e w' ⟨rfl, hb', hs', hR, hg1, hg2, hu⟩
  exact ⟨rfl, h1.actR h2 h3 hR hg1 hg2 hu⟩
-- what only reads
theorem DuA.fin (h : DuA W a r g cs x y w) : w.cell? ⟨r, 2, none⟩ = some (.bool y.fin) ∧ w.frozen? ⟨r, 2, none⟩ = false := by
  obtain ⟨base, c, q1, q2, q3, q4, q5, q6⟩ := h.cellR; exact ⟨q3, q5⟩
theorem DuA.lim (h : DuA W a r g cs x y w) : w.cell? ⟨r, 4, none⟩ = some (.int .u64 (y.lim : Int)) ∧ w.frozen? ⟨r, 4, none⟩ = false := by
  obtain ⟨base, c, q1, q2, q3, q4, q5, q6⟩ := h.cellR; exact ⟨q4, q6⟩
theorem DuA.written (h : DuA W a r g cs x y w) : Calls Try.prog 16 #[.pointer (some ⟨a, 0, none⟩)] w fun e w' => e = .returned (.int .i64 (x.b.length : Nat)) ∧ w = w' := by
  obtain ⟨gb, gs, hb, hs, h1, h2, h3⟩ := h
  exact written_any a gb gs x w h1.bf
theorem DuA.sent (h : DuA W a r g cs x y w) (hok : Of.Ok x) : Calls Try.prog 17 #[.pointer (some ⟨a, 0, none⟩)] w fun e w' => e = .returned (.int .u64 (Of.sent x : Nat)) ∧ ∃ q, w' = w.drewN q := by
  obtain ⟨gb, gs, hb, hs, h1, h2, h3⟩ := h
  refine (sent_any a gb gs x w h1.bf hok).mono ?_
  rintro e w' ⟨rfl, rfl⟩
  exact ⟨rfl, 0, rfl⟩
theorem DuA.some_ (h : DuA W a r g cs x y w) (hok : Of.Ok x) : Calls Try.prog 18 #[.pointer (some ⟨a, 0, none⟩)] w fun e w' => e = .returned (.bool (Of.some_ x)) ∧ ∃ q, w' = w.drewN q := by
  obtain ⟨gb, gs, hb, hs, h1, h2, h3⟩ := h
  exact some_any a gb gs x w h1.bf hok
theorem DuA.blocked (h : DuA W a r g cs x y w) (hok : Of.Ok x) : Calls Try.prog 19 #[.pointer (Option.some ⟨a, 0, none⟩)] w fun e w' => e = .returned (.bool (Of.blocked x)) ∧ ∃ q, w' = w.drewN q := by
  obtain ⟨gb, gs, hb, hs, h1, h2, h3⟩ := h
  exact blocked_any a gb gs x w h1.bf hok
theorem DuA.done (h : DuA W a r g cs x y w) (hok : Of.Ok x) : Calls Try.prog 20 #[.pointer (Option.some ⟨a, 0, none⟩)] w fun e w' => e = .returned (.bool (Of.done x)) ∧ ∃ q, w' = w.drewN q := by
  obtain ⟨gb, gs, hb, hs, h1, h2, h3⟩ := h
  exact done_any a gb gs x w h1.bf hok
theorem DuA.had (h : DuA W a r g cs x y w) (hok : Of.Ok x) (off : Nat) (n : Int) : Calls Try.prog 21 #[.pointer (Option.some ⟨a, 0, none⟩), .int .u64 (off : Int), .int .i64 n] w fun e w' => e = .returned (.bool (hadI x off n)) ∧ ∃ q, w' = w.drewN q := by
  obtain ⟨gb, gs, hb, hs, h1, h2, h3⟩ := h
  exact had_any a gb gs off n x w h1.bf hok
theorem DuA.rsent (h : DuA W a r g cs x y w) (hok : Of.Ok y) (hp : Of.Pre y) : Calls Try.prog 28 #[.pointer (Option.some ⟨r, 0, none⟩)] w fun e w' => e = .returned (.int .i64 (Of.sent y : Nat)) ∧ w = w' := by
  obtain ⟨gb, gs, hb, hs, h1, h2, h3⟩ := h
  exact rsent_any r hb hs y w h1.rf hok hp
theorem DuA.rblocked (h : DuA W a r g cs x y w) (hok : Of.Ok y) : Calls Try.prog 29 #[.pointer (Option.some ⟨r, 0, none⟩)] w fun e w' => e = .returned (.bool (Of.blocked y)) ∧ w = w' := by
  obtain ⟨gb, gs, hb, hs, h1, h2, h3⟩ := h
  exact rblocked_any r hb hs y w h1.rf hok
theorem DuA.rdone (h : DuA W a r g cs x y w) (hok : Of.Ok y) : Calls Try.prog 30 #[.pointer (Option.some ⟨r, 0, none⟩)] w fun e w' => e = .returned (.bool (Of.done y)) ∧ w = w' := by
  obtain ⟨gb, gs, hb, hs, h1, h2, h3⟩ := h
  exact rdone_any r hb hs y w h1.rf hok
theorem DuA.rhad (h : DuA W a r g cs x y w) (hok : Of.Ok y) (off : Nat) (n : Int) : Calls Try.prog 31 #[.pointer (Option.some ⟨r, 0, none⟩), .int .u64 (off : Int), .int .i64 n] w fun e w' => e = .returned (.bool (hadI y off n)) ∧ w = w' := by
  obtain ⟨gb, gs, hb, hs, h1, h2, h3⟩ := h
  exact rhad_any r hb hs off n y w h1.rf hok
/-- The document's Next of nothing. -/
theorem rnext0_any (p : Value) (n : Int) (hn : n < 1) (t : Bool) (w : World) :
    Calls Try.prog 24 #[p, .int .i64 n, .bool t] w fun e w' => e = .returned (.tuple #[.int .i64 0, .slice none 0 0, .bool false, .bool false]) ∧ w = w' := by
  go_enter Try.func24, Try.ntmps24
  go_wp2
  ((try simp only [Exit.inBlock, Exit.then]); refine bodyPost_ret (results_tmp4 rfl _ _ _) rfl ?_)
  exact ⟨rfl, rfl⟩
end Go.Proofs.Ytdloeakmoaoalaa
