/- Layer 17's outflow: a buffer beside a text and marks: the steps of OutflowRight. -/
import Derived.Test.YtdloeakmoaoalaaRows
import Derived.Test.YtdloeakmoaoalaaAid
import Derived.Test.YtdloeakmoaoalaaPlainOf
import Derived.Test.YtdloeakmoaoalaaPlainOf2
import Derived.Test.YtdloeakmoaoalaaPlainOf3
import Derived.Test.YtdloeakmoaoalaaPlainOf4
import Derived.Test.YtdloeakmoaoalaaOfW
import Derived.Test.YtdloeakmoaoalaaOfX
import Derived.Test.YtdloeakmoaoalaaOfA
import Derived.Test.YtdloeakmoaoalaaOfB
import Derived.Test.YtdloeakmoaoalaaOfE
import Derived.Test.YtdloeakmoaoalaaOfM
import Derived.Test.YtdloeakmoaoalaaOfN
import Derived.Test.YtdloeakmoaoalaaOfP
import Derived.Test.YtdloeakmoaoalaaOfQ
import Derived.Test.YtdloeakmoaoalaaOfR
import Derived.Test.YtdloeakmoaoalaaOfU
import Derived.WalkKit
import Derived.OwnWalk
import Derived.Laws.Rows
import Derived.Laws.Tables
import Derived.Deep.AppendSrc
import Derived.WalkSpells
import Derived.WalkLawsBesides
import Derived.Handy
import Derived.Lib.Walk
import Derived.Lib.Hide
import Derived.IntWalk
namespace Go.Proofs.Ytdloeakmoaoalaa
open Go.RowKit
set_option linter.unusedVariables false
set_option linter.unusedSimpArgs false

/-- append of what a slice reads as. -/
theorem RowB.appendRb {w : World} {v : Value} {g : Nat} {l X : List Nat} {A : Option Addr} (hR : RowB w v g l) (hd : Rb w A X) (c : Nat) (hXc : X.length ≤ c) (hm : l.length + X.length ≤ 100000000) :
    ∃ v' w' g', (∀ ty, (Builtin.append_ #[28, 28] ty #[v, .slice A X.length c]).run Try.prog w = .ok v' w') ∧ RowB w' v' g' (l ++ X) ∧ (g' = g ∨ w.heap.size ≤ g') ∧ Upd g w w' := by
  rcases Nat.eq_zero_or_pos X.length with h0 | hpos
  · have hX : X = [] := List.length_eq_zero_iff.1 h0
    subst hX
    refine ⟨_, w, g, fun ty => RowB.append0 hR ?_ ty, by simpa using hR, Or.inl rfl, Upd.refl g w⟩
    cases A with
    | none => exact Or.inl ⟨c, rfl⟩
    | some ad => exact Or.inr ⟨ad, c, rfl⟩
  · obtain ⟨B, off, rfl, hBl, hcell⟩ := hd hpos
    have hsrc : Src Try.prog 1 28 (.slice (some ⟨B, off, none⟩) X.length c) X.length (X.map b8) w := by
      refine Src.ofSlice w Try.underlying28 ⟨B, off, none⟩ X.length c _ (by rw [List.length_map, Nat.mul_one]) (fun j u hj => ?_) (fun u hu => by obtain ⟨y, _, rfl⟩ := List.mem_map.1 hu; rfl)
      rw [Addr.add_lit]
      rw [List.getElem?_map] at hj
      have hjl : j < X.length := by
        rcases Nat.lt_or_ge j X.length with h | h
        · exact h
        · rw [List.getElem?_eq_none h] at hj; cases hj
      rw [List.getElem?_eq_getElem hjl] at hj
      refine (hcell j hjl).trans ?_
      rw [← hj, List.getD_eq_getElem?_getD, List.getElem?_eq_getElem hjl, Option.getD_some]; rfl
    exact RowB.append hR hsrc hm hpos

/-- Marks, as cells. -/
def cellsO (o : List Nat) : Array Value := (o.map fun c => Value.bool (c == 1)).toArray
theorem Obj.getO {w : World} {g : Nat} {o : List Nat} (h : Obj w g 47 (cellsO o)) (i : Nat) (hi : i < o.length) : w.cell? ⟨g, i, none⟩ = some (.bool (o.getD i 0 == 1)) := by
  rw [h.cell]
  simp [cellsO, List.getD_eq_getElem?_getD, hi]
theorem Obj.setO {w : World} {g : Nat} {o : List Nat} (h : Obj w g 47 (cellsO o)) (i : Nat) (hi : i < o.length) (v : Nat) : Obj (w.setCell ⟨g, i, none⟩ (.bool (v == 1))) g 47 (cellsO (o.set i v)) := by
  refine (h.set i _).as ?_
  unfold cellsO
  apply Array.ext
  · simp
  · intro j h1 h2
    simp only [List.size_toArray, List.length_map, List.length_set, Array.size_set, Array.size_setIfInBounds] at h1 h2
    by_cases e : j = i
    · subst e; simp
    · simp [Array.getElem_setIfInBounds, List.getElem_set, e, Ne.symm e]

theorem Obj.upd3 {w w' : World} {a gb gs g : Nat} {t : TypeId} {cs : Array Value} (h : Obj w g t cs) (hu : Upd3 a gb gs w w') (h1 : g ≠ a) (h2 : g ≠ gb) (h3 : g ≠ gs) : Obj w' g t cs := (hu.block g h.lt h1 h2 h3).trans h
theorem RowB.upd3 {w w' : World} {a gb gs g : Nat} {v : Value} {l : List Nat} (h : RowB w v g l) (hu : Upd3 a gb gs w w') (h1 : v = .slice none 0 0 ∨ (g ≠ a ∧ g ≠ gb ∧ g ≠ gs)) : RowB w' v g l := by
  rcases h with h | ⟨c, rest, e1, e2, e3, e4, e5⟩
  · exact Or.inl h
  · rcases h1 with h1 | ⟨h1, h2, h3⟩
    · rw [h1] at e1; cases e1
    · exact Or.inr ⟨c, rest, e1, e2, e3, e4, (hu.block g e5.lt h1 h2 h3).trans e5⟩
theorem RowB.ltv {w : World} {v : Value} {g : Nat} {l : List Nat} (h : RowB w v g l) : v = .slice none 0 0 ∨ g < w.heap.size := by
  rcases h with ⟨h, _⟩ | ⟨c, rest, e1, e2, e3, e4, e5⟩
  · exact Or.inl h
  · exact Or.inr e5.lt
/-- The numbers of rows that aren't there may be the structure's. -/
theorem Bf.norm {w : World} {a gb gs : Nat} {x : Of.B} (h : Bf w a gb gs x) : ∃ gb' gs', Bf w a gb' gs' x ∧ gb' < w.heap.size ∧ gs' < w.heap.size ∧ (gb' = gb ∨ gb' = a) ∧ (gs' = gs ∨ gs' = a) := by
  obtain ⟨vb, vs, hO, hb, hs, hsep⟩ := h
  have ha := hO.lt
  have kb : ∃ gb', RowB w vb gb' x.b ∧ gb' < w.heap.size ∧ (gb' = gb ∨ gb' = a) ∧ (vb = .slice none 0 0 ∨ gb' = gb) := by
    rcases hb with h | ⟨c, rest, e1, e2, e3, e4, e5⟩
    · exact ⟨a, Or.inl h, ha, Or.inr rfl, Or.inl h.1⟩
    · exact ⟨gb, Or.inr ⟨c, rest, e1, e2, e3, e4, e5⟩, e5.lt, Or.inl rfl, Or.inr rfl⟩
  have ks : ∃ gs', RowB w vs gs' x.s ∧ gs' < w.heap.size ∧ (gs' = gs ∨ gs' = a) ∧ (vs = .slice none 0 0 ∨ gs' = gs) := by
    rcases hs with h | ⟨c, rest, e1, e2, e3, e4, e5⟩
    · exact ⟨a, Or.inl h, ha, Or.inr rfl, Or.inl h.1⟩
    · exact ⟨gs, Or.inr ⟨c, rest, e1, e2, e3, e4, e5⟩, e5.lt, Or.inl rfl, Or.inr rfl⟩
  obtain ⟨gb', b1, b2, b3, b4⟩ := kb
  obtain ⟨gs', s1, s2, s3, s4⟩ := ks
  refine ⟨gb', gs', ⟨vb, vs, hO, b1, s1, ?_⟩, b2, s2, b3, s3⟩
  rcases b4 with h | rfl
  · exact Or.inl h
  · rcases s4 with h | rfl
    · exact Or.inr (Or.inl h)
    · exact hsep
theorem Bf.upd {w w' : World} {a gb gs g : Nat} {x : Of.B} (h : Bf w a gb gs x) (hu : Upd g w w') (h1 : g ≠ a) (h2 : g ≠ gb) (h3 : g ≠ gs) : Bf w' a gb gs x := by
  obtain ⟨vb, vs, hO, hb, hs, hsep⟩ := h
  exact ⟨vb, vs, hO.upd hu (Ne.symm h1), hb.upd hu (Ne.symm h2), hs.upd hu (Ne.symm h3), hsep⟩

/-- A buffer, a text's row and the marks, that a law owns. -/
structure Rt (W : World) (a go gb gs gt : Nat) (vt : Value) (t : List Nat) (x : Of.B) (o : List Nat) (w : World) : Prop where
  bf : Bf w a gb gs x
  ok : Of.Ok x
  tx : RowB w vt gt t
  on : Obj w go 47 (cellsO o)
  bel : Below W.heap.size W w
  za : W.heap.size ≤ a
  zb : W.heap.size ≤ gb
  zs : W.heap.size ≤ gs
  zt : vt = .slice none 0 0 ∨ W.heap.size ≤ gt
  zo : W.heap.size ≤ go
  lb : gb < w.heap.size
  ls : gs < w.heap.size
  oa : go ≠ a
  ob : go ≠ gb
  os : go ≠ gs
  sep : vt = .slice none 0 0 ∨ (gt ≠ a ∧ gt ≠ gb ∧ gt ≠ gs ∧ gt ≠ go)
variable {W w w' : World} {a go gb gs gt gb' gs' : Nat} {vt : Value} {t : List Nat} {x x' : Of.B} {o : List Nat}
theorem Rt.step (h : Rt W a go gb gs gt vt t x o w) (hB : Bf w' a gb' gs' x') (hok : Of.Ok x') (h1 : gb' = gb ∨ w.heap.size ≤ gb') (h2 : gs' = gs ∨ w.heap.size ≤ gs') (hu : Upd3 a gb gs w w') : ∃ gb' gs', Rt W a go gb' gs' gt vt t x' o w' := by
  obtain ⟨gb1, gs1, hB1, lb, ls, k1, k2⟩ := hB.norm
  have hz := hu.size
  have ha := h.bf.lt.1
  have hgo := h.on.lt
  have hW := h.bel.size
  have za := h.za; have zb := h.zb; have zs := h.zs; have oa := h.oa; have ob := h.ob; have os := h.os
  refine ⟨gb1, gs1, hB1, hok, h.tx.upd3 hu ?_, h.on.upd3 hu h.oa h.ob h.os, hu.belowW h.bel h.za h.zb h.zs, h.za, by omega, by omega, h.zt, h.zo, lb, ls, h.oa, by omega, by omega, ?_⟩
  · rcases h.sep with h | h
    · exact Or.inl h
    · exact Or.inr ⟨h.1, h.2.1, h.2.2.1⟩
  · rcases h.sep with h' | h'
    · exact Or.inl h'
    · rcases h.tx.ltv with h3 | h3
      · exact Or.inl h3
      · exact Or.inr ⟨h'.1, by omega, by omega, h'.2.2.2⟩
theorem Rt.below (h : Rt W a go gb gs gt vt t x o w) (hb : Below w.heap.size w w') : Rt W a go gb gs gt vt t x o w' :=
  ⟨h.bf.kept hb, h.ok, h.tx.kept hb, h.on.kept hb, h.bel.trans (hb.mono h.bel.size), h.za, h.zb, h.zs, h.zt, h.zo, Nat.lt_of_lt_of_le h.lb hb.size, Nat.lt_of_lt_of_le h.ls hb.size, h.oa, h.ob, h.os, h.sep⟩
theorem Upd.belowW {g : Nat} (hL : Below W.heap.size W w) (hu : Upd g w w') (h1 : W.heap.size ≤ g) : Below W.heap.size W w' :=
  ⟨hu.os.trans hL.os, hu.tape.trans hL.tape, hu.output.trans hL.output, Nat.le_trans hL.size hu.size, fun k hk => (hu.block k (Nat.lt_of_lt_of_le hk hL.size) (by omega)).trans (hL.block k hk)⟩
theorem Rt.mark (h : Rt W a go gb gs gt vt t x o w) (i : Nat) (hi : i < o.length) (v : Nat) : Rt W a go gb gs gt vt t x (o.set i v) (w.setCell ⟨go, i, none⟩ (.bool (v == 1))) := by
  have hu : Upd go w (w.setCell ⟨go, i, none⟩ (.bool (v == 1))) := (Upd.refl go w).set _ _
  refine ⟨h.bf.upd hu h.oa h.ob h.os, h.ok, ?_, h.on.setO i hi v, hu.belowW h.bel h.zo, h.za, h.zb, h.zs, h.zt, h.zo, Nat.lt_of_lt_of_le h.lb hu.size, Nat.lt_of_lt_of_le h.ls hu.size, h.oa, h.ob, h.os, h.sep⟩
  rcases h.tx with h' | ⟨c, rest, e1, e2, e3, e4, e5⟩
  · exact Or.inl h'
  · rcases h.sep with h' | h'
    · rw [h'] at e1; cases e1
    · exact RowB.upd (Or.inr ⟨c, rest, e1, e2, e3, e4, e5⟩) hu h'.2.2.2
theorem Rt.append {A : Option Addr} {X : List Nat} (h : Rt W a go gb gs gt vt t x o w) (hd : Rb w A X) (c : Nat) (hXc : X.length ≤ c) (hm : t.length + X.length ≤ 100000000) :
    ∃ v' w' g', (∀ ty, (Builtin.append_ #[28, 28] ty #[vt, .slice A X.length c]).run Try.prog w = .ok v' w') ∧ Rt W a go gb gs g' v' (t ++ X) x o w' := by
  have ha := h.bf.lt.1
  have hgo := h.on.lt
  have hW := h.bel.size
  have lb := h.lb; have ls := h.ls
  have key : ∃ g0, RowB w vt g0 t ∧ g0 ≠ a ∧ g0 ≠ gb ∧ g0 ≠ gs ∧ g0 ≠ go ∧ W.heap.size ≤ g0 := by
    by_cases hv : vt = .slice none 0 0
    · rcases h.tx with h' | ⟨c, rest, e1, e2, e3, e4, e5⟩
      · exact ⟨w.heap.size, Or.inl h', by omega, by omega, by omega, by omega, by omega⟩
      · rw [hv] at e1; cases e1
    · rcases h.sep with h' | h'
      · exact absurd h' hv
      · rcases h.zt with h'' | h''
        · exact absurd h'' hv
        · exact ⟨gt, h.tx, h'.1, h'.2.1, h'.2.2.1, h'.2.2.2, h''⟩
  obtain ⟨g0, k1, k2, k3, k4, k5, k6⟩ := key
  obtain ⟨v', w', g', r1, r2, r3, r4⟩ := k1.appendRb hd c hXc hm
  have hz := r4.size
  refine ⟨v', w', g', r1, h.bf.upd r4 k2 k3 k4, h.ok, r2, h.on.upd r4 (Ne.symm k5), r4.belowW h.bel k6, h.za, h.zb, h.zs, Or.inr (by omega), h.zo, by omega, by omega, h.oa, h.ob, h.os, Or.inr ⟨by omega, by omega, by omega, by omega⟩⟩

theorem Rt.write (h : Rt W a go gb gs gt vt t x o w) (A : Option Addr) (c : Nat) (data : List Nat) (hd : Rb w A data) (hlc : data.length ≤ c) (hcm : c ≤ maxLen) (hdl : data.length ≤ 1000000) :
    Calls Try.prog 13 #[.pointer (some ⟨a, 0, none⟩), .slice A data.length c] w fun e w' => e = .returned (.int .i64 ((Of.write x data).1 : Nat)) ∧ (∃ gb' gs', Rt W a go gb' gs' gt vt t (Of.write x data).2 o w') ∧ Upd3 a gb gs w w' := by
  refine (write_any a gb gs A c data x w h.bf h.ok hd hlc hcm hdl).mono ?_
  rintro e w' ⟨gb', gs', rfl, hB, hg1, hg2, hu⟩
  exact ⟨rfl, h.step hB (h.ok.write data) hg1 hg2 hu, hu⟩
theorem Rt.next (h : Rt W a go gb gs gt vt t x o w) (many : Nat) (hm0 : 0 < many) (hm : many ≤ 9223372036854775807) :
    Calls Try.prog 12 #[.pointer (some ⟨a, 0, none⟩), .int .i64 (many : Int)] w fun e w' => ∃ A c, e = .returned (.tuple #[.int .u64 ((Of.due x many).1 : Nat), .slice A (outB x many).length c, .bool (Of.due x many).2.2.1, .bool (Of.due x many).2.2.2])
      ∧ (outB x many).length ≤ c ∧ c ≤ maxLen ∧ Rb w' A (outB x many) ∧ (∃ gb' gs', Rt W a go gb' gs' gt vt t (Of.next x many) o w') ∧ Upd3 a gb gs w w' := by
  refine (next_row a gb gs many x w h.bf h.ok hm0 hm).mono ?_
  rintro e w' ⟨A, c, rfl, q1, q2, q3, q4, hB, hu⟩
  exact ⟨A, c, rfl, q1, q2, q3, h.step hB (h.ok.next many) (Or.inl rfl) (Or.inl rfl) hu, hu⟩
theorem Rt.raise (h : Rt W a go gb gs gt vt t x o w) (lim : Nat) :
    Calls Try.prog 15 #[.pointer (some ⟨a, 0, none⟩), .int .u64 (lim : Int)] w fun e w' => e = .returned (.bool (Of.raise x lim).1) ∧ (∃ gb' gs', Rt W a go gb' gs' gt vt t (Of.raise x lim).2 o w') ∧ Upd3 a gb gs w w' := by
  refine (raise_any a gb gs lim x w h.bf).mono ?_
  rintro e w' ⟨rfl, hB, hu⟩
  exact ⟨rfl, h.step hB (h.ok.raise lim) (Or.inl rfl) (Or.inl rfl) (Upd3.one hu gb gs), Upd3.one hu gb gs⟩
theorem Rt.finish (h : Rt W a go gb gs gt vt t x o w) :
    Calls Try.prog 14 #[.pointer (some ⟨a, 0, none⟩)] w fun e w' => e = .returned (.bool (Of.finish x).1) ∧ (∃ gb' gs', Rt W a go gb' gs' gt vt t (Of.finish x).2 o w') ∧ Upd3 a gb gs w w' := by
  refine (finish_any a gb gs x w h.bf).mono ?_
  rintro e w' ⟨rfl, hB, hu⟩
  exact ⟨rfl, h.step hB h.ok.finish (Or.inl rfl) (Or.inl rfl) (Upd3.one hu gb gs), Upd3.one hu gb gs⟩
theorem Rt.acked (h : Rt W a go gb gs gt vt t x o w) (off : Nat) (n : Int) (en : Bool) :
    Calls Try.prog 10 #[.pointer (some ⟨a, 0, none⟩), .int .u64 (off : Int), .int .i64 n, .bool en] w fun e w' => e = .returned (.tuple #[]) ∧ (∃ gb' gs', Rt W a go gb' gs' gt vt t (Of.turn x off n en Of.fAck) o w') ∧ Upd3 a gb gs w w' := by
  refine (acked_any a gb gs off n en x w h.bf h.ok).mono ?_
  rintro e w' ⟨rfl, hB, hu⟩
  exact ⟨rfl, h.step hB (h.ok.turn _ _ _ _ Of.fAck_le) (Or.inl rfl) (Or.inl rfl) hu, hu⟩
theorem Rt.lost (h : Rt W a go gb gs gt vt t x o w) (off : Nat) (n : Int) (en : Bool) :
    Calls Try.prog 11 #[.pointer (some ⟨a, 0, none⟩), .int .u64 (off : Int), .int .i64 n, .bool en] w fun e w' => e = .returned (.tuple #[]) ∧ (∃ gb' gs', Rt W a go gb' gs' gt vt t (Of.turn x off n en Of.fLost) o w') ∧ Upd3 a gb gs w w' := by
  refine (lost_any a gb gs off n en x w h.bf h.ok).mono ?_
  rintro e w' ⟨rfl, hB, hu⟩
  exact ⟨rfl, h.step hB (h.ok.turn _ _ _ _ Of.fLost_le) (Or.inl rfl) (Or.inl rfl) hu, hu⟩
/-- A block that isn't the buffer's stays. -/
theorem Rt.keep {g : Nat} {ty : TypeId} {cs : Array Value} (h : Rt W a go gb gs gt vt t x o w) (hO : Obj w g ty cs) (hu : Upd3 a gb gs w w') (hg : g ≠ a ∧ g ≠ gb ∧ g ≠ gs) : Obj w' g ty cs := hO.upd3 hu hg.1 hg.2.1 hg.2.2
end Go.Proofs.Ytdloeakmoaoalaa
