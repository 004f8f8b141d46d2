/- Layer 17's outflow and layer 16's reasm beside each other: what a law owns; a slice of bools that came in. -/
import Derived.Test.YtdloeakmoaoalaaRows
import Derived.Test.YtdloeakmoaoalaaAid
import Derived.Test.YtdloeakmoaoalaaOpen
import Derived.Test.YtdloeakmoaoalaaPlainOf
import Derived.Test.YtdloeakmoaoalaaPlainOf2
import Derived.Test.YtdloeakmoaoalaaPlainOf3
import Derived.Test.YtdloeakmoaoalaaPlainOf4
import Derived.Test.YtdloeakmoaoalaaPlainOf6
import Derived.Test.YtdloeakmoaoalaaOfW
import Derived.Test.YtdloeakmoaoalaaOfX
import Derived.Test.YtdloeakmoaoalaaOfA
import Derived.Test.YtdloeakmoaoalaaOfB
import Derived.Test.YtdloeakmoaoalaaOfM
import Derived.Test.YtdloeakmoaoalaaOfN
import Derived.Test.YtdloeakmoaoalaaOfP
import Derived.Test.YtdloeakmoaoalaaOfQ
import Derived.Test.YtdloeakmoaoalaaOfR
import Derived.Test.YtdloeakmoaoalaaOfU
import Derived.Test.YtdloeakmoaoalaaOfV
import Derived.Test.YtdloeakmoaoalaaRsG
import Derived.WalkKit
import Derived.OwnWalk
import Derived.Laws.Rows
import Derived.Laws.Tables
import Derived.WalkSpells
import Derived.WalkLawsBesides
import Derived.BigQuiet
import Derived.Handy
import Derived.Lib.Hide
import Derived.IntWalk
import Derived.OpenShut
namespace Go.Proofs.Ytdloeakmoaoalaa
open Go.RowKit
open Go.ChangeShapes Go.WideShapes Go.Deep
set_option linter.unusedVariables false
set_option linter.unusedSimpArgs false

/-- A slice of bools that came in. -/
def Bools (w : World) (A : Option Addr) (n : Nat) (l : List Bool) : Prop :=
  l.length = n ∧ (0 < n → ∃ b off, A = some ⟨b, off, none⟩ ∧ b < w.heap.size ∧ ∀ j, j < n → w.cell? ⟨b, off + j, none⟩ = some (.bool (l.getD j false)))
theorem bools_open {H : Type} {enc : TypeId × Value → H} {w : World} {base : Nat} {spare : Nat → Bool} {held : Bool} {fuel n c : Nat} {A : Option Addr} {x : DataW H × List MemPlace}
    (h : DataW.trod enc Try.prog w base spare held fuel 51 [.slice A n c] = some x) : ∃ l, Bools w A n l ∧ n ≤ c ∧ c ≤ maxLen := by
  have hC : Try.prog.cellsOf 4 = 1 := by kernel_rfl
  rcases open_slice Try.underlying51 h with ⟨h0, _⟩ | ⟨a, len, cap, m, n', D, Pl, hcs, hb, hl, hm, hmm, _, hi⟩
  · simp only [List.cons.injEq, Value.slice.injEq, and_true] at h0
    obtain ⟨rfl, rfl, rfl⟩ := h0
    exact ⟨[], ⟨rfl, fun h => absurd h (by omega)⟩, Nat.le_refl _, Nat.zero_le _⟩
  · simp only [List.cons.injEq, Value.slice.injEq, and_true] at hcs
    obtain ⟨rfl, rfl, rfl⟩ := hcs
    by_cases hn : n = 0
    · subst hn
      exact ⟨[], ⟨rfl, fun h => absurd h (by omega)⟩, hl, hm⟩
    · have hnm : n ≤ m := by rw [hmm]; split <;> omega
      have key : ∀ i, i < n → ∃ b : Bool, w.cell? (a.add i) = some (.bool b) := by
        intro i hin
        obtain ⟨cs', hc, ht'⟩ := hi i (by omega)
        rw [hC] at hc
        obtain ⟨_, hcl, hat⟩ := World.cells?_some hc
        obtain ⟨b, e, _⟩ := DataW.trod_bool Try.underlying4 ht'
        subst e
        refine ⟨b, ?_⟩
        have := hat 0 (by omega)
        rw [Go.Deep.add_add, Nat.mul_one, Nat.add_zero] at this
        exact this
      obtain ⟨b, off, spot⟩ := a
      obtain ⟨b0, h0⟩ := key 0 (by omega)
      have hspot : spot = none := by simpa [Addr.add] using World.cell?_spot h0
      subst hspot
      obtain ⟨l, hll, hr⟩ := list_of (α := Bool) (fun i q => w.cell? ⟨b, off + i, none⟩ = some (.bool q)) n (fun i hi => by
        obtain ⟨q, hq⟩ := key i hi
        exact ⟨q, by rw [← add_none]; exact hq⟩)
      exact ⟨l, ⟨hll, fun _ => ⟨b, off, rfl, by simpa [Addr.add] using World.block_lt_of_cell? _ _ h0, hr⟩⟩, hl, hm⟩

theorem Bf.upd2 {w w' : World} {a gb gs b c : Nat} {x : Of.B} (h : Bf w a gb gs x) (hu : Rm.Upd2 b c w w') (h1 : a ≠ b) (h2 : a ≠ c) (h3 : gb ≠ b) (h4 : gb ≠ c) (h5 : gs ≠ b) (h6 : gs ≠ c) : Bf w' a gb gs x := by
  obtain ⟨vb, vs, hO, hb, hs, hsep⟩ := h
  exact ⟨vb, vs, (hu.block a hO.lt h1 h2).trans hO, hb.to (fun hl => hu.block gb hl h3 h4), hs.to (fun hl => hu.block gs hl h5 h6), hsep⟩

/-- What a law owns: a buffer of what goes out, one of what comes in. -/
structure Jn (W : World) (a gb gs b mb : Nat) (x : Of.B) (y : Rs.S) (w : World) : Prop where
  bf : Bf w a gb gs x
  ok : Of.Ok x
  rs : Rm.OwnS W b mb y w
  za : W.heap.size ≤ a
  zb : W.heap.size ≤ gb
  zs : W.heap.size ≤ gs
  lb : gb < w.heap.size
  ls : gs < w.heap.size
  sa : b ≠ a ∧ mb ≠ a
  sb : b ≠ gb ∧ mb ≠ gb
  ss : b ≠ gs ∧ mb ≠ gs
def JnE (W : World) (a b mb : Nat) (x : Of.B) (y : Rs.S) (w : World) : Prop := ∃ gb gs, Jn W a gb gs b mb x y w
section
variable {W w w' : World} {a gb gs gb' gs' b mb : Nat} {x x' : Of.B} {y y' : Rs.S}
theorem Jn.step (h : Jn W a gb gs b mb x y w) (hB : Bf w' a gb' gs' x') (hok : Of.Ok x') (h1 : gb' = gb ∨ w.heap.size ≤ gb') (h2 : gs' = gs ∨ w.heap.size ≤ gs') (hu : Upd3 a gb gs w w') : JnE W a b mb x' y w' := by
  obtain ⟨gb1, gs1, hB1, lb, ls, k1, k2⟩ := hB.norm
  have hz := hu.size
  have hW := h.rs.below.size
  obtain ⟨l1, l2⟩ := h.rs.bs.lt
  have za := h.za; have zb := h.zb; have zs := h.zs; have sa := h.sa; have sb := h.sb; have ss := h.ss
  exact ⟨gb1, gs1, hB1, hok, ⟨h.rs.la, h.rs.lm, ⟨(hu.block b l1 h.sa.1 h.sb.1 h.ss.1).trans h.rs.bs.1, h.rs.bs.2.to (hu.block mb l2 h.sa.2 h.sb.2 h.ss.2)⟩, h.rs.ok, hu.belowW h.rs.below h.za h.zb h.zs⟩,
    h.za, by omega, by omega, lb, ls, h.sa, ⟨by omega, by omega⟩, ⟨by omega, by omega⟩⟩
theorem Jn.rstep (h : Jn W a gb gs b mb x y w) (hr : Rm.OwnS W b mb y' w') (hu : Rm.Upd2 b mb w w') : JnE W a b mb x y' w' :=
  ⟨gb, gs, h.bf.upd2 hu (Ne.symm h.sa.1) (Ne.symm h.sa.2) (Ne.symm h.sb.1) (Ne.symm h.sb.2) (Ne.symm h.ss.1) (Ne.symm h.ss.2), h.ok, hr, h.za, h.zb, h.zs, Nat.lt_of_lt_of_le h.lb hu.size, Nat.lt_of_lt_of_le h.ls hu.size, h.sa, h.sb, h.ss⟩
theorem JnE.below (h : JnE W a b mb x y w) (hb : Below w.heap.size w w') : JnE W a b mb x y w' := by
  obtain ⟨gb, gs, h⟩ := h
  exact h.rstep (h.rs.kept hb) (Rm.Upd2.below hb)
theorem JnE.drewN (h : JnE W a b mb x y w) (q : Nat) : JnE W a b mb x y (w.drewN q) := by
  obtain ⟨gb, gs, h⟩ := h
  exact h.rstep (h.rs.drewN q) (Rm.Upd2.drewN _ _ _ _)
theorem JnE.bel (h : JnE W a b mb x y w) : Below W.heap.size W w := by obtain ⟨gb, gs, h⟩ := h; exact h.rs.below
theorem JnE.write (h : JnE W a b mb x y w) (A : Option Addr) (c : Nat) (data : List Nat) (hd : Rb w A data) (hlc : data.length ≤ c) (hcm : c ≤ maxLen) (hdl : data.length ≤ 1000000) :
    Calls Try.prog 13 #[.pointer (some ⟨a, 0, none⟩), .slice A data.length c] w fun e w' => e = .returned (.int .i64 ((Of.write x data).1 : Nat)) ∧ JnE W a b mb (Of.write x data).2 y w' := by
  obtain ⟨gb, gs, h⟩ := h
  refine (write_any a gb gs A c data x w h.bf h.ok hd hlc hcm hdl).mono ?_
  rintro e w' ⟨gb', gs', rfl, hB, hg1, hg2, hu⟩
  exact ⟨rfl, h.step hB (h.ok.write data) hg1 hg2 hu⟩
theorem JnE.next (h : JnE W a b mb x y w) (many : Nat) (hm0 : 0 < many) (hm : many ≤ 9223372036854775807) :
    Calls Try.prog 12 #[.pointer (some ⟨a, 0, none⟩), .int .i64 (many : Int)] w fun e w' => ∃ A c, e = .returned (.tuple #[.int .u64 ((Of.due x many).1 : Nat), .slice A (outB x many).length c, .bool (Of.due x many).2.2.1, .bool (Of.due x many).2.2.2])
      ∧ (outB x many).length ≤ c ∧ c ≤ maxLen ∧ Rb w' A (outB x many) ∧ JnE W a b mb (Of.next x many) y w' := by
  obtain ⟨gb, gs, h⟩ := h
  refine (next_row a gb gs many x w h.bf h.ok hm0 hm).mono ?_
  rintro e w' ⟨A, c, rfl, q1, q2, q3, q4, hB, hu⟩
  exact ⟨A, c, rfl, q1, q2, q3, h.step hB (h.ok.next many) (Or.inl rfl) (Or.inl rfl) hu⟩
theorem JnE.finish (h : JnE W a b mb x y w) :
    Calls Try.prog 14 #[.pointer (some ⟨a, 0, none⟩)] w fun e w' => e = .returned (.bool (Of.finish x).1) ∧ JnE W a b mb (Of.finish x).2 y w' := by
  obtain ⟨gb, gs, h⟩ := h
  refine (finish_any a gb gs x w h.bf).mono ?_
  rintro e w' ⟨rfl, hB, hu⟩
  exact ⟨rfl, h.step hB h.ok.finish (Or.inl rfl) (Or.inl rfl) (Upd3.one hu gb gs)⟩
theorem JnE.acked (h : JnE W a b mb x y w) (off : Nat) (n : Int) (en : Bool) :
    Calls Try.prog 10 #[.pointer (some ⟨a, 0, none⟩), .int .u64 (off : Int), .int .i64 n, .bool en] w fun e w' => e = .returned (.tuple #[]) ∧ JnE W a b mb (Of.turn x off n en Of.fAck) y w' := by
  obtain ⟨gb, gs, h⟩ := h
  refine (acked_any a gb gs off n en x w h.bf h.ok).mono ?_
  rintro e w' ⟨rfl, hB, hu⟩
  exact ⟨rfl, h.step hB (h.ok.turn _ _ _ _ Of.fAck_le) (Or.inl rfl) (Or.inl rfl) hu⟩
theorem JnE.lost (h : JnE W a b mb x y w) (off : Nat) (n : Int) (en : Bool) :
    Calls Try.prog 11 #[.pointer (some ⟨a, 0, none⟩), .int .u64 (off : Int), .int .i64 n, .bool en] w fun e w' => e = .returned (.tuple #[]) ∧ JnE W a b mb (Of.turn x off n en Of.fLost) y w' := by
  obtain ⟨gb, gs, h⟩ := h
  refine (lost_any a gb gs off n en x w h.bf h.ok).mono ?_
  rintro e w' ⟨rfl, hB, hu⟩
  exact ⟨rfl, h.step hB (h.ok.turn _ _ _ _ Of.fLost_le) (Or.inl rfl) (Or.inl rfl) hu⟩
theorem JnE.done (h : JnE W a b mb x y w) :
    Calls Try.prog 20 #[.pointer (some ⟨a, 0, none⟩)] w fun e w' => e = .returned (.bool (Of.done x)) ∧ ∃ q, w' = w.drewN q := by
  obtain ⟨gb, gs, h⟩ := h
  exact done_any a gb gs x w h.bf h.ok
theorem JnE.put (h : JnE W a b mb x y w) (off n c er : Nat) (A : Option Addr) (d : List Nat) (last : Bool) (hn : d.length = n) (hA : Rb w A d) (hb : ∀ c ∈ d, c < 256) (hl : n ≤ 100000) (hlc : n ≤ c ∧ c ≤ maxLen) (hoff : off < 18446744073709551616) (he : Rs.err y off n last = er) :
    Calls Try.prog 33 #[.pointer (some ⟨b, 0, none⟩), .int .u64 (off : Int), .slice A n c, .bool last] w fun e w' => e = .returned (.int .i64 (er : Int)) ∧ JnE W a b mb x (Rs.put y off d last) w' := by
  obtain ⟨gb, gs, h⟩ := h
  subst hn
  subst he
  exact (h.rs.put off c A d last hA hb hl hlc hoff).mono fun e w' ⟨h1, h2, h3⟩ => ⟨h1, h.rstep h2 h3⟩
theorem JnE.read (h : JnE W a b mb x y w) (k : Int) :
    Calls Try.prog 34 #[.pointer (some ⟨b, 0, none⟩), .int .i64 k] w fun e w' => ∃ A c, e = .returned (.slice A (Rs.many y k) c) ∧ Rb w' A (Rs.bytes y (Rs.many y k)) ∧ JnE W a b mb x (Rs.read y k).2 w' := by
  obtain ⟨gb, gs, h⟩ := h
  exact (h.rs.read k).mono fun e w' ⟨A, c, h1, h2, h3, h4, h5, h6, h7⟩ => ⟨A, c, h1, h4, h.rstep h6 h7⟩
theorem JnE.rdone (h : JnE W a b mb x y w) :
    Calls Try.prog 35 #[.pointer (some ⟨b, 0, none⟩)] w fun e w' => e = .returned (.bool (Rs.done y)) ∧ ∃ q, w' = w.drewN q := by
  obtain ⟨gb, gs, h⟩ := h
  exact h.rs.done
end
end Go.Proofs.Ytdloeakmoaoalaa
