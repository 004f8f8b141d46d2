/- Layer 16's reasm: contracts put together; a buffer of a law's own. -/
import Derived.Test.YtdloeakmoaoalaaRows
import Derived.Test.YtdloeakmoaoalaaAid
import Derived.Test.YtdloeakmoaoalaaPlainRs
import Derived.Test.YtdloeakmoaoalaaRsW
import Derived.Test.YtdloeakmoaoalaaRsA
import Derived.Test.YtdloeakmoaoalaaRsF
import Derived.Test.YtdloeakmoaoalaaRsC
import Derived.Test.YtdloeakmoaoalaaRsD
import Derived.Test.YtdloeakmoaoalaaRsE
import Derived.WalkKit
import Derived.OwnWalk
import Derived.Laws.Rows
import Derived.Laws.Tables
import Derived.WalkSpells
import Derived.WalkLawsBesides
import Derived.BigQuiet
import Derived.Handy
import Derived.Maps.OwnSet
import Derived.Lib.Hide
import Derived.IntWalk
namespace Go.Proofs.Ytdloeakmoaoalaa.Rm
open Go.RowKit Go.Maps
set_option linter.unusedVariables false
set_option linter.unusedSimpArgs false

theorem put_any (a mb off c : Nat) (A : Option Addr) (d : List Nat) (last : Bool) (x : Rs.S) (w : World) (hA : Rb w A d) (hb : ∀ c ∈ d, c < 256) (hl : d.length ≤ 100000) (hlc : d.length ≤ c ∧ c ≤ maxLen) (hoff : off < 18446744073709551616) (hx : Bs w a mb x) (hok : Rs.Ok x) :
    Calls Try.prog 33 #[.pointer (some ⟨a, 0, none⟩), .int .u64 (off : Int), .slice A d.length c, .bool last] w fun e w' => e = .returned (.int .i64 ((Rs.err x off d.length last : Nat) : Int)) ∧ Bs w' a mb (Rs.put x off d last) ∧ Upd2 a mb w w' := by
  by_cases h1 : 4611686018427387903 < off ∨ 4611686018427387903 < off + d.length
  · have he : Rs.err x off d.length last = 1 := by unfold Rs.err; rw [if_pos h1]
    have hp : Rs.put x off d last = x := by unfold Rs.put; rw [if_neg (by omega)]
    refine (put_arg a mb off d.length c A last w hl hoff h1).mono ?_
    rintro e w' ⟨rfl, rfl⟩
    rw [he, hp]
    exact ⟨rfl, hx, Upd2.refl _ _ _⟩
  · by_cases h2 : x.rd + x.win < off + d.length
    · have he : Rs.err x off d.length last = 9 := by unfold Rs.err; rw [if_neg h1, if_pos h2]
      have hp : Rs.put x off d last = x := by unfold Rs.put; rw [if_neg (by omega)]
      refine (put_flow a mb off d.length c A last x w hl hx hok (by omega) h2).mono ?_
      rintro e w' ⟨rfl, q, rfl⟩
      rw [he, hp]
      exact ⟨rfl, hx.drewN q, Upd2.drewN _ _ _ _⟩
    · by_cases h3 : (x.known = true ∧ (x.size < off + d.length ∨ (last = true ∧ off + d.length ≠ x.size))) ∨ (last = true ∧ off + d.length < x.top)
      · have he : Rs.err x off d.length last = 10 := by unfold Rs.err; rw [if_neg h1, if_neg h2, if_pos h3]
        have hp : Rs.put x off d last = x := by unfold Rs.put; rw [if_neg (by omega)]
        refine (put_fin a mb off d.length c A last x w hl hx hok (by omega) (by omega) h3).mono ?_
        rintro e w' ⟨rfl, q, rfl⟩
        rw [he, hp]
        exact ⟨rfl, hx.drewN q, Upd2.drewN _ _ _ _⟩
      · have he : Rs.err x off d.length last = 0 := by unfold Rs.err; rw [if_neg h1, if_neg h2, if_neg h3]
        refine (put_ok a mb off c A d last x w hA hb hl hlc hx hok he).mono ?_
        rintro e w' ⟨rfl, h4, h5⟩
        rw [he]
        exact ⟨rfl, h4, h5⟩
/-- A buffer of a law's own. -/
structure OwnS (W : World) (a mb : Nat) (x : Rs.S) (w : World) : Prop where
  la : W.heap.size ≤ a
  lm : W.heap.size ≤ mb
  bs : Bs w a mb x
  ok : Rs.Ok x
  below : Below W.heap.size W w
theorem OwnS.upd {W w w' : World} {a mb : Nat} {x y : Rs.S} (h : OwnS W a mb x w) (h1 : Bs w' a mb y) (h2 : Upd2 a mb w w') (hy : Rs.Ok y) : OwnS W a mb y w' :=
  ⟨h.la, h.lm, h1, hy, Upd2.belowW h.below h2 h.la h.lm⟩
theorem OwnS.kept {W w w' : World} {a mb : Nat} {x : Rs.S} (h : OwnS W a mb x w) (hb : Below w.heap.size w w') : OwnS W a mb x w' :=
  ⟨h.la, h.lm, h.bs.kept hb, h.ok, h.below.trans (hb.mono h.below.size)⟩
theorem OwnS.drewN {W w : World} {a mb : Nat} {x : Rs.S} (h : OwnS W a mb x w) (q : Nat) : OwnS W a mb x (w.drewN q) := h.upd (h.bs.drewN q) (Upd2.drewN _ _ _ _) h.ok
theorem OwnS.other {W w w' : World} {a mb b c : Nat} {x : Rs.S} (h : OwnS W a mb x w) (hu : Upd2 b c w w') (h1 : a ≠ b) (h2 : a ≠ c) (h3 : mb ≠ b) (h4 : mb ≠ c) (hb : Below W.heap.size W w') : OwnS W a mb x w' :=
  ⟨h.la, h.lm, ⟨(hu.block a h.bs.lt.1 h1 h2).trans h.bs.1, h.bs.2.to (hu.block mb h.bs.lt.2 h3 h4)⟩, h.ok, hb⟩
theorem OwnS.new {W w : World} (win : Nat) (hw : win ≤ 100000) (hL : Below W.heap.size W w) :
    Calls Try.prog 32 #[.int .i64 (win : Int)] w fun e w' => ∃ a, e = .returned (.pointer (some ⟨a, 0, none⟩)) ∧ w.heap.size ≤ a ∧ ∃ mb, w.heap.size ≤ mb ∧ OwnS W a mb (Rs.new win) w' ∧ Below w.heap.size w w' := by
  refine (new_any win hw w).mono ?_
  rintro e w' ⟨a, rfl, ha, mb, hm, h1, h2⟩
  have := hL.size
  exact ⟨a, rfl, ha, mb, hm, ⟨by omega, by omega, h1, Rs.Ok.new hw, hL.trans (h2.mono hL.size)⟩, h2⟩
section
variable {W w : World} {a mb : Nat} {x : Rs.S}
theorem OwnS.put (h : OwnS W a mb x w) (off c : Nat) (A : Option Addr) (d : List Nat) (last : Bool) (hA : Rb w A d) (hb : ∀ c ∈ d, c < 256) (hl : d.length ≤ 100000) (hlc : d.length ≤ c ∧ c ≤ maxLen) (hoff : off < 18446744073709551616) :
    Calls Try.prog 33 #[.pointer (some ⟨a, 0, none⟩), .int .u64 (off : Int), .slice A d.length c, .bool last] w fun e w' => e = .returned (.int .i64 ((Rs.err x off d.length last : Nat) : Int)) ∧ OwnS W a mb (Rs.put x off d last) w' ∧ Upd2 a mb w w' :=
  (put_any a mb off c A d last x w hA hb hl hlc hoff h.bs h.ok).mono fun e w' ⟨h1, h2, h3⟩ => ⟨h1, h.upd h2 h3 (h.ok.put off d last hb), h3⟩
/-- What was read: a slice of its own. -/
theorem OwnS.read (h : OwnS W a mb x w) (k : Int) :
    Calls Try.prog 34 #[.pointer (some ⟨a, 0, none⟩), .int .i64 k] w fun e w' => ∃ A c, e = .returned (.slice A (Rs.many x k) c) ∧ Rs.many x k ≤ c ∧ c ≤ maxLen ∧ Rb w' A (Rs.bytes x (Rs.many x k)) ∧ (A = none ∨ ∃ g, A = some ⟨g, 0, none⟩ ∧ w.heap.size ≤ g) ∧ OwnS W a mb (Rs.read x k).2 w' ∧ Upd2 a mb w w' := by
  refine (read_any a mb k x w h.bs h.ok).mono ?_
  rintro e w' ⟨v, rfl, h1, h2, h3⟩
  obtain ⟨A, c, rfl, k1, k2, k3, k4, k5⟩ := own_rb h1
  exact ⟨A, c, rfl, k2, k3, k4, k5, h.upd h2 h3 (h.ok.read k), h3⟩
theorem OwnS.limit (h : OwnS W a mb x w) : Calls Try.prog 47 #[.pointer (some ⟨a, 0, none⟩)] w fun e w' => e = .returned (.int .u64 (Rs.limit x : Nat)) ∧ ∃ q, w' = w.drewN q := limit_any a mb x w h.bs h.ok
theorem OwnS.done (h : OwnS W a mb x w) : Calls Try.prog 35 #[.pointer (some ⟨a, 0, none⟩)] w fun e w' => e = .returned (.bool (Rs.done x)) ∧ ∃ q, w' = w.drewN q := done_any a mb x w h.bs
end
end Go.Proofs.Ytdloeakmoaoalaa.Rm
