/- Layer 17's outflow: the document's example, walked. -/
import Derived.Test.YtdloeakmoaoalaaRows
import Derived.Test.YtdloeakmoaoalaaAid
import Derived.Test.YtdloeakmoaoalaaPlainOf
import Derived.Test.YtdloeakmoaoalaaOfW
import Derived.Test.YtdloeakmoaoalaaOfX
import Derived.Test.YtdloeakmoaoalaaOfA
import Derived.Test.YtdloeakmoaoalaaOfB
import Derived.Test.YtdloeakmoaoalaaOfC
import Derived.Test.YtdloeakmoaoalaaOfD
import Derived.Test.YtdloeakmoaoalaaOfE
import Derived.Test.YtdloeakmoaoalaaOfM
import Derived.Test.YtdloeakmoaoalaaOfN
import Derived.Test.YtdloeakmoaoalaaOfP
import Derived.Test.YtdloeakmoaoalaaOfQ
import Derived.WalkKit
import Derived.OwnWalk
import Derived.Laws.Rows
import Derived.Laws.Tables
import Derived.WalkSpells
import Derived.WalkLawsBesides
import Derived.BigQuiet
import Derived.Handy
import Derived.Lib.Walk
import Derived.Lib.Hide
import Derived.Lib.SlBytesConst
import Derived.IntWalk
namespace Of
set_option linter.unusedVariables false
set_option linter.unusedSimpArgs false
theorem Ok.new (lim : Nat) : Ok ⟨[], [], false, 0, lim⟩ := ⟨rfl, by simp, by simp, by simp⟩
theorem Ok.write {x : B} (h : Ok x) (data : List Nat) : Ok (write x data).2 := by
  have h1 := h.len; have h2 := h.cap
  unfold Of.write
  split
  · exact h
  · simp only
    refine ⟨by simp; omega, by simp; omega, fun c hc => ?_, h.en⟩
    rcases List.mem_append.1 hc with h' | h'
    · exact h.st c h'
    · rw [List.eq_of_mem_replicate h']; omega
theorem Ok.raise {x : B} (h : Ok x) (lim : Nat) : Ok (raise x lim).2 := by
  unfold Of.raise; split
  · exact h
  · exact ⟨h.len, h.cap, h.st, h.en⟩
theorem Ok.finish {x : B} (h : Ok x) : Ok (finish x).2 := by
  unfold Of.finish; split
  · exact h
  · exact ⟨h.len, h.cap, h.st, h.en⟩
theorem getD_le {l : List Nat} {n : Nat} (h : ∀ c ∈ l, c ≤ n) (i : Nat) : l.getD i 0 ≤ n := by
  rw [List.getD_eq_getElem?_getD]
  rcases Nat.lt_or_ge i l.length with h' | h'
  · rw [List.getElem?_eq_getElem h', Option.getD_some]; exact h _ (List.getElem_mem _)
  · rw [List.getElem?_eq_none h']; exact Nat.zero_le _
theorem Ok.next {x : B} (h : Ok x) (many : Nat) : Ok (next x many) := by
  have h1 := h.len; have h2 := h.cap; have h3 := h.en
  unfold Of.next; split
  · exact h
  · refine ⟨by simp only [setR_len]; exact h1, h2, fun c hc => ?_, ?_⟩
    · simp only [setR, List.mem_map] at hc
      obtain ⟨i, _, rfl⟩ := hc
      split
      · omega
      · exact getD_le h.st i
    · simp only; split <;> omega
theorem Ok.turn {x : B} (h : Ok x) (off : Nat) (n : Int) (e : Bool) (f : Nat → Nat) (hf : ∀ c, c ≤ 3 → f c ≤ 3) : Ok (turn x off n e f) := by
  have h1 := h.len; have h2 := h.cap; have h3 := h.en
  unfold Of.turn
  refine ⟨by simp only [List.length_map, List.length_range]; exact h1, h2, fun c hc => ?_, ?_⟩
  · simp only [List.mem_map] at hc
    obtain ⟨i, _, rfl⟩ := hc
    split
    · exact hf _ (getD_le h.st i)
    · exact getD_le h.st i
  · simp only; split
    · exact hf _ h3
    · exact h3
theorem fAck_le (c : Nat) (h : c ≤ 3) : fAck c ≤ 3 := by unfold fAck; split <;> omega
theorem fLost_le (c : Nat) (h : c ≤ 3) : fLost c ≤ 3 := by unfold fLost; split <;> omega
end Of
namespace Go.Proofs.Ytdloeakmoaoalaa
open Go.RowKit
set_option linter.unusedVariables false
set_option linter.unusedSimpArgs false

theorem Rb.upd3 {w w' : World} {a gb gs g : Nat} {l : List Nat} (h : Rb w (some ⟨g, 0, none⟩) l) (hu : Upd3 a gb gs w w') (h1 : g ≠ a) (h2 : g ≠ gb) (h3 : g ≠ gs) : Rb w' (some ⟨g, 0, none⟩) l := fun hp => by
  obtain ⟨b, off, e, hlt, hc⟩ := h hp
  cases e
  refine ⟨g, 0, rfl, Nat.lt_of_lt_of_le hlt hu.size, fun i hi => ?_⟩
  rw [← hc i hi]
  simp only [World.cell?, hu.block g hlt h1 h2 h3]
theorem Rb.drewN {w : World} {A : Option Addr} {l : List Nat} (h : Rb w A l) (q : Nat) : Rb (w.drewN q) A l := h.below (below_draws w q)
theorem Bf.lt {w : World} {a gb gs : Nat} {x : Of.B} (h : Bf w a gb gs x) : a < w.heap.size ∧ (0 < x.b.length → gb < w.heap.size) ∧ (0 < x.s.length → gs < w.heap.size) := by
  obtain ⟨vb, vs, hO, hb, hs, _⟩ := h
  refine ⟨hO.lt, fun hl => ?_, fun hl => ?_⟩
  · rcases hb with ⟨_, h⟩ | ⟨c, rest, _, _, _, _, h⟩
    · rw [h] at hl; simp at hl
    · exact h.lt
  · rcases hs with ⟨_, h⟩ | ⟨c, rest, _, _, _, _, h⟩
    · rw [h] at hl; simp at hl
    · exact h.lt
theorem Bf.drewN {w : World} {a gb gs : Nat} {x : Of.B} (h : Bf w a gb gs x) (q : Nat) : Bf (w.drewN q) a gb gs x := h.kept (below_draws w q)

/-- New, by name. -/
theorem new_own (lim : Nat) (w : World) :
    Calls Try.prog 22 #[.int .u64 (lim : Int)] w fun e w' => ∃ a, e = .returned (.pointer (some ⟨a, 0, none⟩)) ∧ w.heap.size ≤ a ∧ Bf w' a a a ⟨[], [], false, 0, lim⟩ ∧ Below w.heap.size w w' :=
  (new_any lim w).mono fun e w' ⟨h1, h2⟩ => ⟨w.heap.size, h1, Nat.le_refl _, h2 ▸ Bf.new lim w, h2 ▸ (Below.refl _ w).alloc (Nat.le_refl _) _⟩

/-- Next, its row by name. -/
theorem next_row (a gb gs many : Nat) (x : Of.B) (w : World) (h : Bf w a gb gs x) (hok : Of.Ok x) (hm0 : 0 < many) (hm : many ≤ 9223372036854775807) :
    Calls Try.prog 12 #[.pointer (some ⟨a, 0, none⟩), .int .i64 (many : Int)] w fun e w' => ∃ A c, e = .returned (.tuple #[.int .u64 ((Of.due x many).1 : Nat), .slice A (outB x many).length c, .bool (Of.due x many).2.2.1, .bool (Of.due x many).2.2.2])
      ∧ (outB x many).length ≤ c ∧ c ≤ maxLen ∧ Rb w' A (outB x many) ∧ (A = none ∨ ∃ g, A = some ⟨g, 0, none⟩ ∧ w.heap.size ≤ g) ∧ Bf w' a gb gs (Of.next x many) ∧ Upd3 a gb gs w w' := by
  refine (next_any a gb gs many x w h hok hm0 hm).mono ?_
  rintro e w' ⟨v, rfl, hv, hB, hU⟩
  obtain ⟨A, c, rfl, _, h2, h3, h4, h5⟩ := own_rb hv
  exact ⟨A, c, rfl, h2, h3, h4, h5, hB, hU⟩

/-- Three blocks that aren't of a world's: nothing of it has turned. -/
theorem Upd3.belowW {W w w' : World} {a gb gs : Nat} (hL : Below W.heap.size W w) (hu : Upd3 a gb gs w w') (h1 : W.heap.size ≤ a) (h2 : W.heap.size ≤ gb) (h3 : W.heap.size ≤ gs) : Below W.heap.size W w' :=
  ⟨hu.os.trans hL.os, hu.tape.trans hL.tape, hu.output.trans hL.output, Nat.le_trans hL.size hu.size, fun k hk => (hu.block k (Nat.lt_of_lt_of_le hk hL.size) (by omega) (by omega) (by omega)).trans (hL.block k hk)⟩

/-- A buffer that a law owns: nothing of a world turns with it. -/
def OwnB (W : World) (a : Nat) (x : Of.B) (w : World) : Prop := ∃ gb gs, Bf w a gb gs x ∧ Of.Ok x ∧ Below W.heap.size W w ∧ W.heap.size ≤ a ∧ W.heap.size ≤ gb ∧ W.heap.size ≤ gs
theorem OwnB.drewN {W w : World} {a : Nat} {x : Of.B} (h : OwnB W a x w) (q : Nat) : OwnB W a x (w.drewN q) := by
  obtain ⟨gb, gs, h1, h2, h3, h4, h5, h6⟩ := h
  exact ⟨gb, gs, h1.drewN q, h2, h3.trans ((below_draws w q).mono h3.size), h4, h5, h6⟩
theorem OwnB.below {W w : World} {a : Nat} {x : Of.B} (h : OwnB W a x w) : Below W.heap.size W w := by obtain ⟨_, _, _, _, h, _⟩ := h; exact h
theorem OwnB.ok {W w : World} {a : Nat} {x : Of.B} (h : OwnB W a x w) : Of.Ok x := by obtain ⟨_, _, _, h, _⟩ := h; exact h
theorem OwnB.new (lim : Nat) {W w : World} (hL : Below W.heap.size W w) :
    Calls Try.prog 22 #[.int .u64 (lim : Int)] w fun e w' => ∃ a, e = .returned (.pointer (some ⟨a, 0, none⟩)) ∧ OwnB W a ⟨[], [], false, 0, lim⟩ w' := by
  refine (new_own lim w).mono ?_
  rintro e w' ⟨a, rfl, ha, hB, hb⟩
  have := Nat.le_trans hL.size ha
  exact ⟨a, rfl, a, a, hB, Of.Ok.new lim, hL.trans (hb.mono hL.size), this, this, this⟩
theorem OwnB.write {W w : World} {a : Nat} {x : Of.B} (h : OwnB W a x w) (A : Option Addr) (c : Nat) (data : List Nat) (hd : Rb w A data) (hlc : data.length ≤ c) (hcm : c ≤ maxLen) (hdl : data.length ≤ 1000000) :
    Calls Try.prog 13 #[.pointer (some ⟨a, 0, none⟩), .slice A data.length c] w fun e w' => e = .returned (.int .i64 ((Of.write x data).1 : Nat)) ∧ OwnB W a (Of.write x data).2 w' := by
  obtain ⟨gb, gs, h1, h2, h3, h4, h5, h6⟩ := h
  refine (write_any a gb gs A c data x w h1 h2 hd hlc hcm hdl).mono ?_
  rintro e w' ⟨gb', gs', rfl, hB, hg1, hg2, hu⟩
  have := h3.size
  exact ⟨rfl, gb', gs', hB, h2.write data, hu.belowW h3 h4 h5 h6, h4, by omega, by omega⟩
theorem OwnB.next {W w : World} {a : Nat} {x : Of.B} (h : OwnB W a x w) (many : Nat) (hm0 : 0 < many) (hm : many ≤ 9223372036854775807) :
    Calls Try.prog 12 #[.pointer (some ⟨a, 0, none⟩), .int .i64 (many : Int)] w fun e w' => ∃ A c, e = .returned (.tuple #[.int .u64 ((Of.due x many).1 : Nat), .slice A (outB x many).length c, .bool (Of.due x many).2.2.1, .bool (Of.due x many).2.2.2])
      ∧ (outB x many).length ≤ c ∧ c ≤ maxLen ∧ Rb w' A (outB x many) ∧ OwnB W a (Of.next x many) w' := by
  obtain ⟨gb, gs, h1, h2, h3, h4, h5, h6⟩ := h
  refine (next_row a gb gs many x w h1 h2 hm0 hm).mono ?_
  rintro e w' ⟨A, c, rfl, q1, q2, q3, _, hB, hu⟩
  exact ⟨A, c, rfl, q1, q2, q3, gb, gs, hB, h2.next many, hu.belowW h3 h4 h5 h6, h4, h5, h6⟩
theorem OwnB.raise {W w : World} {a : Nat} {x : Of.B} (h : OwnB W a x w) (lim : Nat) :
    Calls Try.prog 15 #[.pointer (some ⟨a, 0, none⟩), .int .u64 (lim : Int)] w fun e w' => e = .returned (.bool (Of.raise x lim).1) ∧ OwnB W a (Of.raise x lim).2 w' := by
  obtain ⟨gb, gs, h1, h2, h3, h4, h5, h6⟩ := h
  refine (raise_any a gb gs lim x w h1).mono ?_
  rintro e w' ⟨rfl, hB, hu⟩
  exact ⟨rfl, gb, gs, hB, h2.raise lim, (Upd3.one hu gb gs).belowW h3 h4 h5 h6, h4, h5, h6⟩
theorem OwnB.finish {W w : World} {a : Nat} {x : Of.B} (h : OwnB W a x w) :
    Calls Try.prog 14 #[.pointer (some ⟨a, 0, none⟩)] w fun e w' => e = .returned (.bool (Of.finish x).1) ∧ OwnB W a (Of.finish x).2 w' := by
  obtain ⟨gb, gs, h1, h2, h3, h4, h5, h6⟩ := h
  refine (finish_any a gb gs x w h1).mono ?_
  rintro e w' ⟨rfl, hB, hu⟩
  exact ⟨rfl, gb, gs, hB, h2.finish, (Upd3.one hu gb gs).belowW h3 h4 h5 h6, h4, h5, h6⟩
theorem OwnB.acked {W w : World} {a : Nat} {x : Of.B} (h : OwnB W a x w) (off : Nat) (n : Int) (en : Bool) :
    Calls Try.prog 10 #[.pointer (some ⟨a, 0, none⟩), .int .u64 (off : Int), .int .i64 n, .bool en] w fun e w' => e = .returned (.tuple #[]) ∧ OwnB W a (Of.turn x off n en Of.fAck) w' := by
  obtain ⟨gb, gs, h1, h2, h3, h4, h5, h6⟩ := h
  refine (acked_any a gb gs off n en x w h1 h2).mono ?_
  rintro e w' ⟨rfl, hB, hu⟩
  exact ⟨rfl, gb, gs, hB, h2.turn _ _ _ _ Of.fAck_le, hu.belowW h3 h4 h5 h6, h4, h5, h6⟩
theorem OwnB.lost {W w : World} {a : Nat} {x : Of.B} (h : OwnB W a x w) (off : Nat) (n : Int) (en : Bool) :
    Calls Try.prog 11 #[.pointer (some ⟨a, 0, none⟩), .int .u64 (off : Int), .int .i64 n, .bool en] w fun e w' => e = .returned (.tuple #[]) ∧ OwnB W a (Of.turn x off n en Of.fLost) w' := by
  obtain ⟨gb, gs, h1, h2, h3, h4, h5, h6⟩ := h
  refine (lost_any a gb gs off n en x w h1 h2).mono ?_
  rintro e w' ⟨rfl, hB, hu⟩
  exact ⟨rfl, gb, gs, hB, h2.turn _ _ _ _ Of.fLost_le, hu.belowW h3 h4 h5 h6, h4, h5, h6⟩
theorem OwnB.some_ {W w : World} {a : Nat} {x : Of.B} (h : OwnB W a x w) :
    Calls Try.prog 18 #[.pointer (some ⟨a, 0, none⟩)] w fun e w' => e = .returned (.bool (Of.some_ x)) ∧ OwnB W a x w' := by
  obtain ⟨gb, gs, h1, h2, _⟩ := id h
  refine (some_any a gb gs x w h1 h2).mono ?_
  rintro e w' ⟨rfl, q, rfl⟩
  exact ⟨rfl, h.drewN q⟩
theorem OwnB.blocked {W w : World} {a : Nat} {x : Of.B} (h : OwnB W a x w) :
    Calls Try.prog 19 #[.pointer (some ⟨a, 0, none⟩)] w fun e w' => e = .returned (.bool (Of.blocked x)) ∧ OwnB W a x w' := by
  obtain ⟨gb, gs, h1, h2, _⟩ := id h
  refine (blocked_any a gb gs x w h1 h2).mono ?_
  rintro e w' ⟨rfl, q, rfl⟩
  exact ⟨rfl, h.drewN q⟩
theorem OwnB.done {W w : World} {a : Nat} {x : Of.B} (h : OwnB W a x w) :
    Calls Try.prog 20 #[.pointer (some ⟨a, 0, none⟩)] w fun e w' => e = .returned (.bool (Of.done x)) ∧ OwnB W a x w' := by
  obtain ⟨gb, gs, h1, h2, _⟩ := id h
  refine (done_any a gb gs x w h1 h2).mono ?_
  rintro e w' ⟨rfl, q, rfl⟩
  exact ⟨rfl, h.drewN q⟩
theorem OwnB.sent {W w : World} {a : Nat} {x : Of.B} (h : OwnB W a x w) :
    Calls Try.prog 17 #[.pointer (some ⟨a, 0, none⟩)] w fun e w' => e = .returned (.int .u64 (Of.sent x : Nat)) ∧ OwnB W a x w' := by
  obtain ⟨gb, gs, h1, h2, _⟩ := id h
  refine (sent_any a gb gs x w h1 h2).mono ?_
  rintro e w' ⟨rfl, rfl⟩
  exact ⟨rfl, h⟩

def a0 : Of.B := ⟨[], [], false, 0, 1⟩
def a1 : Of.B := ⟨[97, 98], [0, 0], false, 0, 1⟩
def a2 : Of.B := ⟨[97, 98], [1, 0], false, 0, 1⟩
def a3 : Of.B := ⟨[97, 98], [1, 0], false, 0, 5⟩
def a4 : Of.B := ⟨[97, 98], [1, 0], true, 0, 5⟩
def a5 : Of.B := ⟨[97, 98], [1, 1], true, 1, 5⟩
def a6 : Of.B := ⟨[97, 98], [2, 1], true, 1, 5⟩
def a7 : Of.B := ⟨[97, 98], [1, 1], true, 1, 5⟩
def a8 : Of.B := ⟨[97, 98], [3, 3], true, 3, 5⟩
theorem okA (x : Of.B) (h : decide (x.s.length = x.b.length) && decide (x.b.length ≤ 2000) && x.s.all (· ≤ 3) && decide (x.en ≤ 3) = true) : Of.Ok x := by
  simp only [Bool.and_eq_true, decide_eq_true_eq, List.all_eq_true] at h
  exact ⟨h.1.1.1, h.1.1.2, h.1.2, h.2⟩
theorem e1 : Of.write a0 [97, 98] = (2, a1) := by decide
theorem e2 : Of.due a1 9 = (0, 1, false, true) ∧ Of.next a1 9 = a2 ∧ outB a1 9 = [97] := by decide
theorem e3 : Of.blocked a2 = true := by decide
theorem e4 : Of.raise a2 5 = (true, a3) := by decide
theorem e5 : Of.finish a3 = (true, a4) := by decide
theorem e6 : Of.due a4 9 = (1, 2, true, true) ∧ Of.next a4 9 = a5 ∧ outB a4 9 = [98] := by decide
theorem e7 : Of.turn a5 0 1 false Of.fLost = a6 := by decide
theorem e8 : Of.due a6 9 = (0, 1, false, true) ∧ Of.next a6 9 = a7 ∧ outB a6 9 = [97] := by decide
theorem e9 : Of.turn a7 0 2 true Of.fAck = a8 := by decide
theorem e10 : Of.done a8 = true ∧ Of.sent a8 = 2 ∧ hadI a8 0 2 = true ∧ Of.some_ a8 = false := by decide
theorem write_as (a gb gs : Nat) (A : Option Addr) (c n : Nat) (data : List Nat) (x y : Of.B) (w : World) (h : Bf w a gb gs x) (hok : Of.Ok x) (hd : Rb w A data) (hlc : data.length ≤ c) (hcm : c ≤ maxLen) (hdl : data.length ≤ 1000000) (he : Of.write x data = (n, y)) :
    Calls Try.prog 13 #[.pointer (some ⟨a, 0, none⟩), .slice A data.length c] w fun e w' => ∃ gb' gs', e = .returned (.int .i64 (n : Nat)) ∧ Bf w' a gb' gs' y ∧ (gb' = gb ∨ w.heap.size ≤ gb') ∧ (gs' = gs ∨ w.heap.size ≤ gs') ∧ Upd3 a gb gs w w' := by
  have := write_any a gb gs A c data x w h hok hd hlc hcm hdl
  rw [he] at this
  exact this
theorem next_as (a gb gs many d1 d2 : Nat) (b1 b2 : Bool) (l : List Nat) (x y : Of.B) (w : World) (h : Bf w a gb gs x) (hok : Of.Ok x) (hm0 : 0 < many) (hm : many ≤ 9223372036854775807) (he : Of.due x many = (d1, d2, b1, b2) ∧ Of.next x many = y ∧ outB x many = l) (hl : 0 < l.length) :
    Calls Try.prog 12 #[.pointer (some ⟨a, 0, none⟩), .int .i64 (many : Int)] w fun e w' => ∃ g c, e = .returned (.tuple #[.int .u64 (d1 : Int), .slice (some ⟨g, 0, none⟩) l.length c, .bool b1, .bool b2])
      ∧ Rb w' (some ⟨g, 0, none⟩) l ∧ w.heap.size ≤ g ∧ Bf w' a gb gs y ∧ Upd3 a gb gs w w' := by
  refine (next_row a gb gs many x w h hok hm0 hm).mono ?_
  rintro e w' ⟨A, c, rfl, _, _, h3, h4, h5, h6⟩
  rw [he.1, he.2.2, he.2.1] at *
  rcases h4 with rfl | ⟨g, rfl, hg⟩
  · obtain ⟨_, _, h, _⟩ := h3 hl
    cases h
  · exact ⟨g, c, rfl, h3, hg, h5, h6⟩
theorem str1 (w : World) (g c n : Nat) (h : Rb w (some ⟨g, 0, none⟩) [n]) : (convert 28 9 (.slice (some ⟨g, 0, none⟩) 1 c)).run Try.prog w = .ok (.string (strOfNums [(n : Int)])) w := by
  obtain ⟨b, off, e, _, hc⟩ := h (by simp)
  cases e
  exact run_convert_bytes_arg (P := Try.prog) w 28 5 Try.underlying28 Try.underlying5 g 0 1 c [(n : Int)] rfl (fun i hi => by
    obtain rfl : i = 0 := by omega
    rw [hc 0 (by simp)]; rfl) 9 Try.underlying9

set_option maxHeartbeats 4000000 in
theorem alive_any (w : World) : Calls Try.prog 8 #[] w fun e w' => e = .returned (.bool true) ∧ Below w.heap.size w w' := by
  have h0 := Below.refl w.heap.size w
  have kc := fun (w : World) (C : Array Value) (n c : Nat) => Lib.run_convert_bytes_const (P := Try.prog) w 28 5 C n c Try.underlying28 Try.underlying5
  go_enter Try.func8, Try.ntmps8
  go_wp2_with fail
  refine (new_own 1 _).mono ?_
  rintro e w1 ⟨a, rfl, ha, hB, hb⟩
  have HX := Lib.hid (And.intro ha (And.intro hB hb))
  clear ha hB hb h0
  go_wp2_with fail
  clear kc
  obtain ⟨ha, hB, hb⟩ := HX.out
  have hal := hB.lt.1
  have hBa := hB.kept (w' := w1.alloc (.cells #[.int .u8 97, .int .u8 98] 5 (2, 3))) ((Below.refl _ _).alloc (Nat.le_refl _) _)
  have hrd : Rb (w1.alloc (.cells #[.int .u8 97, .int .u8 98] 5 (2, 3))) (some ⟨w1.heap.size, 0, none⟩) [97, 98] := fun _ => ⟨_, 0, rfl, by simp, fun j hj => by
    have : j = 0 ∨ j = 1 := by simp at hj; omega
    rcases this with rfl | rfl
    · rw [cell_of_row _ _ _ _ _ _ (heap_alloc_new w1 _)]; rfl
    · rw [cell_of_row _ _ _ _ _ _ (heap_alloc_new w1 _)]; rfl⟩
  have hL : Below w.heap.size w (w1.alloc (.cells #[.int .u8 97, .int .u8 98] 5 (2, 3))) := hb.alloc hb.size _
  clear HX hb hB
  refine (write_as a a a (some ⟨w1.heap.size, 0, none⟩) 2 2 [97, 98] a0 a1 _ hBa (Of.Ok.new 1) hrd (by decide) (by decide) (by decide) e1).mono ?_
  rintro e w2 ⟨gb, gs, rfl, hB2, hg1, hg2, hu2⟩
  have hs2 := hL.size
  have hb2 : w.heap.size ≤ gb := by omega
  have hb3 : w.heap.size ≤ gs := by omega
  have hL2 := hu2.belowW hL ha ha ha
  have hlt := hB2.lt
  have HX := Lib.hid (And.intro hL2 (And.intro hB2 (And.intro ha (And.intro hb2 hb3))))
  have HLT : Hid (a < w2.heap.size ∧ gb < w2.heap.size ∧ gs < w2.heap.size) := ⟨hlt.1, hlt.2.1 (by decide), hlt.2.2 (by decide)⟩
  clear ha hB2 hg1 hg2 hu2 hs2 hb2 hb3 hL2 hlt hal hBa hrd hL
  go_wp2_with fail
  refine (next_as a gb gs 9 0 1 false true [97] a1 a2 _ HX.out.2.1 (okA _ (by decide)) (by decide) (by decide) e2 (by decide)).mono ?_
  rintro e w3 ⟨g1, c1, rfl, hr1, hg1, hB3, hu3⟩
  have H1 : Hid (Rb w3 (some ⟨g1, 0, none⟩) [97] ∧ g1 ≠ a ∧ g1 ≠ gb ∧ g1 ≠ gs) := ⟨hr1, by have := HLT.out; omega, by have := HLT.out; omega, by have := HLT.out; omega⟩
  have HX3 := Lib.hid (And.intro (hu3.belowW HX.out.1 HX.out.2.2.1 HX.out.2.2.2.1 HX.out.2.2.2.2) hB3)
  have HL3 : Hid (a < w3.heap.size ∧ gb < w3.heap.size ∧ gs < w3.heap.size) := by have h1 := hu3.size; have := HLT.out; exact ⟨by omega, by omega, by omega⟩
  clear hr1 hg1 hB3 hu3 HLT
  go_wp2_with fail
  refine (blocked_any a gb gs a2 w3 HX3.out.2 (okA _ (by decide))).mono ?_
  rintro e w4 ⟨rfl, q4, rfl⟩
  rw [e3]
  have HX4 : Hid (Below w.heap.size w (w3.drewN q4) ∧ Bf (w3.drewN q4) a gb gs a2) := ⟨HX3.out.1.trans ((below_draws w3 q4).mono HX3.out.1.size), HX3.out.2.drewN q4⟩
  have H14 : Hid (Rb (w3.drewN q4) (some ⟨g1, 0, none⟩) [97]) := H1.out.1.drewN q4
  clear HX3
  go_wp2_with fail
  refine (raise_any a gb gs 5 a2 _ HX4.out.2).mono ?_
  rintro e w5 ⟨rfl, hB5, hu5⟩
  have hU5 := Upd3.one hu5 gb gs
  rw [e4] at *
  have HX5 := Lib.hid (And.intro (hU5.belowW HX4.out.1 HX.out.2.2.1 HX.out.2.2.2.1 HX.out.2.2.2.2) hB5)
  have H15 := Lib.hid (H14.out.upd3 hU5 H1.out.2.1 H1.out.2.2.1 H1.out.2.2.2)
  have HL5 : Hid (a < w5.heap.size ∧ gb < w5.heap.size ∧ gs < w5.heap.size) := by have h1 := hu5.size; have := HL3.out; have hq : (w3.drewN q4).heap.size = w3.heap.size := rfl; rw [hq] at h1; exact ⟨by omega, by omega, by omega⟩
  clear hB5 hu5 hU5 H14 HX4 HL3
  go_wp2_with fail
  refine (finish_any a gb gs a3 _ HX5.out.2).mono ?_
  rintro e w6 ⟨rfl, hB6, hu6⟩
  have hU6 := Upd3.one hu6 gb gs
  rw [e5] at *
  have HX6 := Lib.hid (And.intro (hU6.belowW HX5.out.1 HX.out.2.2.1 HX.out.2.2.2.1 HX.out.2.2.2.2) hB6)
  have H16 := Lib.hid (H15.out.upd3 hU6 H1.out.2.1 H1.out.2.2.1 H1.out.2.2.2)
  have HL6 : Hid (a < w6.heap.size ∧ gb < w6.heap.size ∧ gs < w6.heap.size) := by have h1 := hu6.size; have := HL5.out; exact ⟨by omega, by omega, by omega⟩
  clear hB6 hu6 hU6 H15 HX5 HL5
  go_wp2_with fail
  refine (next_as a gb gs 9 1 2 true true [98] a4 a5 _ HX6.out.2 (okA _ (by decide)) (by decide) (by decide) e6 (by decide)).mono ?_
  rintro e w7 ⟨g2, c2, rfl, hr2, hg2, hB7, hu7⟩
  have H2 : Hid (g2 ≠ a ∧ g2 ≠ gb ∧ g2 ≠ gs) := ⟨by have := HL6.out; omega, by have := HL6.out; omega, by have := HL6.out; omega⟩
  have HX7 := Lib.hid (And.intro (hu7.belowW HX6.out.1 HX.out.2.2.1 HX.out.2.2.2.1 HX.out.2.2.2.2) hB7)
  have H17 := Lib.hid (H16.out.upd3 hu7 H1.out.2.1 H1.out.2.2.1 H1.out.2.2.2)
  have H27 := Lib.hid hr2
  have HL7 : Hid (a < w7.heap.size ∧ gb < w7.heap.size ∧ gs < w7.heap.size) := by have h1 := hu7.size; have := HL6.out; exact ⟨by omega, by omega, by omega⟩
  clear hr2 hg2 hB7 hu7 H16 HX6 HL6
  go_wp2_with fail
  refine (lost_any a gb gs 0 1 false a5 _ HX7.out.2 (okA _ (by decide))).mono ?_
  rintro e w8 ⟨rfl, hB8, hu8⟩
  rw [e7] at *
  have HX8 := Lib.hid (And.intro (hu8.belowW HX7.out.1 HX.out.2.2.1 HX.out.2.2.2.1 HX.out.2.2.2.2) hB8)
  have H18 := Lib.hid (H17.out.upd3 hu8 H1.out.2.1 H1.out.2.2.1 H1.out.2.2.2)
  have H28 := Lib.hid (H27.out.upd3 hu8 H2.out.1 H2.out.2.1 H2.out.2.2)
  have HL8 : Hid (a < w8.heap.size ∧ gb < w8.heap.size ∧ gs < w8.heap.size) := by have h1 := hu8.size; have := HL7.out; exact ⟨by omega, by omega, by omega⟩
  clear hB8 hu8 H17 H27 HX7 HL7
  go_wp2_with fail
  refine (next_as a gb gs 9 0 1 false true [97] a6 a7 _ HX8.out.2 (okA _ (by decide)) (by decide) (by decide) e8 (by decide)).mono ?_
  rintro e w9 ⟨g3, c3, rfl, hr3, hg3, hB9, hu9⟩
  have H3 : Hid (g3 ≠ a ∧ g3 ≠ gb ∧ g3 ≠ gs) := ⟨by have := HL8.out; omega, by have := HL8.out; omega, by have := HL8.out; omega⟩
  have HX9 := Lib.hid (And.intro (hu9.belowW HX8.out.1 HX.out.2.2.1 HX.out.2.2.2.1 HX.out.2.2.2.2) hB9)
  have H19 := Lib.hid (H18.out.upd3 hu9 H1.out.2.1 H1.out.2.2.1 H1.out.2.2.2)
  have H29 := Lib.hid (H28.out.upd3 hu9 H2.out.1 H2.out.2.1 H2.out.2.2)
  have H39 := Lib.hid hr3
  clear hr3 hg3 hB9 hu9 H18 H28 HX8 HL8
  go_wp2_with fail
  refine (acked_any a gb gs 0 2 true a7 _ HX9.out.2 (okA _ (by decide))).mono ?_
  rintro e wa ⟨rfl, hBa, hua⟩
  rw [e9] at *
  have HXa := Lib.hid (And.intro (hua.belowW HX9.out.1 HX.out.2.2.1 HX.out.2.2.2.1 HX.out.2.2.2.2) hBa)
  have s1 := str1 wa g1 c1 97 (H19.out.upd3 hua H1.out.2.1 H1.out.2.2.1 H1.out.2.2.2)
  have s2 := str1 wa g2 c2 98 (H29.out.upd3 hua H2.out.1 H2.out.2.1 H2.out.2.2)
  have s3 := str1 wa g3 c3 97 (H39.out.upd3 hua H3.out.1 H3.out.2.1 H3.out.2.2)
  clear hBa hua H19 H29 H39 HX9
  have hst1 : strOfNums [((97 : Nat) : Int)] = ⟨#[97]⟩ := by rfl
  have hst2 : strOfNums [((98 : Nat) : Int)] = ⟨#[98]⟩ := by rfl
  rw [hst1] at s1 s3
  rw [hst2] at s2
  clear hst1 hst2
  have HOK : Hid (Of.Ok a8) := okA _ (by decide)
  have HD := Lib.hid (fun q => (done_any a gb gs a8 (wa.drewN q) (HXa.out.2.drewN q) HOK.out))
  go_wp2_with fail
  refine (done_any a gb gs a8 _ HXa.out.2 HOK.out).mono ?_
  rintro e wb ⟨rfl, q1, rfl⟩
  rw [e10.1]
  go_wp2_with fail
  refine (sent_any a gb gs a8 _ (HXa.out.2.drewN q1) HOK.out).mono ?_
  rintro e wc ⟨rfl, rfl⟩
  rw [e10.2.1]
  go_wp2_with fail
  refine (written_any a gb gs a8 _ (HXa.out.2.drewN q1)).mono ?_
  rintro e wc ⟨rfl, rfl⟩
  rw [show a8.b.length = 2 from rfl]
  go_wp2_with fail
  refine (had_any a gb gs 0 2 a8 _ (HXa.out.2.drewN q1) HOK.out).mono ?_
  rintro e wc ⟨rfl, q2, rfl⟩
  rw [e10.2.2.1]
  go_wp2_with fail
  refine (some_any a gb gs a8 _ (HXa.out.2.drewN (q1 + q2)) HOK.out).mono ?_
  rintro e wc ⟨rfl, q3, rfl⟩
  rw [e10.2.2.2]
  go_wp2
  go_ret
  refine ⟨rfl, ?_⟩
  have h1 := HXa.out.1
  have h2 := h1.trans ((below_draws wa (q1 + q2)).mono h1.size)
  first
  | exact h2.trans ((below_draws _ q3).mono h2.size)
  | exact h1.trans ((below_draws wa _).mono h1.size)
end Go.Proofs.Ytdloeakmoaoalaa
