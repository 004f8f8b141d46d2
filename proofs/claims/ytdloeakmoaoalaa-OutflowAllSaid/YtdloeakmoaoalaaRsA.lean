/- Layer 16's reasm, walked: New, Limit, Top, Size, Done, Held. -/
import Derived.Test.YtdloeakmoaoalaaRows
import Derived.Test.YtdloeakmoaoalaaAid
import Derived.Test.YtdloeakmoaoalaaPlainRs
import Derived.Test.YtdloeakmoaoalaaRsW
import Derived.WalkKit
import Derived.OwnWalk
import Derived.Laws.Rows
import Derived.Laws.Tables
import Derived.WalkSpells
import Derived.WalkLawsBesides
import Derived.BigQuiet
import Derived.Handy
import Derived.Maps.OwnSet
import Derived.Lib.Hide
import Derived.IntWalk
namespace Go.Proofs.Ytdloeakmoaoalaa.Rm
open Go.RowKit Go.Maps
set_option linter.unusedVariables false
set_option linter.unusedSimpArgs false

/-- A buffer in memory: block a; its map is block mb. -/
def Bs (w : World) (a mb : Nat) (x : Rs.S) : Prop :=
  Obj w a 72 #[.int .i64 (x.win : Int), .int .u64 (x.rd : Int), .int .u64 (x.top : Int), .int .u64 (x.size : Int), .bool x.known, .map (some mb)] ∧ MpAt w mb x.m x.cnt
theorem Bs.kept {w w' : World} {a mb : Nat} {x : Rs.S} (h : Bs w a mb x) (hb : Below w.heap.size w w') : Bs w' a mb x := ⟨h.1.kept hb, h.2.kept hb⟩
theorem Bs.ne {w : World} {a mb : Nat} {x : Rs.S} (h : Bs w a mb x) : a ≠ mb := by
  rintro rfl
  obtain ⟨h1, D, ⟨es, clock, h2, _⟩, _⟩ := h
  have := h1.symm.trans h2
  simp at this
theorem Bs.lt {w : World} {a mb : Nat} {x : Rs.S} (h : Bs w a mb x) : a < w.heap.size ∧ mb < w.heap.size := ⟨h.1.lt, h.2.lt⟩
/-- Of what was there nothing has turned, but two blocks. -/
structure Upd2 (a b : Nat) (w w' : World) : Prop where
  os : w'.os = w.os
  tape : w'.tape = w.tape
  output : w'.output = w.output
  size : w.heap.size ≤ w'.heap.size
  block : ∀ k, k < w.heap.size → k ≠ a → k ≠ b → w'.heap[k]? = w.heap[k]?
theorem Upd2.refl (a b : Nat) (w : World) : Upd2 a b w w := ⟨rfl, rfl, rfl, Nat.le_refl _, fun _ _ _ _ => rfl⟩
theorem Upd2.trans {a b : Nat} {w w1 w2 : World} (h : Upd2 a b w w1) (k : Upd2 a b w1 w2) : Upd2 a b w w2 :=
  ⟨k.os.trans h.os, k.tape.trans h.tape, k.output.trans h.output, Nat.le_trans h.size k.size, fun i hi h1 h2 => (k.block i (Nat.lt_of_lt_of_le hi h.size) h1 h2).trans (h.block i hi h1 h2)⟩
theorem Upd2.left {a : Nat} {w w' : World} (h : Upd a w w') (b : Nat) : Upd2 a b w w' := ⟨h.os, h.tape, h.output, h.size, fun k hk h1 _ => h.block k hk h1⟩
theorem Upd2.right {b : Nat} {w w' : World} (h : Upd b w w') (a : Nat) : Upd2 a b w w' := ⟨h.os, h.tape, h.output, h.size, fun k hk _ h1 => h.block k hk h1⟩
theorem Upd2.below {a b : Nat} {w w' : World} (h : Below w.heap.size w w') : Upd2 a b w w' := ⟨h.os, h.tape, h.output, h.size, fun k hk _ _ => h.block k hk⟩
theorem Upd2.belowW {W w w' : World} {a b : Nat} (hL : Below W.heap.size W w) (hu : Upd2 a b w w') (h1 : W.heap.size ≤ a) (h2 : W.heap.size ≤ b) : Below W.heap.size W w' :=
  ⟨hu.os.trans hL.os, hu.tape.trans hL.tape, hu.output.trans hL.output, Nat.le_trans hL.size hu.size, fun k hk => (hu.block k (Nat.lt_of_lt_of_le hk hL.size) (by omega) (by omega)).trans (hL.block k hk)⟩

theorem new_any (win : Nat) (hw : win ≤ 100000) (w : World) :
    Calls Try.prog 32 #[.int .i64 (win : Int)] w fun e w' => ∃ a, e = .returned (.pointer (some ⟨a, 0, none⟩)) ∧ w.heap.size ≤ a ∧ ∃ mb, w.heap.size ≤ mb ∧ Bs w' a mb (Rs.new win) ∧ Below w.heap.size w w' := by
  have hmm := @run_makeMap Try.prog
  have hB : Hid (Bs ((w.alloc (.map #[] 0)).alloc (.cells #[.int .i64 (win : Int), .int .u64 0, .int .u64 0, .int .u64 0, .bool false, .map (some w.heap.size)] 72)) (w.heap.size + 1) w.heap.size (Rs.new win)) := by
    have h1 := (MpAt.new w).kept ((Below.refl _ (w.alloc (.map #[] 0))).alloc (Nat.le_refl _) (.cells #[.int .i64 (win : Int), .int .u64 0, .int .u64 0, .int .u64 0, .bool false, .map (some w.heap.size)] 72))
    have h2 := Obj.new (w.alloc (.map #[] 0)) 72 #[.int .i64 (win : Int), .int .u64 0, .int .u64 0, .int .u64 0, .bool false, .map (some w.heap.size)]
    rw [World.size_alloc] at h2
    exact ⟨h2, h1⟩
  have HBL : Hid (Below w.heap.size w ((w.alloc (.map #[] 0)).alloc (.cells #[.int .i64 (win : Int), .int .u64 0, .int .u64 0, .int .u64 0, .bool false, .map (some w.heap.size)] 72))) := ((Below.refl _ w).alloc (Nat.le_refl _) _).alloc (by simp) _
  have h1 : ¬ (100000 : Int) < (win : Int) := by omega
  clear hw
  go_enter Try.func32, Try.ntmps32
  go_wp2
  go_ret
  exact ⟨w.heap.size + 1, rfl, by omega, w.heap.size, Nat.le_refl _, hB.out, HBL.out⟩
theorem new_neg (w : World) :
    Calls Try.prog 32 #[.int .i64 (-1)] w fun e w' => e = .returned (.pointer none) ∧ w = w' := by
  go_enter Try.func32, Try.ntmps32
  go_wp2
  go_ret
  exact ⟨rfl, rfl⟩
theorem limit_any (a mb : Nat) (x : Rs.S) (w : World) (h : Bs w a mb x) (hok : Rs.Ok x) :
    Calls Try.prog 47 #[.pointer (some ⟨a, 0, none⟩)] w fun e w' => e = .returned (.int .u64 (Rs.limit x : Nat)) ∧ ∃ q, w' = w.drewN q := by
  have f0 : w.cell? ⟨a, 0, none⟩ = some (.int .i64 (x.win : Int)) := by rw [h.1.cell]; rfl
  have f1 : w.cell? ⟨a, 1, none⟩ = some (.int .u64 (x.rd : Int)) := by rw [h.1.cell]; rfl
  have hw := hok.win
  have hr := hok.rd
  have HL : Hid (Rs.limit x = x.rd + x.win) := rfl
  clear h hok
  generalize x.win = wi at *
  generalize x.rd = rd at *
  have hwr : IntKind.u64.wrap ((rd : Int) + (wi : Int)) = ((rd + wi : Nat) : Int) := by rw [IntKind.wrap_u64]; omega
  rw [HL.out]
  clear HL
  obtain ⟨s, hs⟩ : ∃ s, rd + wi = s := ⟨_, rfl⟩
  rw [hs] at hwr ⊢
  clear hs
  go_enter Try.func47, Try.ntmps47
  go_wp2
  go_quiet (fail)
  go_wp2
  go_ret
  exact ⟨rfl, _, rfl⟩
theorem done_any (a mb : Nat) (x : Rs.S) (w : World) (h : Bs w a mb x) :
    Calls Try.prog 35 #[.pointer (some ⟨a, 0, none⟩)] w fun e w' => e = .returned (.bool (Rs.done x)) ∧ ∃ q, w' = w.drewN q := by
  have f1 : w.cell? ⟨a, 1, none⟩ = some (.int .u64 (x.rd : Int)) := by rw [h.1.cell]; rfl
  have f3 : w.cell? ⟨a, 3, none⟩ = some (.int .u64 (x.size : Int)) := by rw [h.1.cell]; rfl
  have f4 : w.cell? ⟨a, 4, none⟩ = some (.bool x.known) := by rw [h.1.cell]; rfl
  have HD : Hid (Rs.done x = (x.known && x.rd == x.size)) := rfl
  rw [HD.out]
  clear h HD
  generalize x.rd = rd at *
  generalize x.size = sz at *
  cases hk : x.known with
  | false =>
    rw [hk] at f4
    go_enter Try.func35, Try.ntmps35
    go_wp2
    try go_quiet (fail)
    try go_wp2
    go_ret
    exact ⟨rfl, by first | exact ⟨_, rfl⟩ | exact ⟨0, rfl⟩⟩
  | true =>
    rw [hk] at f4
    by_cases he : rd = sz
    · subst he
      go_enter Try.func35, Try.ntmps35
      go_wp2
      try go_quiet (fail)
      try go_wp2
      go_ret
      exact ⟨by simp, by first | exact ⟨_, rfl⟩ | exact ⟨0, rfl⟩⟩
    · have hd : ((rd : Int) == (sz : Int)) = false := by simp; omega
      have HN : Hid ((rd == sz) = false) := by unfold Hid; simpa using he
      clear he
      go_enter Try.func35, Try.ntmps35
      go_wp2
      try go_quiet (fail)
      try go_wp2
      go_ret
      exact ⟨by rw [HN.out]; rfl, by first | exact ⟨_, rfl⟩ | exact ⟨0, rfl⟩⟩
end Go.Proofs.Ytdloeakmoaoalaa.Rm
