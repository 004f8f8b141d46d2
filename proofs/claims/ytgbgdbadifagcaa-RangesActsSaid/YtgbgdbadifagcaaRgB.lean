/- Layer 13's ranges: the set as the laws see it; alive. -/
import Derived.Test.YtgbgdbadifagcaaRows
import Derived.Test.YtgbgdbadifagcaaAid
import Derived.Test.YtgbgdbadifagcaaPlainRg
import Derived.Test.YtgbgdbadifagcaaPlainRg2
import Derived.Test.YtgbgdbadifagcaaRgW
import Derived.Test.YtgbgdbadifagcaaRgX
import Derived.Test.YtgbgdbadifagcaaRgF
import Derived.Test.YtgbgdbadifagcaaRgA
import Derived.WalkKit
import Derived.Laws.Rows
import Derived.Laws.Tables
import Derived.WalkSpells
import Derived.WalkLawsBesides
import Derived.Handy
import Derived.StillTailTactics
import Derived.Lib.Hide
import Derived.IntWalk
namespace Go.Proofs.Ytgbgdbadifagcaa
open Go.RowKit Go.Shelf Go.Lib Go.Sort
set_option linter.unusedVariables false
set_option linter.unusedSimpArgs false

/-- A set of the law's own: block a and its row are new since N. -/
def SetAt (N : Nat) (w : World) (a g : Nat) (s : Rg.S) : Prop := N ≤ a ∧ N ≤ g ∧ g < w.heap.size ∧ St w a g s.l s.old ∧ Rg.Ok s
theorem SetAt.ok {N : Nat} {w : World} {a g : Nat} {s : Rg.S} (h : SetAt N w a g s) : Rg.Ok s := h.2.2.2.2
theorem SetAt.kept {N : Nat} {w w' : World} {a g : Nat} {s : Rg.S} (h : SetAt N w a g s) (hb : Below w.heap.size w w') : SetAt N w' a g s := by
  obtain ⟨h1, h2, h3, h4, h5⟩ := h
  exact ⟨h1, h2, Nat.lt_of_lt_of_le h3 hb.size, h4.kept hb, h5⟩
theorem SetAt.upd2 {N : Nat} {w w' : World} {a g b c : Nat} {s : Rg.S} (h : SetAt N w a g s) (hu : Upd2 b c w w') (h1 : a ≠ b) (h2 : a ≠ c) (h3 : g ≠ b) (h4 : g ≠ c) : SetAt N w' a g s := by
  obtain ⟨k1, k2, k3, k4, k5⟩ := h
  exact ⟨k1, k2, Nat.lt_of_lt_of_le k3 hu.size, k4.upd2 hu h1 h2 h3 h4, k5⟩
theorem SetAt.drewN {N : Nat} {w : World} {a g : Nat} {s : Rg.S} (h : SetAt N w a g s) (n : Nat) : SetAt N (w.drewN n) a g s := h
theorem SetAt.lt {N : Nat} {w : World} {a g : Nat} {s : Rg.S} (h : SetAt N w a g s) : a < w.heap.size := by
  obtain ⟨_, _, _, ⟨v, h, _⟩, _⟩ := h
  exact h.lt
theorem SetAt.alloc {N : Nat} {w : World} {a g : Nat} {s : Rg.S} (h : SetAt N w a g s) (o : _root_.Go.Obj) : SetAt N (w.alloc o) a g s := h.kept ((Below.refl _ w).alloc (Nat.le_refl _) o)
/-- A new one. -/
theorem SetAt.new (w : World) (N : Nat) (hN : N ≤ w.heap.size) : SetAt N (w.alloc (.cells #[.slice none 0 0, .int .u64 0] 32)) w.heap.size w.heap.size ⟨[], 0⟩ :=
  ⟨hN, hN, by simp, ⟨_, Obj.new w _ _, Or.inl ⟨rfl, rfl⟩⟩, Rg.ok_nil⟩
theorem SetAt.over {N : Nat} {w w' : World} {a g : Nat} {s : Rg.S} (h : SetAt N w a g s) (k : Upd2 a g w w') : Below N w w' := by
  have h1 := h.1
  have h2 := h.2.1
  have h3 := h.2.2.1
  exact ⟨k.os, k.tape, k.output, by have := k.size; omega, fun i hi => k.block i (by omega) (by omega) (by omega)⟩

theorem sadd_any (N a g n : Nat) (s : Rg.S) (w : World) (h : SetAt N w a g s) :
    Calls Try.prog 9 #[.pointer (some ⟨a, 0, none⟩), .int .u64 (n : Int)] w fun e w' => e = .returned (.bool (Rg.add n s).1) ∧ ∃ g', SetAt N w' a g' (Rg.add n s).2 ∧ (g' = g ∨ w.heap.size ≤ g') ∧ Upd2 a g w w' ∧ Below N w w' := by
  have hh := h
  obtain ⟨h1, h2, h3, h4, h5⟩ := h
  refine (add_any a g n s w h4 h5 h3).mono ?_
  rintro e w' ⟨g', rfl, k1, k2, k3, k4⟩
  exact ⟨rfl, g', ⟨h1, by omega, k2, k1, Rg.add_ok h5 n⟩, k3, k4, hh.over k4⟩
theorem shas_any (N a g n : Nat) (s : Rg.S) (w : World) (h : SetAt N w a g s) :
    Calls Try.prog 10 #[.pointer (some ⟨a, 0, none⟩), .int .u64 (n : Int)] w fun e w' => e = .returned (.bool (Rg.has n s.l)) ∧ SetAt N w' a g s ∧ Below w.heap.size w w' := by
  have hk := h
  obtain ⟨h1, h2, h3, h4, h5⟩ := h
  refine (has_any a g n s.old s.l w h4 h5.norm (by have := h5.len; omega)).mono ?_
  rintro e w' ⟨rfl, hb⟩
  exact ⟨rfl, hk.kept hb, hb⟩
theorem sold_any (N a g n : Nat) (s : Rg.S) (w : World) (h : SetAt N w a g s) :
    Calls Try.prog 11 #[.pointer (some ⟨a, 0, none⟩), .int .u64 (n : Int)] w fun e w' => e = .returned (.bool (decide (n < s.old))) ∧ w = w' := by
  obtain ⟨h1, h2, h3, h4, h5⟩ := h
  exact old_any a g n s.old s.l w h4
theorem slargest_any (N a g : Nat) (s : Rg.S) (w : World) (h : SetAt N w a g s) :
    Calls Try.prog 13 #[.pointer (some ⟨a, 0, none⟩)] w fun e w' => e = .returned (.int .i64 (topOf s.l)) ∧ w = w' := by
  obtain ⟨h1, h2, h3, h4, h5⟩ := h
  exact largest_any a g s.old s.l w h4 h5.hi (by have := h5.len; omega)
theorem sranges_any (N a g : Nat) (s : Rg.S) (w : World) (h : SetAt N w a g s) :
    Calls Try.prog 12 #[.pointer (some ⟨a, 0, none⟩)] w fun e w' => ∃ v g', e = .returned v ∧ RowR w' v g' s.l ∧ (s.l ≠ [] → w.heap.size ≤ g') ∧ SetAt N w' a g s ∧ Below w.heap.size w w' := by
  have hk := h
  obtain ⟨h1, h2, h3, h4, h5⟩ := h
  refine (ranges_any a g s.old s.l w h4 (by have := h5.len; omega)).mono ?_
  rintro e w' ⟨v, g', rfl, k1, k2, k3⟩
  exact ⟨v, g', rfl, k1, k2, hk.kept k3, k3⟩
theorem sforget_any (N a g n : Nat) (s : Rg.S) (w : World) (h : SetAt N w a g s) :
    Calls Try.prog 14 #[.pointer (some ⟨a, 0, none⟩), .int .u64 (n : Int)] w fun e w' => e = .returned (.int .i64 ((Rg.forget n s).1 : Nat)) ∧ SetAt N w' a g (Rg.forget n s).2 ∧ Upd2 a g w w' ∧ Below N w w' := by
  have hh := h
  obtain ⟨h1, h2, h3, h4, h5⟩ := h
  refine (forget_any a g n s.old s.l w h4 h5.norm (by have := h5.len; omega) h5.oldle (min n 4611686018427387903) rfl).mono ?_
  rintro e w' ⟨rfl, k1, k2⟩
  exact ⟨rfl, ⟨h1, h2, Nat.lt_of_lt_of_le h3 k2.size, k1, (Rg.forget_ok h5 n).1⟩, k2, hh.over k2⟩

theorem ex1 : Rg.add 5 ⟨[], 0⟩ = (true, ⟨[(5, 5)], 0⟩) := by decide +kernel
theorem ex2 : Rg.add 7 ⟨[(5, 5)], 0⟩ = (true, ⟨[(7, 7), (5, 5)], 0⟩) := by decide +kernel
theorem ex3 : Rg.add 6 ⟨[(7, 7), (5, 5)], 0⟩ = (true, ⟨[(5, 7)], 0⟩) := by decide +kernel
theorem ex4 : Rg.add 6 ⟨[(5, 7)], 0⟩ = (false, ⟨[(5, 7)], 0⟩) := by decide +kernel
theorem ex5 : Rg.forget 5 ⟨[(5, 7)], 0⟩ = (0, ⟨[(6, 7)], 6⟩) := by decide +kernel
theorem ex6 : Rg.add 4 ⟨[(6, 7)], 6⟩ = (false, ⟨[(6, 7)], 6⟩) := by decide +kernel
theorem ex7 : Rg.has 6 [(6, 7)] = true ∧ Rg.has 5 [(6, 7)] = false ∧ topOf [(6, 7)] = 7 := by decide +kernel

set_option maxHeartbeats 4000000 in
theorem alive_true (w : World) : Calls Try.prog 8 #[] w fun e w' => e = .returned (.bool true) ∧ Below w.heap.size w w' := by
  have H0 := Lib.hid (SetAt.new w w.heap.size (Nat.le_refl _))
  have B0 : Hid (Below w.heap.size w (w.alloc (.cells #[.slice none 0 0, .int .u64 0] 32))) := (Below.refl _ w).alloc (Nat.le_refl _) _
  have E1 := Lib.hid (ex7)
  go_enter Try.func8, Try.ntmps8
  go_wp2_with fail
  refine (sadd_any w.heap.size _ _ 5 _ _ H0.out).mono ?_
  rw [ex1]
  rintro e w1 ⟨rfl, g1, h1, -, -, b1⟩
  have H1 := Lib.hid h1
  have B1 := Lib.hid (B0.out.trans b1)
  clear h1 b1 H0 B0
  go_wp2_with fail
  refine (sadd_any w.heap.size _ _ 7 _ _ H1.out).mono ?_
  rw [ex2]
  rintro e w2 ⟨rfl, g2, h2, -, -, b2⟩
  have H2 := Lib.hid h2
  have B2 := Lib.hid (B1.out.trans b2)
  clear h2 b2 H1 B1
  go_wp2_with fail
  refine (sadd_any w.heap.size _ _ 6 _ _ H2.out).mono ?_
  rw [ex3]
  rintro e w3 ⟨rfl, g3, h3, -, -, b3⟩
  have H3 := Lib.hid h3
  have B3 := Lib.hid (B2.out.trans b3)
  clear h3 b3 H2 B2
  go_wp2_with fail
  refine (sadd_any w.heap.size _ _ 6 _ _ H3.out).mono ?_
  rw [ex4]
  rintro e w4 ⟨rfl, g4, h4, -, -, b4⟩
  have H4 := Lib.hid h4
  have B4 := Lib.hid (B3.out.trans b4)
  clear h4 b4 H3 B3
  go_wp2_with fail
  refine (sranges_any w.heap.size _ _ _ _ H4.out).mono ?_
  rintro e w5 ⟨v5, r5, rfl, hr5, hr5n, h5, b5⟩
  have hrn := hr5n (by simp)
  have hne : r5 ≠ w.heap.size ∧ r5 ≠ g4 := by
    have := H4.out.lt
    have := H4.out.2.2.1
    constructor <;> omega
  have H5 := Lib.hid h5
  have B5 := Lib.hid (B4.out.trans (b5.mono B4.out.size))
  have HR5 := Lib.hid hr5
  have HNE := Lib.hid hne
  clear h5 b5 hr5 hr5n hrn hne H4 B4
  go_wp2_with fail
  refine (sforget_any w.heap.size _ _ 5 _ _ H5.out).mono ?_
  rw [ex5]
  rintro e w6 ⟨rfl, h6, u6, b6⟩
  have H6 := Lib.hid h6
  have B6 := Lib.hid (B5.out.trans b6)
  have HR6 := HR5.out.upd2 u6 HNE.out.1 HNE.out.2
  obtain ⟨c, rfl, f1, f2⟩ := HR6.cells (i := 0) (by simp)
  simp only [Nat.zero_mul, Nat.zero_add, List.getD_cons_zero, u64v] at f1 f2
  clear h6 u6 b6 H5 B5 HR5 HR6
  go_wp2_with fail
  refine (shas_any w.heap.size _ _ 6 _ _ H6.out).mono ?_
  rw [E1.out.1]
  rintro e w7 ⟨rfl, h7, b7⟩
  have H7 := Lib.hid h7
  have B7 := Lib.hid (B6.out.trans (b7.mono B6.out.size))
  clear h7 b7 H6 B6 f1 f2
  go_wp2_with fail
  refine (shas_any w.heap.size _ _ 5 _ _ H7.out).mono ?_
  rw [E1.out.2.1]
  rintro e w8 ⟨rfl, h8, b8⟩
  have H8 := Lib.hid h8
  have B8 := Lib.hid (B7.out.trans (b8.mono B7.out.size))
  clear h8 b8 H7 B7
  go_wp2_with fail
  refine (sold_any w.heap.size _ _ 5 _ _ H8.out).mono ?_
  rintro e w9 ⟨rfl, rfl⟩
  go_wp2_with fail
  refine (sadd_any w.heap.size _ _ 4 _ _ H8.out).mono ?_
  rw [ex6]
  rintro e w10 ⟨rfl, g10, h10, -, -, b10⟩
  have H10 := Lib.hid h10
  have B10 := Lib.hid (B8.out.trans b10)
  clear h10 b10 H8 B8
  go_wp2_with fail
  refine (slargest_any w.heap.size _ _ _ _ H10.out).mono ?_
  rw [E1.out.2.2]
  rintro e w11 ⟨rfl, rfl⟩
  go_wp2
  go_ret
  exact ⟨rfl, B10.out⟩
end Go.Proofs.Ytgbgdbadifagcaa
