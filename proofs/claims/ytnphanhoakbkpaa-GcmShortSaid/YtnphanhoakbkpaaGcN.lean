/- Layer 9's gcm, walked: GcmShort. -/
import Derived.RangeFuncNested
import Derived.RangeFuncBound
import Derived.RangeFuncCalls
import Derived.RangeFuncLeaves
import Derived.RangeFuncBox
import Derived.Shelf.Abstract
import Derived.Shelf.RegionOpen
import Derived.WalkKit
import Derived.OwnWalkIn
import Derived.TacticsInMore
import Derived.LoopN
import Derived.LoopNIn
import Derived.LoopIn
import Derived.WalkSpells
import Derived.WalkLawsBesides
import Derived.Laws.Rows
import Derived.Laws.EntriesVeiled
import Derived.Laws.BitsAllLaws
import Derived.Handy
import Derived.BigQuiet
import Derived.Deep.QuietTactic
import Derived.IntWalk
import Derived.Lib.Hide
import Derived.Outline
import Derived.Test.YtnphanhoakbkpaaRows
import Derived.Test.YtnphanhoakbkpaaAid
import Derived.Test.YtnphanhoakbkpaaPlainAe
import Derived.Test.YtnphanhoakbkpaaPlainAe2
import Derived.Test.YtnphanhoakbkpaaPlainGc
import Derived.Test.YtnphanhoakbkpaaPlainGc2
import Derived.Test.YtnphanhoakbkpaaAesB
import Derived.Test.YtnphanhoakbkpaaAesBox
import Derived.Test.YtnphanhoakbkpaaAesW
import Derived.Test.YtnphanhoakbkpaaAesE
import Derived.Test.YtnphanhoakbkpaaAesK
import Derived.Test.YtnphanhoakbkpaaAesS
import Derived.Test.YtnphanhoakbkpaaAesT
import Derived.Test.YtnphanhoakbkpaaBl
import Derived.Test.YtnphanhoakbkpaaItF
import Derived.Test.YtnphanhoakbkpaaGcA
import Derived.Test.YtnphanhoakbkpaaGcB
import Derived.Test.YtnphanhoakbkpaaGcD
import Derived.Test.YtnphanhoakbkpaaGcE
import Derived.Test.YtnphanhoakbkpaaGcF
import Derived.Test.YtnphanhoakbkpaaGcG
import Derived.Test.YtnphanhoakbkpaaGcH
import Derived.Test.YtnphanhoakbkpaaGcI
import Derived.Test.YtnphanhoakbkpaaGcJ
import Derived.Test.YtnphanhoakbkpaaGcK
import Derived.Test.YtnphanhoakbkpaaGcL
import Derived.Test.YtnphanhoakbkpaaGcM
namespace Go.Proofs.Ytnphanhoakbkpaa
open Go Go.RowKit Go.Shelf
set_option linter.unusedVariables false
set_option linter.unusedSimpArgs false
section
variable {P : Program}
theorem wpList_load_roww {ops : Array Oper} {rest : List Oper} {o : Oper} {a : Act} {w : World} {Q : Exit → Act → World → Prop} (hw : Region.wanted o (yielded ops a.tmps) = true) (ty : TypeId) (x : Operand) (ho : o.op = .load ty x)
    (g : Nat) (hx : a.eval x = .pointer (some ⟨g, 0, none⟩)) (t : TypeId) (cs : Array Value) (fr : Nat × Nat) (d : TypeDesc) (hg : w.heap[g]? = some (.cells cs t fr))
    (hu : P.underlying ty = some d) (hd : (match d with | .struct _ | .array _ _ => true | _ => false) = true) (hi : (P.info? ty).map (·.size) = some cs.size)
    (h : wpList P ops Q rest (a.put o.dst (.agg cs)) w) : wpList P ops Q (o :: rest) a w :=
  wpList_step fun K hK => by rw [if_pos hw]; exact wp_load_row ty x ho g hx t cs fr d hg hu hd hi (hK _ _ h)
end
theorem eq16z : ∀ w, (binOp .eql 22 (.agg #[.int .u8 0, .int .u8 0, .int .u8 0, .int .u8 0, .int .u8 0, .int .u8 0, .int .u8 0, .int .u8 0, .int .u8 0, .int .u8 0, .int .u8 0, .int .u8 0, .int .u8 0, .int .u8 0, .int .u8 0, .int .u8 0]) (.agg #[.int .u8 0, .int .u8 0, .int .u8 0, .int .u8 0, .int .u8 0, .int .u8 0, .int .u8 0, .int .u8 0, .int .u8 0, .int .u8 0, .int .u8 0, .int .u8 0, .int .u8 0, .int .u8 0, .int .u8 0, .int .u8 0])).run Try.prog w = .ok (.bool true) w := by
  have heq := fun w => eq16 (x := List.replicate 16 0) (y := List.replicate 16 0) rfl rfl (Gc.zeros_bytes 16) (Gc.zeros_bytes 16) w
  rw [show decide (List.replicate 16 0 = List.replicate 16 0) = true from rfl] at heq
  exact heq
theorem eqg16 : Try.prog.eqGuardType Try.prog.depth 22 = false := by kernel_rfl
theorem nb_zero : Gc.nb (List.replicate 16 0) = 0 := by decide +kernel

set_option maxRecDepth 100000 in
set_option maxHeartbeats 4000000 in
theorem gcmShort_walk (k n : List Nat) (A : Option Addr) (N c : Nat) (z : List Int) (w : World) (hk : k.length = 16) (qk : Ae.bytes k) (hn : n.length = 12) (qn : Ae.bytes n) (hz : Ints .u8 w A N z) (hx : N ≤ c ∧ c ≤ maxLen) :
    Calls Try.prog 8 #[.agg (cellsN k), .agg (cellsN n), .slice A N c] w fun e w' => e = .returned (.bool true) ∧ Below w.heap.size w w' := by
  obtain ⟨text, ht, qt, hr⟩ := hz.rd
  obtain ⟨h1, h2⟩ := hx
  unfold maxLen at h2
  have HOP : Hid (∀ W A m (x : List Nat), Rd W A x → x.length = m → Ae.bytes x → m ≤ 15 → m ≤ c → Calls Try.prog 14 #[.agg (cellsN k), .agg (cellsN n), .slice none 0 0, .slice A m c] W fun e w' => ∃ A' c', e = .returned (.tuple #[.slice A' 0 c', .int .i64 2]) ∧ Below W.heap.size W w') := fun W A m x hr hm hb h15 hmc =>
    (Open_any k n none 0 0 [] A m c x W hk qk hn qn (Rd.nil _ _) rfl (fun c hc => by simp at hc) (by omega) hr hm hb (by omega)).mono fun e w' ⟨A', n', c', e1, _, e3, _, e5⟩ => by
      have hC : Gc.openC k n [] x = (2, []) := by unfold Gc.openC; rw [if_pos (by omega)]
      rw [hC] at e1 e3
      obtain rfl : 0 = n' := e3
      exact ⟨A', c', e1, e5⟩
  have HSU : Hid (∀ W, Calls Try.prog 12 #[.agg (cellsN k), .slice none 0 0, .slice none 0 0] W fun e w' => e = .returned (.agg #[.int .u8 0, .int .u8 0, .int .u8 0, .int .u8 0, .int .u8 0, .int .u8 0, .int .u8 0, .int .u8 0, .int .u8 0, .int .u8 0, .int .u8 0, .int .u8 0, .int .u8 0, .int .u8 0, .int .u8 0, .int .u8 0]) ∧ Below W.heap.size W w') := fun W => by
    have := sum_any k none 0 0 [] none 0 0 [] W hk qk (Rd.nil _ _) rfl (fun c hc => by simp at hc) (by omega) (Rd.nil _ _) rfl (fun c hc => by simp at hc) (by omega)
    rw [Gc.gsum_nil, Gc.bn_zero] at this
    exact this
  have HTM : Hid (∀ W, Calls Try.prog 10 #[.agg (cellsN k), .agg #[.int .u8 0, .int .u8 0, .int .u8 0, .int .u8 0, .int .u8 0, .int .u8 0, .int .u8 0, .int .u8 0, .int .u8 0, .int .u8 0, .int .u8 0, .int .u8 0, .int .u8 0, .int .u8 0, .int .u8 0, .int .u8 0]] W fun e w' => e = .returned (.agg #[.int .u8 0, .int .u8 0, .int .u8 0, .int .u8 0, .int .u8 0, .int .u8 0, .int .u8 0, .int .u8 0, .int .u8 0, .int .u8 0, .int .u8 0, .int .u8 0, .int .u8 0, .int .u8 0, .int .u8 0, .int .u8 0]) ∧ Below W.heap.size W w') := fun W => by
    have := Times_any k (List.replicate 16 0) W hk rfl qk (Gc.zeros_bytes 16)
    rw [nb_zero, Gc.mul_zero, Gc.bn_zero] at this
    exact this
  obtain ⟨W2, hW2⟩ : ∃ W2, (w.alloc (.cells (cellsN k) 22)).alloc (.cells (cellsN n) 28) = W2 := ⟨_, rfl⟩
  have L0 : Below w.heap.size w W2 := hW2 ▸ ((Below.refl _ w).alloc (Nat.le_refl _) _).alloc (by simp) _
  have O0 : Obj W2 w.heap.size 22 (cellsN k) := hW2 ▸ (Obj.new w _ _).alloc _
  have O1 : Obj W2 (w.heap.size + 1) 28 (cellsN n) := hW2 ▸ new2 w _ _ _
  have HIK := Lib.hid (size16 hk)
  have HIN := Lib.hid (size12 hn)
  have heq := eq16z
  have eqg := eqg16
  have P0 := Lib.hid O0
  have P1 := Lib.hid O1
  have PL := Lib.hid L0
  have HR := Lib.hid hr
  have HW2 := Lib.hid hW2
  have HTL := Lib.hid ht
  have HQT := Lib.hid qt
  clear O0 O1 L0 hr hW2 hz hk qk hn qn ht qt
  by_cases hb : N ≤ 15
  · have hbi : ¬ (N : Int) > 15 := by omega
    have hbi' : ¬ 15 < (N : Int) := by omega
    go_enter Try.func8, Try.ntmps8
    go_wp2_with fail
    rw [HW2.out]
    refine (alive_true _).mono ?_
    rintro e w1 ⟨rfl, hb1⟩
    have HO0 := Lib.hid (P0.out.kept hb1)
    have HO1 := Lib.hid (P1.out.kept hb1)
    have HL1 := Lib.hid (PL.out.trans (hb1.mono PL.out.size))
    have HR1 := Lib.hid (HR.out.below HL1.out)
    clear P0 P1 PL hb1 HR
    go_wp2_with (first
      | (refine wpList_load_row rfl 22 (.tmp 3) rfl _ rfl _ _ _ _ HO0.out Try.underlying22 rfl HIK.out ?_)
      | (refine wpList_load_row rfl 28 (.tmp 4) rfl _ rfl _ _ _ _ HO1.out Try.underlying28 rfl HIN.out ?_))
    refine (HOP.out _ A N text HR1.out HTL.out HQT.out (by omega) (by omega)).mono ?_
    rintro e w2 ⟨A2, c2, rfl, hb2⟩
    have HO2 := Lib.hid (HO0.out.kept hb2)
    have HL2 := Lib.hid (HL1.out.trans (hb2.mono HL1.out.size))
    clear HO0 HO1 HL1 HR1 hb2
    go_wp2_with (refine wpList_load_roww (by rfl) 22 (.tmp 3) rfl _ rfl _ _ _ _ HO2.out Try.underlying22 rfl HIK.out ?_)
    refine (HSU.out _).mono ?_
    rintro e w3 ⟨rfl, hb3⟩
    have HO3 := Lib.hid (HO2.out.kept hb3)
    have HL3 := Lib.hid (HL2.out.trans (hb3.mono HL2.out.size))
    clear HO2 HL2 hb3
    go_wp2_with (refine wpList_load_roww (by rfl) 22 (.tmp 3) rfl _ rfl _ _ _ _ HO3.out Try.underlying22 rfl HIK.out ?_)
    refine (HTM.out _).mono ?_
    rintro e w4 ⟨rfl, hb4⟩
    have HL4 := Lib.hid (HL3.out.trans (hb4.mono HL3.out.size))
    clear HO3 HL3 hb4
    go_wp2
    go_ret
    exact ⟨rfl, HL4.out⟩
  · have hbi : (N : Int) > 15 := by omega
    have hbi' : 15 < (N : Int) := by omega
    have hc15 : 15 ≤ c := by omega
    go_enter Try.func8, Try.ntmps8
    go_wp2_with fail
    rw [HW2.out]
    refine (alive_true _).mono ?_
    rintro e w1 ⟨rfl, hb1⟩
    have HO0 := Lib.hid (P0.out.kept hb1)
    have HO1 := Lib.hid (P1.out.kept hb1)
    have HL1 := Lib.hid (PL.out.trans (hb1.mono PL.out.size))
    have HR1 := Lib.hid (HR.out.below HL1.out)
    clear P0 P1 PL hb1 HR
    go_wp2_with (first
      | (refine wpList_load_row rfl 22 (.tmp 3) rfl _ rfl _ _ _ _ HO0.out Try.underlying22 rfl HIK.out ?_)
      | (refine wpList_load_row rfl 28 (.tmp 4) rfl _ rfl _ _ _ _ HO1.out Try.underlying28 rfl HIN.out ?_))
    refine (HOP.out _ A 15 (text.take 15) (HR1.out.take 15 (by rw [HTL.out]; omega)) (by rw [List.length_take, HTL.out]; omega) (bytes_take HQT.out 15) (by omega) (by omega)).mono ?_
    rintro e w2 ⟨A2, c2, rfl, hb2⟩
    have HO2 := Lib.hid (HO0.out.kept hb2)
    have HL2 := Lib.hid (HL1.out.trans (hb2.mono HL1.out.size))
    clear HO0 HO1 HL1 HR1 hb2
    go_wp2_with (refine wpList_load_roww (by rfl) 22 (.tmp 3) rfl _ rfl _ _ _ _ HO2.out Try.underlying22 rfl HIK.out ?_)
    refine (HSU.out _).mono ?_
    rintro e w3 ⟨rfl, hb3⟩
    have HO3 := Lib.hid (HO2.out.kept hb3)
    have HL3 := Lib.hid (HL2.out.trans (hb3.mono HL2.out.size))
    clear HO2 HL2 hb3
    go_wp2_with (refine wpList_load_roww (by rfl) 22 (.tmp 3) rfl _ rfl _ _ _ _ HO3.out Try.underlying22 rfl HIK.out ?_)
    refine (HTM.out _).mono ?_
    rintro e w4 ⟨rfl, hb4⟩
    have HL4 := Lib.hid (HL3.out.trans (hb4.mono HL3.out.size))
    clear HO3 HL3 hb4
    go_wp2
    go_ret
    exact ⟨rfl, HL4.out⟩
end Go.Proofs.Ytnphanhoakbkpaa
