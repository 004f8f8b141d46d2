/- Layer 8's boxes, walked, of the program and of the document, and the document's table. -/
import Derived.Test.YtnphanhoakbkpaaRows
import Derived.Test.YtnphanhoakbkpaaAid
import Derived.Test.YtnphanhoakbkpaaPlainAe
import Derived.Test.YtnphanhoakbkpaaAesB
import Derived.WalkKit
import Derived.Laws.BitsAllLaws
import Derived.WalkSpells
import Derived.WalkLawsBesides
import Derived.Deep.QuietTactic
import Derived.BigQuiet
import Derived.Handy
import Derived.Lib.Hide
import Derived.StillTailTactics
import Derived.Deep.RegionHeld3
namespace Go.Proofs.Ytnphanhoakbkpaa
open Go.RowKit
set_option linter.unusedVariables false
set_option linter.unusedSimpArgs false

theorem rot_any (x n : Nat) (m : Int) (w : World) (hx : x < 256) (h0 : 1 ≤ n) (h1 : n ≤ 4) (hm : m = n) :
    Calls Try.prog 52 #[.int .u8 (x : Int), .int .i64 m] w fun e w' => e = .returned (.int .u8 (Ae.rot x n : Nat)) ∧ w = w' := by
  subst hm
  have hn : n = 1 ∨ n = 2 ∨ n = 3 ∨ n = 4 := by omega
  rcases hn with rfl | rfl | rfl | rfl
  · exact rot1_any x w hx
  · exact rot2_any x w hx
  · exact rot3_any x w hx
  · exact rot4_any x w hx

theorem rot_lt : ∀ n, n < 5 → 1 ≤ n → ∀ x, x < 256 → Ae.rot x n < 256 := by decide +kernel
set_option maxHeartbeats 400000 in
theorem turn_any (bo bx x o n : Nat) (m : Int) (w : World) (ho : Obj w bo 5 #[.int .u8 (o : Int)]) (hx : Obj w bx 5 #[.int .u8 (x : Int)]) (h0 : 1 ≤ n) (h1 : n ≤ 4) (hm : m = n) (hxl : x < 256) (hol : o < 256) :
    Calls Try.prog 51 #[.int .i64 m, .pointer (some ⟨bo, 0, none⟩), .pointer (some ⟨bx, 0, none⟩)] w fun e w' => e = .returned (.tuple #[]) ∧ Obj w' bo 5 #[.int .u8 ((o ^^^ Ae.rot x n : Nat) : Int)] ∧ Upd bo w w' := by
  have HMM := Lib.hid hm
  clear hm
  have f0 : w.cell? ⟨bo, 0, none⟩ = some (.int .u8 (o : Int)) := ho.cell 0
  have f1 : w.cell? ⟨bx, 0, none⟩ = some (.int .u8 (x : Int)) := hx.cell 0
  have z0 := ho.free 0
  have HX := Lib.hid (u8_xor_nat o (Ae.rot x n) hol (rot_lt n (by omega) h0 x hxl))
  go_enter Try.func51, Try.ntmps51
  go_wp2
  refine wp_region_still_tail 5 (by kernel_rfl) (by kernel_rfl) ?_
  simp only [List.take_succ_cons, List.take_zero, List.drop_succ_cons, List.drop_zero]
  change wpStill _ _ (World.drew _) (fun a' => wpList _ _ _ _ a' (World.drew _)) _ _
  iterate 3 still_step
  still_call (still1 (rot_any x n m _ hxl h0 h1 HMM.out))
  iterate 1 still_step
  refine wpStill_nil ?_
  go_wp2
  go_end0
  exact ⟨rfl, (ho.set 0 _).drew.as (by rw [HX.out]; rfl), ((Upd.refl _ _).set _ _).drew⟩

theorem new2 (w : World) (o : _root_.Go.Obj) (t : TypeId) (cs : Array Value) (u : Unit := ()) : Obj ((w.alloc o).alloc (.cells cs t)) (w.heap.size + 1) t cs := by
  have h := Obj.new (w.alloc o) t cs
  rwa [show (w.alloc o).heap.size = w.heap.size + 1 by simp] at h
theorem boxL_lt (x : Nat) (hx : x < 256) : ∀ k, k ≤ 4 → Ae.boxL x k < 256
  | 0, _ => Ae.xor_lt hx (by decide)
  | k + 1, h => Ae.xor_lt (boxL_lt x hx k (by omega)) (rot_lt (k + 1) (by omega) (by omega) x hx)
set_option maxHeartbeats 400000 in
theorem box_any (A : Nat) (w : World) (hA : A < 256) :
    Calls Try.prog 44 #[.int .u8 (A : Int)] w fun e w' => e = .returned (.int .u8 (Ae.box A : Nat)) ∧ Below w.heap.size w w' := by
  have hx := Ae.inv_lt A hA
  have HX := Lib.hid (u8_xor_nat (Ae.inv A) 99 hx (by decide))
  have HB := Lib.hid (show Ae.box A = Ae.boxL (Ae.inv A) 4 from rfl)
  go_enter Try.func44, Try.ntmps44
  go_wp2_with fail
  refine (inverse_any A _ hA).mono ?_
  rintro e wn ⟨rfl, rfl⟩
  generalize Ae.inv A = x at *
  go_wp2
  go_loopw [12] (fun i wr => ∃ k : Nat, k ≤ 4 ∧ i = .int .i64 k ∧ Obj wr (w.heap.size + 1) 5 #[.int .u8 ((Ae.boxL x k : Nat) : Int)] ∧ Obj wr w.heap.size 5 #[.int .u8 (x : Int)] ∧ Below w.heap.size w wr) (fun i _ => 4 - (intOf i).toNat)
  case atStart =>
    refine ⟨0, by omega, rfl, ?_, ?_, ?_⟩
    · rw [show bits BinOp.xor IntKind.u8 (x : Int) 99 = _ from HX.out]; exact new2 w _ _ _
    · exact (Obj.new w _ _).alloc _
    · exact ((Below.refl _ _).alloc (Nat.le_refl _) _).alloc (by simp) _
  case round =>
    clear HX
    obtain ⟨k, hk, rfl, HO, HX, HW⟩ := hrel
    by_cases hlt : k < 4
    · have hb := boxL_lt x hx k (by omega)
      go_wp2_with fail
      refine (turn_any (w.heap.size + 1) w.heap.size x (Ae.boxL x k) (k + 1) _ _ HO HX (by omega) (by omega) (by omega) hx hb).mono ?_
      rintro e w1 ⟨rfl, h1, u1⟩
      have HX1 := HX.upd u1 (by omega)
      have HW1 := Upd.below HW (by omega) u1
      clear HO HX HW u1
      go_wp2
      go_roundw
      case rel => exact ⟨k + 1, by omega, by go_num, h1, HX1, HW1⟩
      case measure => simp [intOf]; omega
    · obtain rfl : k = 4 := by omega
      have f0 : wr.cell? ⟨w.heap.size + 1, 0, none⟩ = some (.int .u8 ((Ae.boxL x 4 : Nat) : Int)) := HO.cell 0
      rw [← HB.out] at f0
      go_wp2
      go_ret
      exact ⟨rfl, HW⟩
end Go.Proofs.Ytnphanhoakbkpaa
