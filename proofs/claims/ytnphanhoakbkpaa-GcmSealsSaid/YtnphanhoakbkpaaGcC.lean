/- Layer 9's gcm: a block's bits, as an iterator. -/
import Derived.RangeFuncNested
import Derived.RangeFuncBound
import Derived.RangeFuncCalls
import Derived.RangeFuncLeaves
import Derived.RangeFuncBox
import Derived.Shelf.Abstract
import Derived.Shelf.RegionOpen
import Derived.WalkKit
import Derived.OwnWalkIn
import Derived.TacticsInMore
import Derived.LoopNIn
import Derived.LoopIn
import Derived.WalkSpells
import Derived.IntWalk
import Derived.Lib.Hide
import Derived.Test.YtnphanhoakbkpaaRows
import Derived.Test.YtnphanhoakbkpaaAid
import Derived.Test.YtnphanhoakbkpaaPlainAe
import Derived.Test.YtnphanhoakbkpaaPlainAe2
import Derived.Test.YtnphanhoakbkpaaPlainGc
import Derived.Test.YtnphanhoakbkpaaPlainGc2
import Derived.Test.YtnphanhoakbkpaaRsF
namespace Go.Proofs.Ytnphanhoakbkpaa.Rm
open Go Go.RowKit Go.Shelf
set_option linter.unusedVariables false
set_option linter.unusedSimpArgs false
attribute [local go_sem] Oper.semAt_some

theorem bits_any (h l : Nat) (w : World) :
    Calls Try.prog 33 #[.agg #[.int .u64 (h : Int), .int .u64 (l : Int)]] w fun e w' => e = .returned (.func (.func 43) #[] #[.pointer (some ⟨w.heap.size, 0, none⟩)]) ∧ w.alloc (.cells #[.int .u64 (h : Int), .int .u64 (l : Int)] 45) = w' := by
  go_enter Try.func33, Try.ntmps33
  go_wp2
  go_ret
  exact ⟨rfl, rfl⟩
/-- What the iterator hands on. -/
def encT (a : Nat) (i : Nat) : Array Value := #[.bool (Gc.bit a i)]
/-- What it reads between two rounds. -/
def MpT (Bx h l : Nat) (i : Nat) (V : World) : Prop := V.cell? ⟨Bx, 0, none⟩ = some (.int .u64 (h : Int)) ∧ V.cell? ⟨Bx, 1, none⟩ = some (.int .u64 (l : Int))
/-- A half that was moved. -/
def cur (v t : Nat) : Nat := v * 2 ^ t % 18446744073709551616
theorem cur_zero {v : Nat} (h : v < 18446744073709551616) : cur v 0 = v := by unfold cur; omega
theorem cur_lt (v t : Nat) : cur v t < 18446744073709551616 := Nat.mod_lt _ (by decide)
theorem cur_next (v t : Nat) : cur v t * 2 % 18446744073709551616 = cur v (t + 1) := by
  unfold cur
  rw [Nat.pow_succ, ← Nat.mul_assoc]
  omega
theorem cur_bit_hi (a t : Nat) (h : t < 64) : ((cur (Gc.hi a) t : Int) / 9223372036854775808 == 1) = Gc.bit a t := by
  rw [← Gc.bit_hi a t h]
  show _ = decide (cur (Gc.hi a) t / 9223372036854775808 = 1)
  generalize cur (Gc.hi a) t = c
  rw [Bool.eq_iff_iff]
  simp only [beq_iff_eq, decide_eq_true_eq]
  omega
theorem cur_bit_lo (a t : Nat) (h : t < 64) : ((cur (Gc.lo a) t : Int) / 9223372036854775808 == 1) = Gc.bit a (64 + t) := by
  rw [← Gc.bit_lo a t h]
  show _ = decide (cur (Gc.lo a) t / 9223372036854775808 = 1)
  generalize cur (Gc.lo a) t = c
  rw [Bool.eq_iff_iff]
  simp only [beq_iff_eq, decide_eq_true_eq]
  omega

set_option maxRecDepth 100000 in
set_option maxHeartbeats 4000000 in
theorem bits1_gives (F : Fence) (n : Nat) (hf : F.fn 43) (hro : F.round = none) (hn : 1 ≤ n) (Bx a : Nat) (ha : a < 2 ^ 128) :
    Gives F n Try.prog 43 #[.pointer (some ⟨Bx, 0, none⟩)] (encT a) (MpT Bx (Gc.hi a) (Gc.lo a)) 128 := by
  intro l J Jx W hM hY h0
  show CallsIn F n Try.prog 43 #[.func (.yield l) #[] #[], .pointer (some ⟨Bx, 0, none⟩)] W _
  have HY := Lib.hid hY
  obtain ⟨c0, c1⟩ := hM 0 W h0
  have hh := Gc.hi_lt ha
  have hl := Gc.lo_lt a
  have H0 := Lib.hid h0
  have BH : Hid (∀ t, t < 64 → ((cur (Gc.hi a) t : Int) / 9223372036854775808 == 1) = Gc.bit a t) := fun t ht => cur_bit_hi a t ht
  have BL : Hid (∀ t, t < 64 → ((cur (Gc.lo a) t : Int) / 9223372036854775808 == 1) = Gc.bit a (64 + t)) := fun t ht => cur_bit_lo a t ht
  generalize Gc.hi a = h at *
  generalize Gc.lo a = g at *
  clear hM hY h0
  refine callsIn_of_wp Try.func43 rfl hf ?_ hro
  simp only [Try.ntmps43, List.size_toArray, List.length_cons, List.length_nil, Nat.reduceAdd, Nat.reduceSub, Array.replicate_succ, Array.replicate_zero, List.push_toArray, List.append_toArray, List.nil_append, List.cons_append]
  have i0 : ∀ w, (Instr.index 75 (.agg #[.int .u64 (h : Int), .int .u64 (g : Int)]) (.int .i64 0)).run Try.prog w = .ok (.int .u64 (h : Int)) w := fun _ => by kernel_rfl
  have i1 : ∀ w, (Instr.index 75 (.agg #[.int .u64 (h : Int), .int .u64 (g : Int)]) (.int .i64 1)).run Try.prog w = .ok (.int .u64 (g : Int)) w := fun _ => by kernel_rfl
  gi_wp2
  clear c0 c1
  gi_loopw [4, 10] (fun _ i wr => ∃ k : Nat, k ≤ 2 ∧ i = .int .i64 (k : Int) ∧ J (64 * k) wr) (fun _ i _ => 2 - (intOf i).toNat)
  case atStart => exact ⟨0, by omega, rfl, H0.out⟩
  case round =>
    clear H0
    obtain ⟨k, hk, rfl, hJ⟩ := hrel
    have HJ := Lib.hid hJ
    clear hJ
    have hk3 : k = 0 ∨ k = 1 ∨ k = 2 := by omega
    clear hk
    rcases hk3 with rfl | rfl | rfl
    · rw [show ((0 : Nat) : Int) = 0 from rfl]
      gi_wp2
      gi_loopw [4, 13] (fun v t wr => ∃ t' : Nat, t' ≤ 64 ∧ t = .int .i64 (t' : Int) ∧ v = .int .u64 ((cur h t' : Nat) : Int) ∧ J (0 + t') wr) (fun _ t _ => 64 - (intOf t).toNat)
      case atStart => exact ⟨0, by omega, rfl, by rw [cur_zero hh], HJ.out⟩
      case round =>
        clear HJ
        obtain ⟨t, ht, rfl, rfl, hJ⟩ := hrel
        have HJ := Lib.hid hJ
        by_cases hlt : t < 64
        · have hti : (t : Int) < 64 := by omega
          obtain ⟨fn, tmps, assign, body, hy, hR⟩ := HY.out (0 + t) wr hJ (by omega)
          unfold encT at hy
          have hb := BH.out t hlt
          rw [show Gc.bit a t = Gc.bit a (0 + t) by congr 1; omega] at hb
          have hc := cur_lt h t
          have hnx := cur_next h t
          obtain ⟨d, hd⟩ : ∃ d, cur h (t + 1) = d := ⟨_, rfl⟩
          have HD := Lib.hid hd
          rw [hd] at hnx
          generalize Gc.bit a (0 + t) = b at *
          generalize cur h t = c at *
          have e1 : IntKind.u64.wrap ((c : Int) * 2) = (d : Int) := by rw [IntKind.wrap_u64]; omega
          have e2 : (c : Int) * 2 % 18446744073709551616 = (d : Int) := by omega
          clear hJ hd hnx
          gi_wp2
          refine hR.mono ?_
          rintro e W3 (⟨rfl, hJ3⟩ | ⟨rfl, hJx3⟩)
          · gi_wp2
            go_roundw
            case rel => exact ⟨t + 1, by omega, by go_num, by rw [HD.out], hJ3⟩
            case measure => simp [intOf]; omega
          · gi_wp2
            refine bodyPost_ret (results_none rfl _ _ _) rfl ?_
            exact ⟨⟨_, rfl⟩, .inr ⟨_, hJx3⟩⟩
        · obtain rfl : t = 64 := by omega
          clear hJ
          gi_wp2
          go_roundw
          case rel => exact ⟨1, by omega, rfl, HJ.out⟩
          case measure => simp [intOf]
    · rw [show ((1 : Nat) : Int) = 1 from rfl]
      gi_wp2
      gi_loopw [4, 13] (fun v t wr => ∃ t' : Nat, t' ≤ 64 ∧ t = .int .i64 (t' : Int) ∧ v = .int .u64 ((cur g t' : Nat) : Int) ∧ J (64 + t') wr) (fun _ t _ => 64 - (intOf t).toNat)
      case atStart => exact ⟨0, by omega, rfl, by rw [cur_zero hl], HJ.out⟩
      case round =>
        clear HJ
        obtain ⟨t, ht, rfl, rfl, hJ⟩ := hrel
        have HJ := Lib.hid hJ
        by_cases hlt : t < 64
        · have hti : (t : Int) < 64 := by omega
          obtain ⟨fn, tmps, assign, body, hy, hR⟩ := HY.out (64 + t) wr hJ (by omega)
          unfold encT at hy
          have hb := BL.out t hlt
          have hc := cur_lt g t
          have hnx := cur_next g t
          obtain ⟨d, hd⟩ : ∃ d, cur g (t + 1) = d := ⟨_, rfl⟩
          have HD := Lib.hid hd
          rw [hd] at hnx
          generalize Gc.bit a (64 + t) = b at *
          generalize cur g t = c at *
          have e1 : IntKind.u64.wrap ((c : Int) * 2) = (d : Int) := by rw [IntKind.wrap_u64]; omega
          have e2 : (c : Int) * 2 % 18446744073709551616 = (d : Int) := by omega
          clear hJ hd hnx
          gi_wp2
          refine hR.mono ?_
          rintro e W3 (⟨rfl, hJ3⟩ | ⟨rfl, hJx3⟩)
          · gi_wp2
            go_roundw
            case rel => exact ⟨t + 1, by omega, by go_num, by rw [HD.out], hJ3⟩
            case measure => simp [intOf]; omega
          · gi_wp2
            refine bodyPost_ret (results_none rfl _ _ _) rfl ?_
            exact ⟨⟨_, rfl⟩, .inr ⟨_, hJx3⟩⟩
        · obtain rfl : t = 64 := by omega
          clear hJ
          gi_wp2
          go_roundw
          case rel => exact ⟨2, by omega, rfl, HJ.out⟩
          case measure => simp [intOf]
    · gi_wp2
      refine bodyPost_end (results_none rfl _ _ _) rfl ?_
      exact ⟨⟨_, rfl⟩, .inl HJ.out⟩
end Go.Proofs.Ytnphanhoakbkpaa.Rm
