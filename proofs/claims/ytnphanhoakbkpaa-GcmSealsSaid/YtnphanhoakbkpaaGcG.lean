/- slices.Chunk of a slice of bytes by 16, as an iterator: parts of 16 bytes, the last one perhaps shorter. -/
import Derived.RangeFuncNested
import Derived.RangeFuncBound
import Derived.RangeFuncCalls
import Derived.RangeFuncLeaves
import Derived.Shelf.Abstract
import Derived.Shelf.RegionOpen
import Derived.WalkKit
import Derived.OwnWalkIn
import Derived.TacticsInMore
import Derived.LoopNIn
import Derived.LoopIn
import Derived.WalkSpells
import Derived.BigQuiet
import Derived.Deep.QuietTactic
import Derived.Lib.Hide
import Derived.IntWalk
import Derived.Test.YtnphanhoakbkpaaRows
import Derived.Test.YtnphanhoakbkpaaAid
import Derived.Test.YtnphanhoakbkpaaItF
namespace Go.Proofs.Ytnphanhoakbkpaa.It
open Go Go.RowKit Go.Shelf
set_option linter.unusedVariables false
set_option linter.unusedSimpArgs false
attribute [local go_sem] Oper.semAt_some

theorem chunk_any (A : Option Addr) (n c : Nat) (w : World) :
    Calls Try.prog 24 #[.slice A n c, .int .i64 16] w fun e w' => e = .returned (.func (.func 34) #[] #[.pointer (some ⟨w.heap.size, 0, none⟩), .pointer (some ⟨w.heap.size + 1, 0, none⟩)]) ∧ (w.alloc (.cells #[.slice A n c] 23)).alloc (.cells #[.int .i64 16] 3) = w' := by
  go_enter Try.func24, Try.ntmps24
  go_wp2
  go_ret
  exact ⟨rfl, rfl⟩
/-- How long part number i is. -/
def len16 (n i : Nat) : Nat := if 16 * i + 16 ≤ n then 16 else n - 16 * i
/-- What the iterator hands on. -/
def enc16 (g o n : Nat) (i : Nat) : Array Value := #[.slice (some ⟨g, o + 16 * i, none⟩) (len16 n i) (len16 n i)]
/-- What it reads between two rounds. -/
def MpC (Bx n c : Nat) (A : Option Addr) (i : Nat) (V : World) : Prop :=
  V.cell? ⟨Bx, 0, none⟩ = some (.slice A n c) ∧ V.cell? ⟨Bx + 1, 0, none⟩ = some (.int .i64 16)
set_option maxRecDepth 100000 in
set_option maxHeartbeats 4000000 in
theorem chunk1_gives (m : Nat) (hm : 1 ≤ m) (Bx g o n c : Nat) (A : Option Addr) (hA : 0 < n → A = some ⟨g, o, none⟩) (hn : n ≤ 1000000) (hc : n ≤ c ∧ c ≤ 9223372036854775807) :
    Gives Fence.wide m Try.prog 34 #[.pointer (some ⟨Bx, 0, none⟩), .pointer (some ⟨Bx + 1, 0, none⟩)] (enc16 g o n) (MpC Bx n c A) ((n + 15) / 16) := by
  intro l J Jx W hM hD hY h0
  show CallsIn Fence.wide m Try.prog 34 #[.func (.yield l) #[] #[], .pointer (some ⟨Bx, 0, none⟩), .pointer (some ⟨Bx + 1, 0, none⟩)] W _
  have HM : Hid (∀ i V, J i V → MpC Bx n c A i V) := hM
  have HD := Lib.hid hD
  have HY := Lib.hid hY
  have HA := Lib.hid hA
  obtain ⟨N, hN⟩ : ∃ N, (n + 15) / 16 = N := ⟨_, rfl⟩
  rw [hN] at HY ⊢
  have HN := Lib.hid hN
  clear hM hD hY hA hN
  refine callsIn_of_wp Try.func34 rfl trivial ?_ rfl
  simp only [Try.ntmps34, List.size_toArray, List.length_cons, List.length_nil, Nat.reduceAdd, Nat.reduceSub, Array.replicate_succ, Array.replicate_zero, List.push_toArray, List.append_toArray, List.nil_append, List.cons_append]
  gi_wp2
  gi_loopw [4] (fun p wr => ∃ i q : Nat, i ≤ N ∧ 16 * i = q ∧ p = .int .i64 (q : Int) ∧ J i wr) (fun p wr => n + 16 - (intOf p).toNat)
  case atStart => exact ⟨0, 0, Nat.zero_le _, rfl, rfl, h0⟩
  case round =>
    obtain ⟨i, q, hi, hq, rfl, hJ⟩ := hrel
    obtain ⟨c0, c1⟩ := HM.out i wr hJ
    have HJ := Lib.hid hJ
    have HQ := Lib.hid hq
    by_cases hlt : i < N
    · have hqn : q < n := by have := HN.out; omega
      have hqi : (q : Int) < (n : Int) := by omega
      obtain rfl := HA.out (by omega)
      have hy' := fun V hV => HY.out i V hV hlt
      by_cases hf : q + 16 ≤ n
      · have e1 : len16 n i = 16 := by unfold len16; rw [if_pos (by omega)]
        have hf1 : ¬ ((n - q : Nat) : Int) < 16 := by omega
        clear hJ hq
        gi_wp2
        refine wpIn_wide.2 ?_
        go_quiet (fail)
        have hJ := HD.out i wr nq HJ.out
        obtain ⟨c0, c1⟩ := HM.out i _ hJ
        obtain ⟨fn, tmps, assign, body, hy, hR⟩ := hy' _ hJ
        unfold enc16 at hy
        rw [HQ.out, e1] at hy
        generalize wr.drewN nq = wq at *
        clear hJ HJ hy' e1
        gi_wp2
        refine hR.mono ?_
        rintro e W3 (⟨rfl, hJ3⟩ | ⟨rfl, hJx3⟩)
        · obtain ⟨e0, e1⟩ := HM.out _ W3 hJ3
          gi_wp2
          go_roundw
          case rel => exact ⟨i + 1, q + 16, by omega, by have := HQ.out; omega, by go_num, hJ3⟩
          case measure => simp [intOf]; omega
        · gi_wp2
          refine bodyPost_ret (results_none rfl _ _ _) rfl ?_
          exact ⟨⟨_, rfl⟩, .inr ⟨i, hJx3⟩⟩
      · obtain ⟨d, hd⟩ : ∃ d, n - q = d := ⟨_, rfl⟩
        have e1 : len16 n i = d := by unfold len16; rw [if_neg (by omega), hq, hd]
        have hf1 : (d : Int) < 16 := by omega
        have hqd : (q : Int) + (d : Int) = (n : Int) := by omega
        have hqd' : q + d = n := by omega
        have hd0 : 0 < d := by omega
        clear hJ hq
        gi_wp2
        refine wpIn_wide.2 ?_
        go_quiet (fail)
        have hJ := HD.out i wr nq HJ.out
        obtain ⟨c0, c1⟩ := HM.out i _ hJ
        obtain ⟨fn, tmps, assign, body, hy, hR⟩ := hy' _ hJ
        unfold enc16 at hy
        rw [HQ.out, e1] at hy
        generalize wr.drewN nq = wq at *
        clear hJ HJ hy' e1
        gi_wp2
        refine hR.mono ?_
        rintro e W3 (⟨rfl, hJ3⟩ | ⟨rfl, hJx3⟩)
        · obtain ⟨e0, e1⟩ := HM.out _ W3 hJ3
          gi_wp2
          go_roundw
          case rel => exact ⟨i + 1, q + 16, by omega, by have := HQ.out; omega, by go_num, hJ3⟩
          case measure => simp [intOf]; omega
        · gi_wp2
          refine bodyPost_ret (results_none rfl _ _ _) rfl ?_
          exact ⟨⟨_, rfl⟩, .inr ⟨i, hJx3⟩⟩
    · obtain rfl : N = i := by omega
      have hqn : ¬ (q : Int) < (n : Int) := by have := HN.out; omega
      clear hJ hq
      gi_wp2
      refine bodyPost_end (results_none rfl _ _ _) rfl ?_
      exact ⟨⟨_, rfl⟩, .inl HJ.out⟩
end Go.Proofs.Ytnphanhoakbkpaa.It
