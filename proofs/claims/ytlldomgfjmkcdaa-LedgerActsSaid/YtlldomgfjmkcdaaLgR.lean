/- Layer 15's ledger: slices.Backward at packets, as an iterator. -/
import Derived.RangeFuncNested
import Derived.RangeFuncBound
import Derived.RangeFuncCalls
import Derived.RangeFuncLeaves
import Derived.RangeFuncBox
import Derived.Shelf.Abstract
import Derived.Shelf.RegionOpen
import Derived.WalkKit
import Derived.OwnWalkIn
import Derived.TacticsInMore
import Derived.LoopNIn
import Derived.LoopIn
import Derived.WalkSpells
import Derived.IntWalk
import Derived.Lib.Hide
import Derived.Test.YtlldomgfjmkcdaaRows
import Derived.Test.YtlldomgfjmkcdaaAid
import Derived.Test.YtlldomgfjmkcdaaLgW
import Derived.Test.YtlldomgfjmkcdaaLgF
import Derived.Test.YtlldomgfjmkcdaaRsF
namespace Go.Proofs.Ytlldomgfjmkcdaa.Rm
open Go Go.RowKit Go.Shelf
set_option linter.unusedVariables false
set_option linter.unusedSimpArgs false
attribute [local go_sem] Oper.semAt_some

theorem backward_any (A : Option Addr) (n c : Nat) (w : World) :
    Calls Try.prog 35 #[.slice A n c] w fun e w' => e = .returned (.func (.func 44) #[] #[.pointer (some ⟨w.heap.size, 0, none⟩)]) ∧ w.alloc (.cells #[.slice A n c] 25) = w' := by
  go_enter Try.func35, Try.ntmps35
  go_wp2
  go_ret
  exact ⟨rfl, rfl⟩
def agS (p : PS) : Value := .agg #[.int .i64 (p.num : Int), .int .u64 (p.tm : Int), .int .i64 (p.sz : Int), .bool p.ask, .slice p.fa p.fn p.fc]
/-- What the iterator hands on. -/
def encB (l : List PS) (i : Nat) : Array Value := #[.int .i64 (((l.length - 1 - i : Nat)) : Int), agS (l.getD (l.length - 1 - i) default)]
/-- What it reads between two rounds. -/
def MpB (Bx n c : Nat) (A : Option Addr) (l : List PS) (i : Nat) (V : World) : Prop :=
  V.cell? ⟨Bx, 0, none⟩ = some (.slice A n c) ∧ (0 < n → ∃ g, A = some ⟨g, 0, none⟩ ∧ RowC V g l)

set_option maxRecDepth 100000 in
set_option maxHeartbeats 4000000 in
theorem back1_gives (F : Fence) (n : Nat) (hf : F.fn 44) (hro : F.round = none) (hn : 1 ≤ n) (Bx N c : Nat) (A : Option Addr) (s : List PS) (hN : s.length = N) (hb : N ≤ 1000000) :
    Gives F n Try.prog 44 #[.pointer (some ⟨Bx, 0, none⟩)] (encB s) (MpB Bx N c A s) N := by
  intro l J Jx W hM hY h0
  show CallsIn F n Try.prog 44 #[.func (.yield l) #[] #[], .pointer (some ⟨Bx, 0, none⟩)] W _
  have HM : Hid (∀ i V, J i V → MpB Bx N c A s i V) := hM
  have HY := Lib.hid hY
  have HN := Lib.hid hN
  obtain ⟨c0, -⟩ := hM 0 W h0
  clear hM hY hN
  refine callsIn_of_wp Try.func44 rfl hf ?_ hro
  simp only [Try.ntmps44, List.size_toArray, List.length_cons, List.length_nil, Nat.reduceAdd, Nat.reduceSub, Array.replicate_succ, Array.replicate_zero, List.push_toArray, List.append_toArray, List.nil_append, List.cons_append]
  gi_wp2
  clear c0
  gi_loopw [3] (fun p wr => ∃ (i : Nat) (q : Int), i ≤ N ∧ q + (i : Int) + 1 = (N : Int) ∧ p = .int .i64 q ∧ J i wr) (fun p wr => (intOf p + 1).toNat)
  case atStart => exact ⟨0, (N : Int) - 1, Nat.zero_le _, by omega, rfl, h0⟩
  case round =>
    obtain ⟨i, q, hi, hq, rfl, hJ⟩ := hrel
    obtain ⟨c0, c1⟩ := HM.out i wr hJ
    have HJ := Lib.hid hJ
    have HQ := Lib.hid hq
    by_cases hlt : i < N
    · obtain ⟨k, rfl⟩ : ∃ k : Nat, q = (k : Int) := ⟨(N - 1 - i : Nat), by omega⟩
      have hkN : k < N := by omega
      have hk : N - 1 - i = k := by omega
      obtain ⟨g, rfl, hr⟩ := c1 (by omega)
      obtain ⟨f0, f1, f2, f3, f4⟩ := hr k (by rw [HN.out]; exact hkN)
      obtain ⟨fn, tmps, assign, body, hy, hR⟩ := HY.out i wr hJ hlt
      unfold encB at hy
      rw [HN.out, hk] at hy
      unfold agS at hy
      generalize s.getD k default = p at *
      obtain ⟨num, tm, sz, ask, fa, fn', fc⟩ := p
      dsimp only at f0 f1 f2 f3 f4 hy
      clear hJ hq c1 hr hk
      gi_wp2
      refine hR.mono ?_
      rintro e W3 (⟨rfl, hJ3⟩ | ⟨rfl, hJx3⟩)
      · gi_wp2
        go_roundw
        case rel => exact ⟨i + 1, (k : Int) - 1, by omega, by have := HQ.out; omega, by first | rfl | go_num, hJ3⟩
        case measure => simp [intOf]
      · gi_wp2
        refine bodyPost_ret (results_none rfl _ _ _) rfl ?_
        exact ⟨⟨_, rfl⟩, .inr ⟨i, hJx3⟩⟩
    · obtain rfl : N = i := by omega
      obtain rfl : q = -1 := by omega
      clear hJ hq c1
      gi_wp2
      refine bodyPost_end (results_none rfl _ _ _) rfl ?_
      exact ⟨⟨_, rfl⟩, .inl HJ.out⟩
end Go.Proofs.Ytlldomgfjmkcdaa.Rm
