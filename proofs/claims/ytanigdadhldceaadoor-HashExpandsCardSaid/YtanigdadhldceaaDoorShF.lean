/- slices.Chunk of a slice of bytes, as an iterator: it gives the parts of 64 bytes, one behind the other. -/
import Derived.RangeFuncNested
import Derived.RangeFuncBound
import Derived.RangeFuncCalls
import Derived.RangeFuncLeaves
import Derived.Shelf.Abstract
import Derived.Shelf.RegionOpen
import Derived.WalkKit
import Derived.OwnWalkIn
import Derived.TacticsInMore
import Derived.LoopNIn
import Derived.LoopIn
import Derived.WalkSpells
import Derived.BigQuiet
import Derived.Deep.QuietTactic
import Derived.Lib.Hide
import Derived.IntWalk
import Derived.Test.YtanigdadhldceaaDoorRows
import Derived.Test.YtanigdadhldceaaDoorAid
import Derived.Test.YtanigdadhldceaaDoorItF
namespace Go.Proofs.YtanigdadhldceaaDoor.It
open Go Go.RowKit Go.Shelf
set_option linter.unusedVariables false
set_option linter.unusedSimpArgs false
attribute [local go_sem] Oper.semAt_some

theorem chunk_any (A : Option Addr) (n c : Nat) (w : World) :
    Calls Tryd.prog 21 #[.slice A n c, .int .i64 64] w fun e w' => e = .returned (.func (.func 25) #[] #[.pointer (some ⟨w.heap.size, 0, none⟩), .pointer (some ⟨w.heap.size + 1, 0, none⟩)]) ∧ w' = (w.alloc (.cells #[.slice A n c] 22)).alloc (.cells #[.int .i64 64] 3) := by
  go_enter Tryd.func21, Tryd.ntmps21
  go_wp2
  go_ret
  exact ⟨rfl, rfl⟩
/-- What the iterator hands on. -/
def encC (g : Nat) (i : Nat) : Array Value := #[.slice (some ⟨g, 64 * i, none⟩) 64 64]
/-- What it reads between two rounds. -/
def MpC (Bx g n c : Nat) (i : Nat) (V : World) : Prop :=
  V.cell? ⟨Bx, 0, none⟩ = some (.slice (some ⟨g, 0, none⟩) n c) ∧ V.cell? ⟨Bx + 1, 0, none⟩ = some (.int .i64 64)
set_option maxRecDepth 100000 in
set_option maxHeartbeats 4000000 in
theorem chunk1_gives (n : Nat) (hn : 1 ≤ n) (Bx g N tot c : Nat) (htot : 64 * N = tot) (hN : tot ≤ 2000000) (hc : tot ≤ c ∧ c ≤ 9223372036854775807) :
    Gives Fence.wide n Tryd.prog 25 #[.pointer (some ⟨Bx, 0, none⟩), .pointer (some ⟨Bx + 1, 0, none⟩)] (encC g) (MpC Bx g tot c) N := by
  intro l J Jx W hM hD hY h0
  show CallsIn Fence.wide n Tryd.prog 25 #[.func (.yield l) #[] #[], .pointer (some ⟨Bx, 0, none⟩), .pointer (some ⟨Bx + 1, 0, none⟩)] W _
  have HM : Hid (∀ i V, J i V → MpC Bx g tot c i V) := hM
  have HD := Lib.hid hD
  have HY := Lib.hid hY
  have HT := Lib.hid htot
  clear hM hD hY htot
  refine callsIn_of_wp Tryd.func25 rfl trivial ?_ rfl
  simp only [Tryd.ntmps25, List.size_toArray, List.length_cons, List.length_nil, Nat.reduceAdd, Nat.reduceSub, Array.replicate_succ, Array.replicate_zero, List.push_toArray, List.append_toArray, List.nil_append, List.cons_append]
  gi_wp2
  gi_loopw [4] (fun p wr => ∃ i q : Nat, i ≤ N ∧ 64 * i = q ∧ p = .int .i64 (q : Int) ∧ J i wr) (fun p wr => tot - (intOf p).toNat)
  case atStart => exact ⟨0, 0, Nat.zero_le _, rfl, rfl, h0⟩
  case round =>
    obtain ⟨i, q, hi, hq, rfl, hJ⟩ := hrel
    obtain ⟨c0, c1⟩ := HM.out i wr hJ
    have HJ := Lib.hid hJ
    have HQ := Lib.hid hq
    by_cases hlt : i < N
    · have hqt : q + 64 ≤ tot := by have := HT.out; omega
      have hqi : (q : Int) < (tot : Int) := by omega
      clear hJ hq
      gi_wp2
      refine wpIn_wide.2 ?_
      go_quiet (fail)
      have hJ := HD.out i wr nq HJ.out
      obtain ⟨c0, c1⟩ := HM.out i _ hJ
      obtain ⟨fn, tmps, assign, body, hy, hR⟩ := HY.out i _ hJ hlt
      unfold encC at hy
      rw [HQ.out] at hy
      generalize wr.drewN nq = wq at *
      clear hJ HJ
      gi_wp2
      refine hR.mono ?_
      rintro e W3 (⟨rfl, hJ3⟩ | ⟨rfl, hJx3⟩)
      · obtain ⟨e0, e1⟩ := HM.out _ W3 hJ3
        gi_wp2
        go_roundw
        case rel => exact ⟨i + 1, q + 64, by omega, by have := HQ.out; omega, by go_num, hJ3⟩
        case measure => simp [intOf]; omega
      · gi_wp2
        refine bodyPost_ret (results_none rfl _ _ _) rfl ?_
        exact ⟨⟨_, rfl⟩, .inr ⟨i, hJx3⟩⟩
    · obtain rfl : N = i := by omega
      obtain rfl : tot = q := by have := HT.out; omega
      clear hJ hq
      gi_wp2
      refine bodyPost_end (results_none rfl _ _ _) rfl ?_
      exact ⟨⟨_, rfl⟩, .inl HJ.out⟩
end Go.Proofs.YtanigdadhldceaaDoor.It
