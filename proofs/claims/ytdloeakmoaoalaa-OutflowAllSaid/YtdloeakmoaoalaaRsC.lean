/- Layer 16's reasm, walked: row, Ready. -/
import Derived.RangeFuncNested
import Derived.RangeFuncBound
import Derived.RangeFuncCalls
import Derived.RangeFuncLeaves
import Derived.Shelf.Abstract
import Derived.Shelf.RegionOpen
import Derived.WalkKit
import Derived.OwnWalkIn
import Derived.TacticsInMore
import Derived.LoopNIn
import Derived.LoopIn
import Derived.Maps.OwnIn
import Derived.WalkSpells
import Derived.IntWalk
import Derived.Test.YtdloeakmoaoalaaRows
import Derived.Test.YtdloeakmoaoalaaAid
import Derived.Test.YtdloeakmoaoalaaPlainRs
import Derived.Test.YtdloeakmoaoalaaRsW
import Derived.Test.YtdloeakmoaoalaaRsA
import Derived.Test.YtdloeakmoaoalaaRsF
namespace Go.Proofs.Ytdloeakmoaoalaa.Rm
open Go Go.RowKit Go.Shelf Go.Maps
set_option linter.unusedVariables false
set_option linter.unusedSimpArgs false
attribute [local go_sem] Oper.semAt_some

theorem row_in (F : Fence) (n : Nat) (hf : F.fn 48) (hro : F.round = none) (p : Option Addr) (w : World) :
    CallsIn F n Try.prog 48 #[.pointer p] w fun e w' => e = .returned (.func (.func 52) #[] #[.pointer (some ⟨w.heap.size, 0, none⟩)]) ∧ w' = w.alloc (.cells #[.pointer p] 52) := by
  refine callsIn_of_wp Try.func48 rfl hf ?_ hro
  simp only [Try.ntmps48, List.size_toArray, List.length_cons, List.length_nil, Nat.reduceAdd, Nat.reduceSub, Array.replicate_succ, Array.replicate_zero, List.push_toArray, List.append_toArray, List.nil_append, List.cons_append]
  gi_wp2
  go_ret
  exact ⟨rfl, rfl⟩
/-- What the iterator hands on. -/
def encR (r0 : Nat) (m : Nat → Option Nat) (i : Nat) : Array Value := #[.int .u64 ((r0 + i : Nat) : Int), .int .u8 (((m (r0 + i)).getD 0 : Nat) : Int)]
/-- What it reads between two rounds. -/
def MpR (Bx a mb r0 : Nat) (m : Nat → Option Nat) (i : Nat) (V : World) : Prop :=
  V.cell? ⟨Bx, 0, none⟩ = some (.pointer (some ⟨a, 0, none⟩)) ∧ V.cell? ⟨a, 5, none⟩ = some (.map (some mb)) ∧ (i = 0 → V.cell? ⟨a, 1, none⟩ = some (.int .u64 (r0 : Int))) ∧ ∃ f sz, MpAt V mb f sz ∧ f (r0 + i) = m (r0 + i)

set_option maxRecDepth 100000 in
set_option maxHeartbeats 4000000 in
theorem row1_gives (F : Fence) (n : Nat) (hf : F.fn 52) (hro : F.round = none) (hn : 1 ≤ n) (Bx a mb r0 N : Nat) (m : Nat → Option Nat) (hN : ∀ i, i < N → ∃ c, m (r0 + i) = some c) (hE : m (r0 + N) = none) (hb : r0 + N < 9223372036854775807) :
    Gives F n Try.prog 52 #[.pointer (some ⟨Bx, 0, none⟩)] (encR r0 m) (MpR Bx a mb r0 m) N := by
  intro l J Jx W hM hY h0
  show CallsIn F n Try.prog 52 #[.func (.yield l) #[] #[], .pointer (some ⟨Bx, 0, none⟩)] W _
  have HM : Hid (∀ i V, J i V → MpR Bx a mb r0 m i V) := hM
  have HY := Lib.hid hY
  have HN := Lib.hid hN
  have HE := Lib.hid hE
  obtain ⟨c0, c5, c1, -⟩ := hM 0 W h0
  have c1 := c1 rfl
  clear hM hY hN hE
  refine callsIn_of_wp Try.func52 rfl hf ?_ hro
  simp only [Try.ntmps52, List.size_toArray, List.length_cons, List.length_nil, Nat.reduceAdd, Nat.reduceSub, Array.replicate_succ, Array.replicate_zero, List.push_toArray, List.append_toArray, List.nil_append, List.cons_append]
  gi_wp2
  clear c0 c5 c1
  gi_loopw [3] (fun p wr => ∃ i q : Nat, i ≤ N ∧ r0 + i = q ∧ p = .int .u64 (q : Int) ∧ J i wr) (fun p wr => r0 + N - (intOf p).toNat)
  case atStart => exact ⟨0, r0, Nat.zero_le _, rfl, rfl, h0⟩
  case round =>
    obtain ⟨i, q, hi, hq, rfl, hJ⟩ := hrel
    obtain ⟨c0, c5, -, f, sz, hmp, hfm⟩ := HM.out i wr hJ
    rw [hq] at hfm
    have HMP := Lib.hid hmp
    have HJ := Lib.hid hJ
    clear hmp
    by_cases hlt : i < N
    · obtain ⟨c, hc⟩ := HN.out i hlt
      obtain ⟨fn, tmps, assign, body, hy, hR⟩ := HY.out i wr hJ hlt
      unfold encR at hy
      rw [hq] at hc hy
      rw [hc] at hfm hy
      simp only [Option.getD_some] at hy
      have HFM := Lib.hid hfm
      have hwq : IntKind.u64.wrap ((q : Int) + 1) = (q : Int) + 1 := by rw [IntKind.wrap_u64]; omega
      have HQ : Hid (r0 + (i + 1) = q + 1 ∧ q < r0 + N) := ⟨by omega, by omega⟩
      clear hJ hfm hc hq
      gi_wp2_with (gi_at_lookup; refine wpListIn_mlook _ rfl _ _ rfl rfl HMP.out q (by have := HQ.out; omega) rfl ?_; rw [HFM.out])
      refine hR.mono ?_
      rintro e W3 (⟨rfl, hJ3⟩ | ⟨rfl, hJx3⟩)
      · gi_wp2
        go_roundw
        case rel => exact ⟨i + 1, q + 1, by omega, HQ.out.1, by go_num, hJ3⟩
        case measure => have := HQ.out; simp [intOf]; omega
      · gi_wp2
        refine bodyPost_ret (results_none rfl _ _ _) rfl ?_
        exact ⟨⟨_, rfl⟩, .inr ⟨i, hJx3⟩⟩
    · obtain rfl : N = i := by omega
      have hc := HE.out
      rw [hq] at hc
      rw [hc] at hfm
      have HFM := Lib.hid hfm
      have HQ : Hid (q < 9223372036854775807) := by unfold Hid; omega
      clear hJ hfm hc hq
      gi_wp2_with (gi_at_lookup; refine wpListIn_mlook _ rfl _ _ rfl rfl HMP.out q (by have := HQ.out; omega) rfl ?_; rw [HFM.out])
      refine ⟨fun _ h => (by cases h), ?_⟩
      gi_wp2
      refine bodyPost_ret (results_none rfl _ _ _) rfl ?_
      exact ⟨⟨_, rfl⟩, .inl HJ.out⟩

end Go.Proofs.Ytdloeakmoaoalaa.Rm
