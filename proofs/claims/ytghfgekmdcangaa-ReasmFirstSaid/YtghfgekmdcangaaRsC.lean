/- Layer 16's reasm, walked: row, Ready. -/
import Derived.RangeFuncNested
import Derived.RangeFuncBound
import Derived.RangeFuncCalls
import Derived.RangeFuncLeaves
import Derived.Shelf.Abstract
import Derived.Shelf.RegionOpen
import Derived.WalkKit
import Derived.OwnWalkIn
import Derived.TacticsInMore
import Derived.LoopNIn
import Derived.LoopIn
import Derived.Maps.OwnIn
import Derived.WalkSpells
import Derived.IntWalk
import Derived.Test.YtghfgekmdcangaaRows
import Derived.Test.YtghfgekmdcangaaAid
import Derived.Test.YtghfgekmdcangaaPlainRs
import Derived.Test.YtghfgekmdcangaaRsW
import Derived.Test.YtghfgekmdcangaaRsA
import Derived.Test.YtghfgekmdcangaaRsF
namespace Go.Proofs.Ytghfgekmdcangaa.Rm
open Go Go.RowKit Go.Shelf Go.Maps
set_option linter.unusedVariables false
set_option linter.unusedSimpArgs false
attribute [local go_sem] Oper.semAt_some

theorem row_in (F : Fence) (n : Nat) (hf : F.fn 22) (hro : F.round = none) (p : Option Addr) (w : World) :
    CallsIn F n Try.prog 22 #[.pointer p] w fun e w' => e = .returned (.func (.func 23) #[] #[.pointer (some ⟨w.heap.size, 0, none⟩)]) ∧ w' = w.alloc (.cells #[.pointer p] 25) := by
  refine callsIn_of_wp Try.func22 rfl hf ?_ hro
  simp only [Try.ntmps22, List.size_toArray, List.length_cons, List.length_nil, Nat.reduceAdd, Nat.reduceSub, Array.replicate_succ, Array.replicate_zero, List.push_toArray, List.append_toArray, List.nil_append, List.cons_append]
  gi_wp2
  go_ret
  exact ⟨rfl, rfl⟩
/-- What the iterator hands on. -/
def encR (r0 : Nat) (m : Nat → Option Nat) (i : Nat) : Array Value := #[.int .u64 ((r0 + i : Nat) : Int), .int .u8 (((m (r0 + i)).getD 0 : Nat) : Int)]
/-- What it reads between two rounds. -/
def MpR (Bx a mb r0 : Nat) (m : Nat → Option Nat) (i : Nat) (V : World) : Prop :=
  V.cell? ⟨Bx, 0, none⟩ = some (.pointer (some ⟨a, 0, none⟩)) ∧ V.cell? ⟨a, 5, none⟩ = some (.map (some mb)) ∧ (i = 0 → V.cell? ⟨a, 1, none⟩ = some (.int .u64 (r0 : Int))) ∧ ∃ f sz, MpAt V mb f sz ∧ f (r0 + i) = m (r0 + i)

set_option maxRecDepth 100000 in
set_option maxHeartbeats 4000000 in
theorem row1_gives (F : Fence) (n : Nat) (hf : F.fn 23) (hro : F.round = none) (hn : 1 ≤ n) (Bx a mb r0 N : Nat) (m : Nat → Option Nat) (hN : ∀ i, i < N → ∃ c, m (r0 + i) = some c) (hE : m (r0 + N) = none) (hb : r0 + N < 9223372036854775807) :
    Gives F n Try.prog 23 #[.pointer (some ⟨Bx, 0, none⟩)] (encR r0 m) (MpR Bx a mb r0 m) N := by
  intro l J Jx W hM hY h0
  show CallsIn F n Try.prog 23 #[.func (.yield l) #[] #[], .pointer (some ⟨Bx, 0, none⟩)] W _
  have HM : Hid (∀ i V, J i V → MpR Bx a mb r0 m i V) := hM
  have HY := Lib.hid hY
  have HN := Lib.hid hN
  have HE := Lib.hid hE
  obtain ⟨c0, c5, c1, -⟩ := hM 0 W h0
  have c1 := c1 rfl
  clear hM hY hN hE
  refine callsIn_of_wp Try.func23 rfl hf ?_ hro
  simp only [Try.ntmps23, List.size_toArray, List.length_cons, List.length_nil, Nat.reduceAdd, Nat.reduceSub, Array.replicate_succ, Array.replicate_zero, List.push_toArray, List.append_toArray, List.nil_append, List.cons_append]
  gi_wp2
  clear c0 c5 c1
  gi_loopw [3] (fun p wr => ∃ i q : Nat, i ≤ N ∧ r0 + i = q ∧ p = .int .u64 (q : Int) ∧ J i wr) (fun p wr => r0 + N - (intOf p).toNat)
  case atStart => exact ⟨0, r0, Nat.zero_le _, rfl, rfl, h0⟩
  case round =>
    obtain ⟨i, q, hi, hq, rfl, hJ⟩ := hrel
    obtain ⟨c0, c5, -, f, sz, hmp, hfm⟩ := HM.out i wr hJ
    rw [hq] at hfm
    have HMP := Lib.hid hmp
    have HJ := Lib.hid hJ
    clear hmp
    by_cases hlt : i < N
    · obtain ⟨c, hc⟩ := HN.out i hlt
      obtain ⟨fn, tmps, assign, body, hy, hR⟩ := HY.out i wr hJ hlt
      unfold encR at hy
      rw [hq] at hc hy
      rw [hc] at hfm hy
      simp only [Option.getD_some] at hy
      have HFM := Lib.hid hfm
      have hwq : IntKind.u64.wrap ((q : Int) + 1) = (q : Int) + 1 := by rw [IntKind.wrap_u64]; omega
      have HQ : Hid (r0 + (i + 1) = q + 1 ∧ q < r0 + N) := ⟨by omega, by omega⟩
      clear hJ hfm hc hq
      gi_wp2_with (gi_at_lookup; refine wpListIn_mlook _ rfl _ _ rfl rfl HMP.out q (by have := HQ.out; omega) rfl ?_; rw [HFM.out])
      refine hR.mono ?_
      rintro e W3 (⟨rfl, hJ3⟩ | ⟨rfl, hJx3⟩)
      · gi_wp2
        go_roundw
        case rel => exact ⟨i + 1, q + 1, by omega, HQ.out.1, by go_num, hJ3⟩
        case measure => have := HQ.out; simp [intOf]; omega
      · gi_wp2
        refine bodyPost_ret (results_none rfl _ _ _) rfl ?_
        exact ⟨⟨_, rfl⟩, .inr ⟨i, hJx3⟩⟩
    · obtain rfl : N = i := by omega
      have hc := HE.out
      rw [hq] at hc
      rw [hc] at hfm
      have HFM := Lib.hid hfm
      have HQ : Hid (q < 9223372036854775807) := by unfold Hid; omega
      clear hJ hfm hc hq
      gi_wp2_with (gi_at_lookup; refine wpListIn_mlook _ rfl _ _ rfl rfl HMP.out q (by have := HQ.out; omega) rfl ?_; rw [HFM.out])
      refine ⟨fun _ h => (by cases h), ?_⟩
      gi_wp2
      refine bodyPost_ret (results_none rfl _ _ _) rfl ?_
      exact ⟨⟨_, rfl⟩, .inl HJ.out⟩

set_option maxRecDepth 100000 in
set_option maxHeartbeats 4000000 in
theorem ready_in (F : Fence) (n : Nat) (h14 : F.fn 14) (h22 : F.fn 22) (h23 : F.fn 23) (hro : F.round = none) (hn : 3 ≤ n) (a mb : Nat) (x : Rs.S) (w : World) (h : Bs w a mb x) (hok : Rs.Ok x) :
    CallsIn F n Try.prog 14 #[.pointer (some ⟨a, 0, none⟩)] w fun e w' => e = .returned (.int .i64 (Rs.ready x : Nat)) ∧ Below w.heap.size w w' := by
  have h1 : 1 ≤ n := by omega
  refine callsIn_of_wp_marks Try.func14 rfl h14 ?_ hro
  simp only [Try.ntmps14, List.size_toArray, List.length_cons, List.length_nil, Nat.reduceAdd, Nat.reduceSub, Array.replicate_succ, Array.replicate_zero, List.push_toArray, List.append_toArray, List.nil_append, List.cons_append]
  gi_wp2_with (gi_at_call 22; refine (row_in F (n - 1) h22 hro _ _).mono ?_; rintro e w' ⟨rfl, rfl⟩)
  obtain ⟨B, hB⟩ : ∃ B, w.heap.size = B := ⟨_, rfl⟩
  have hrl := Rs.runF_le x.m x.win x.rd
  have hrd : Rs.ready x ≤ 100000 := Nat.le_trans hrl hok.win
  have hr4 := hok.rd
  have hsz : ((w.alloc (.cells #[.int .i64 0] 3)).alloc (.cells #[.pointer (some ⟨a, 0, none⟩)] 25)).heap.size = B + 2 := by simp [hB]
  have hal : Below B w ((w.alloc (.cells #[.int .i64 0] 3)).alloc (.cells #[.pointer (some ⟨a, 0, none⟩)] 25)) := by rw [← hB]; exact ((Below.refl _ w).alloc (Nat.le_refl _) _).alloc (by simp) _
  have o0 : Obj ((w.alloc (.cells #[.int .i64 0] 3)).alloc (.cells #[.pointer (some ⟨a, 0, none⟩)] 25)) B 3 #[.int .i64 0] := by rw [← hB]; exact (Obj.new w _ _).kept ((Below.refl _ _).alloc (Nat.le_refl _) _)
  have o1 : Obj ((w.alloc (.cells #[.int .i64 0] 3)).alloc (.cells #[.pointer (some ⟨a, 0, none⟩)] 25)) (B + 1) 25 #[.pointer (some ⟨a, 0, none⟩)] := by
    have := Obj.new (w.alloc (.cells #[.int .i64 0] 3)) 25 #[.pointer (some ⟨a, 0, none⟩)]
    rw [World.size_alloc, hB] at this
    exact this
  have hlt := h.lt
  rw [hB] at hlt
  have hgr : ∀ (W V : World) (row : Option Nat), B + 2 ≤ W.heap.size → W.grownBy V row → (∀ r, row = some r → B + 2 ≤ r ∧ ∃ o : Go.Obj, W.heap[r]? = some o ∧ o.isCells = false) → ∀ k, k < B + 2 → V.heap[k]? = W.heap[k]? := fun W V row hs hg hr k hk =>
    hg.block k (by omega) (fun e => by have := (hr k e.symm).1; omega)
  have hBs := h.kept (by rw [hB]; exact hal)
  rw [hB]
  refine wpIn_rangeFunc_ix hro h1 (gf := 23) (lb := #[.pointer (some ⟨B + 1, 0, none⟩)]) rfl h23 (enters_of Try.func23 (by kernel_rfl) rfl)
    (row1_gives F (n - 1) h23 hro (by omega) (B + 1) a mb x.rd (Rs.ready x) x.m (fun i hi => Rs.ready_in x i hi) hok.stop (by omega)) (fun i => rfl)
    (fun i V => Obj V B 3 #[.int .i64 (i : Int)] ∧ Obj V (B + 1) 25 #[.pointer (some ⟨a, 0, none⟩)] ∧ Bs V a mb x ∧ Below B w V)
    (fun _ _ _ => False) ?own (fun _ _ _ _ _ hs _ _ => hs) ?tell ⟨o0, o1, hBs, hal⟩
    (fun i => { tmps := #[.pointer (some ⟨a, 0, none⟩), undef, .int .i64 0, .pointer (some ⟨B, 0, none⟩), .pointer (some ⟨a, 0, none⟩), .func (.func 23) #[] #[.pointer (some ⟨B + 1, 0, none⟩)], .int .u64 ((x.rd + i : Nat) : Int), .int .u8 (((x.m (x.rd + i)).getD 0 : Nat) : Int), undef, undef, undef], defers := [] }) ?assign ?body ?done ?stop
  case own =>
    rintro i W V row ⟨h1, h2, h3, h4⟩ hg hr
    rw [hsz] at hr
    have hW : B + 2 ≤ W.heap.size := h2.lt
    have hk := hgr W V row hW hg hr
    exact ⟨(hk _ (by omega)).trans h1, (hk _ (by omega)).trans h2, ⟨(hk a (by omega)).trans h3.1, h3.2.to (hk mb (by omega))⟩,
      ⟨hg.os.trans h4.os, hg.tape.trans h4.tape, hg.output.trans h4.output, Nat.le_trans h4.size hg.size, fun k hk' => (hk k (by omega)).trans (h4.block k hk')⟩⟩
  case tell =>
    rintro i V ⟨h1, h2, h3, h4⟩
    exact ⟨h2.cell 0, by rw [h3.1.cell]; rfl, fun _ => by rw [h3.1.cell]; rfl, _, _, h3.2, rfl⟩
  case assign =>
    intro l i W K hK
    unfold encR
    gi_wp2
    simpa using hK
  case body =>
    rintro l i W ⟨h1, h2, h3, h4⟩ hi
    have c0 := h1.cell 0
    have z0 := h1.free 0
    have hwi : IntKind.i64.wrap ((i : Int) + 1) = (i : Int) + 1 := by rw [IntKind.wrap_i64]; omega
    have hu : Upd B W (W.setCell ⟨B, 0, none⟩ (.int .i64 ((i + 1 : Nat) : Int))) := (Upd.refl B W).set _ _
    have HE : Hid (KeepsFrom (B + 2) W (W.setCell ⟨B, 0, none⟩ (.int .i64 ((i : Int) + 1))) ∧ Obj (W.setCell ⟨B, 0, none⟩ (.int .i64 ((i : Int) + 1))) B 3 #[.int .i64 ((i : Int) + 1)] ∧ Obj (W.setCell ⟨B, 0, none⟩ (.int .i64 ((i : Int) + 1))) (B + 1) 25 #[.pointer (some ⟨a, 0, none⟩)] ∧ Bs (W.setCell ⟨B, 0, none⟩ (.int .i64 ((i : Int) + 1))) a mb x ∧ Below B w (W.setCell ⟨B, 0, none⟩ (.int .i64 ((i : Int) + 1)))) := by
      refine ⟨(KeepsOthers.setCell _ _ _).from _, (h1.set 0 _).as rfl, h2.upd hu (by omega), ⟨h3.1.upd hu (by omega), h3.2.upd hu (by omega)⟩, ?_⟩
      exact ⟨hu.os.trans h4.os, hu.tape.trans h4.tape, hu.output.trans h4.output, Nat.le_trans h4.size hu.size, fun k hk => (hu.block k (by have := h4.size; omega) (by omega)).trans (h4.block k hk)⟩
    have hl := h1.lt
    clear h1 h2 h3 h4 hu
    gi_wp2
    refine And.intro ?_ ?_
    · rw [hsz]; exact HE.out.1
    · show Obj _ _ _ #[.int .i64 ((i + 1 : Nat) : Int)] ∧ _
      rw [show ((i + 1 : Nat) : Int) = (i : Int) + 1 by omega]; exact HE.out.2
  case done =>
    rintro D V hD ⟨h1, h2, h3, h4⟩ hK
    have c0 := h1.cell 0
    gi_wp2
    refine ⟨by simp, .inl ⟨_, _, rfl, run_takeDeferred hK, ?_⟩⟩
    refine ⟨_, results_tmp rfl _ _ _, rfl, ?_⟩
    rw [hsz] at hD
    rw [hB]
    exact h4.trans (belowK_b (n₀ := B) (w := w) (by omega) V D _ _ (by omega) hK rfl rfl)
  case stop =>
    rintro D c i V hD h _
    exact h.elim
end Go.Proofs.Ytghfgekmdcangaa.Rm
