/- Layer 15's ledger, walked: what Lost asks. -/
import Derived.Test.YtlldomgfjmkcdaaRows
import Derived.Test.YtlldomgfjmkcdaaAid
import Derived.Test.YtlldomgfjmkcdaaHeldT
import Derived.Test.YtlldomgfjmkcdaaLgW
import Derived.Test.YtlldomgfjmkcdaaLgC
import Derived.Test.YtlldomgfjmkcdaaLgE
import Derived.Test.YtlldomgfjmkcdaaLgT
import Derived.Deep.QuietTactic
import Derived.Deep.RegionHeld3
import Derived.BigQuiet
namespace Go.Proofs.Ytlldomgfjmkcdaa
open Go Go.RowKit
set_option linter.unusedVariables false
set_option linter.unusedSimpArgs false

/-- Is it lost? -/
def lostP (ak d nw : Nat) (p : PS) : Bool := decide (p.num + 1 < ak) && (decide (p.num + 4 ≤ ak) || decide (tadd p.tm d ≤ nw))

set_option maxRecDepth 100000 in
set_option maxHeartbeats 4000000 in
theorem lost1_any (b1 b2 b3 a ak d nw : Nat) (p : PS) (W : World) (h1 : W.cell? ⟨b1, 0, none⟩ = some (.pointer (some ⟨a, 0, none⟩))) (h2 : W.cell? ⟨b2, 0, none⟩ = some (.int .u64 (d : Int))) (h3 : W.cell? ⟨b3, 0, none⟩ = some (.int .u64 (nw : Int))) (h4 : W.cell? ⟨a, 2, none⟩ = some (.int .i64 (ak : Int)))
    (hak : ak ≤ 1000000) (hnum : p.num ≤ 1000000) (htm : p.tm ≤ 18446744073709551615) (hd : d ≤ 18446744073709551615) :
    Calls Try.prog 31 (#[.agg #[.int .i64 (p.num : Int), .int .u64 (p.tm : Int), .int .i64 (p.sz : Int), .bool p.ask, .slice p.fa p.fn p.fc]] ++ #[.pointer (some ⟨b1, 0, none⟩), .pointer (some ⟨b2, 0, none⟩), .pointer (some ⟨b3, 0, none⟩)]) W fun e W' => e = .returned (.bool (lostP ak d nw p)) ∧ Below W.heap.size W W' := by
  obtain ⟨num, tm, sz, ask, fa, fn, fc⟩ := p
  dsimp only at hnum htm
  obtain ⟨S, hS⟩ : ∃ S, W.heap.size = S := ⟨_, rfl⟩
  obtain ⟨V1, hV1⟩ : ∃ V1, W.alloc (.cells #[.int .i64 (num : Int), .int .u64 (tm : Int), .int .i64 (sz : Int), .bool ask, .slice fa fn fc] 32) = V1 := ⟨_, rfl⟩
  have hb : Below W.heap.size W V1 := hV1 ▸ (Below.refl _ W).alloc (Nat.le_refl _) _
  have o1 : Obj V1 S 32 #[.int .i64 (num : Int), .int .u64 (tm : Int), .int .i64 (sz : Int), .bool ask, .slice fa fn fc] := hV1 ▸ hS ▸ Obj.new W _ _
  have k1 : V1.cell? ⟨b1, 0, none⟩ = some (.pointer (some ⟨a, 0, none⟩)) := (World.cell?_of_block (a := ⟨b1, 0, none⟩) (hb.block b1 (World.block_lt_of_cell? W _ h1))).trans h1
  have k2 : V1.cell? ⟨b2, 0, none⟩ = some (.int .u64 (d : Int)) := (World.cell?_of_block (a := ⟨b2, 0, none⟩) (hb.block b2 (World.block_lt_of_cell? W _ h2))).trans h2
  have k3 : V1.cell? ⟨b3, 0, none⟩ = some (.int .u64 (nw : Int)) := (World.cell?_of_block (a := ⟨b3, 0, none⟩) (hb.block b3 (World.block_lt_of_cell? W _ h3))).trans h3
  have k4 : V1.cell? ⟨a, 2, none⟩ = some (.int .i64 (ak : Int)) := (World.cell?_of_block (a := ⟨a, 2, none⟩) (hb.block a (World.block_lt_of_cell? W _ h4))).trans h4
  have s0 : V1.cell? ⟨S, 0, none⟩ = some (.int .i64 (num : Int)) := by rw [o1.cell]; rfl
  have s1 : V1.cell? ⟨S, 1, none⟩ = some (.int .u64 (tm : Int)) := by rw [o1.cell]; rfl
  have e1 : IntKind.i64.wrap ((ak : Int) - 1) = (ak : Int) - 1 := by rw [IntKind.wrap_i64]; omega
  have e2 : IntKind.i64.wrap ((ak : Int) - 1 - 3) = (ak : Int) - 1 - 3 := by rw [IntKind.wrap_i64]; omega
  have HB := Lib.hid hb
  clear h1 h2 h3 h4 hb o1
  by_cases c1 : num + 1 < ak
  · have d1 : (num : Int) < (ak : Int) - 1 := by omega
    by_cases c2 : num + 4 ≤ ak
    · have d2 : (num : Int) ≤ (ak : Int) - 1 - 3 := by omega
      have HR : Hid (lostP ak d nw ⟨num, tm, sz, ask, fa, fn, fc⟩ = true) := by unfold Hid lostP; simp [c1, c2]
      rw [HR.out]
      go_enter Try.func31, Try.ntmps31
      go_wp2
      go_quiet (fail)
      rename_i nq
      go_wp2
      go_ret
      exact ⟨rfl, below_drewN HB.out nq⟩
    · have d2 : ¬ (num : Int) ≤ (ak : Int) - 1 - 3 := by omega
      have HT := Lib.hid (tadd_any tm d V1.drew htm hd)
      have D1 : decide ((num : Int) < (ak : Int) - 1) = true := by simp; omega
      have D2 : decide ((num : Int) ≤ (ak : Int) - 1 - 3) = false := by simp; omega
      have HR : Hid (lostP ak d nw ⟨num, tm, sz, ask, fa, fn, fc⟩ = decide (tadd tm d ≤ nw)) := by unfold Hid lostP; simp [c1, c2]
      rw [HR.out]
      generalize tadd tm d = t at *
      have HDR : Hid (∀ wD, Below V1.drew.heap.size V1.drew wD → Below W.heap.size W wD ∧ wD.cell? ⟨S, 0, none⟩ = some (.int .i64 (num : Int)) ∧ wD.cell? ⟨S, 1, none⟩ = some (.int .u64 (tm : Int)) ∧ wD.cell? ⟨b1, 0, none⟩ = some (.pointer (some ⟨a, 0, none⟩)) ∧ wD.cell? ⟨a, 2, none⟩ = some (.int .i64 (ak : Int)) ∧ wD.cell? ⟨b2, 0, none⟩ = some (.int .u64 (d : Int)) ∧ wD.cell? ⟨b3, 0, none⟩ = some (.int .u64 (nw : Int))) := fun wD h => by
        have hx : Below V1.heap.size V1 wD := (Below.refl _ V1).drew.trans h
        have tr : ∀ (q : Addr) (v : Value), V1.cell? q = some v → wD.cell? q = some v := fun q v hv => (World.cell?_of_block (hx.block q.block (World.block_lt_of_cell? V1 _ hv))).trans hv
        exact ⟨HB.out.trans (hx.mono HB.out.size), tr _ _ s0, tr _ _ s1, tr _ _ k1, tr _ _ k4, tr _ _ k2, tr _ _ k3⟩
      go_enter Try.func31, Try.ntmps31
      go_wp2
      refine wp_region_held_drew (S := (fun wq => wq.cell? ⟨S, 0, none⟩ = some (.int .i64 (num : Int)) ∧ wq.cell? ⟨S, 1, none⟩ = some (.int .u64 (tm : Int)) ∧ wq.cell? ⟨b1, 0, none⟩ = some (.pointer (some ⟨a, 0, none⟩)) ∧ wq.cell? ⟨a, 2, none⟩ = some (.int .i64 (ak : Int)) ∧ wq.cell? ⟨b2, 0, none⟩ = some (.int .u64 (d : Int)) ∧ wq.cell? ⟨b3, 0, none⟩ = some (.int .u64 (nw : Int)))) (by kernel_rfl) ⟨s0, s1, k1, k4, k2, k3⟩ (fun hHeld => ?_)
      refine wpAnyH_take (i := 0) (oi := ?_) (v := ?_) ?_ ?_ ?_ ?_ ?_ ?_ (by assumption) ?_
      rotate_left 2
      · simp only [List.getElem?_toArray, List.getElem?_cons_zero, List.getElem?_cons_succ]
        rfl
      · kernel_rfl
      · kernel_rfl
      · kernel_rfl
      · exact fun _ _ _ h => h
      · refine Or.inl ⟨by rfl, ?_⟩
        intro w hSw
        (try dsimp only at hSw)
        go_simp
        all_goals with_reducible rfl
      simp only [Act.put, List.setIfInBounds_toArray, List.set_cons_zero, List.set_cons_succ]
      refine wpAnyH_take (i := 1) (oi := ?_) (v := ?_) ?_ ?_ ?_ ?_ ?_ ?_ (by assumption) ?_
      rotate_left 2
      · simp only [List.getElem?_toArray, List.getElem?_cons_zero, List.getElem?_cons_succ]
        rfl
      · kernel_rfl
      · kernel_rfl
      · kernel_rfl
      · exact fun _ _ _ h => h
      · refine Or.inl ⟨by rfl, ?_⟩
        intro w' hSw
        obtain ⟨q0, q1, q2, q3, q4, q5⟩ := hSw
        go_simp
        all_goals with_reducible rfl
      simp only [Act.put, List.setIfInBounds_toArray, List.set_cons_zero, List.set_cons_succ]
      refine wpAnyH_take (i := 2) (oi := ?_) (v := ?_) ?_ ?_ ?_ ?_ ?_ ?_ (by assumption) ?_
      rotate_left 2
      · simp only [List.getElem?_toArray, List.getElem?_cons_zero, List.getElem?_cons_succ]
        rfl
      · kernel_rfl
      · kernel_rfl
      · kernel_rfl
      · exact fun _ _ _ h => h
      · refine Or.inl ⟨by rfl, ?_⟩
        intro w' hSw
        obtain ⟨q0, q1, q2, q3, q4, q5⟩ := hSw
        go_simp
        all_goals with_reducible rfl
      simp only [Act.put, List.setIfInBounds_toArray, List.set_cons_zero, List.set_cons_succ]
      refine wpAnyH_take (i := 3) (oi := ?_) (v := ?_) ?_ ?_ ?_ ?_ ?_ ?_ (by assumption) ?_
      rotate_left 2
      · simp only [List.getElem?_toArray, List.getElem?_cons_zero, List.getElem?_cons_succ]
        rfl
      · kernel_rfl
      · kernel_rfl
      · kernel_rfl
      · exact fun _ _ _ h => h
      · refine Or.inl ⟨by rfl, ?_⟩
        intro w hSw
        (try dsimp only at hSw)
        go_simp
        all_goals with_reducible rfl
      simp only [Act.put, List.setIfInBounds_toArray, List.set_cons_zero, List.set_cons_succ]
      refine wpAnyH_take (i := 4) (oi := ?_) (v := ?_) ?_ ?_ ?_ ?_ ?_ ?_ (by assumption) ?_
      rotate_left 2
      · simp only [List.getElem?_toArray, List.getElem?_cons_zero, List.getElem?_cons_succ]
        rfl
      · kernel_rfl
      · kernel_rfl
      · kernel_rfl
      · exact fun _ _ _ h => h
      · refine Or.inl ⟨by rfl, ?_⟩
        intro w hSw
        (try dsimp only at hSw)
        go_simp
        all_goals with_reducible rfl
      simp only [Act.put, List.setIfInBounds_toArray, List.set_cons_zero, List.set_cons_succ]
      refine wpAnyH_take (i := 5) (oi := ?_) (v := ?_) ?_ ?_ ?_ ?_ ?_ ?_ (by assumption) ?_
      rotate_left 2
      · simp only [List.getElem?_toArray, List.getElem?_cons_zero, List.getElem?_cons_succ]
        rfl
      · kernel_rfl
      · kernel_rfl
      · kernel_rfl
      · exact fun _ _ _ h => h
      · refine Or.inl ⟨by rfl, ?_⟩
        intro w' hSw
        obtain ⟨q0, q1, q2, q3, q4, q5⟩ := hSw
        go_simp
        all_goals with_reducible rfl
      simp only [Act.put, List.setIfInBounds_toArray, List.set_cons_zero, List.set_cons_succ]
      refine wpAnyH_take (i := 6) (oi := ?_) (v := ?_) ?_ ?_ ?_ ?_ ?_ ?_ (by assumption) ?_
      rotate_left 2
      · simp only [List.getElem?_toArray, List.getElem?_cons_zero, List.getElem?_cons_succ]
        rfl
      · kernel_rfl
      · kernel_rfl
      · kernel_rfl
      · exact fun _ _ _ h => h
      · refine Or.inl ⟨by rfl, ?_⟩
        intro w hSw
        (try dsimp only at hSw)
        go_simp
        all_goals with_reducible rfl
      simp only [Act.put, List.setIfInBounds_toArray, List.set_cons_zero, List.set_cons_succ]
      refine wpAnyH_take (i := 7) (oi := ?_) (v := (.bool true)) ?_ ?_ ?_ ?_ ?_ ?_ (by assumption) ?_
      rotate_left 1
      · simp only [List.getElem?_toArray, List.getElem?_cons_zero, List.getElem?_cons_succ]
        rfl
      · kernel_rfl
      · kernel_rfl
      · kernel_rfl
      · exact fun _ _ _ h => h
      · refine Or.inl ⟨by rfl, ?_⟩
        intro w' hSw
        go_simp
        (try rw [D1])
      simp only [Act.put, List.setIfInBounds_toArray, List.set_cons_zero, List.set_cons_succ]
      refine wpAnyH_take (i := 8) (oi := ?_) (v := ?_) ?_ ?_ ?_ ?_ ?_ ?_ (by assumption) ?_
      rotate_left 2
      · simp only [List.getElem?_toArray, List.getElem?_cons_zero, List.getElem?_cons_succ]
        rfl
      · kernel_rfl
      · kernel_rfl
      · kernel_rfl
      · exact fun _ _ _ h => h
      · refine Or.inl ⟨by rfl, ?_⟩
        intro w hSw
        (try dsimp only at hSw)
        go_simp
        all_goals with_reducible rfl
      simp only [Act.put, List.setIfInBounds_toArray, List.set_cons_zero, List.set_cons_succ]
      refine wpAnyH_take (i := 9) (oi := ?_) (v := ?_) ?_ ?_ ?_ ?_ ?_ ?_ (by assumption) ?_
      rotate_left 2
      · simp only [List.getElem?_toArray, List.getElem?_cons_zero, List.getElem?_cons_succ]
        rfl
      · kernel_rfl
      · kernel_rfl
      · kernel_rfl
      · exact fun _ _ _ h => h
      · refine Or.inl ⟨by rfl, ?_⟩
        intro w hSw
        (try dsimp only at hSw)
        go_simp
        all_goals with_reducible rfl
      simp only [Act.put, List.setIfInBounds_toArray, List.set_cons_zero, List.set_cons_succ]
      refine wpAnyH_take (i := 10) (oi := ?_) (v := ?_) ?_ ?_ ?_ ?_ ?_ ?_ (by assumption) ?_
      rotate_left 2
      · simp only [List.getElem?_toArray, List.getElem?_cons_zero, List.getElem?_cons_succ]
        rfl
      · kernel_rfl
      · kernel_rfl
      · kernel_rfl
      · exact fun _ _ _ h => h
      · refine Or.inl ⟨by rfl, ?_⟩
        intro w' hSw
        obtain ⟨q0, q1, q2, q3, q4, q5⟩ := hSw
        go_simp
        all_goals with_reducible rfl
      simp only [Act.put, List.setIfInBounds_toArray, List.set_cons_zero, List.set_cons_succ]
      refine wpAnyH_take (i := 11) (oi := ?_) (v := ?_) ?_ ?_ ?_ ?_ ?_ ?_ (by assumption) ?_
      rotate_left 2
      · simp only [List.getElem?_toArray, List.getElem?_cons_zero, List.getElem?_cons_succ]
        rfl
      · kernel_rfl
      · kernel_rfl
      · kernel_rfl
      · exact fun _ _ _ h => h
      · refine Or.inl ⟨by rfl, ?_⟩
        intro w' hSw
        obtain ⟨q0, q1, q2, q3, q4, q5⟩ := hSw
        go_simp
        all_goals with_reducible rfl
      simp only [Act.put, List.setIfInBounds_toArray, List.set_cons_zero, List.set_cons_succ]
      refine wpAnyH_take (i := 12) (oi := ?_) (v := ?_) ?_ ?_ ?_ ?_ ?_ ?_ (by assumption) ?_
      rotate_left 2
      · simp only [List.getElem?_toArray, List.getElem?_cons_zero, List.getElem?_cons_succ]
        rfl
      · kernel_rfl
      · kernel_rfl
      · kernel_rfl
      · exact fun _ _ _ h => h
      · refine Or.inl ⟨by rfl, ?_⟩
        intro w hSw
        (try dsimp only at hSw)
        go_simp
        all_goals with_reducible rfl
      simp only [Act.put, List.setIfInBounds_toArray, List.set_cons_zero, List.set_cons_succ]
      refine wpAnyH_take (i := 13) (oi := ?_) (v := ?_) ?_ ?_ ?_ ?_ ?_ ?_ (by assumption) ?_
      rotate_left 2
      · simp only [List.getElem?_toArray, List.getElem?_cons_zero, List.getElem?_cons_succ]
        rfl
      · kernel_rfl
      · kernel_rfl
      · kernel_rfl
      · exact fun _ _ _ h => h
      · refine Or.inl ⟨by rfl, ?_⟩
        intro w hSw
        (try dsimp only at hSw)
        go_simp
        all_goals with_reducible rfl
      simp only [Act.put, List.setIfInBounds_toArray, List.set_cons_zero, List.set_cons_succ]
      refine wpAnyH_take (i := 14) (oi := ?_) (v := ?_) ?_ ?_ ?_ ?_ ?_ ?_ (by assumption) ?_
      rotate_left 2
      · simp only [List.getElem?_toArray, List.getElem?_cons_zero, List.getElem?_cons_succ]
        rfl
      · kernel_rfl
      · kernel_rfl
      · kernel_rfl
      · exact fun _ _ _ h => h
      · refine Or.inl ⟨by rfl, ?_⟩
        intro w' hSw
        obtain ⟨q0, q1, q2, q3, q4, q5⟩ := hSw
        go_simp
        all_goals with_reducible rfl
      simp only [Act.put, List.setIfInBounds_toArray, List.set_cons_zero, List.set_cons_succ]
      refine wpAnyH_take (i := 15) (oi := ?_) (v := ?_) ?_ ?_ ?_ ?_ ?_ ?_ (by assumption) ?_
      rotate_left 2
      · simp only [List.getElem?_toArray, List.getElem?_cons_zero, List.getElem?_cons_succ]
        rfl
      · kernel_rfl
      · kernel_rfl
      · kernel_rfl
      · exact fun _ _ _ h => h
      · refine Or.inl ⟨by rfl, ?_⟩
        intro w hSw
        (try dsimp only at hSw)
        go_simp
        all_goals with_reducible rfl
      simp only [Act.put, List.setIfInBounds_toArray, List.set_cons_zero, List.set_cons_succ]
      refine wpAnyH_take (i := 16) (oi := ?_) (v := ?_) ?_ ?_ ?_ ?_ ?_ ?_ (by assumption) ?_
      rotate_left 2
      · simp only [List.getElem?_toArray, List.getElem?_cons_zero, List.getElem?_cons_succ]
        rfl
      · kernel_rfl
      · kernel_rfl
      · kernel_rfl
      · exact fun _ _ _ h => h
      · refine Or.inl ⟨by rfl, ?_⟩
        intro w hSw
        (try dsimp only at hSw)
        go_simp
        all_goals with_reducible rfl
      simp only [Act.put, List.setIfInBounds_toArray, List.set_cons_zero, List.set_cons_succ]
      refine wpAnyH_take (i := 17) (oi := ?_) (v := (.bool false)) ?_ ?_ ?_ ?_ ?_ ?_ (by assumption) ?_
      rotate_left 1
      · simp only [List.getElem?_toArray, List.getElem?_cons_zero, List.getElem?_cons_succ]
        rfl
      · kernel_rfl
      · kernel_rfl
      · kernel_rfl
      · exact fun _ _ _ h => h
      · refine Or.inl ⟨by rfl, ?_⟩
        intro w' hSw
        go_simp
        (try rw [D2])
      simp only [Act.put, List.setIfInBounds_toArray, List.set_cons_zero, List.set_cons_succ]
      refine wpAnyH_take (i := 18) (oi := ?_) (v := ?_) ?_ ?_ ?_ ?_ ?_ ?_ (by assumption) ?_
      rotate_left 2
      · simp only [List.getElem?_toArray, List.getElem?_cons_zero, List.getElem?_cons_succ]
        rfl
      · kernel_rfl
      · kernel_rfl
      · kernel_rfl
      · exact fun _ _ _ h => h
      · refine Or.inl ⟨by rfl, ?_⟩
        intro w hSw
        (try dsimp only at hSw)
        go_simp
        all_goals with_reducible rfl
      simp only [Act.put, List.setIfInBounds_toArray, List.set_cons_zero, List.set_cons_succ]
      refine wpAnyH_take (i := 19) (oi := ?_) (v := ?_) ?_ ?_ ?_ ?_ ?_ ?_ (by assumption) ?_
      rotate_left 2
      · simp only [List.getElem?_toArray, List.getElem?_cons_zero, List.getElem?_cons_succ]
        rfl
      · kernel_rfl
      · kernel_rfl
      · kernel_rfl
      · exact fun _ _ _ h => h
      · refine Or.inl ⟨by rfl, ?_⟩
        intro w hSw
        (try dsimp only at hSw)
        go_simp
        all_goals with_reducible rfl
      simp only [Act.put, List.setIfInBounds_toArray, List.set_cons_zero, List.set_cons_succ]
      refine wpAnyH_take (i := 20) (oi := ?_) (v := ?_) ?_ ?_ ?_ ?_ ?_ ?_ (by assumption) ?_
      rotate_left 2
      · simp only [List.getElem?_toArray, List.getElem?_cons_zero, List.getElem?_cons_succ]
        rfl
      · kernel_rfl
      · kernel_rfl
      · kernel_rfl
      · exact fun _ _ _ h => h
      · refine Or.inl ⟨by rfl, ?_⟩
        intro w' hSw
        obtain ⟨q0, q1, q2, q3, q4, q5⟩ := hSw
        go_simp
        all_goals with_reducible rfl
      simp only [Act.put, List.setIfInBounds_toArray, List.set_cons_zero, List.set_cons_succ]
      refine wpAnyH_take (i := 21) (oi := ?_) (v := ?_) ?_ ?_ ?_ ?_ ?_ ?_ (by assumption) ?_
      rotate_left 2
      · simp only [List.getElem?_toArray, List.getElem?_cons_zero, List.getElem?_cons_succ]
        rfl
      · kernel_rfl
      · kernel_rfl
      · kernel_rfl
      · exact fun _ _ _ h => h
      · refine Or.inl ⟨by rfl, ?_⟩
        intro w' hSw
        obtain ⟨q0, q1, q2, q3, q4, q5⟩ := hSw
        go_simp
        all_goals with_reducible rfl
      simp only [Act.put, List.setIfInBounds_toArray, List.set_cons_zero, List.set_cons_succ]
      refine wpAnyH_take (i := 23) (oi := ?_) (v := ?_) ?_ ?_ ?_ ?_ ?_ ?_ (by assumption) ?_
      rotate_left 2
      · simp only [List.getElem?_toArray, List.getElem?_cons_zero, List.getElem?_cons_succ]
        rfl
      · kernel_rfl
      · kernel_rfl
      · kernel_rfl
      · exact fun _ _ _ h => h
      · refine Or.inl ⟨by rfl, ?_⟩
        intro w' hSw
        obtain ⟨q0, q1, q2, q3, q4, q5⟩ := hSw
        go_simp
        all_goals with_reducible rfl
      simp only [Act.put, List.setIfInBounds_toArray, List.set_cons_zero, List.set_cons_succ]
      refine wpAnyH_ready (rs := [22]) (by kernel_rfl) (by simp) ?_
      refine AllReadyH.cons (o := ?_) ?_ (fun KK hKK => ?_) AllReadyH.nil
      rotate_left
      · simp only [List.getElem?_toArray, List.getElem?_cons_zero, List.getElem?_cons_succ]
        rfl
      go_simp
      refine HT.out.mono ?_; rintro e wD ⟨rfl, hbD⟩
      try go_wp2_with fail
      obtain ⟨hbW, hkeep⟩ := HDR.out wD hbD
      refine hKK.out _ _ ?_ (fun hh1 => ?_)
      · (try dsimp only)
        exact hkeep
      clear hKK KK
      try simp only [Act.put, List.setIfInBounds_toArray, List.set_cons_zero, List.set_cons_succ]
      refine wpAnyH_take (i := 24) (oi := ?_) (v := ?_) ?_ ?_ ?_ ?_ ?_ ?_ (by assumption) ?_
      rotate_left 2
      · simp only [List.getElem?_toArray, List.getElem?_cons_zero, List.getElem?_cons_succ]
        rfl
      · kernel_rfl
      · kernel_rfl
      · kernel_rfl
      · exact fun _ _ _ h => h
      · refine Or.inl ⟨by rfl, ?_⟩
        intro w hSw
        (try dsimp only at hSw)
        go_simp
        all_goals with_reducible rfl
      simp only [Act.put, List.setIfInBounds_toArray, List.set_cons_zero, List.set_cons_succ]
      refine wpAnyH_take (i := 25) (oi := ?_) (v := ?_) ?_ ?_ ?_ ?_ ?_ ?_ (by assumption) ?_
      rotate_left 2
      · simp only [List.getElem?_toArray, List.getElem?_cons_zero, List.getElem?_cons_succ]
        rfl
      · kernel_rfl
      · kernel_rfl
      · kernel_rfl
      · exact fun _ _ _ h => h
      · refine Or.inl ⟨by rfl, ?_⟩
        intro w hSw
        (try dsimp only at hSw)
        go_simp
        all_goals with_reducible rfl
      simp only [Act.put, List.setIfInBounds_toArray, List.set_cons_zero, List.set_cons_succ]
      refine wpAnyH_take (i := 26) (oi := ?_) (v := ?_) ?_ ?_ ?_ ?_ ?_ ?_ (by assumption) ?_
      rotate_left 2
      · simp only [List.getElem?_toArray, List.getElem?_cons_zero, List.getElem?_cons_succ]
        rfl
      · kernel_rfl
      · kernel_rfl
      · kernel_rfl
      · exact fun _ _ _ h => h
      · refine Or.inl ⟨by rfl, ?_⟩
        intro w hSw
        (try dsimp only at hSw)
        go_simp
        all_goals with_reducible rfl
      simp only [Act.put, List.setIfInBounds_toArray, List.set_cons_zero, List.set_cons_succ]
      refine wpAnyH_take (i := 27) (oi := ?_) (v := ?_) ?_ ?_ ?_ ?_ ?_ ?_ (by assumption) ?_
      rotate_left 2
      · simp only [List.getElem?_toArray, List.getElem?_cons_zero, List.getElem?_cons_succ]
        rfl
      · kernel_rfl
      · kernel_rfl
      · kernel_rfl
      · exact fun _ _ _ h => h
      · refine Or.inl ⟨by rfl, ?_⟩
        intro w hSw
        (try dsimp only at hSw)
        go_simp
        all_goals with_reducible rfl
      simp only [Act.put, List.setIfInBounds_toArray, List.set_cons_zero, List.set_cons_succ]
      refine wpAnyH_done (by kernel_rfl) ?_ _
      go_wp2
      go_ret
      exact ⟨by simp, hbW⟩
  · have d1 : ¬ (num : Int) < (ak : Int) - 1 := by omega
    have D1 : decide ((num : Int) < (ak : Int) - 1) = false := by simp; omega
    have HR : Hid (lostP ak d nw ⟨num, tm, sz, ask, fa, fn, fc⟩ = false) := by unfold Hid lostP; simp [c1]
    rw [HR.out]
    go_enter Try.func31, Try.ntmps31
    go_wp2
    go_quiet (fail)
    rename_i nq
    go_wp2
    go_ret
    exact ⟨rfl, below_drewN HB.out nq⟩
end Go.Proofs.Ytlldomgfjmkcdaa
