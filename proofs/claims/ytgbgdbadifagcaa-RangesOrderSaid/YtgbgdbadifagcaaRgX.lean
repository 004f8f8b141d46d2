/- Layer 13's ranges, walked: Old, Largest, Ranges. -/
import Derived.Test.YtgbgdbadifagcaaRows
import Derived.Test.YtgbgdbadifagcaaAid
import Derived.Test.YtgbgdbadifagcaaPlainRg
import Derived.Test.YtgbgdbadifagcaaRgW
import Derived.WalkKit
import Derived.Laws.Rows
import Derived.Laws.Tables
import Derived.Laws.AppendOwn
import Derived.OwnWalk
import Derived.WalkSpells
import Derived.WalkLawsBesides
import Derived.Deep.QuietTactic
import Derived.RegionTactic
import Derived.Handy
import Derived.Lib.Hide
import Derived.IntWalk
import Derived.Shelf.SlicesE.Clone
import Derived.Test.YtgbgdbadifagcaaRgLay
namespace Go.Proofs.Ytgbgdbadifagcaa
open Go.RowKit Go.Shelf Go.Lib Go.Sort
set_option linter.unusedVariables false
set_option linter.unusedSimpArgs false

theorem infoRm : (Try.prog.info? 41).map (fun i => (i.zero, i.size, i.bytes)) = some (some (.agg #[u64v 0, u64v 0]), 2, 16) := by kernel_rfl
theorem infoR : ∃ i0, Try.prog.info? 41 = some i0 ∧ i0.zero = some (.agg #[u64v 0, u64v 0]) ∧ i0.size = 2 ∧ i0.bytes = 16 := info_parts infoRm

theorem own_row {w : World} {base n : Nat} {v : Value} {l : List Rg.R} (h : w.ownsRow base 41 2 v n (flat l)) : ∃ g, RowR w v g l ∧ (l ≠ [] → base ≤ g) ∧ n = l.length := by
  have hn : n = l.length := by have := h.1; rw [flat_length] at this; omega
  subst hn
  rcases h.2 with ⟨rfl, h0⟩ | ⟨g, cap, cur, rfl, hb, hg, hnc, hcm, hcs, ht⟩
  · have : l = [] := List.length_eq_zero_iff.1 h0
    exact ⟨0, Or.inl ⟨rfl, this⟩, fun h => absurd this h, rfl⟩
  · refine ⟨g, Or.inr ⟨cap, cur.toList.drop (l.length * 2), rfl, hnc, hcm, by simp; omega, ?_⟩, fun _ => hb, rfl⟩
    unfold Obj
    rw [hg, ← ht, List.take_append_drop]

set_option maxHeartbeats 1000000 in
theorem old_any (a g n old : Nat) (l : List Rg.R) (w : World) (hS : St w a g l old) :
    Calls Try.prog 11 #[.pointer (some ⟨a, 0, none⟩), u64v n] w fun e w' => e = .returned (.bool (decide (n < old))) ∧ w = w' := by
  obtain ⟨v, hO, hR⟩ := hS
  have f0 : w.cell? ⟨a, 1, none⟩ = some (u64v old) := by rw [hO.cell]; rfl
  clear hO hR
  obtain ⟨B, hB⟩ : ∃ B, decide (n < old) = B := ⟨_, rfl⟩
  have HD := Lib.hid hB
  rw [hB]
  clear hB
  unfold u64v at *
  go_enter Try.func11, Try.ntmps11
  go_wp2
  go_ret
  exact ⟨by rw [← HD.out]; rfl, rfl⟩

def topOf (l : List Rg.R) : Int := if l.length = 0 then -1 else ((l.getD 0 (0, 0)).2 : Int)

set_option maxHeartbeats 1000000 in
theorem largest_any (a g old : Nat) (l : List Rg.R) (w : World) (hS : St w a g l old) (hm : ∀ r ∈ l, r.2 ≤ 4611686018427387903) (hlen : l.length ≤ 1000000) :
    Calls Try.prog 13 #[.pointer (some ⟨a, 0, none⟩)] w fun e w' => e = .returned (.int .i64 (topOf l)) ∧ w = w' := by
  obtain ⟨v, hO, hR⟩ := hS
  unfold topOf
  by_cases h0 : l.length = 0
  · rw [if_pos h0]
    obtain ⟨base, c, rfl, hb, hg⟩ := hR.nilOr
    have f0 : w.cell? ⟨a, 0, none⟩ = some (.slice base l.length c) := by rw [hO.cell]; rfl
    rw [h0] at f0
    clear hO hR hb hg
    go_enter Try.func13, Try.ntmps13
    go_wp2
    go_ret
    exact ⟨rfl, rfl⟩
  · rw [if_neg h0]
    obtain ⟨c, rfl, f1, f2⟩ := hR.cells (i := 0) (by omega)
    have f0 : w.cell? ⟨a, 0, none⟩ = some (.slice (some ⟨g, 0, none⟩) l.length c) := by rw [hO.cell]; rfl
    have hx := hm _ (Rg.getD_mem (i := 0) (by omega))
    generalize (l.getD 0 (0, 0)).2 = y at *
    have h1 : (0 : Int) < (l.length : Int) := by omega
    have h2 : ¬ (l.length : Int) = 0 := by omega
    generalize l.length = m at *
    rw [show 0 * 2 + 1 = 1 by rfl] at f2
    unfold u64v at *
    clear hO hR f1
    have hw : IntKind.i64.wrap (y : Int) = (y : Int) := by rw [IntKind.wrap_i64]; omega
    go_enter Try.func13, Try.ntmps13
    go_wp2
    go_ret
    exact ⟨rfl, rfl⟩

set_option maxHeartbeats 1000000 in
theorem ranges_any (a g old : Nat) (l : List Rg.R) (w : World) (hS : St w a g l old) (hlen : l.length ≤ 1000000) :
    Calls Try.prog 12 #[.pointer (some ⟨a, 0, none⟩)] w fun e w' => ∃ v g', e = .returned v ∧ RowR w' v g' l ∧ (l ≠ [] → w.heap.size ≤ g') ∧ Below w.heap.size w w' := by
  obtain ⟨v, hO, hR⟩ := hS
  have f0 : w.cell? ⟨a, 0, none⟩ = some v := by rw [hO.cell]; rfl
  rcases hR with ⟨rfl, rfl⟩ | ⟨c, rest, rfl, h2, h3, h4, h⟩
  · have HC := Lib.hid (AnyE.slices_Clone_nil Ytgbgdbadifagcaa.clone 0 0 w)
    clear hO
    go_enter Try.func12, Try.ntmps12
    go_wp2_with fail
    refine HC.out.mono ?_
    rintro e w1 ⟨rfl, rfl⟩
    go_wp2
    go_ret
    exact ⟨_, 0, rfl, Or.inl ⟨rfl, rfl⟩, fun h => absurd rfl h, Below.refl _ _⟩
  · obtain ⟨i0, hi0, hz0, hz1, hz2⟩ := infoR
    have hfl := flat_length l
    have HC := Lib.hid (AnyE.slices_Clone Ytgbgdbadifagcaa.clone i0 _ 2 16 hi0 hz0 hz1 hz2 rfl (by omega) (fun w => by kernel_rfl) g 0 l.length c (flat l) w (by omega) (by simp only [maxLen]; omega) (by omega)
      (fun j u hj => by rw [h.cell, Nat.zero_add, List.getElem?_toArray, List.getElem?_append_left (by have := (List.getElem?_eq_some_iff.1 hj).1; omega), hj]) (flat_one l))
    clear hO h hi0 hz0 hz1 hz2 h4
    go_enter Try.func12, Try.ntmps12
    go_wp2_with fail
    refine HC.out.mono ?_
    rintro e w1 ⟨v', rfl, hown, hne, hb1⟩
    have HO := Lib.hid hown
    have HB := Lib.hid hb1
    clear hown hb1
    go_wp2
    go_ret
    obtain ⟨g', k1, k2, _⟩ := own_row HO.out
    exact ⟨v', g', rfl, k1, k2, HB.out⟩
end Go.Proofs.Ytgbgdbadifagcaa
