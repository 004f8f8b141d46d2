/- Layer 13's ranges, walked: Forget. -/
import Derived.Test.YtgbgdbadifagcaaRows
import Derived.Test.YtgbgdbadifagcaaAid
import Derived.Test.YtgbgdbadifagcaaPlainRg
import Derived.Test.YtgbgdbadifagcaaRgW
import Derived.Test.YtgbgdbadifagcaaRgX
import Derived.Test.YtgbgdbadifagcaaRgI
import Derived.Test.YtgbgdbadifagcaaRgJ
import Derived.WalkKit
import Derived.Laws.Rows
import Derived.Laws.Tables
import Derived.WalkSpells
import Derived.WalkLawsBesides
import Derived.Deep.QuietTactic
import Derived.BigQuiet
import Derived.RegionTactic
import Derived.Handy
import Derived.StillTailTactics
import Derived.Lib.Hide
import Derived.IntWalk
import Derived.Shelf.SlSorted.Search
namespace Go.Proofs.Ytgbgdbadifagcaa
open Go.RowKit Go.Shelf Go.Lib Go.Sort
set_option linter.unusedVariables false
set_option linter.unusedSimpArgs false

set_option maxHeartbeats 2000000 in
/-- Forget's closure. -/
theorem forget1_any (ba bx a n : Nat) (g c : Nat) (l : List Rg.R) (i : Nat) (W : World) (hi : i < l.length)
    (ha : W.cell? ⟨ba, 0, none⟩ = some (.pointer (some ⟨a, 0, none⟩))) (hx : W.cell? ⟨bx, 0, none⟩ = some (u64v n))
    (hs : W.cell? ⟨a, 0, none⟩ = some (.slice (some ⟨g, 0, none⟩) l.length c)) (hc : W.cell? ⟨g, i * 2 + 1, none⟩ = some (u64v (l.getD i (0, 0)).2)) :
    Calls Try.prog 26 (#[.int .i64 i] ++ #[.pointer (some ⟨ba, 0, none⟩), .pointer (some ⟨bx, 0, none⟩)]) W fun e w' => e = .returned (.bool (decide ((l.getD i (0, 0)).2 ≤ n))) ∧ ∃ q, w' = W.drewN q := by
  generalize (l.getD i (0, 0)).2 = y at hc ⊢
  unfold u64v at *
  have hiz : (i : Int) < (l.length : Int) := by omega
  generalize l.length = m at *
  go_enter Try.func26, Try.ntmps26
  go_wp2
  go_region
  all_goals go_wp2
  all_goals go_ret
  all_goals exact ⟨by first | rfl | simp, 1, rfl⟩

/-- Search with Forget's closure. -/
theorem forget_search (B a g n old : Nat) (l : List Rg.R) (base : Option Addr) (c : Nat) (W : World) (hO : Obj W a 32 #[.slice base l.length c, u64v old]) (hR : RowR W (.slice base l.length c) g l) (hn : Rg.norm l) (hlen : l.length ≤ 1000000)
    (ca : W.cell? ⟨B, 0, none⟩ = some (.pointer (some ⟨a, 0, none⟩))) (cx : W.cell? ⟨B + 1, 0, none⟩ = some (u64v n)) :
    Calls Try.prog 25 #[.int .i64 (l.length : Nat), .func (.func 26) #[] #[.pointer (some ⟨B, 0, none⟩), .pointer (some ⟨B + 1, 0, none⟩)]] W fun e w' => e = .returned (.int .i64 (Rg.findH n l : Nat)) ∧ Below W.heap.size W w' := by
  obtain ⟨base', c', hbc, hb, hg⟩ := hR.nilOr
  cases hbc
  have cs : W.cell? ⟨a, 0, none⟩ = some (.slice base l.length c) := by rw [hO.cell]; rfl
  have cc : ∀ i, i < l.length → W.cell? ⟨g, i * 2 + 1, none⟩ = some (u64v (l.getD i (0, 0)).2) := fun i hi => by
    obtain ⟨_, _, _, h1⟩ := hR.cells hi
    exact h1
  have hal : a < W.heap.size := hO.lt
  have hB0 : B < W.heap.size := block_lt_of_cell ca
  have hB1 : B + 1 < W.heap.size := block_lt_of_cell cx
  have eg : ∀ args w, (callFunc 26 args).run Try.prog w = .ok (.enter 26 args) w := enters_of Try.func26 (by kernel_rfl) rfl
  have hS := Any.sort_Search Ytgbgdbadifagcaa.search 26 #[.pointer (some ⟨B, 0, none⟩), .pointer (some ⟨B + 1, 0, none⟩)] l.length (fun i => decide ((l.getD i (0, 0)).2 ≤ n)) W eg (by omega)
    (fun m os i hi => (forget1_any B (B + 1) a n g c l i _ hi (cell_grown hB0 ca m os) (cell_grown hB1 cx m os) (cell_grown hal (hb (by omega) ▸ cs) m os) (cell_grown (hg (by omega)) (cc i hi) m os)).mono
      fun _ _ ⟨he, q, hq⟩ => ⟨he, q, #[], by rw [hq, grow_empty]⟩) (fun x y hxy hy h => by simp only [decide_eq_true_eq] at h ⊢; exact Rg.hi_mono hn n x y hxy hy h)
  rw [Rg.count_hi] at hS
  change Calls Try.prog 25 _ _ _ at hS
  refine hS.mono ?_
  rintro e w' ⟨rfl, q, os, rfl⟩
  exact ⟨rfl, below_grown_sl W.heap.size W q os (Nat.le_refl _)⟩

theorem cell_far {w : World} {p q : Addr} {u : Value} (h : q.block ≠ p.block) : (w.setCell p u).cell? q = w.cell? q := World.cell?_of_block (Below.heap_setCell _ _ _ _ h)
theorem RowR.ne {w : World} {v : Value} {a g : Nat} {l : List Rg.R} {cs : Array Value} (h : RowR w v g l) (hO : Obj w a 32 cs) : (v = .slice none 0 0 ∧ l = []) ∨ g ≠ a := by
  rcases h with h | ⟨c, rest, h1, h2, h3, h4, h⟩
  · exact Or.inl h
  · refine Or.inr ?_
    rintro rfl
    have := h.symm.trans hO
    simp at this
theorem RowR.updA {w w' : World} {v : Value} {a g : Nat} {l : List Rg.R} {cs : Array Value} (h : RowR w v g l) (hO : Obj w a 32 cs) (hu : Upd a w w') : RowR w' v g l := by
  rcases h.ne hO with h' | h'
  · exact Or.inl h'
  · exact h.upd hu h'

/-- The row, cut. -/
theorem RowR.cut {w : World} {g c : Nat} {base : Option Addr} {l : List Rg.R} (h : RowR w (.slice base l.length c) g l) {i : Nat} (hi : i ≤ l.length) : RowR w (.slice base i i) g (l.take i) := by
  rcases h with ⟨h1, h2⟩ | ⟨c', rest, h1, h2, h3, h4, h⟩
  · subst h2
    obtain rfl : i = 0 := by simpa using hi
    simp only [Value.slice.injEq] at h1
    rw [h1.1]
    exact Or.inl ⟨rfl, rfl⟩
  · cases h1
    have hl : (l.take i).length = i := by rw [List.length_take]; omega
    refine Or.inr ⟨i, flat (l.drop i) ++ rest, by rw [hl], by omega, by omega, by simp [hl], ?_⟩
    rw [← List.append_assoc, ← flat_append, List.take_append_drop]
    exact h


set_option maxHeartbeats 4000000 in
theorem forget_any (a g n old : Nat) (l : List Rg.R) (w : World) (hS : St w a g l old) (hn : Rg.norm l) (hl : l.length ≤ 1000) (ho : old ≤ 4611686018427387904) (m : Nat) (hm : min n 4611686018427387903 = m) :
    Calls Try.prog 14 #[.pointer (some ⟨a, 0, none⟩), u64v n] w fun e w' => e = .returned (.int .i64 ((l.length - Rg.findH m l : Nat) : Int)) ∧ St w' a g (Rg.cutL m l) (max old (m + 1)) ∧ Upd2 a g w w' := by
  obtain ⟨v, hO, hR⟩ := hS
  obtain ⟨base, c, rfl, hb, hg⟩ := hR.nilOr
  have hmin : min (n : Int) 4611686018427387903 = (m : Int) := by omega
  obtain ⟨M, hM⟩ : ∃ M, max old (m + 1) = M := ⟨_, rfl⟩
  rw [hM]
  have hmax : max (old : Int) ((m : Int) + 1) = (M : Int) := by omega
  have hw : IntKind.u64.wrap ((m : Int) + 1) = (m : Int) + 1 := by rw [IntKind.wrap_u64]; omega
  have hal := hO.lt
  have HO := Lib.hid hO
  have HR := Lib.hid hR
  have hb1 : Below w.heap.size w ((w.alloc (.cells #[.pointer (some ⟨a, 0, none⟩)] 24)).alloc (.cells #[u64v m] 26)) := ((Below.refl _ w).alloc (Nat.le_refl _) _).alloc (by simp) _
  have HF := Lib.hid (Rg.findH_le m l)
  obtain ⟨r, hr⟩ : ∃ r, Rg.findH m l = r := ⟨_, rfl⟩
  have HC : Hid (Rg.cutL m l = if 0 < r ∧ (l.getD (r - 1) (0, 0)).1 ≤ m then (l.take r).set (r - 1) (m + 1, (l.getD (r - 1) (0, 0)).2) else l.take r) := by unfold Hid Rg.cutL; rw [hr]
  have f0 : w.cell? ⟨a, 0, none⟩ = some (.slice base l.length c) := by rw [hO.cell]; rfl
  have n1 : a ≠ w.heap.size := by omega
  have n2 : a ≠ w.heap.size + 1 := by omega
  obtain ⟨W1, hW1⟩ : ∃ W1, (w.alloc (.cells #[.pointer (some ⟨a, 0, none⟩)] 24)).alloc (.cells #[u64v m] 26) = W1 := ⟨_, rfl⟩
  have fa : W1.cell? ⟨w.heap.size, 0, none⟩ = some (.pointer (some ⟨a, 0, none⟩)) := by rw [← hW1]; exact cell_alloc_sl _ (cell_new_sl w _ _)
  have fb : W1.cell? ⟨w.heap.size + 1, 0, none⟩ = some (u64v m) := by rw [← hW1]; have := cell_new_sl (w.alloc (.cells #[.pointer (some ⟨a, 0, none⟩)] 24)) (u64v m) 26; rwa [World.size_alloc] at this
  rw [hW1] at hb1
  have hO1 := hO.kept hb1
  have hR1 := hR.kept hb1
  have HFA := Lib.hid fa
  have HFB := Lib.hid fb
  have HW1 := Lib.hid hW1
  have HB1 := Lib.hid hb1
  have HO1 := Lib.hid hO1
  have HR1 := Lib.hid hR1
  have HRR := Lib.hid hr
  have HS2 : Hid (∀ W, Obj W a 32 #[.slice base l.length c, u64v M] → RowR W (.slice base l.length c) g l → W.cell? ⟨w.heap.size, 0, none⟩ = some (.pointer (some ⟨a, 0, none⟩)) → W.cell? ⟨w.heap.size + 1, 0, none⟩ = some (u64v m) →
      Calls Try.prog 25 #[.int .i64 (l.length : Nat), .func (.func 26) #[] #[.pointer (some ⟨w.heap.size, 0, none⟩), .pointer (some ⟨w.heap.size + 1, 0, none⟩)]] W fun e w' => e = .returned (.int .i64 (r : Nat)) ∧ Below W.heap.size W w') := fun W k1 k2 k3 k4 => by
    rw [← hr]
    exact forget_search w.heap.size a g m M l base c W k1 k2 hn (by omega) k3 k4
  have hrl : r ≤ l.length := by rw [← hr]; exact Rg.findH_le m l
  have hlc : l.length ≤ c := by
    rcases hR with ⟨h1, h2⟩ | ⟨c', rest, h1, h2, _⟩
    · rw [h2]; simp
    · cases h1; exact h2
  have hrc : (r : Int) ≤ (c : Int) := by omega
  have HRL := Lib.hid hrl
  rw [hr]
  have HN := Lib.hid hm
  have HMM := Lib.hid hM
  clear hO hR fa fb hW1 hb1 hO1 hR1 hr hb hg hM hm hn hlc
  unfold u64v at HW1
  go_enter Try.func14, Try.ntmps14
  unfold u64v
  go_wp2
  rw [HW1.out]
  have fa := HFA.out
  have fb := HFB.out
  unfold u64v at fb
  have f1 : W1.cell? ⟨a, 1, none⟩ = some (.int .u64 (old : Int)) := by rw [HO1.out.cell]; rfl
  have z1 := HO1.out.free 1
  have f0 : W1.cell? ⟨a, 0, none⟩ = some (.slice base l.length c) := by rw [HO1.out.cell]; rfl
  refine wp_region_still_tail 10 (by kernel_rfl) (by kernel_rfl) ?_
  simp only [List.take_succ_cons, List.take_zero, List.drop_succ_cons, List.drop_zero]
  change wpStill _ _ (World.drew _) (fun a' => wpList _ _ _ _ a' (World.drew _)) _ _
  iterate 10 still_step
  refine wpStill_nil ?_
  go_wp2_with fail
  have hu2 : Upd a W1 ((W1.setCell ⟨a, 1, none⟩ (.int .u64 (M : Int))).drew) := ((Upd.refl a W1).set _ _).drew
  have HO2 := Lib.hid ((HO1.out.set 1 (.int .u64 (M : Int))).drew.as (show _ = #[.slice base l.length c, u64v M] from rfl))
  have HR2 := Lib.hid (HR1.out.updA HO1.out hu2)
  have HU2 := Lib.hid ((Upd2.below HB1.out a g).trans (Upd2.left hu2 g) (Or.inl rfl))
  have HFA2 : Hid (((W1.setCell ⟨a, 1, none⟩ (.int .u64 (M : Int))).drew).cell? ⟨w.heap.size, 0, none⟩ = some (.pointer (some ⟨a, 0, none⟩))) := (cell_far (w := W1) (p := ⟨a, 1, none⟩) (u := .int .u64 (M : Int)) (show w.heap.size ≠ a from fun h => n1 h.symm)).trans fa
  have HFB2 : Hid (((W1.setCell ⟨a, 1, none⟩ (.int .u64 (M : Int))).drew).cell? ⟨w.heap.size + 1, 0, none⟩ = some (u64v m)) := (cell_far (w := W1) (p := ⟨a, 1, none⟩) (u := .int .u64 (M : Int)) (show w.heap.size + 1 ≠ a from fun h => n2 h.symm)).trans HFB.out
  clear fa fb f1 z1 f0 HO1 HR1 hu2 HFA HFB HB1
  refine (HS2.out _ HO2.out HR2.out HFA2.out HFB2.out).mono ?_
  rintro e W3 ⟨rfl, hb3⟩
  generalize (W1.setCell ⟨a, 1, none⟩ (.int .u64 (M : Int))).drew = W2 at *
  have hO3 := HO2.out.kept hb3
  have HO3 := Lib.hid hO3
  have HR3 := Lib.hid (HR2.out.kept hb3)
  have HU3 := Lib.hid (HU2.out.trans (Upd2.below hb3 a g) (Or.inl rfl))
  have fa : W3.cell? ⟨w.heap.size, 0, none⟩ = some (.pointer (some ⟨a, 0, none⟩)) := (hb3.cell (block_lt_of_cell HFA2.out)).trans HFA2.out
  have fb : W3.cell? ⟨w.heap.size + 1, 0, none⟩ = some (.int .u64 (m : Int)) := (hb3.cell (block_lt_of_cell HFB2.out)).trans HFB2.out
  have HFA3 := Lib.hid fa
  have HFB3 := Lib.hid fb
  have f0 : W3.cell? ⟨a, 0, none⟩ = some (.slice base l.length c) := by rw [hO3.cell]; rfl
  have z0 := hO3.free 0
  clear hb3 HFA2 HFB2 HU2 HO2 HR2 hO3 HS2
  go_wp2
  refine wp_region_still_tail 10 (by kernel_rfl) (by kernel_rfl) ?_
  simp only [List.take_succ_cons, List.take_zero, List.drop_succ_cons, List.drop_zero]
  change wpStill _ _ (World.drew _) (fun a' => wpList _ _ _ _ a' (World.drew _)) _ _
  iterate 10 still_step
  refine wpStill_nil ?_
  go_wp2
  have hu4 : Upd a W3 ((W3.setCell ⟨a, 0, none⟩ (.slice base r r)).drew) := ((Upd.refl a W3).set _ _).drew
  have hO4 : Obj ((W3.setCell ⟨a, 0, none⟩ (.slice base r r)).drew) a 32 #[.slice base r r, u64v M] := (HO3.out.set 0 (.slice base r r)).drew.as rfl
  have hR4 := (HR3.out.updA HO3.out hu4).cut (HRL.out)
  have HU4 := Lib.hid (HU3.out.trans (Upd2.left hu4 g) (Or.inl rfl))
  have HFA4 : Hid (((W3.setCell ⟨a, 0, none⟩ (.slice base r r)).drew).cell? ⟨w.heap.size, 0, none⟩ = some (.pointer (some ⟨a, 0, none⟩))) := (cell_far (w := W3) (p := ⟨a, 0, none⟩) (u := .slice base r r) (show w.heap.size ≠ a from fun h => n1 h.symm)).trans HFA3.out
  have HFB4 : Hid (((W3.setCell ⟨a, 0, none⟩ (.slice base r r)).drew).cell? ⟨w.heap.size + 1, 0, none⟩ = some (.int .u64 (m : Int))) := (cell_far (w := W3) (p := ⟨a, 0, none⟩) (u := .slice base r r) (show w.heap.size + 1 ≠ a from fun h => n2 h.symm)).trans HFB3.out
  clear fa fb f0 z0 HO3 HR3 hu4 HFA3 HFB3 HU3
  generalize (W3.setCell ⟨a, 0, none⟩ (.slice base r r)).drew = W4 at *
  have HO4 := Lib.hid hO4
  have HR4 := Lib.hid hR4
  have fa := HFA4.out
  have fb := HFB4.out
  have f0 : W4.cell? ⟨a, 0, none⟩ = some (.slice base r r) := by rw [hO4.cell]; rfl
  have HTL : Hid ((l.take r).length = r) := by unfold Hid; rw [List.length_take]; have := HRL.out; omega
  have HSUB : Hid ((l.length : Int) - (r : Int) = ((l.length - r : Nat) : Int)) := by unfold Hid; have := HRL.out; omega
  have hlz : (r : Int) ≤ (l.length : Int) := by have := HRL.out; omega
  rcases Nat.eq_zero_or_pos r with h0 | hpos
  · have HCC : Hid (Rg.cutL m l = l.take r) := by unfold Hid; rw [HC.out, if_neg (by omega)]
    subst h0
    clear hO4 hR4 HC
    go_quiet (fail)
    go_wp2
    go_ret
    rw [HCC.out]
    refine ⟨?_, ⟨_, HO4.out.drewN _, HR4.out.drewN _⟩, HU4.out.drewN _⟩
    first | rfl | simp
  · obtain ⟨k, rfl⟩ : ∃ k, r = k + 1 := ⟨r - 1, by omega⟩
    obtain ⟨c', hcc, f2, f3⟩ := hR4.cells (i := k) (by rw [HTL.out]; omega)
    have hgd : (l.take (k + 1)).getD k (0, 0) = l.getD k (0, 0) := by
      simp [List.getD_eq_getElem?_getD]
    rw [hgd] at f2 f3
    simp only [Value.slice.injEq] at hcc
    obtain ⟨rfl, -⟩ := hcc
    have HE : Hid (Ending.returned (.int .i64 ((l.length : Int) - ((k : Int) + 1))) = .returned (.int .i64 ((l.length - (k + 1) : Nat) : Int))) := ret_int (by have := HSUB.out; omega)
    have k1 : ((k + 1 : Nat) : Int) - 1 = (k : Int) := by omega
    have k2 : (k : Int) + 1 - 1 = (k : Int) := by omega
    have k3 : IntKind.i64.wrap (k : Int) = (k : Int) := by rw [IntKind.wrap_i64]; omega
    have k4 : (0 : Int) < (k : Int) + 1 := by omega
    have k5 : (k : Int) < (k : Int) + 1 := by omega
    have hs := HO4.out.free 0
    have zg : W4.frozen? ⟨g, k * 2, none⟩ = false := by
      rcases hR4 with ⟨h, _⟩ | ⟨_, _, _, _, _, _, h⟩
      · cases h
      · exact h.free _
    have HD : Hid (Rg.cutL m l = if (l.getD k (0, 0)).1 ≤ m then (l.take (k + 1)).set k (m + 1, ((l.take (k + 1)).getD k (0, 0)).2) else l.take (k + 1)) := by
      unfold Hid; rw [HC.out, hgd]; simp
    have HRS : Hid (∀ W, RowR W (.slice (some ⟨g, 0, none⟩) (k + 1) (k + 1)) g (l.take (k + 1)) → RowR (W.setCell ⟨g, k * 2, none⟩ (u64v (m + 1))) (.slice (some ⟨g, 0, none⟩) (k + 1) (k + 1)) g ((l.take (k + 1)).set k (m + 1, ((l.take (k + 1)).getD k (0, 0)).2))) := fun W hW => by
      have h := RowR.setLo (w := W) (g := g) (c := k + 1) (l := l.take (k + 1)) (i := k) (by rw [HTL.out]; exact hW) (by rw [HTL.out]; omega) (m + 1)
      rw [HTL.out] at h
      exact h
    have HOG : Hid (g ≠ a) := by
      rcases hR4.ne hO4 with ⟨h, _⟩ | h
      · cases h
      · exact h
    generalize (l.getD k (0, 0)).1 = x at *
    unfold u64v at f2
    clear hO4 hR4 f3 hgd HC hmin hmax n1 n2
    by_cases hx : x ≤ m
    · have HCC : Hid (Rg.cutL m l = (l.take (k + 1)).set k (m + 1, ((l.take (k + 1)).getD k (0, 0)).2)) := by
        unfold Hid; rw [HD.out, if_pos hx]
      have hd : decide ((x : Int) ≤ (m : Int)) = true := by simp; exact hx
      clear HD
      go_quiet (fail)
      go_wp2
      refine wp_region_still_tail 10 (by kernel_rfl) (by kernel_rfl) ?_
      simp only [List.take_succ_cons, List.take_zero, List.drop_succ_cons, List.drop_zero]
      change wpStill _ _ (World.drew _) (fun a' => wpList _ _ _ _ a' (World.drew _)) _ _
      iterate 10 still_step
      refine wpStill_nil ?_
      go_wp2
      go_ret
      rw [HCC.out]
      exact ⟨HE.out, ⟨.slice (some ⟨g, 0, none⟩) (k + 1) (k + 1), (HO4.out.drewN _).far (fun h => HOG.out h.symm) _, HRS.out _ (HR4.out.drewN _)⟩, (HU4.out.drewN _).trans (Upd2.right ((Upd.refl g _).set _ _) a) (Or.inl rfl)⟩
    · have HCC : Hid (Rg.cutL m l = l.take (k + 1)) := by unfold Hid; rw [HD.out, if_neg hx]
      have hd : decide ((x : Int) ≤ (m : Int)) = false := by simp; omega
      clear HD
      go_quiet (fail)
      go_wp2
      go_ret
      rw [HCC.out]
      exact ⟨HE.out, ⟨_, HO4.out.drewN _, HR4.out.drewN _⟩, HU4.out.drewN _⟩
end Go.Proofs.Ytgbgdbadifagcaa
