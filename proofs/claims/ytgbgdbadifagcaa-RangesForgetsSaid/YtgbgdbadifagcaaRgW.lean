/- Layer 13's ranges, walked: the set in memory; find, Has, Old, Largest. -/
import Derived.Test.YtgbgdbadifagcaaRows
import Derived.Test.YtgbgdbadifagcaaAid
import Derived.Test.YtgbgdbadifagcaaPlainRg
import Derived.WalkKit
import Derived.Laws.Rows
import Derived.Laws.Tables
import Derived.WalkSpells
import Derived.WalkLawsBesides
import Derived.Deep.QuietTactic
import Derived.RegionTactic
import Derived.Handy
import Derived.Lib.Hide
import Derived.IntWalk
import Derived.Shelf.SlSorted.Search
import Derived.Test.YtgbgdbadifagcaaRgLay
namespace Go.Proofs.Ytgbgdbadifagcaa
open Go.RowKit Go.Shelf Go.Lib Go.Sort
set_option linter.unusedVariables false
set_option linter.unusedSimpArgs false

def u64v (n : Nat) : Value := .int .u64 (n : Int)
/-- The cells of a list of ranges. -/
def flat : List Rg.R → List Value
  | [] => []
  | r :: t => u64v r.1 :: u64v r.2 :: flat t
theorem flat_length (l : List Rg.R) : (flat l).length = 2 * l.length := by induction l with
  | nil => rfl
  | cons r t ih => simp [flat, ih]; omega
theorem flat_append (a b : List Rg.R) : flat (a ++ b) = flat a ++ flat b := by induction a with
  | nil => rfl
  | cons r t ih => simp [flat, ih]
theorem flat_lo (l : List Rg.R) : ∀ (i : Nat), i < l.length → (flat l)[2 * i]? = some (u64v (l.getD i (0, 0)).1) := by
  induction l with
  | nil => intro i h; simp at h
  | cons r t ih =>
    intro i h
    cases i with
    | zero => rfl
    | succ i =>
      rw [show 2 * (i + 1) = 2 * i + 1 + 1 by omega]
      simpa [flat] using ih i (by simpa using h)
theorem flat_hi (l : List Rg.R) : ∀ (i : Nat), i < l.length → (flat l)[2 * i + 1]? = some (u64v (l.getD i (0, 0)).2) := by
  induction l with
  | nil => intro i h; simp at h
  | cons r t ih =>
    intro i h
    cases i with
    | zero => rfl
    | succ i =>
      rw [show 2 * (i + 1) + 1 = 2 * i + 1 + 1 + 1 by omega]
      simpa [flat] using ih i (by simpa using h)
theorem flat_one (l : List Rg.R) : ∀ v ∈ flat l, v.oneCell' = true := by
  induction l with
  | nil => intro v h; cases h
  | cons r t ih =>
    intro v h
    simp only [flat, List.mem_cons] at h
    rcases h with rfl | rfl | h
    · rfl
    · rfl
    · exact ih v h

/-- A slice value that holds these ranges, from its block's first cell on. -/
def RowR (w : World) (v : Value) (g : Nat) (l : List Rg.R) : Prop :=
  (v = .slice none 0 0 ∧ l = []) ∨
  ∃ (c : Nat) (rest : List Value), v = .slice (some ⟨g, 0, none⟩) l.length c ∧ l.length ≤ c ∧ c ≤ maxLen ∧ 2 * (c - l.length) ≤ rest.length ∧ Obj w g 41 (flat l ++ rest).toArray
/-- Of what was there nothing has turned, but two blocks. -/
structure Upd2 (a b : Nat) (w w' : World) : Prop where
  os : w'.os = w.os
  tape : w'.tape = w.tape
  output : w'.output = w.output
  size : w.heap.size ≤ w'.heap.size
  block : ∀ k, k < w.heap.size → k ≠ a → k ≠ b → w'.heap[k]? = w.heap[k]?
section
variable {w w' w1 w2 : World} {a b b' : Nat}
theorem Upd2.refl (a b : Nat) (w : World) : Upd2 a b w w := ⟨rfl, rfl, rfl, Nat.le_refl _, fun _ _ _ _ => rfl⟩
theorem Upd2.trans (h : Upd2 a b w w1) (k : Upd2 a b' w1 w2) (hb : b' = b ∨ w.heap.size ≤ b') : Upd2 a b w w2 :=
  ⟨k.os.trans h.os, k.tape.trans h.tape, k.output.trans h.output, Nat.le_trans h.size k.size, fun i hi h1 h2 =>
    (k.block i (Nat.lt_of_lt_of_le hi h.size) h1 (by rcases hb with rfl | hb; exact h2; omega)).trans (h.block i hi h1 h2)⟩
theorem Upd2.below (h : Below w.heap.size w w1) (a b : Nat) : Upd2 a b w w1 := ⟨h.os, h.tape, h.output, h.size, fun k hk _ _ => h.block k hk⟩
theorem Upd2.left (h : Upd a w w1) (b : Nat) : Upd2 a b w w1 := ⟨h.os, h.tape, h.output, h.size, fun k hk h1 _ => h.block k hk h1⟩
theorem Upd2.right (h : Upd b w w1) (a : Nat) : Upd2 a b w w1 := ⟨h.os, h.tape, h.output, h.size, fun k hk _ h1 => h.block k hk h1⟩
/-- Where both are new since W, all is below. -/
theorem Upd2.over {W : World} (h : Below W.heap.size W w) (ha : W.heap.size ≤ a) (hb : W.heap.size ≤ b) (k : Upd2 a b w w') : Below W.heap.size W w' :=
  ⟨k.os.trans h.os, k.tape.trans h.tape, k.output.trans h.output, Nat.le_trans h.size k.size, fun i hi => (k.block i (Nat.lt_of_lt_of_le hi h.size) (by omega) (by omega)).trans (h.block i hi)⟩
theorem Obj.upd2 {t : TypeId} {k : Nat} {cs : Array Value} (h : Obj w k t cs) (hu : Upd2 a b w w') (h1 : k ≠ a) (h2 : k ≠ b) : Obj w' k t cs := (hu.block k h.lt h1 h2).trans h
theorem RowR.lt {v : Value} {g : Nat} {l : List Rg.R} (h : RowR w v g l) (hl : l ≠ []) : g < w.heap.size := by
  rcases h with ⟨_, h⟩ | ⟨c, rest, _, _, _, _, h⟩
  · exact absurd h hl
  · exact h.lt
theorem RowR.to {v : Value} {g : Nat} {l : List Rg.R} (h : RowR w v g l) (hk : g < w.heap.size → w'.heap[g]? = w.heap[g]?) : RowR w' v g l := by
  rcases h with h | ⟨c, rest, h1, h2, h3, h4, h⟩
  · exact Or.inl h
  · exact Or.inr ⟨c, rest, h1, h2, h3, h4, (hk h.lt).trans h⟩
theorem RowR.kept {v : Value} {g : Nat} {l : List Rg.R} (h : RowR w v g l) (hb : Below w.heap.size w w') : RowR w' v g l := h.to fun hl => hb.block g hl
theorem RowR.upd {v : Value} {g : Nat} {l : List Rg.R} (h : RowR w v g l) (hb : Upd a w w') (hne : g ≠ a) : RowR w' v g l := h.to fun hl => hb.block g hl hne
theorem RowR.upd2 {v : Value} {g : Nat} {l : List Rg.R} (h : RowR w v g l) (hu : Upd2 a b w w') (h1 : g ≠ a) (h2 : g ≠ b) : RowR w' v g l := h.to fun hl => hu.block g hl h1 h2
end

/-- A set in memory: at block a, its ranges' row in block g. -/
def St (w : World) (a g : Nat) (l : List Rg.R) (old : Nat) : Prop := ∃ v, Obj w a 32 #[v, u64v old] ∧ RowR w v g l
theorem St.kept {w w' : World} {a g : Nat} {l : List Rg.R} {old : Nat} (h : St w a g l old) (hb : Below w.heap.size w w') : St w' a g l old := by
  obtain ⟨v, h1, h2⟩ := h
  exact ⟨v, h1.kept hb, h2.kept hb⟩
theorem St.upd {w w' : World} {a g b : Nat} {l : List Rg.R} {old : Nat} (h : St w a g l old) (hu : Upd b w w') (h1 : a ≠ b) (h2 : g ≠ b) : St w' a g l old := by
  obtain ⟨v, k1, k2⟩ := h
  exact ⟨v, k1.upd hu h1, k2.upd hu h2⟩
theorem St.upd2 {w w' : World} {a g b b' : Nat} {l : List Rg.R} {old : Nat} (h : St w a g l old) (hu : Upd2 b b' w w') (h1 : a ≠ b) (h2 : a ≠ b') (h3 : g ≠ b) (h4 : g ≠ b') : St w' a g l old := by
  obtain ⟨v, k1, k2⟩ := h
  exact ⟨v, k1.upd2 hu h1 h2, k2.upd2 hu h3 h4⟩

theorem RowR.cells {w : World} {v : Value} {g : Nat} {l : List Rg.R} (h : RowR w v g l) {i : Nat} (hi : i < l.length) :
    ∃ c, v = .slice (some ⟨g, 0, none⟩) l.length c ∧ w.cell? ⟨g, i * 2, none⟩ = some (u64v (l.getD i (0, 0)).1) ∧ w.cell? ⟨g, i * 2 + 1, none⟩ = some (u64v (l.getD i (0, 0)).2) := by
  rcases h with ⟨_, h⟩ | ⟨c, rest, h1, h2, h3, h4, h⟩
  · rw [h] at hi; simp at hi
  · have hl := flat_length l
    refine ⟨c, h1, ?_, ?_⟩
    · rw [h.cell, Nat.mul_comm, List.getElem?_toArray, List.getElem?_append_left (by omega), flat_lo l i hi]
    · rw [h.cell, Nat.mul_comm, List.getElem?_toArray, List.getElem?_append_left (by omega), flat_hi l i hi]

set_option maxHeartbeats 2000000 in
/-- find's closure. -/
theorem find1_any (ba bx a n : Nat) (g c : Nat) (l : List Rg.R) (i : Nat) (W : World) (hi : i < l.length)
    (ha : W.cell? ⟨ba, 0, none⟩ = some (.pointer (some ⟨a, 0, none⟩))) (hx : W.cell? ⟨bx, 0, none⟩ = some (u64v n))
    (hs : W.cell? ⟨a, 0, none⟩ = some (.slice (some ⟨g, 0, none⟩) l.length c)) (hc : W.cell? ⟨g, i * 2, none⟩ = some (u64v (l.getD i (0, 0)).1)) :
    Calls Try.prog 27 (#[.int .i64 i] ++ #[.pointer (some ⟨ba, 0, none⟩), .pointer (some ⟨bx, 0, none⟩)]) W fun e w' => e = .returned (.bool (decide ((l.getD i (0, 0)).1 ≤ n))) ∧ ∃ q, w' = W.drewN q := by
  generalize (l.getD i (0, 0)).1 = y at hc ⊢
  unfold u64v at *
  have hiz : (i : Int) < (l.length : Int) := by omega
  generalize l.length = m at *
  go_enter Try.func27, Try.ntmps27
  go_wp2
  go_region
  all_goals go_wp2
  all_goals go_ret
  all_goals exact ⟨by first | rfl | simp, 1, rfl⟩

theorem RowR.nilOr {w : World} {v : Value} {g : Nat} {l : List Rg.R} (h : RowR w v g l) : ∃ base c, v = .slice base l.length c ∧ (0 < l.length → base = some ⟨g, 0, none⟩) ∧ (0 < l.length → g < w.heap.size) := by
  rcases h with ⟨rfl, rfl⟩ | ⟨c, rest, h1, h2, h3, h4, h⟩
  · exact ⟨none, 0, rfl, fun h => absurd h (by simp), fun h => absurd h (by simp)⟩
  · exact ⟨_, c, h1, fun _ => rfl, fun _ => h.lt⟩

set_option maxHeartbeats 2000000 in
/-- find: how many ranges are all above. -/
theorem find_any (a g n old : Nat) (l : List Rg.R) (w : World) (hS : St w a g l old) (hn : Rg.norm l) (hlen : l.length ≤ 1000000) :
    Calls Try.prog 21 #[.pointer (some ⟨a, 0, none⟩), u64v n] w fun e w' => e = .returned (.int .i64 (Rg.find n l : Nat)) ∧ Below w.heap.size w w' := by
  obtain ⟨v, hO, hR⟩ := hS
  obtain ⟨base, c, rfl, hb, hg⟩ := hR.nilOr
  obtain ⟨W0, hW0⟩ : ∃ W0, W0 = (w.alloc (.cells #[.pointer (some ⟨a, 0, none⟩)] 24)).alloc (.cells #[u64v n] 26) := ⟨_, rfl⟩
  have hsize : W0.heap.size = w.heap.size + 1 + 1 := by rw [hW0]; simp
  have ca : W0.cell? ⟨w.heap.size, 0, none⟩ = some (.pointer (some ⟨a, 0, none⟩)) := by rw [hW0]; exact cell_alloc_sl _ (cell_new_sl w _ _)
  have cx : W0.cell? ⟨w.heap.size + 1, 0, none⟩ = some (u64v n) := by rw [hW0]; have := cell_new_sl (w.alloc (.cells #[.pointer (some ⟨a, 0, none⟩)] 24)) (u64v n) 26; rwa [World.size_alloc] at this
  have c0 : w.cell? ⟨a, 0, none⟩ = some (.slice base l.length c) := by rw [hO.cell]; rfl
  have cs : W0.cell? ⟨a, 0, none⟩ = some (.slice base l.length c) := by rw [hW0]; exact cell_alloc_sl _ (cell_alloc_sl _ c0)
  have cc : ∀ i, i < l.length → W0.cell? ⟨g, i * 2, none⟩ = some (u64v (l.getD i (0, 0)).1) := fun i hi => by
    obtain ⟨_, _, h1, _⟩ := hR.cells hi
    rw [hW0]; exact cell_alloc_sl _ (cell_alloc_sl _ h1)
  have hal : a < w.heap.size := hO.lt
  have eg : ∀ args w, (callFunc 27 args).run Try.prog w = .ok (.enter 27 args) w := enters_of Try.func27 (by kernel_rfl) rfl
  have hS := Any.sort_Search Ytgbgdbadifagcaa.search 27 #[.pointer (some ⟨w.heap.size, 0, none⟩), .pointer (some ⟨w.heap.size + 1, 0, none⟩)] l.length (fun i => decide ((l.getD i (0, 0)).1 ≤ n)) W0 eg (by omega)
    (fun m os i hi => (find1_any w.heap.size (w.heap.size + 1) a n g c l i _ hi (cell_grown (by simp [hsize]; omega) ca m os) (cell_grown (by simp [hsize]) cx m os) (cell_grown (by simp [hsize]; omega) (hb (by omega) ▸ cs) m os) (cell_grown (by simp [hsize]; have := hg (by omega); omega) (cc i hi) m os)).mono
      fun _ _ ⟨he, q, hq⟩ => ⟨he, q, #[], by rw [hq, grow_empty]⟩) (fun x y hxy hy h => by simp only [decide_eq_true_eq] at h ⊢; exact Rg.lo_mono hn n x y hxy hy h)
  rw [Rg.count_lo] at hS
  change Calls Try.prog 25 _ _ _ at hS
  have HS := Lib.hid hS
  have HO := Lib.hid c0
  clear ca cx cs cc hS hR hO c0
  generalize Rg.find n l = r at HS ⊢
  have hB0 : Below w.heap.size w W0 := by rw [hW0]; exact ((Below.refl _ w).alloc (Nat.le_refl _) _).alloc (by simp) _
  have HB0 := Lib.hid hB0
  clear hB0
  have f0 : W0.cell? ⟨a, 0, none⟩ = some (.slice base l.length c) := by rw [hW0]; exact cell_alloc_sl _ (cell_alloc_sl _ HO.out)
  have f1 : W0.cell? ⟨w.heap.size, 0, none⟩ = some (.pointer (some ⟨a, 0, none⟩)) := by rw [hW0]; exact cell_alloc_sl _ (cell_new_sl w _ _)
  have HW := Lib.hid hW0
  clear hW0 f0 f1
  have f0 := HO.out
  have n1 : a ≠ w.heap.size := by omega
  have n2 : a ≠ w.heap.size + 1 := by omega
  go_enter Try.func21, Try.ntmps21
  go_wp2_with fail
  rw [← HW.out]
  refine HS.out.mono ?_
  rintro e w' ⟨rfl, q, os, rfl⟩
  go_wp2
  go_ret
  exact ⟨rfl, HB0.out.trans (below_grown_sl w.heap.size W0 q os (by omega))⟩

set_option maxHeartbeats 2000000 in
theorem has_any (a g n old : Nat) (l : List Rg.R) (w : World) (hS : St w a g l old) (hn : Rg.norm l) (hlen : l.length ≤ 1000000) :
    Calls Try.prog 10 #[.pointer (some ⟨a, 0, none⟩), u64v n] w fun e w' => e = .returned (.bool (Rg.has n l)) ∧ Below w.heap.size w w' := by
  have HF := Lib.hid (find_any a g n old l w hS hn hlen)
  have HS := Lib.hid hS
  have HD : Hid (Rg.has n l = (decide (Rg.find n l < l.length) && decide (n ≤ (l.getD (Rg.find n l) (0, 0)).2))) := rfl
  clear hS hn
  generalize Rg.has n l = B at *
  generalize Rg.find n l = r at *
  go_enter Try.func10, Try.ntmps10
  go_wp2_with fail
  refine HF.out.mono ?_
  rintro e w1 ⟨rfl, hb1⟩
  obtain ⟨v, hO, hR⟩ := HS.out.kept hb1
  have HB := Lib.hid hb1
  clear hb1
  by_cases hr : r < l.length
  · obtain ⟨c, rfl, f1, f2⟩ := hR.cells hr
    have f0 : w1.cell? ⟨a, 0, none⟩ = some (.slice (some ⟨g, 0, none⟩) l.length c) := by rw [hO.cell]; rfl
    have hrz : (r : Int) < (l.length : Int) := by omega
    have HDD : Hid (B = decide ((l.getD r (0, 0)).2 ≥ n)) := by
      have := HD.out
      unfold Hid; rw [this]; simp [hr]
    clear HD
    generalize (l.getD r (0, 0)).2 = y at *
    generalize (l.getD r (0, 0)).1 = y' at *
    unfold u64v at *
    clear hO hR
    generalize l.length = m at *
    go_wp2
    go_ret
    refine ⟨?_, HB.out⟩
    rw [HDD.out]
    simp
  · obtain ⟨base, c, rfl, hb, hg⟩ := hR.nilOr
    have f0 : w1.cell? ⟨a, 0, none⟩ = some (.slice base l.length c) := by rw [hO.cell]; rfl
    have hrz : ¬ (r : Int) < (l.length : Int) := by omega
    have HDD : Hid (B = false) := by
      have := HD.out
      unfold Hid; rw [this]; simp [hr]
    clear HD
    clear hO hR hb hg
    generalize l.length = m at *
    go_wp2
    go_ret
    exact ⟨by rw [HDD.out]; rfl, HB.out⟩
end Go.Proofs.Ytgbgdbadifagcaa
