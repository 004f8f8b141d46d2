/- A slice of bytes that a structure keeps: its row by number; append to it. -/
import Derived.Test.YtdloeakmoaoalaaRows
import Derived.Test.YtdloeakmoaoalaaAid
import Derived.WalkKit
import Derived.OwnWalk
import Derived.Laws.Rows
import Derived.Laws.Tables
import Derived.Laws.CopyRow
import Derived.Laws.AppendOwn
import Derived.Deep.AppendSrc
import Derived.Lib.AppendZeros
import Derived.Lib.AppendZerosOnto
import Derived.Lib.Hide
namespace Go.Proofs.Ytdloeakmoaoalaa
open Go.RowKit
set_option linter.unusedVariables false
set_option linter.unusedSimpArgs false

def b8 (n : Nat) : Value := .int .u8 (n : Int)
theorem infoB8 : (Try.prog.info? 5).map (fun i => (i.zero, i.size, i.bytes)) = some (some (.int .u8 0), 1, 1) := by kernel_rfl
theorem Obj.row8 {w : World} {g : Nat} {t : TypeId} {cs : Array Value} (h : Obj w g t cs) (cs' : Array Value) : Obj (w.setRow g cs') g t cs' := setRow_heap w g cs cs' t (0, 0) h
theorem Upd.row8 {w w1 : World} {g : Nat} (h : Upd g w w1) (cs : Array Value) : Upd g w (w1.setRow g cs) :=
  h.trans ⟨rfl, rfl, rfl, by simp, fun k _ hne => setRow_other w1 g k cs hne⟩
/-- A slice value that holds these bytes, from its block's first cell on. -/
def RowB (w : World) (v : Value) (g : Nat) (l : List Nat) : Prop :=
  (v = .slice none 0 0 ∧ l = []) ∨
  ∃ (c : Nat) (rest : List Value), v = .slice (some ⟨g, 0, none⟩) l.length c ∧ l.length ≤ c ∧ c ≤ maxLen ∧ c ≤ l.length + rest.length ∧ Obj w g 5 (l.map b8 ++ rest).toArray
theorem RowB.to {w w' : World} {v : Value} {g : Nat} {l : List Nat} (h : RowB w v g l) (hk : g < w.heap.size → w'.heap[g]? = w.heap[g]?) : RowB w' v g l := by
  rcases h with h | ⟨c, rest, h1, h2, h3, h4, h⟩
  · exact Or.inl h
  · exact Or.inr ⟨c, rest, h1, h2, h3, h4, (hk h.lt).trans h⟩
theorem RowB.kept {w w' : World} {v : Value} {g : Nat} {l : List Nat} (h : RowB w v g l) (hb : Below w.heap.size w w') : RowB w' v g l := h.to fun hl => hb.block g hl
theorem RowB.upd {w w' : World} {v : Value} {g b : Nat} {l : List Nat} (h : RowB w v g l) (hb : Upd b w w') (hne : g ≠ b) : RowB w' v g l := h.to fun hl => hb.block g hl hne
theorem RowB.form {w : World} {v : Value} {g : Nat} {l : List Nat} (h : RowB w v g l) : ∃ base c, v = .slice base l.length c ∧ l.length ≤ c ∧ c ≤ maxLen ∧ ((base = none ∧ l = [] ∧ c = 0) ∨ base = some ⟨g, 0, none⟩) ∧ (∀ i, i < l.length → base = some ⟨g, 0, none⟩ ∧ w.cell? ⟨g, i, none⟩ = some (b8 (l.getD i 0))) := by
  rcases h with ⟨rfl, rfl⟩ | ⟨c, rest, h1, h2, h3, h4, h⟩
  · exact ⟨none, 0, rfl, Nat.le_refl _, Nat.zero_le _, Or.inl ⟨rfl, rfl, rfl⟩, fun i hi => absurd hi (by simp)⟩
  · refine ⟨_, c, h1, h2, h3, Or.inr rfl, fun i hi => ⟨rfl, ?_⟩⟩
    rw [h.cell, List.getElem?_toArray, List.getElem?_append_left (by simpa using hi)]
    simp [List.getD_eq_getElem?_getD, hi]
/-- A byte of it is turned. -/
theorem RowB.set {w : World} {g c : Nat} {base : Option Addr} {l : List Nat} (h : RowB w (.slice base l.length c) g l) {i : Nat} (hi : i < l.length) (x : Nat) :
    RowB (w.setCell ⟨g, i, none⟩ (b8 x)) (.slice base l.length c) g (l.set i x) := by
  rcases h with ⟨_, h⟩ | ⟨c', rest, h1, h2, h3, h4, h⟩
  · rw [h] at hi; simp at hi
  · cases h1
    refine Or.inr ⟨c, rest, by simp, by simpa using h2, h3, by simpa using h4, ?_⟩
    refine (h.set i (b8 x)).as ?_
    rw [List.setIfInBounds_toArray, List.set_append_left _ _ (by simpa using hi), List.map_set]

section
variable {P : Program}
theorem run_append_row_src (w : World) (t tx ty e : TypeId) (i : TypeInfo) (ht : P.underlying t = some (.slice e)) (hi : P.info? e = some i) (g sLen sCap : Nat) (cur : Array Value) (hg : w.heap[g]? = some (.cells cur e (0, 0)))
    (x : Value) (n : Nat) (news : List Value) (hs : Src P i.size tx x n news w) (hroom : sLen + n ≤ sCap) (hfit : sLen * i.size + news.length ≤ cur.size) :
    (Builtin.append_ #[t, tx] ty #[.slice (some ⟨g, 0, none⟩) sLen sCap, x]).run P w = .ok (.slice (some ⟨g, 0, none⟩) (sLen + n) sCap) (w.setRow g (cur.toList.take (sLen * i.size) ++ news ++ cur.toList.drop (sLen * i.size + news.length)).toArray) := by
  have hst := run_storeCells_at P g (sLen * i.size) e news 0 cur w hg (by simpa using hfit) hs.one
  simp only [Nat.add_zero] at hst
  rcases hs.kind with ⟨e', hk⟩ | hk <;> simp [Builtin.append_, run_underlying ht, run_underlying hk, sizeOf, typeInfo, hi, hs.len, hroom, hs.cells, Addr.add_lit, hst]
end
/-- append of bytes: in its place, or in a new block. -/
theorem RowB.append {w : World} {v vx : Value} {g : Nat} {l X : List Nat} (hR : RowB w v g l) (hs : Src Try.prog 1 28 vx X.length (X.map b8) w) (hm : l.length + X.length ≤ 100000000) (hX : 0 < X.length) :
    ∃ v' w' g', (∀ ty, (Builtin.append_ #[28, 28] ty #[v, vx]).run Try.prog w = .ok v' w') ∧ RowB w' v' g' (l ++ X) ∧ (g' = g ∨ w.heap.size ≤ g') ∧ Upd g w w' := by
  obtain ⟨i0, hi0, hz0, hz1, hz2⟩ := info_parts infoB8
  have hs' : Src Try.prog i0.size 28 vx X.length (X.map b8) w := by rw [hz1]; exact hs
  have grow : ∀ (base : Option Addr) (c : Nat), c < l.length + X.length → (Builtin.firstCells i0.size l.length (.slice base l.length c)).run Try.prog w.drew = .ok (l.map b8).toArray w.drew →
      ∃ v' w' g', (∀ ty, (Builtin.append_ #[28, 28] ty #[.slice base l.length c, vx]).run Try.prog w = .ok v' w') ∧ RowB w' v' g' (l ++ X) ∧ (g' = g ∨ w.heap.size ≤ g') ∧ Upd g w w' := by
    intro base c hc hold
    have hzz : ∀ k, (Builtin.zeroCells (Value.int .u8 0).cells k).toList.length = k := fun k => by
      rw [Array.length_toList, size_zeroCells]; show k * 1 = k; omega
    have hge := grownCap_ge w (l.length + X.length) c 5
    refine ⟨_, _, w.heap.size, fun ty => run_append_grow_src w 28 28 ty 5 i0 _ Try.underlying28 hi0 hz0 base l.length c (l.map b8) hold _ X.length (X.map b8) hs' hc (by omega) (by rw [hz2]; exact growslice_fits hc (by omega)), Or.inr ⟨grownCap w (l.length + X.length) c 5, (Builtin.zeroCells (Value.int .u8 0).cells (grownCap w (l.length + X.length) c 5 - (l.length + X.length))).toList, by simp, ?_, ?_, ?_, ?_⟩, Or.inr (Nat.le_refl _), ((Upd.refl g w).drew).alloc _⟩
    · simpa using hge
    · exact grownCap_le_maxLen w _ _ _ (by simp only [maxLen]; omega)
    · rw [hzz, List.length_append]; omega
    · refine (Obj.new w.drew _ _).as ?_
      rw [List.map_append]
      simp
  rcases hR with ⟨rfl, rfl⟩ | ⟨c, rest, rfl, h2, h3, h4, h⟩
  · exact grow none 0 (by simpa using hX) (run_firstCells_none _ _ _ _ _)
  · by_cases hc : l.length + X.length ≤ c
    · refine ⟨_, _, g, fun ty => run_append_row_src w 28 28 ty 5 i0 Try.underlying28 hi0 g l.length c _ h vx X.length (X.map b8) hs' hc (by rw [hz1]; simp; omega), Or.inr ⟨c, rest.drop X.length, by simp, by simpa using hc, h3, by simp; omega, ?_⟩, Or.inl rfl, (Upd.refl g w).row8 _⟩
      refine (Obj.row8 h _).as ?_
      rw [hz1, Nat.mul_one, List.map_append]
      congr 1
      show (l.map b8 ++ rest).take l.length ++ X.map b8 ++ (l.map b8 ++ rest).drop (l.length + (X.map b8).length) = _
      rw [List.take_append_of_le_length (by simp), List.take_of_length_le (by simp), List.drop_append, List.drop_of_length_le (by simp)]
      simp
    · refine grow (some ⟨g, 0, none⟩) c (by omega) ?_
      rw [hz1]
      refine run_firstCells_some w.drew 1 l.length ⟨g, 0, none⟩ l.length c (l.map b8) (by simp) fun j u hj => ?_
      rw [show (⟨g, 0, none⟩ : Addr).add j = ⟨g, j, none⟩ by rw [Addr.add_lit, Nat.zero_add]]
      have := (List.getElem?_eq_some_iff.1 hj).1
      exact (h.cell j).trans (by rw [List.getElem?_toArray, List.getElem?_append_left this, hj])
end Go.Proofs.Ytdloeakmoaoalaa
