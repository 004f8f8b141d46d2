/- Arrays of words as lists: rows that are loaded and stored whole; the tables of layer 7. -/
import Derived.Test.YtanigdadhldceaaDoorRows
import Derived.Test.YtanigdadhldceaaDoorAid
import Derived.Test.YtanigdadhldceaaDoorPlainSh
import Derived.Test.YtanigdadhldceaaDoorBy
import Derived.WalkKit
import Derived.OwnWalk
import Derived.Laws.Rows
import Derived.Laws.Tables
import Derived.Laws.BitsAllLaws
import Derived.WalkSpells
import Derived.Lib.Hide
import Derived.Deep.WholeRow
import Derived.IntWalk
namespace Go.Proofs.YtanigdadhldceaaDoor
open Go.RowKit
set_option linter.unusedVariables false
set_option linter.unusedSimpArgs false

/-- The cells of an array of integers. -/
def cellsK (k : IntKind) (l : List Nat) : Array Value := (l.map fun c => Value.int k ((c : Nat) : Int)).toArray
theorem cellsK_size (k : IntKind) (l : List Nat) : (cellsK k l).size = l.length := by simp [cellsK]
theorem cellsK_get (k : IntKind) (l : List Nat) (i : Nat) (h : i < l.length) : (cellsK k l)[i]? = some (.int k ((l.getD i 0 : Nat) : Int)) := by
  simp [cellsK, h, List.getD_eq_getElem?_getD]
theorem cellsK_set (k : IntKind) (l : List Nat) (i v : Nat) : (cellsK k l).setIfInBounds i (.int k ((v : Nat) : Int)) = cellsK k (l.set i v) := by
  unfold cellsK; simp [List.map_set]
theorem Obj.getK {w : World} {b : Nat} {t : TypeId} {k : IntKind} {l : List Nat} (h : Obj w b t (cellsK k l)) (i : Nat) (hi : i < l.length) : w.cell? ⟨b, i, none⟩ = some (.int k ((l.getD i 0 : Nat) : Int)) := by rw [h.cell i, cellsK_get k l i hi]
theorem Obj.setK {w : World} {b : Nat} {t : TypeId} {k : IntKind} {l : List Nat} (h : Obj w b t (cellsK k l)) (i v : Nat) : Obj (w.setCell ⟨b, i, none⟩ (.int k ((v : Nat) : Int))) b t (cellsK k (l.set i v)) := by
  have := h.set i (.int k ((v : Nat) : Int)); rwa [cellsK_set] at this
theorem one_cellsK (k : IntKind) (l : List Nat) : (cellsK k l).all (·.oneCell') = true := by
  unfold cellsK
  rw [Array.all_eq_true_iff_forall_mem]
  intro v hv
  simp at hv
  obtain ⟨c, _, rfl⟩ := hv
  rfl
section
variable {P : Program}
theorem wpList_store_row {ops : Array Oper} {rest : List Oper} {o : Oper} {a : Act} {w : World} {Q : Exit → Act → World → Prop} (hgd : o.guard = none) (ty : TypeId) (x y : Operand) (ho : o.op = .store ty x y)
    (g : Nat) (cells : Array Value) (hx : a.eval x = .pointer (some ⟨g, 0, none⟩)) (hy : a.eval y = .agg cells)
    (t : TypeId) (old : Array Value) (hg : w.heap[g]? = some (.cells old t (0, 0))) (hi : (P.info? ty).map (·.size) = some cells.size)
    (hold : old.size = cells.size) (h1 : cells.all (·.oneCell') = true)
    (h : wpList P ops Q rest (a.put o.dst undef) (w.setRow g cells)) : wpList P ops Q (o :: rest) a w :=
  wpList_plain hgd fun _ hK => wp_store_row ty x y ho g cells hx hy t old hg hi hold h1 (hK _ _ h)
end
theorem Obj.row {w : World} {g : Nat} {t : TypeId} {cs : Array Value} (h : Obj w g t cs) (cs' : Array Value) : Obj (w.setRow g cs') g t cs' := setRow_heap w g cs cs' t (0, 0) h
theorem Upd.row {w w1 : World} {g : Nat} (h : Upd g w w1) (cs : Array Value) : Upd g w (w1.setRow g cs) :=
  h.trans ⟨rfl, rfl, rfl, by simp, fun k _ hne => setRow_other w1 g k cs hne⟩
theorem info32x8 : (Tryd.prog.info? 40).map (·.size) = some 8 := by kernel_rfl
theorem info64x8 : (Tryd.prog.info? 56).map (·.size) = some 8 := by kernel_rfl
theorem info8x32 : (Tryd.prog.info? 24).map (·.size) = some 32 := by kernel_rfl
theorem size32x8 {l : List Nat} (h : l.length = 8) : (Tryd.prog.info? 40).map (·.size) = some (cellsK .u32 l).size := by rw [cellsK_size, h]; exact info32x8
def z64 : List Nat := List.replicate 64 0
theorem zero64 : (Tryd.prog.info? 49).map (fun i => (i.zero, i.size)) = some (some (.agg (cellsK .u32 z64)), 64) := by kernel_rfl
theorem zero64u : (Tryd.prog.info? 54).map (fun i => (i.zero, i.size)) = some (some (.agg (cellsK .u64 z64)), 64) := by kernel_rfl
/-- The tables. -/
structure Tabs (w : World) : Prop where
  sz : 1 < w.heap.size ∧ 0 < w.heap.size
  k : ∀ i, i < 64 → w.cell? ⟨1, i, none⟩ = some (.int .u32 ((Sh.kz.getD i 0 : Nat) : Int))
  f : ∀ i, i < 8 → w.cell? ⟨0, i, none⟩ = some (.int .u32 ((Sh.first.getD i 0 : Nat) : Int))
theorem Tabs.below {w w' : World} (h : Tabs w) (hb : Below w.heap.size w w') : Tabs w' :=
  ⟨⟨Nat.lt_of_lt_of_le h.sz.1 hb.size, Nat.lt_of_lt_of_le h.sz.2 hb.size⟩, fun i hi => (hb.cell (p := ⟨_, i, none⟩) h.sz.1).trans (h.k i hi), fun i hi => (hb.cell (p := ⟨_, i, none⟩) h.sz.2).trans (h.f i hi)⟩
/-- The words so far, and zeros. -/
def row64 (l : List Nat) : List Nat := l ++ List.replicate (64 - l.length) 0
theorem row64_zero : row64 [] = z64 := rfl
theorem row64_len (l : List Nat) (h : l.length ≤ 64) : (row64 l).length = 64 := by simp [row64]; omega
theorem row64_get (l : List Nat) (i : Nat) (h : i < l.length) : (row64 l).getD i 0 = l.getD i 0 := by
  unfold row64
  rw [List.getD_eq_getElem?_getD, List.getElem?_append_left h, ← List.getD_eq_getElem?_getD]
theorem row64_set (l : List Nat) (v : Nat) (h : l.length < 64) : (row64 l).set l.length v = row64 (l ++ [v]) := by
  unfold row64
  rw [List.set_append_right _ _ (Nat.le_refl _), Nat.sub_self, List.length_append, List.length_singleton]
  obtain ⟨m, hm⟩ : ∃ m, 64 - l.length = m + 1 := ⟨64 - l.length - 1, by omega⟩
  rw [hm, show 64 - (l.length + 1) = m by omega, List.replicate_succ, List.set_cons_zero, List.append_assoc]
  rfl
theorem row64_full (l : List Nat) (h : l.length = 64) : row64 l = l := by unfold row64; rw [h]; simp
theorem wrap32 (a b c : Nat) (h : (a + b) % 4294967296 = c) : IntKind.u32.wrap ((a : Int) + (b : Int)) = (c : Int) := by rw [IntKind.wrap_u32]; omega
end Go.Proofs.YtanigdadhldceaaDoor
