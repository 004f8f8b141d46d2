/- Rows of packets: a packet stored into the middle; the tail cleared. -/
import Derived.Test.YtlldomgfjmkcdaaRows
import Derived.Test.YtlldomgfjmkcdaaAid
import Derived.Test.YtlldomgfjmkcdaaLgW
import Derived.Test.YtlldomgfjmkcdaaLgB
import Derived.Test.YtlldomgfjmkcdaaLgD
import Derived.Test.YtlldomgfjmkcdaaLgF
import Derived.Laws.CopyRow
namespace Go.Proofs.Ytlldomgfjmkcdaa
open Go Go.RowKit
set_option linter.unusedVariables false
set_option linter.unusedSimpArgs false
section
variable {P : Program}
/-- A whole value stored into the middle of a row. -/
theorem wpList_store_mid {ops : Array Oper} {rest : List Oper} {o : Oper} {a : Act} {w : World} {Q : Exit → Act → World → Prop} (hgd : o.guard = none) (ty : TypeId) (x y : Operand) (ho : o.op = .store ty x y)
    (g off : Nat) (cells : Array Value) (hx : a.eval x = .pointer (some ⟨g, off, none⟩)) (hy : a.eval y = .agg cells)
    (t : TypeId) (old : Array Value) (hg : w.heap[g]? = some (.cells old t (0, 0))) (hi : (P.info? ty).map (·.size) = some cells.size)
    (hfit : off + cells.size ≤ old.size) (h1 : ∀ v ∈ cells.toList, v.oneCell' = true)
    (h : wpList P ops Q rest (a.put o.dst undef) (w.setRow g (old.toList.take off ++ cells.toList ++ old.toList.drop (off + cells.toList.length)).toArray)) : wpList P ops Q (o :: rest) a w := by
  have hst := run_storeCells_at P g off t cells.toList 0 old w hg (by simpa using hfit) h1
  rw [Nat.add_zero] at hst
  have hv : (storeVar ty ⟨g, off, none⟩ (.agg cells)).run P w = .ok () (w.setRow g (old.toList.take off ++ cells.toList ++ old.toList.drop (off + cells.toList.length)).toArray) := by
    cases hq : P.info? ty with
    | none => simp [hq] at hi
    | some i =>
      have hs : cells.size = i.size := by simp [hq] at hi; omega
      simp only [Array.length_toList] at hst
      simp [storeVar, sizeOf, typeInfo, hq, Value.cells, hs, hst]
  refine wpList_plain hgd fun _ hK => ?_
  unfold Oper.wp execOp
  simp only [ho, hx, hy, Instr.storeAt, Instr.sureAddr, Sem.run_bind, Sem.run_pure, Result.andThen_ok, hv]
  exact hK _ _ h
theorem wpList_clear_run (w : World) {ops : Array Oper} {rest : List Oper} {o : Oper} {a : Act} {Q : Exit → Act → World → Prop} (hgd : o.guard = none) (s : Operand) (t : TypeId)
    (ho : o.op = .call { callee := .builtin .clear, args := #[s], argTypes := #[t] }) (v : Value) (hs : a.eval s = v) {v' : Value} {w' : World}
    (hr : (Builtin.clear_ #[t] o.type #[v]).run P w = .ok v' w') (h : wpList P ops Q rest (a.put o.dst v') w') : wpList P ops Q (o :: rest) a w :=
  wpList_plain hgd fun _ hK => by
    unfold Oper.wp execOp
    simp only [ho, resolve, invoke, builtin, Sem.run_bind, Sem.run_pure, Result.andThen_ok, List.map_toArray, List.map_cons, List.map_nil, hs, hr]
    exact hK _ _ h
theorem run_clear_rowk (w : World) (t e ty : TypeId) (z : Value) (ht : P.underlying t = some (.slice e)) (hv : ∀ w, (zeroValue e).run P w = .ok z w) (h1 : ∀ v ∈ z.cells.toList, v.oneCell' = true) (g o m c : Nat)
    (te : TypeId) (cur : Array Value) (hg : w.heap[g]? = some (.cells cur te (0, 0))) (hfit : o + m * z.cells.size ≤ cur.size) (hm0 : 0 < m) :
    ∃ Z : List Value, Z.length = m * z.cells.size ∧ (Builtin.clear_ #[t] ty #[.slice (some ⟨g, o, none⟩) m c]).run P w = .ok (.tuple #[]) (w.setRow g (cur.toList.take o ++ Z ++ cur.toList.drop (o + Z.length)).toArray) := by
  have hl : (Builtin.zeroCells z.cells m).toList.length = m * z.cells.size := by simp [Builtin.zeroCells]
  have hone : ∀ v ∈ (Builtin.zeroCells z.cells m).toList, v.oneCell' = true := by
    intro v hm
    obtain ⟨i, hi, rfl⟩ := List.getElem_of_mem hm
    have hi2 : i < m * z.cells.size := by rw [← hl]; exact hi
    have hzp : 0 < z.cells.size := by
      rcases Nat.eq_zero_or_pos z.cells.size with h0 | h0
      · rw [h0, Nat.mul_zero] at hi2; omega
      · exact h0
    have : (Builtin.zeroCells z.cells m).toList[i] = z.cells[i % z.cells.size]'(Nat.mod_lt _ hzp) := by
      have h3 := Nat.mod_lt i hzp
      simp [Builtin.zeroCells, h3]
    rw [this]
    exact h1 _ (by simp)
  have hst := run_storeCells_at P g o te (Builtin.zeroCells z.cells m).toList 0 cur w hg (by rw [hl]; simpa using hfit) hone
  rw [Nat.add_zero] at hst
  refine ⟨(Builtin.zeroCells z.cells m).toList, hl, ?_⟩
  obtain ⟨m', rfl⟩ : ∃ m', m = m' + 1 := ⟨m - 1, by omega⟩
  simp only [Array.length_toList] at hst ⊢
  simp [Builtin.clear_, run_underlying ht, hv, hst]
end
theorem pc_set (X : List PS) (rest : List Value) (i : Nat) (p : PS) (hi : i < X.length) : (flatS X ++ rest).take (i * 5) ++ pc p ++ (flatS X ++ rest).drop (i * 5 + (pc p).length) = flatS (X.set i p) ++ rest := by
  have h5 : (pc p).length = 5 := rfl
  have hsplit : X = X.take i ++ X.getD i default :: X.drop (i + 1) := by
    rw [List.getD_eq_getElem?_getD, List.getElem?_eq_getElem hi]
    simp
  have hX : flatS X = flatS (X.take i) ++ (pc (X.getD i default) ++ flatS (X.drop (i + 1))) := by
    rw [← show flatS (X.getD i default :: X.drop (i + 1)) = pc (X.getD i default) ++ flatS (X.drop (i + 1)) from rfl, ← flatS_append, ← hsplit]
  have hlt : (flatS (X.take i)).length = i * 5 := by rw [flatS_length, List.length_take, Nat.min_eq_left (by omega)]
  have hset : X.set i p = X.take i ++ p :: X.drop (i + 1) := by rw [List.set_eq_take_append_cons_drop, if_pos hi]
  rw [hset, flatS_append, show flatS (p :: X.drop (i + 1)) = pc p ++ flatS (X.drop (i + 1)) from rfl, hX, h5]
  generalize flatS (X.take i) = L at *
  generalize flatS (X.drop (i + 1)) = R at *
  have h5' : (pc (X.getD i default)).length = 5 := rfl
  generalize pc (X.getD i default) = M at *
  rw [List.append_assoc L (M ++ R) rest, List.take_append_of_le_length (by omega), List.take_of_length_le (by omega), List.drop_append, List.drop_of_length_le (by omega), List.nil_append, hlt, show i * 5 + 5 - i * 5 = 5 by omega, List.append_assoc M R rest, List.drop_append, List.drop_of_length_le (by omega), h5']
  simp
end Go.Proofs.Ytlldomgfjmkcdaa
