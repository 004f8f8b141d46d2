/- Slices of bytes: what they read as; bytes that are appended to a slice of the law's own; Same at equal lists. -/
import Derived.Test.YtanigdadhldceaaDoorRows
import Derived.Test.YtanigdadhldceaaDoorAid
import Derived.WalkKit
import Derived.OwnWalk
import Derived.Laws.Rows
import Derived.Laws.Tables
import Derived.Laws.AppendOwn
import Derived.Lib.AppendZeros
import Derived.WalkSpells
import Derived.WalkLawsBesides
import Derived.BigQuiet
import Derived.Handy
import Derived.Lib.Hide
import Derived.IntWalk
namespace Go.Proofs.YtanigdadhldceaaDoor
open Go.RowKit
set_option linter.unusedVariables false
set_option linter.unusedSimpArgs false

def b8 (n : Nat) : Value := .int .u8 (n : Int)
theorem info8 : (Tryd.prog.info? 5).map (fun i => (i.zero, i.size, i.bytes)) = some (some (.int .u8 0), 1, 1) := by kernel_rfl

/-- A slice of bytes that reads as a list. -/
def Rb (w : World) (A : Option Addr) (l : List Nat) : Prop := 0 < l.length → ∃ b off, A = some ⟨b, off, none⟩ ∧ b < w.heap.size ∧ ∀ i, i < l.length → w.cell? ⟨b, off + i, none⟩ = some (b8 (l.getD i 0))
theorem Rb.below {w w' : World} {A : Option Addr} {l : List Nat} (h : Rb w A l) (hb : Below w.heap.size w w') : Rb w' A l := fun hp => by
  obtain ⟨b, off, e, h1, h2⟩ := h hp
  exact ⟨b, off, e, Nat.lt_of_lt_of_le h1 hb.size, fun i hi => (hb.cell (p := ⟨b, off + i, none⟩) h1).trans (h2 i hi)⟩
theorem own_rb {w : World} {base n : Nat} {v : Value} {l : List Nat} (h : w.ownsRow base 5 1 v n (l.map b8)) : ∃ A c, v = .slice A n c ∧ l.length = n ∧ n ≤ c ∧ c ≤ maxLen ∧ Rb w A l ∧ (A = none ∨ ∃ g, A = some ⟨g, 0, none⟩ ∧ base ≤ g) := by
  obtain ⟨h1, h2⟩ := h
  simp at h1
  rcases h2 with ⟨rfl, rfl⟩ | ⟨g, cap, cur, rfl, hb, hg, hn, hc, hs, ht⟩
  · exact ⟨none, 0, rfl, h1, Nat.le_refl _, Nat.zero_le _, fun hp => by omega, Or.inl rfl⟩
  · refine ⟨_, cap, rfl, h1, hn, hc, fun hp => ⟨g, 0, rfl, ?_, fun j hj => ?_⟩, Or.inr ⟨g, rfl, hb⟩⟩
    · rcases Nat.lt_or_ge g w.heap.size with h | h
      · exact h
      · rw [Array.getElem?_eq_none h] at hg; cases hg
    · rw [Nat.zero_add, cell_of_row w g j cur _ _ hg]
      have hj2 : j < n := by omega
      have h3 : (cur.toList.take (n * 1))[j]? = cur[j]? := by rw [List.getElem?_take]; simp [hj2]
      rw [← h3, ht, List.getElem?_map, List.getElem?_eq_getElem hj]
      simp [b8, List.getD_eq_getElem?_getD, hj]
theorem add_mid (b o i : Nat) : Addr.add ⟨b, o, none⟩ i = ⟨b, o + i, none⟩ := by
  unfold Addr.add
  by_cases h0 : i = 0
  · subst h0; simp
  · simp [h0]
theorem own_app (w : World) (ty : TypeId) {base n : Nat} {v : Value} {l : List Nat} (hown : w.ownsRow base 5 1 v n (l.map b8)) (A : Option Addr) (m c : Nat) (X : List Nat) (hl : X.length = m) (hR : Rb w A X) (hm : n + m ≤ 100000000) (hbase : base ≤ w.heap.size) :
    ∃ v' w', (Builtin.append_ #[22, 22] ty #[v, .slice A m c]).run Tryd.prog w = .ok v' w' ∧ w'.ownsRow base 5 1 v' (n + m) ((l ++ X).map b8) ∧ w.grownBy w' v.ownBlock := by
  obtain ⟨i0, hi, hz0, hz1, hz2⟩ := info_parts info8
  have hu := Tryd.underlying22
  cases A with
  | none =>
    have hX : X = [] := by
      rcases X with _ | ⟨y, r⟩
      · rfl
      · obtain ⟨_, _, e, _⟩ := hR (by simp); cases e
    subst hX
    obtain rfl : m = 0 := by simpa using hl.symm
    refine ⟨v, w, ?_, by simpa using hown, ⟨rfl, rfl, rfl, Nat.le_refl _, fun _ _ _ => rfl⟩⟩
    rcases hown.2 with ⟨rfl, h0⟩ | ⟨g, cap, cur, rfl, hb, hg, hn, hcc, hs, ht⟩
    · simp [Builtin.append_, run_underlying hu, sizeOf, typeInfo, hi, Builtin.lenOf, Builtin.firstCells, loadCells, loadCellsFrom, storeCells]
    · simp [Builtin.append_, run_underlying hu, sizeOf, typeInfo, hi, Builtin.lenOf, hn, Builtin.firstCells, loadCells, loadCellsFrom, storeCells]
  | some ad =>
    obtain ⟨v', w', h1, h2, h3, _⟩ := run_append_own (P := Tryd.prog) w base 22 ty 5 i0 (.int .u8 0) 1 1 hu hi hz0 hz1 hz2 rfl (by decide) v n _ hown ad m c (X.map b8) (by simp [hl])
      (fun j u hu => by
        rw [List.getElem?_map, Option.map_eq_some_iff] at hu
        obtain ⟨y, hy, rfl⟩ := hu
        have hj := (List.getElem?_eq_some_iff.1 hy).1
        obtain ⟨b, o, e, hlt, hc⟩ := hR (by omega)
        obtain rfl : ad = ⟨b, o, none⟩ := by cases e; rfl
        rw [add_mid, hc j hj]
        simp [b8, List.getD_eq_getElem?_getD, hy])
      (fun u hu => by
        obtain ⟨x, _, rfl⟩ := List.mem_map.1 hu
        rfl) (by unfold maxLen; omega) (by omega) hbase
    exact ⟨v', w', h1, by rw [List.map_append]; exact h2, h3⟩
theorem wpList_appX {ops : Array Oper} {rest : List Oper} {o : Oper} {a : Act} {w : World} {Q : Exit → Act → World → Prop} (hgd : o.guard = none) (s x : Operand)
    (ho : o.op = .call { callee := .builtin .append, args := #[s, x], argTypes := #[22, 22] })
    (base : Nat) (v : Value) (n : Nat) (l : List Nat) (hs : a.eval s = v) (hown : w.ownsRow base 5 1 v n (l.map b8))
    (A : Option Addr) (m c : Nat) (X : List Nat) (hx : a.eval x = .slice A m c) (hl : X.length = m) (hR : Rb w A X) (hm : n + m ≤ 100000000) (hbase : base ≤ w.heap.size)
    (h : ∀ v' w', w'.ownsRow base 5 1 v' (n + m) ((l ++ X).map b8) → w.grownBy w' v.ownBlock → wpList Tryd.prog ops Q rest (a.put o.dst v') w') : wpList Tryd.prog ops Q (o :: rest) a w := by
  obtain ⟨v', w', h1, h2, h3⟩ := own_app w o.type hown A m c X hl hR hm hbase
  exact Lib.wpList_append_run w hgd s x _ _ ho v _ hs hx v' w' h1 (h v' w' h2 h3)
theorem own_made (w : World) (B : Nat) (hB : B ≤ w.heap.size) : (w.alloc (.cells #[] 5)).ownsRow B 5 1 (.slice (some ⟨w.heap.size, 0, none⟩) 0 0) 0 (([] : List Nat).map b8) :=
  World.ownsRow_made w #[] 0 hB (Nat.zero_le _) rfl

set_option maxHeartbeats 1000000 in
theorem same_true (A B : Option Addr) (c d n : Nat) (l : List Nat) (w : World) (hn : l.length = n) (hA : Rb w A l) (hB : Rb w B l) (hm : n ≤ 1000000) :
    Calls Tryd.prog 14 #[.slice A n c, .slice B n d] w fun e w' => e = .returned (.bool true) ∧ ∃ q, w' = w.drewN q := by
  have HN := Lib.hid hn
  have HA := Lib.hid hA
  have HB := Lib.hid hB
  clear hn hA hB
  go_enter Tryd.func14, Tryd.ntmps14
  go_wp2
  go_loopw [5] (fun i wr => ∃ k q : Nat, k ≤ n ∧ i = .int .i64 k ∧ wr = w.drewN q) (fun i _ => n - (intOf i).toNat)
  case atStart => exact ⟨0, 0, by omega, rfl, rfl⟩
  case round =>
    obtain ⟨k, q, hk, rfl, rfl⟩ := hrel
    by_cases hlt : k < n
    · obtain ⟨b, o, rfl, hb, hc⟩ := HA.out (by rw [HN.out]; omega)
      obtain ⟨b', o', rfl, hb', hc'⟩ := HB.out (by rw [HN.out]; omega)
      have f0 : w.cell? ⟨b, o + k, none⟩ = some (.int .u8 ((l.getD k 0 : Nat) : Int)) := hc k (by rw [HN.out]; exact hlt)
      have f1 : w.cell? ⟨b', o' + k, none⟩ = some (.int .u8 ((l.getD k 0 : Nat) : Int)) := hc' k (by rw [HN.out]; exact hlt)
      have hki : (k : Int) < (n : Int) := by omega
      clear hc hc' hb hb'
      generalize l.getD k 0 = x at *
      go_wp2
      go_quiet (fail)
      go_wp2
      go_roundw
      case rel => exact ⟨k + 1, _, by omega, by go_num, rfl⟩
      case measure => simp [intOf]; omega
    · obtain rfl : k = n := by omega
      go_wp2
      go_ret
      exact ⟨rfl, _, rfl⟩
/-- A slice that came in, as bytes. -/
theorem Ints_rb {w : World} {A : Option Addr} {n : Nat} {z : List Int} (h : Ints .u8 w A n z) : ∃ t : List Nat, t.length = n ∧ (∀ x ∈ t, x < 256) ∧ Rb w A t := by
  obtain ⟨h1, h2, h3⟩ := h
  refine ⟨z.map Int.toNat, by rw [List.length_map]; exact h1, fun c hc => ?_, fun hp => ?_⟩
  · obtain ⟨x, hx, rfl⟩ := List.mem_map.1 hc
    have := bounds_u8 (h2 x hx); omega
  · rw [List.length_map, h1] at hp
    obtain ⟨b, off, e, hlt, hc⟩ := h3 hp
    refine ⟨b, off, e, hlt, fun j hj => ?_⟩
    rw [List.length_map, h1] at hj
    have hzl : j < z.length := by rw [h1]; exact hj
    rw [hc j hj]
    have hb := bounds_u8 (h2 z[j] (List.getElem_mem hzl))
    unfold b8
    rw [List.getD_eq_getElem?_getD, List.getD_eq_getElem?_getD, List.getElem?_map, List.getElem?_eq_getElem hzl]
    simp only [Option.getD_some, Option.map_some]
    congr 2
    omega
/-- A part of it. -/
theorem Rb.drop {w : World} {b o : Nat} {t : List Nat} (h : Rb w (some ⟨b, o, none⟩) t) (k : Nat) : Rb w (some ⟨b, o + k, none⟩) (t.drop k) := fun hp => by
  simp at hp
  obtain ⟨b', o', e, hlt, hc⟩ := h (by omega)
  cases e
  refine ⟨b, o + k, rfl, hlt, fun i hi => ?_⟩
  simp at hi
  rw [show o + k + i = o + (k + i) by omega, hc (k + i) (by omega)]
  simp [List.getD_eq_getElem?_getD, List.getElem?_drop]
theorem Rb.take {w : World} {A : Option Addr} {t : List Nat} (h : Rb w A t) (k : Nat) : Rb w A (t.take k) := fun hp => by
  simp at hp
  obtain ⟨b, o, e, hlt, hc⟩ := h (by omega)
  refine ⟨b, o, e, hlt, fun i hi => ?_⟩
  simp at hi
  rw [hc i (by omega), List.getD_eq_getElem?_getD, List.getD_eq_getElem?_getD, List.getElem?_take, if_pos (by omega)]
end Go.Proofs.YtanigdadhldceaaDoor
