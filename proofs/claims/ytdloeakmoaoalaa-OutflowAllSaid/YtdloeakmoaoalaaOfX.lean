/- Rows of bytes: append of nothing, of zeros. -/
import Derived.Test.YtdloeakmoaoalaaRows
import Derived.Test.YtdloeakmoaoalaaAid
import Derived.Test.YtdloeakmoaoalaaOfW
import Derived.WalkKit
import Derived.OwnWalk
import Derived.Laws.Rows
import Derived.Laws.Tables
import Derived.Laws.CopyRow
import Derived.Laws.AppendOwn
import Derived.Laws.BitsLemmas
import Derived.Deep.AppendSrc
import Derived.Lib.AppendZeros
import Derived.Lib.AppendZerosOnto
import Derived.Lib.Hide
namespace Go.Proofs.Ytdloeakmoaoalaa
open Go.RowKit
set_option linter.unusedVariables false
set_option linter.unusedSimpArgs false

theorem run_append_room_zeros {P : Program} (w : World) (t tn ty e : TypeId) (i : TypeInfo) (z : Value) (kq kn : IntKind) (ht : P.underlying t = some (.slice e)) (htn : P.underlying tn = some (.int kn)) (hi : P.info? e = some i) (hz : i.zero = some z)
    (g sLen sCap : Nat) (cur : Array Value) (hg : w.heap[g]? = some (.cells cur e (0, 0))) (k : Nat) (h0 : 0 < k) (hs : i.size = 1) (hzc : z.cells = #[z]) (hz1 : z.oneCell' = true) (hroom : sLen + k ≤ sCap) (h63 : ((sLen + k : Nat) : Int) ≤ 9223372036854775807) (h48 : k * i.bytes ≤ 281474976710656) (hfit : sLen + k ≤ cur.size) :
    (Builtin.append_ #[t, tn] ty #[.slice (some ⟨g, 0, none⟩) sLen sCap, .int kq k]).run P w = .ok (.slice (some ⟨g, 0, none⟩) (sLen + k) sCap) (w.setRow g (cur.toList.take sLen ++ List.replicate k z ++ cur.toList.drop (sLen + k)).toArray) := by
  have hzz : (Builtin.zeroCells z.cells k).toList = List.replicate k z := by
    rw [hzc]
    simp [Builtin.zeroCells]
    apply List.ext_getElem
    · simp
    · intro i h1 h2
      simp [Nat.mod_one]
  have hst := run_storeCells_at P g sLen e (List.replicate k z) 0 cur w hg (by simpa using hfit) (fun v hv => by rw [List.eq_of_mem_replicate hv]; exact hz1)
  simp only [Nat.add_zero, List.length_replicate] at hst
  have hw : IntKind.i64.wrap (k : Int) = k := by rw [IntKind.wrap_i64]; omega
  have h48i : ¬ (281474976710656 < (k : Int) * (i.bytes : Int)) := by rw [← Int.natCast_mul]; omega
  have hneg : ¬ ((k : Int) < 0) := by omega
  have hk : k ≠ 0 := by omega
  simp [Builtin.append_, run_underlying ht, run_underlying htn, sizeOf, typeInfo, zeroValue, hi, hz, hs, asInt, asIntOf, hw, hneg, h48i, hk, hroom, hzz, Addr.add_lit, hst]

/-- append of nothing. -/
theorem RowB.append0 {w : World} {v vx : Value} {g : Nat} {l : List Nat} (hR : RowB w v g l) (hx : (∃ c, vx = .slice none 0 c) ∨ ∃ ad c, vx = .slice (some ad) 0 c) (ty : TypeId) :
    (Builtin.append_ #[28, 28] ty #[v, vx]).run Try.prog w = .ok v w := by
  obtain ⟨i0, hi0, hz0, hz1, hz2⟩ := info_parts infoB8
  have hu := Try.underlying28
  obtain ⟨base, c, rfl, hlc, _, hb, _⟩ := hR.form
  rcases hx with ⟨c', rfl⟩ | ⟨ad, c', rfl⟩ <;> rcases hb with ⟨rfl, h0, rfl⟩ | rfl <;>
    simp [Builtin.append_, run_underlying hu, sizeOf, typeInfo, hi0, Builtin.lenOf, hlc, Builtin.firstCells, loadCells, loadCellsFrom, storeCells, *]
/-- append of k zeros. -/
theorem RowB.appendZ {w : World} {v : Value} {g : Nat} {l : List Nat} (hR : RowB w v g l) (k : Nat) (hm : l.length + k ≤ 100000000) :
    ∃ v' w' g', (∀ ty, (Builtin.append_ #[28, 3] ty #[v, .int .i64 (k : Int)]).run Try.prog w = .ok v' w') ∧ RowB w' v' g' (l ++ List.replicate k 0) ∧ (g' = g ∨ w.heap.size ≤ g') ∧ Upd g w w' := by
  obtain ⟨i0, hi0, hz0, hz1, hz2⟩ := info_parts infoB8
  have hu := Try.underlying28
  have hn := Try.underlying3
  rcases Nat.eq_zero_or_pos k with rfl | hk
  · refine ⟨v, w, g, fun ty => ?_, by simpa using hR, Or.inl rfl, Upd.refl _ _⟩
    obtain ⟨base, c, rfl, hlc, _, hb, _⟩ := hR.form
    rcases hb with ⟨rfl, h0, rfl⟩ | rfl <;>
      simp [Builtin.append_, run_underlying hu, run_underlying hn, sizeOf, typeInfo, hi0, asInt, asIntOf, hlc, storeCells, show IntKind.i64.wrap 0 = 0 from rfl, *]
  · have grow : ∀ (base : Option Addr) (c : Nat), c < l.length + k → (Builtin.firstCells i0.size l.length (.slice base l.length c)).run Try.prog w.drew = .ok (l.map b8).toArray w.drew →
        ∃ v' w' g', (∀ ty, (Builtin.append_ #[28, 3] ty #[.slice base l.length c, .int .i64 (k : Int)]).run Try.prog w = .ok v' w') ∧ RowB w' v' g' (l ++ List.replicate k 0) ∧ (g' = g ∨ w.heap.size ≤ g') ∧ Upd g w w' := by
      intro base c hc hold
      have hzl : ∀ m, (Builtin.zeroCells (Value.int .u8 0).cells m).toList.length = m := fun m => by
        rw [Array.length_toList, size_zeroCells]; show m * 1 = m; omega
      have hzz : (Builtin.zeroCells (Value.int .u8 0).cells k).toList = (List.replicate k 0).map b8 := by
        show (Builtin.zeroCells #[Value.int .u8 0] k).toList = _
        simp [Builtin.zeroCells]
        apply List.ext_getElem
        · simp
        · intro i h1 h2
          simp [Nat.mod_one, b8]
      have hge := grownCap_ge w (l.length + k) c 5
      refine ⟨_, _, w.heap.size, fun ty => Lib.run_append_grow_zeros w 28 3 ty 5 i0 _ .i64 .i64 hu hn hi0 hz0 base l.length c (l.map b8) hold k hk (by omega) hc (by omega) (by rw [hz2]; omega) (by rw [hz2]; exact growslice_fits hc (by omega)), Or.inr ⟨grownCap w (l.length + k) c 5, (Builtin.zeroCells (Value.int .u8 0).cells (grownCap w (l.length + k) c 5 - (l.length + k))).toList, by simp, ?_, ?_, ?_, ?_⟩, Or.inr (Nat.le_refl _), ((Upd.refl g w).drew).alloc _⟩
      · simpa using hge
      · exact grownCap_le_maxLen w _ _ _ (by simp only [maxLen]; omega)
      · rw [hzl, List.length_append, List.length_replicate]; omega
      · refine (Obj.new w.drew _ _).as ?_
        apply Array.ext'
        rw [List.map_append, ← hzz]
        simp
    rcases hR with ⟨rfl, rfl⟩ | ⟨c, rest, rfl, h2, h3, h4, h⟩
    · exact grow none 0 (by simpa using hk) (run_firstCells_none _ _ _ _ _)
    · by_cases hc : l.length + k ≤ c
      · refine ⟨_, _, g, fun ty => run_append_room_zeros w 28 3 ty 5 i0 _ .i64 .i64 hu hn hi0 hz0 g l.length c _ h k hk hz1 rfl rfl hc (by omega) (by rw [hz2]; omega) (by simp; omega), Or.inr ⟨c, rest.drop k, by simp, by simpa using hc, h3, by simp; omega, ?_⟩, Or.inl rfl, (Upd.refl g w).row8 _⟩
        refine (Obj.row8 h _).as ?_
        congr 1
        show (l.map b8 ++ rest).take l.length ++ List.replicate k (Value.int .u8 0) ++ (l.map b8 ++ rest).drop (l.length + k) = _
        rw [List.take_append_of_le_length (by simp), List.take_of_length_le (by simp), List.drop_append, List.drop_of_length_le (by simp), List.map_append, List.map_replicate]
        simp [b8]
      · refine grow (some ⟨g, 0, none⟩) c (by omega) ?_
        rw [hz1]
        refine run_firstCells_some w.drew 1 l.length ⟨g, 0, none⟩ l.length c (l.map b8) (by simp) fun j u hj => ?_
        rw [show (⟨g, 0, none⟩ : Addr).add j = ⟨g, j, none⟩ by rw [Addr.add_lit, Nat.zero_add]]
        have := (List.getElem?_eq_some_iff.1 hj).1
        exact (h.cell j).trans (by rw [List.getElem?_toArray, List.getElem?_append_left this, hj])
end Go.Proofs.Ytdloeakmoaoalaa
