/- slices.Insert and slices.Delete at ranges, walked. -/
import Derived.Test.YtgbgdbadifagcaaRows
import Derived.Test.YtgbgdbadifagcaaAid
import Derived.Test.YtgbgdbadifagcaaPlainRg
import Derived.Test.YtgbgdbadifagcaaRgW
import Derived.Test.YtgbgdbadifagcaaRgX
import Derived.WalkKit
import Derived.Laws.Rows
import Derived.Laws.Tables
import Derived.Laws.CopyRow
import Derived.Laws.AppendOwn
import Derived.Laws.Externs
import Derived.Deep.AppendSrc
import Derived.Lib.AppendZeros
import Derived.Lib.AppendZerosOnto
import Derived.Lib.Overlaps
import Derived.Lib.SliceRun
import Derived.OwnWalk
import Derived.WalkSpells
import Derived.WalkLawsBesides
import Derived.Deep.QuietTactic
import Derived.RegionTactic
import Derived.Shelf.RegionOpenPlain
import Derived.Shelf.Spec.SlicesInsert
import Derived.Handy
import Derived.StillTailTactics
import Derived.Lib.Hide
import Derived.IntWalk
namespace Go.Proofs.Ytgbgdbadifagcaa
open Go.RowKit Go.Shelf Go.Lib Go.Sort
set_option linter.unusedVariables false
set_option linter.unusedSimpArgs false
section
variable {P : Program}
/-- copy into a row, elements of k cells. -/
theorem run_copy_rowk (w : World) (dT sT ty elem : TypeId) (k : Nat) (hu : P.underlying dT = some (.slice elem)) (hs : (P.info? elem).map (·.size) = some k)
    (g o dLen dCap : Nat) (a : Addr) (sLen sCap m : Nat) (hm : Nat.min sLen dLen = m) (cs : List Value) (hl : cs.length = m * k)
    (hsrc : ∀ j v, cs[j]? = some v → w.cell? (a.add j) = some v) (h1 : ∀ v ∈ cs, v.oneCell' = true)
    (t : TypeId) (cur : Array Value) (hg : w.heap[g]? = some (.cells cur t (0, 0))) (hfit : o + cs.length ≤ cur.size) :
    (Builtin.copy_ #[dT, sT] ty #[.slice (some ⟨g, o, none⟩) dLen dCap, .slice (some a) sLen sCap]).run P w = .ok (goInt m) (w.setRow g (cur.toList.take o ++ cs ++ cur.toList.drop (o + cs.length)).toArray) := by
  have hst := run_storeCells_at P g o t cs 0 cur w hg (by simpa using hfit) h1
  simp only [Nat.add_zero] at hst
  cases hq : P.info? elem with
  | none => simp [hq] at hs
  | some i =>
    have hi : i.size = k := by simpa [hq] using hs
    have hf := run_firstCells_some (P := P) w k m a sLen sCap cs hl hsrc
    simp [Builtin.copy_, run_underlying hu, Builtin.lenOf, sizeOf, typeInfo, hq, hi, hm, hf, hst]
end
theorem Obj.row {w : World} {g : Nat} {t : TypeId} {cs : Array Value} (h : Obj w g t cs) (cs' : Array Value) : Obj (w.setRow g cs') g t cs' := setRow_heap w g cs cs' t (0, 0) h
theorem Upd.row {w w1 : World} {g : Nat} (h : Upd g w w1) (cs : Array Value) : Upd g w (w1.setRow g cs) :=
  h.trans ⟨rfl, rfl, rfl, by simp, fun k _ hne => setRow_other w1 g k cs hne⟩
theorem sizeR : (Try.prog.info? 41).map (·.size) = some 2 := by kernel_rfl
theorem flat_take (l : List Rg.R) : ∀ i, (flat l).take (i * 2) = flat (l.take i) := by
  induction l with
  | nil => intro i; simp [flat]
  | cons r t ih =>
    intro i
    cases i with
    | zero => simp [flat]
    | succ i => rw [show (i + 1) * 2 = i * 2 + 1 + 1 by omega]; simp [flat, ih]
theorem flat_drop (l : List Rg.R) : ∀ i, (flat l).drop (i * 2) = flat (l.drop i) := by
  induction l with
  | nil => intro i; simp [flat]
  | cons r t ih =>
    intro i
    cases i with
    | zero => simp [flat]
    | succ i => rw [show (i + 1) * 2 = i * 2 + 1 + 1 by omega]; simp [flat, ih]
theorem flat_single (r : Rg.R) : flat [r] = [u64v r.1, u64v r.2] := rfl
theorem add_zero_lit (g j : Nat) : (⟨g, 0, none⟩ : Addr).add j = ⟨g, j, none⟩ := by rw [Addr.add_lit, Nat.zero_add]

/-- What the variadic argument yields. -/
theorem src_one {w : World} {vb : Nat} {r : Rg.R} (hV : Obj w vb 41 #[u64v r.1, u64v r.2]) : ∀ j u, (flat [r])[j]? = some u → w.cell? ((⟨vb, 0, none⟩ : Addr).add j) = some u := by
  intro j u hj
  rw [add_zero_lit, hV.cell]
  simpa [flat_single] using hj

set_option maxHeartbeats 1000000 in
theorem splice (A B Z : List Value) (o : Nat) (ho : o = A.length) : (A ++ Z).take o ++ B ++ (A ++ Z).drop (o + B.length) = A ++ B ++ Z.drop B.length := by
  subst ho
  rw [List.take_left, List.drop_append, List.drop_of_length_le (by omega), show A.length + B.length - A.length = B.length by omega, List.nil_append]

/-- i = len(s). -/
theorem insert_end (g vb : Nat) (v : Value) (l : List Rg.R) (r : Rg.R) (w : World) (hR : RowR w v g l) (hl : l.length ≤ 1000) (hV : Obj w vb 41 #[u64v r.1, u64v r.2]) :
    Calls Try.prog 22 #[v, .int .i64 (l.length : Nat), .slice (some ⟨vb, 0, none⟩) 1 1] w fun e w' => ∃ v' g', e = .returned v' ∧ RowR w' v' g' (l ++ [r]) ∧ (g' = g ∨ w.heap.size ≤ g') ∧ Upd g w w' := by
  obtain ⟨i0, hi0, hz0, hz1, hz2⟩ := infoR
  have hfl := flat_length l
  have hrun : ∃ v' w', (∀ ty, (Builtin.append_ #[27, 27] ty #[v, .slice (some ⟨vb, 0, none⟩) 1 1]).run Try.prog w = .ok v' w') ∧ ∃ g', RowR w' v' g' (l ++ [r]) ∧ (g' = g ∨ w.heap.size ≤ g') ∧ Upd g w w' := by
    have hsrc : Src Try.prog i0.size 27 (.slice (some ⟨vb, 0, none⟩) 1 1) 1 (flat [r]) w := by
      rw [hz1]; exact Src.ofSlice w Try.underlying27 ⟨vb, 0, none⟩ 1 1 (flat [r]) rfl (src_one hV) (flat_one _)
    have grow : ∀ (base : Option Addr) (c : Nat), c < l.length + 1 → (Builtin.firstCells i0.size l.length (.slice base l.length c)).run Try.prog w.drew = .ok (flat l).toArray w.drew →
        ∃ v' w', (∀ ty, (Builtin.append_ #[27, 27] ty #[.slice base l.length c, .slice (some ⟨vb, 0, none⟩) 1 1]).run Try.prog w = .ok v' w') ∧ ∃ g', RowR w' v' g' (l ++ [r]) ∧ (g' = g ∨ w.heap.size ≤ g') ∧ Upd g w w' := by
      intro base c hc hold
      refine ⟨_, _, fun ty => run_append_grow_src w 27 27 ty 41 i0 _ Try.underlying27 hi0 hz0 base l.length c (flat l) hold _ 1 (flat [r]) hsrc hc (by omega) (by rw [hz2]; exact growslice_fits hc (by omega)), w.heap.size, Or.inr ⟨grownCap w (l.length + 1) c 41, (Builtin.zeroCells (Value.agg #[u64v 0, u64v 0]).cells (grownCap w (l.length + 1) c 41 - (l.length + 1))).toList, by simp, ?_, ?_, ?_, ?_⟩, Or.inr (Nat.le_refl _), ((Upd.refl g w).drew).alloc _⟩
      · simpa using grownCap_ge w (l.length + 1) c _
      · exact grownCap_le_maxLen w _ _ _ (by simp only [maxLen]; omega)
      · have hz : ∀ k, (Builtin.zeroCells (Value.agg #[u64v 0, u64v 0]).cells k).toList.length = k * 2 := fun k => by rw [Array.length_toList, size_zeroCells]; rfl
        refine Nat.le_trans ?_ (Nat.le_of_eq (hz _).symm)
        simp; omega
      · refine (Obj.new w.drew _ _).as ?_
        rw [flat_append]
        simp
    rcases hR with ⟨rfl, rfl⟩ | ⟨c, rest, rfl, h2, h3, h4, h⟩
    · exact grow none 0 (by simp) (run_firstCells_none _ _ _ _ _)
    · by_cases hc : l.length + 1 ≤ c
      · have hr2 : 2 ≤ rest.length := by omega
        refine ⟨_, _, fun ty => run_append_room w 27 ty 41 i0 Try.underlying27 hi0 g l.length c _ h ⟨vb, 0, none⟩ 1 1 (flat [r]) (by rw [hz1]; rfl) (src_one hV) (flat_one _) hc (by rw [hz1]; simp [flat_single]; omega), g, Or.inr ⟨c, rest.drop 2, by simp, by simpa using hc, h3, by simp; omega, ?_⟩, Or.inl rfl, (Upd.refl g w).row _⟩
        refine (Obj.row h _).as ?_
        rw [hz1, flat_append]
        congr 1
        rw [List.take_append_of_le_length (by omega), List.take_of_length_le (by omega), flat_single, List.length_cons, List.length_cons, List.length_nil, List.drop_append]
        rw [List.drop_of_length_le (by omega), show l.length * 2 + (0 + 1 + 1) - (flat l).length = 2 by omega]
        simp
      · refine grow (some ⟨g, 0, none⟩) c (by omega) ?_
        rw [hz1]
        refine run_firstCells_some w.drew 2 l.length ⟨g, 0, none⟩ l.length c (flat l) (by omega) fun j u hj => ?_
        rw [add_zero_lit]
        have := (List.getElem?_eq_some_iff.1 hj).1
        exact (h.cell j).trans (by rw [List.getElem?_toArray, List.getElem?_append_left this, hj])
  obtain ⟨v', w', hrun, g', k1, k2, k3⟩ := hrun
  obtain ⟨base, c, rfl, hb, hg⟩ := hR.nilOr
  have HR := Lib.hid hrun
  have HK := Lib.hid (And.intro k1 (And.intro k2 k3))
  clear hrun k1 k2 k3 hR hV hi0 hz0 hz1 hz2 hfl
  have hb' : l.length = 0 ∨ base = some ⟨g, 0, none⟩ := by
    rcases Nat.eq_zero_or_pos l.length with h | h
    · exact Or.inl h
    · exact Or.inr (hb h)
  clear hb hg
  go_enter Try.func22, Try.ntmps22
  go_wp2_with (at_builtin; refine Lib.wpList_append_run _ rfl _ _ _ _ rfl _ _ rfl rfl _ _ (HR.out _) ?_)
  all_goals go_ret
  all_goals exact ⟨v', rfl, g', HK.out⟩

set_option maxHeartbeats 2000000 in
/-- i < len(s), no room. -/
theorem insert_grow (g vb c i : Nat) (l : List Rg.R) (rest : List Value) (r : Rg.R) (w : World) (hO : Obj w g 41 (flat l ++ rest).toArray) (hi : i < l.length) (hlc : l.length ≤ c) (hc : c < l.length + 1) (hl : l.length ≤ 1000) (hV : Obj w vb 41 #[u64v r.1, u64v r.2]) :
    Calls Try.prog 22 #[.slice (some ⟨g, 0, none⟩) l.length c, .int .i64 (i : Nat), .slice (some ⟨vb, 0, none⟩) 1 1] w fun e w' => ∃ v' g', e = .returned v' ∧ RowR w' v' g' (l.take i ++ r :: l.drop i) ∧ (g' = g ∨ w.heap.size ≤ g') ∧ Upd g w w' := by
  obtain rfl : c = l.length := by omega
  obtain ⟨i0, hi0, hz0, hz1, hz2⟩ := infoR
  have hfl := flat_length l
  have hgw : g < w.heap.size := hO.lt
  have hvw : vb < w.heap.size := hV.lt
  have hcell : ∀ (W : World), (∀ x : Addr, x.block < w.heap.size → W.cell? x = w.cell? x) → ∀ (k n : Nat), k ≤ l.length → ∀ j u, ((flat (l.drop k)).take n)[j]? = some u → W.cell? ((⟨g, k * 2, none⟩ : Addr).add j) = some u := by
    intro W hW k n hk j u hj
    rw [Addr.add_lit, hW _ hgw, hO.cell, List.getElem?_toArray]
    rw [List.getElem?_take] at hj
    split at hj
    · rw [← flat_drop, List.getElem?_drop] at hj
      rw [List.getElem?_append_left (by have := (List.getElem?_eq_some_iff.1 hj).1; omega), hj]
    · cases hj
  have hold : (Builtin.firstCells i0.size i (.slice (some ⟨g, 0, none⟩) i l.length)).run Try.prog w.drew = .ok (flat (l.take i)).toArray w.drew := by
    rw [hz1]
    refine run_firstCells_some w.drew 2 i ⟨g, 0, none⟩ i l.length (flat (l.take i)) (by rw [flat_length, List.length_take]; omega) fun j u hj => ?_
    rw [add_zero_lit]
    rw [← flat_take, List.getElem?_take] at hj
    split at hj
    · exact (hO.cell j).trans (by rw [List.getElem?_toArray, List.getElem?_append_left (by have := (List.getElem?_eq_some_iff.1 hj).1; omega), hj])
    · cases hj
  obtain ⟨G, hG⟩ : ∃ G, grownCap w (l.length + 1) l.length 41 = G := ⟨_, rfl⟩
  have hGn : l.length + 1 ≤ G := by rw [← hG]; exact grownCap_ge w _ _ _
  have hG63 : G ≤ maxLen := by rw [← hG]; exact grownCap_le_maxLen w _ _ _ (by simp only [maxLen]; omega)
  have hrz : ∃ W1 Z, W1 = w.drew.alloc (.cells (flat (l.take i) ++ Z).toArray 41) ∧ Z.length = 2 * (G - i) ∧ ∀ ty, (Builtin.append_ #[27, 3] ty #[.slice (some ⟨g, 0, none⟩) i l.length, .int .i64 ((l.length : Int) + 1 - (i : Int))]).run Try.prog w = .ok (.slice (some ⟨w.heap.size, 0, none⟩) (l.length + 1) G) W1 := by
    have hzz : ∀ k, (Builtin.zeroCells (Value.agg #[u64v 0, u64v 0]).cells k).toList.length = k * 2 := fun k => by rw [Array.length_toList, size_zeroCells]; rfl
    refine ⟨_, (Builtin.zeroCells (Value.agg #[u64v 0, u64v 0]).cells (l.length + 1 - i)).toList ++ (Builtin.zeroCells (Value.agg #[u64v 0, u64v 0]).cells (G - (l.length + 1))).toList, rfl, ?_, fun ty => ?_⟩
    · rw [List.length_append, hzz, hzz]; omega
    · have h := Lib.run_append_grow_zeros w 27 3 ty 41 i0 _ .i64 .i64 Try.underlying27 Try.underlying3 hi0 hz0 (some ⟨g, 0, none⟩) i l.length (flat (l.take i)) hold (l.length + 1 - i) (by omega) (by omega) (by omega) (by omega) (by rw [hz2]; omega) (by rw [hz2, show i + (l.length + 1 - i) = l.length + 1 by omega]; exact growslice_fits (by omega) (by omega))
      rw [show i + (l.length + 1 - i) = l.length + 1 by omega, hG] at h
      rw [show (l.length : Int) + 1 - (i : Int) = ((l.length + 1 - i : Nat) : Int) by omega, h]
      congr 2
      congr 1
      apply Array.ext'
      simp [List.append_assoc]
  obtain ⟨W1, Z, hW1, hZ, hrz⟩ := hrz
  have hO1 : Obj W1 w.heap.size 41 (flat (l.take i) ++ Z).toArray := by rw [hW1]; exact Obj.new w.drew _ _
  have hV1 : Obj W1 vb 41 #[u64v r.1, u64v r.2] := by rw [hW1]; exact (hV.drew).alloc _
  have hcW1 : ∀ x : Addr, x.block < w.heap.size → W1.cell? x = w.cell? x := fun x hx => by rw [hW1]; exact World.cell?_of_block (Below.heap_alloc w.drew _ _ hx)
  have hU1 : Upd g w W1 := by rw [hW1]; exact ((Upd.refl g w).drew).alloc _
  have hfi : (flat (l.take i)).length = i * 2 := by rw [flat_length, List.length_take]; omega
  have hcpA : ∀ ty, (Builtin.copy_ #[27, 27] ty #[.slice (some ⟨w.heap.size, i * 2, none⟩) (l.length + 1 - i) (G - i), .slice (some ⟨vb, 0, none⟩) 1 1]).run Try.prog W1 = .ok (goInt 1) (W1.setRow w.heap.size (flat (l.take i) ++ flat [r] ++ Z.drop 2).toArray) := fun ty => by
    rw [run_copy_rowk W1 _ _ ty 41 2 Try.underlying27 sizeR w.heap.size (i * 2) (l.length + 1 - i) (G - i) ⟨vb, 0, none⟩ 1 1 1 (by simp only [Nat.min_def]; split <;> omega) (flat [r]) rfl (src_one hV1) (flat_one _) _ _ hO1 (by simp [flat_single, hfi]; omega)]
    rw [splice _ _ _ _ hfi.symm]; rfl
  obtain ⟨W2, hW2⟩ : ∃ W2, W1.setRow w.heap.size (flat (l.take i) ++ flat [r] ++ Z.drop 2).toArray = W2 := ⟨_, rfl⟩
  rw [hW2] at hcpA
  have hO2 : Obj W2 w.heap.size 41 (flat (l.take i) ++ flat [r] ++ Z.drop 2).toArray := by rw [← hW2]; exact hO1.row _
  have hcW2 : ∀ x : Addr, x.block < w.heap.size → W2.cell? x = w.cell? x := fun x hx => by
    rw [← hW2]; exact (World.cell?_of_block (setRow_other W1 _ _ _ (by omega))).trans (hcW1 x hx)
  have hU2 : Upd g w W2 := by
    rw [← hW2]; exact ⟨hU1.os, hU1.tape, hU1.output, by simpa using hU1.size, fun k hk hne => (setRow_other W1 _ k _ (by omega)).trans (hU1.block k hk hne)⟩
  have hcpB : ∀ ty, (Builtin.copy_ #[27, 27] ty #[.slice (some ⟨w.heap.size, (i + 1) * 2, none⟩) (l.length - i) (G - (i + 1)), .slice (some ⟨g, i * 2, none⟩) (l.length - i) (l.length - i)]).run Try.prog W2.drew = .ok (goInt (l.length - i : Nat)) (W2.drew.setRow w.heap.size (flat (l.take i ++ r :: l.drop i) ++ (Z.drop 2).drop (2 * (l.length - i))).toArray) := fun ty => by
    have hfd : (flat (l.drop i)).length = 2 * (l.length - i) := by rw [flat_length, List.length_drop]
    rw [run_copy_rowk W2.drew _ _ ty 41 2 Try.underlying27 sizeR w.heap.size ((i + 1) * 2) (l.length - i) (G - (i + 1)) ⟨g, i * 2, none⟩ (l.length - i) (l.length - i) (l.length - i) (by simp only [Nat.min_def]; split <;> omega) (flat (l.drop i)) (by omega) (fun j u hj => hcell W2.drew hcW2 i (2 * (l.length - i)) (by omega) j u (by rw [List.take_of_length_le (by omega)]; exact hj)) (flat_one _) _ _ hO2.drew (by simp [flat_single, hfi, hfd, hZ]; omega)]
    congr 2
    have := splice (flat (l.take i) ++ flat [r]) (flat (l.drop i)) (Z.drop 2) ((i + 1) * 2) (by rw [List.length_append, hfi]; simp [flat_single]; omega)
    rw [show (flat (l.take i) ++ flat [r] ++ Z.drop 2).toArray.toList = flat (l.take i) ++ flat [r] ++ Z.drop 2 by simp, this, hfd]
    simp only [flat_append, flat, List.append_assoc, flat_single]
    rfl
  obtain ⟨W3, hW3⟩ : ∃ W3, W2.drew.setRow w.heap.size (flat (l.take i ++ r :: l.drop i) ++ (Z.drop 2).drop (2 * (l.length - i))).toArray = W3 := ⟨_, rfl⟩
  rw [hW3] at hcpB
  have HEND : Hid (RowR W3 (.slice (some ⟨w.heap.size, 0, none⟩) (l.length + 1) G) w.heap.size (l.take i ++ r :: l.drop i) ∧ (w.heap.size = g ∨ w.heap.size ≤ w.heap.size) ∧ Upd g w W3) := by
    have hll : (l.take i ++ r :: l.drop i).length = l.length + 1 := by simp; omega
    refine ⟨Or.inr ⟨G, (Z.drop 2).drop (2 * (l.length - i)), by rw [hll], by omega, hG63, by simp [hZ]; omega, ?_⟩, Or.inr (Nat.le_refl _), ?_⟩
    · rw [← hW3]; exact hO2.drew.row _
    · rw [← hW3]; exact ⟨hU2.os, hU2.tape, hU2.output, by simpa using hU2.size, fun k hk hne => (setRow_other W2.drew _ k _ (by omega)).trans (hU2.block k hk hne)⟩
  have hi1 : (i : Int) < (l.length : Int) := by omega
  have hi2 : ¬ (i : Int) = (l.length : Int) := by omega
  have hi3 : ¬ l.length = i := by omega
  have hi4 : ¬ G = i := by omega
  have hi5 : ¬ G = i + 1 := by omega
  have hi6 : (i : Int) + 1 ≤ (l.length : Int) + 1 := by omega
  have hsz : W2.heap.size = W2.heap.size := rfl
  have hw1 : IntKind.i64.wrap ((i : Int) + 1) = (i : Int) + 1 := by rw [IntKind.wrap_i64]; omega
  have hb1 : (0 : Int) ≤ (i : Int) + 1 := by omega
  have htn : ((i : Int) + 1).toNat = i + 1 := by omega
  have hi7 : (i : Int) ≤ (l.length : Int) := by omega
  have HA := Lib.hid hrz
  have HB := Lib.hid hcpA
  have HC := Lib.hid hcpB
  clear hrz hcpA hcpB hlc hc hO hV hcell hold hG hW1 hO1 hV1 hcW1 hU1 hW2 hO2 hcW2 hU2 hW3 hZ hfi hfl hi0 hz0 hz1 hz2 hsz
  unfold maxLen at hG63
  generalize l.length = m at *
  go_enter Try.func22, Try.ntmps22
  go_wp2_with (first
    | (at_builtin; refine Lib.wpList_append_run _ rfl _ _ _ _ rfl _ _ rfl rfl _ _ (HA.out _) ?_)
    | (refine wpList_copy_runI _ rfl _ _ 27 27 rfl _ _ rfl rfl (HB.out _) ?_))
  refine wp_region_still_tail 8 (by kernel_rfl) (by kernel_rfl) ?_
  simp only [List.take_succ_cons, List.take_zero, List.drop_succ_cons, List.drop_zero]
  change wpStill _ _ (World.drew _) (fun a' => wpList _ _ _ _ a' (World.drew _)) _ _
  iterate 8 still_step
  refine wpStill_nil ?_
  go_wp2_with (refine wpList_copy_runI _ rfl _ _ 27 27 rfl _ _ rfl rfl (HC.out _) ?_)
  go_ret
  first | exact ⟨_, _, rfl, HEND.out⟩ | exact ⟨_, rfl, _, HEND.out⟩

theorem splice2 (C D E : List Value) (i : Nat) (B : List Value) (hB : B.length = 2) (hC : i * 2 + 2 ≤ C.length) :
    ((C.take ((i + 1) * 2) ++ D ++ E).take (i * 2) ++ B ++ (C.take ((i + 1) * 2) ++ D ++ E).drop (i * 2 + B.length)) = C.take (i * 2) ++ B ++ D ++ E := by
  have hl : (C.take ((i + 1) * 2)).length = i * 2 + 2 := by rw [List.length_take]; omega
  rw [hB, List.append_assoc (C.take _) D E, List.take_append_of_le_length (by omega), List.take_take, show min (i * 2) ((i + 1) * 2) = i * 2 by omega, List.drop_append, List.drop_of_length_le (by omega), hl, Nat.sub_self]
  simp [List.append_assoc]

set_option maxHeartbeats 2000000 in
/-- i < len(s), there is room: in place. -/
theorem insert_shift (g vb c i : Nat) (l : List Rg.R) (rest : List Value) (r : Rg.R) (w : World) (hO : Obj w g 41 (flat l ++ rest).toArray) (hi : i < l.length) (hlc : l.length + 1 ≤ c) (hcm : c ≤ maxLen) (hrest : 2 * (c - l.length) ≤ rest.length) (hl : l.length ≤ 1000) (hV : Obj w vb 41 #[u64v r.1, u64v r.2]) (hne : vb ≠ g) :
    Calls Try.prog 22 #[.slice (some ⟨g, 0, none⟩) l.length c, .int .i64 (i : Nat), .slice (some ⟨vb, 0, none⟩) 1 1] w fun e w' => ∃ v' g', e = .returned v' ∧ RowR w' v' g' (l.take i ++ r :: l.drop i) ∧ (g' = g ∨ w.heap.size ≤ g') ∧ Upd g w w' := by
  have hfl := flat_length l
  have hfd : (flat (l.drop i)).length = 2 * (l.length - i) := by rw [flat_length, List.length_drop]
  have hft : (flat (l.take i)).length = i * 2 := by rw [flat_length, List.length_take]; omega
  have hov : ∀ (W : World), Obj W vb 41 #[u64v r.1, u64v r.2] → (∃ cs : Array Value, cs.size ≠ 0 ∧ Obj W g 41 cs) → ∀ lb cb, (callFunc 28 #[.slice (some ⟨vb, 0, none⟩) 1 1, .slice (some ⟨g, (i + 1) * 2, none⟩) lb cb]).run Try.prog W = .ok (.value (.bool false)) W := fun W hV ⟨cs, hcs, hG⟩ lb cb => by
    have hs1 : W.shape? vb = some (41, 2) := by unfold World.shape?; rw [hV]; rfl
    have hs2 : W.shape? g = some (41, cs.size) := by unfold World.shape?; rw [hG]
    rw [run_callFunc_extern Try.func28 (by kernel_rfl) (by kernel_rfl) (by kernel_rfl) (e := Extern.SlicesOverlaps.overlaps #[27, 27] #[4]) (by kernel_rfl),
      Lib.run_overlaps_apart W 27 4 41 Try.underlying27 2 (fun w => by kernel_rfl) ⟨vb, 0, none⟩ ⟨g, (i + 1) * 2, none⟩ 1 1 lb cb hne 41 41 2 cs.size hs1 hs2 hcs (hV.free 0) (hV.free 2)]
    rfl
  have hov0 := hov w hV ⟨_, by rw [List.size_toArray, List.length_append]; omega, hO⟩
  have hcpA : ∀ ty, (Builtin.copy_ #[27, 27] ty #[.slice (some ⟨g, (i + 1) * 2, none⟩) (l.length - i) (c - (i + 1)), .slice (some ⟨g, i * 2, none⟩) (l.length + 1 - i) (c - i)]).run Try.prog w.drew = .ok (goInt (l.length - i : Nat)) (w.drew.setRow g ((flat l ++ rest).take ((i + 1) * 2) ++ flat (l.drop i) ++ (flat l ++ rest).drop ((i + 1) * 2 + 2 * (l.length - i))).toArray) := fun ty => by
    rw [run_copy_rowk w.drew _ _ ty 41 2 Try.underlying27 sizeR g ((i + 1) * 2) (l.length - i) (c - (i + 1)) ⟨g, i * 2, none⟩ (l.length + 1 - i) (c - i) (l.length - i) (by simp only [Nat.min_def]; split <;> omega) (flat (l.drop i)) (by omega) (fun j u hj => by
      rw [Addr.add_lit]
      refine (hO.cell _).trans ?_
      rw [← flat_drop, List.getElem?_drop] at hj
      rw [List.getElem?_toArray, List.getElem?_append_left (by have := (List.getElem?_eq_some_iff.1 hj).1; omega), hj]) (flat_one _) _ _ hO.drew (by simp [hfd]; omega)]
    rw [hfd]
  obtain ⟨W1, hW1⟩ : ∃ W1, w.drew.setRow g ((flat l ++ rest).take ((i + 1) * 2) ++ flat (l.drop i) ++ (flat l ++ rest).drop ((i + 1) * 2 + 2 * (l.length - i))).toArray = W1 := ⟨_, rfl⟩
  have hO1 : Obj W1 g 41 ((flat l ++ rest).take ((i + 1) * 2) ++ flat (l.drop i) ++ (flat l ++ rest).drop ((i + 1) * 2 + 2 * (l.length - i))).toArray := by rw [← hW1]; exact hO.drew.row _
  have hU1 : Upd g w W1 := by rw [← hW1]; exact (Upd.refl g w).drew.row _
  rw [hW1] at hcpA
  have hV1 : Obj W1 vb 41 #[u64v r.1, u64v r.2] := hV.upd hU1 hne
  have hcpB : ∀ ty, (Builtin.copy_ #[27, 27] ty #[.slice (some ⟨g, i * 2, none⟩) (l.length + 1 - i) (c - i), .slice (some ⟨vb, 0, none⟩) 1 1]).run Try.prog W1 = .ok (goInt 1) (W1.setRow g (flat (l.take i ++ r :: l.drop i) ++ (flat l ++ rest).drop ((i + 1) * 2 + 2 * (l.length - i))).toArray) := fun ty => by
    rw [run_copy_rowk W1 _ _ ty 41 2 Try.underlying27 sizeR g (i * 2) (l.length + 1 - i) (c - i) ⟨vb, 0, none⟩ 1 1 1 (by simp only [Nat.min_def]; split <;> omega) (flat [r]) rfl (src_one hV1) (flat_one _) _ _ hO1 (by simp [flat_single, hfd]; omega)]
    have := splice2 (flat l ++ rest) (flat (l.drop i)) ((flat l ++ rest).drop ((i + 1) * 2 + 2 * (l.length - i))) i (flat [r]) rfl (by simp; omega)
    rw [show ((flat l ++ rest).take ((i + 1) * 2) ++ flat (l.drop i) ++ (flat l ++ rest).drop ((i + 1) * 2 + 2 * (l.length - i))).toArray.toList = (flat l ++ rest).take ((i + 1) * 2) ++ flat (l.drop i) ++ (flat l ++ rest).drop ((i + 1) * 2 + 2 * (l.length - i)) by simp, this]
    rw [List.take_append_of_le_length (by omega), flat_take]
    simp only [flat_append, flat, List.append_assoc, flat_single]
    rfl
  obtain ⟨W2, hW2⟩ : ∃ W2, W1.setRow g (flat (l.take i ++ r :: l.drop i) ++ (flat l ++ rest).drop ((i + 1) * 2 + 2 * (l.length - i))).toArray = W2 := ⟨_, rfl⟩
  rw [hW2] at hcpB
  have HEND : Hid (RowR W2 (.slice (some ⟨g, 0, none⟩) (l.length + 1) c) g (l.take i ++ r :: l.drop i) ∧ (g = g ∨ w.heap.size ≤ g) ∧ Upd g w W2) := by
    have hll : (l.take i ++ r :: l.drop i).length = l.length + 1 := by simp; omega
    refine ⟨Or.inr ⟨c, (flat l ++ rest).drop ((i + 1) * 2 + 2 * (l.length - i)), by rw [hll], by omega, hcm, by simp; omega, ?_⟩, Or.inl rfl, ?_⟩
    · rw [← hW2]; exact hO1.row _
    · rw [← hW2]; exact hU1.row _
  have hi1 : (i : Int) < (l.length : Int) := by omega
  have hi2 : ¬ (i : Int) = (l.length : Int) := by omega
  have hi3 : ¬ c = i := by omega
  have hi5 : ¬ c = i + 1 := by omega
  have hi6 : (i : Int) + 1 ≤ (l.length : Int) + 1 := by omega
  have hw1 : IntKind.i64.wrap ((i : Int) + 1) = (i : Int) + 1 := by rw [IntKind.wrap_i64]; omega
  have hb1 : (0 : Int) ≤ (i : Int) + 1 := by omega
  have htn : ((i : Int) + 1).toNat = i + 1 := by omega
  have htm : ((l.length : Int) + 1).toNat = l.length + 1 := by omega
  have hi7 : (i : Int) ≤ (l.length : Int) + 1 := by omega
  have hi8 : (l.length : Int) + 1 ≤ (c : Int) := by omega
  have HOV := Lib.hid hov0
  have HA := Lib.hid hcpA
  have HB := Lib.hid hcpB
  clear hov hov0 hcpA hcpB hO hV hW1 hO1 hV1 hU1 hW2 hfl hfd hft hrest hne
  unfold maxLen at hcm
  generalize l.length = m at *
  go_enter Try.func22, Try.ntmps22
  go_wp2_with (simp only [HOV.out])
  refine wp_region_still_tail 8 (by kernel_rfl) (by kernel_rfl) ?_
  simp only [List.take_succ_cons, List.take_zero, List.drop_succ_cons, List.drop_zero]
  change wpStill _ _ (World.drew _) (fun a' => wpList _ _ _ _ a' (World.drew _)) _ _
  iterate 8 still_step
  refine wpStill_nil ?_
  go_wp2_with (first
   | (refine wpList_copy_runI _ rfl _ _ 27 27 rfl _ _ rfl rfl (HA.out _) ?_)
   | (refine wpList_copy_runI _ rfl _ _ 27 27 rfl _ _ rfl rfl (HB.out _) ?_))
  go_ret
  exact ⟨_, g, rfl, HEND.out.1, Or.inl rfl, HEND.out.2.2⟩

/-- slices.Insert of one range, which lies in another block. -/
theorem insert_any (g vb i : Nat) (v : Value) (l : List Rg.R) (r : Rg.R) (w : World) (hR : RowR w v g l) (hi : i ≤ l.length) (hl : l.length ≤ 1000) (hV : Obj w vb 41 #[u64v r.1, u64v r.2]) (hne : vb ≠ g) :
    Calls Try.prog 22 #[v, .int .i64 (i : Nat), .slice (some ⟨vb, 0, none⟩) 1 1] w fun e w' => ∃ v' g', e = .returned v' ∧ RowR w' v' g' (l.take i ++ r :: l.drop i) ∧ (g' = g ∨ w.heap.size ≤ g') ∧ Upd g w w' := by
  rcases Nat.lt_or_ge i l.length with hlt | hge
  · rcases hR with ⟨_, h0⟩ | ⟨c, rest, rfl, h2, h3, h4, h⟩
    · rw [h0] at hlt; simp at hlt
    · by_cases hc : l.length + 1 ≤ c
      · exact insert_shift g vb c i l rest r w h hlt hc h3 h4 hl hV hne
      · exact insert_grow g vb c i l rest r w h hlt h2 (by omega) hl hV
  · obtain rfl : i = l.length := by omega
    have := insert_end g vb v l r w hR hl hV
    rwa [List.take_length, List.drop_length]

section
variable {P : Program}
theorem run_clear_row1 (w : World) (t e ty : TypeId) (z : Value) (ht : P.underlying t = some (.slice e)) (hv : ∀ w, (zeroValue e).run P w = .ok z w) (h1 : ∀ v ∈ z.cells.toList, v.oneCell' = true) (g o c : Nat)
    (te : TypeId) (cur : Array Value) (hg : w.heap[g]? = some (.cells cur te (0, 0))) (hfit : o + z.cells.size ≤ cur.size) :
    (Builtin.clear_ #[t] ty #[.slice (some ⟨g, o, none⟩) 1 c]).run P w = .ok (.tuple #[]) (w.setRow g (cur.toList.take o ++ z.cells.toList ++ cur.toList.drop (o + z.cells.size)).toArray) := by
  have hzc : (Builtin.zeroCells z.cells 1).toList = z.cells.toList := by
    simp only [Builtin.zeroCells, Nat.one_mul]
    apply List.ext_getElem
    · simp
    · intro i h1 h2
      have h2' : i < z.cells.size := by simpa using h2
      simp [Nat.mod_eq_of_lt h2', h2']
  have hst := run_storeCells_at P g o te z.cells.toList 0 cur w hg (by simpa using hfit) h1
  simp only [Nat.add_zero, Array.length_toList] at hst
  simp [Builtin.clear_, run_underlying ht, hv, hzc, hst]
end
section
variable {P : Program}
theorem wpList_clear_run (w : World) {ops : Array Oper} {rest : List Oper} {o : Oper} {a : Act} {Q : Exit → Act → World → Prop} (hgd : o.guard = none) (s : Operand) (t : TypeId)
    (ho : o.op = .call { callee := .builtin .clear, args := #[s], argTypes := #[t] }) (v : Value) (hs : a.eval s = v) {v' : Value} {w' : World}
    (hr : (Builtin.clear_ #[t] o.type #[v]).run P w = .ok v' w') (h : wpList P ops Q rest (a.put o.dst v') w') : wpList P ops Q (o :: rest) a w :=
  wpList_plain hgd fun _ hK => by
    unfold Oper.wp execOp
    simp only [ho, resolve, invoke, builtin, Sem.run_bind, Sem.run_pure, Result.andThen_ok, List.map_toArray, List.map_cons, List.map_nil, hs, hr]
    exact hK _ _ h
end
theorem zeroR (w : World) : (zeroValue 41).run Try.prog w = .ok (.agg #[u64v 0, u64v 0]) w := by kernel_rfl

set_option maxHeartbeats 2000000 in
/-- slices.Delete of one range. -/
theorem delete_any (g p : Nat) (v : Value) (l : List Rg.R) (w : World) (hR : RowR w v g l) (hp : p < l.length) (hp0 : 0 < p) (hl : l.length ≤ 1000) :
    Calls Try.prog 30 #[v, .int .i64 (p : Nat), .int .i64 ((p : Int) + 1)] w fun e w' => ∃ v', e = .returned v' ∧ RowR w' v' g (l.eraseIdx p) ∧ Upd g w w' := by
  rcases hR with ⟨_, h0⟩ | ⟨c, rest, rfl, h2, h3, h4, hO⟩
  · rw [h0] at hp; simp at hp
  obtain ⟨i0, hi0, hz0, hz1, hz2⟩ := infoR
  have hfl := flat_length l
  have hft : (flat (l.take p)).length = p * 2 := by rw [flat_length, List.length_take]; omega
  have hfd : (flat (l.drop (p + 1))).length = 2 * (l.length - (p + 1)) := by rw [flat_length, List.length_drop]
  have happ : ∀ ty (a : Addr), (l.length = p + 1 ∨ a = ⟨g, (p + 1) * 2, none⟩) → (Builtin.append_ #[27, 27] ty #[.slice (some ⟨g, 0, none⟩) p c, .slice (some a) (l.length - (p + 1)) (c - (p + 1))]).run Try.prog w.drew = .ok (.slice (some ⟨g, 0, none⟩) (l.length - 1) c) (w.drew.setRow g (flat (l.eraseIdx p) ++ (flat l ++ rest).drop (2 * (l.length - 1))).toArray) := fun ty a ha => by
    rw [run_append_room w.drew 27 ty 41 i0 Try.underlying27 hi0 g p c _ hO.drew a (l.length - (p + 1)) (c - (p + 1)) (flat (l.drop (p + 1))) (by rw [hz1, hfd]; omega) ?_ (flat_one _) (by omega) (by rw [hz1, hfd]; simp; omega)]
    · rw [hz1, hfd, show p + (l.length - (p + 1)) = l.length - 1 by omega]
      congr 3
      rw [List.eraseIdx_eq_take_drop_succ, flat_append, List.take_append_of_le_length (by omega), flat_take, show p * 2 + 2 * (l.length - (p + 1)) = 2 * (l.length - 1) by omega]
    · intro j u hj
      rcases ha with h | rfl
      · have := (List.getElem?_eq_some_iff.1 hj).1; omega
      · rw [Addr.add_lit]
        refine (hO.cell _).trans ?_
        rw [← flat_drop, List.getElem?_drop] at hj
        rw [List.getElem?_toArray, List.getElem?_append_left (by have := (List.getElem?_eq_some_iff.1 hj).1; omega), hj]
  have hle : (l.eraseIdx p).length = l.length - 1 := by rw [List.length_eraseIdx]; simp [hp]
  have hfe : (flat (l.eraseIdx p)).length = 2 * (l.length - 1) := by rw [flat_length, hle]
  obtain ⟨W1, hW1⟩ : ∃ W1, w.drew.setRow g (flat (l.eraseIdx p) ++ (flat l ++ rest).drop (2 * (l.length - 1))).toArray = W1 := ⟨_, rfl⟩
  have hO1 : Obj W1 g 41 (flat (l.eraseIdx p) ++ (flat l ++ rest).drop (2 * (l.length - 1))).toArray := by rw [← hW1]; exact hO.drew.row _
  have hU1 : Upd g w W1 := by rw [← hW1]; exact (Upd.refl g w).drew.row _
  rw [hW1] at happ
  have hcl : ∀ ty, (Builtin.clear_ #[27] ty #[.slice (some ⟨g, (l.length - 1) * 2, none⟩) 1 (c - (l.length - 1))]).run Try.prog W1 = .ok (.tuple #[]) (W1.setRow g (flat (l.eraseIdx p) ++ ([u64v 0, u64v 0] ++ ((flat l ++ rest).drop (2 * (l.length - 1))).drop 2)).toArray) := fun ty => by
    rw [run_clear_row1 W1 27 41 ty _ Try.underlying27 zeroR (by intro v hv; simp [Value.cells] at hv; rw [hv]; rfl) g _ _ _ _ hO1 (by simp [Value.cells, hfe]; omega)]
    congr 3
    have := splice (flat (l.eraseIdx p)) [u64v 0, u64v 0] ((flat l ++ rest).drop (2 * (l.length - 1))) ((l.length - 1) * 2) (by omega)
    exact this.trans (List.append_assoc _ _ _)
  obtain ⟨W2, hW2⟩ : ∃ W2, W1.setRow g (flat (l.eraseIdx p) ++ ([u64v 0, u64v 0] ++ ((flat l ++ rest).drop (2 * (l.length - 1))).drop 2)).toArray = W2 := ⟨_, rfl⟩
  rw [hW2] at hcl
  have HEND : Hid (RowR W2 (.slice (some ⟨g, 0, none⟩) (l.length - 1) c) g (l.eraseIdx p) ∧ Upd g w W2) := by
    refine ⟨Or.inr ⟨c, [u64v 0, u64v 0] ++ ((flat l ++ rest).drop (2 * (l.length - 1))).drop 2, by rw [hle], by omega, h3, by simp; omega, ?_⟩, ?_⟩
    · rw [← hW2]; exact hO1.row _
    · rw [← hW2]; exact hU1.row _
  obtain ⟨k, hk⟩ : ∃ k, l.length = k + 1 := ⟨l.length - 1, by omega⟩
  simp only [hk, Nat.add_sub_cancel, Nat.add_sub_add_right] at happ hcl HEND h2 hp ⊢
  have i1 : (p : Int) + 1 ≤ (k : Int) + 1 := by omega
  have i2 : (p : Int) ≤ (p : Int) + 1 := by omega
  have i3 : ¬ (p : Int) = (p : Int) + 1 := by omega
  have i4 : ((p : Int) + 1).toNat = p + 1 := by omega
  have i5 : (p : Int) ≤ (c : Int) := by omega
  have i6 : (0 : Int) ≤ (p : Int) + 1 := by omega
  have i7 : (k : Int) + 1 ≤ (c : Int) := by omega
  have i8 : (k : Int) ≤ (k : Int) + 1 := by omega
  have i9 : ¬ c = k := by omega
  have i10 : k + 1 - k = 1 := by omega
  have i11 : ¬ c = p := by omega
  have i12 : ((k : Int) + 1).toNat = k + 1 := by omega
  have HA := Lib.hid (fun ty => happ ty ⟨g, (p + 1) * 2, none⟩ (Or.inr rfl))
  have HA' : Hid (c = p + 1 → ∀ ty, (Builtin.append_ #[27, 27] ty #[.slice (some ⟨g, 0, none⟩) p c, .slice (some ⟨g, 0, none⟩) 0 0]).run Try.prog w.drew = .ok (.slice (some ⟨g, 0, none⟩) k c) W1) := fun hc ty => by
    have := happ ty ⟨g, 0, none⟩ (Or.inl (by omega))
    rwa [show k - p = 0 by omega, show c - (p + 1) = 0 by omega] at this
  have HB := Lib.hid hcl
  clear happ hcl hO hW1 hO1 hU1 hW2 hi0 hz0 hz1 hz2 hfl hft hfd h4 hle hfe hk hl
  unfold maxLen at h3
  go_enter Try.func30, Try.ntmps30
  by_cases hcp : c = p + 1
  · obtain rfl : k = p := by omega
    subst hcp
    have HA2 := Lib.hid (HA'.out rfl)
    clear HA'
    go_wp2_with fail
    refine wp_region_still_tail 6 (by kernel_rfl) (by kernel_rfl) ?_
    simp only [List.take_succ_cons, List.take_zero, List.drop_succ_cons, List.drop_zero]
    change wpStill _ _ (World.drew _) (fun a' => wpList _ _ _ _ a' (World.drew _)) _ _
    iterate 6 still_step
    refine wpStill_nil ?_
    have HB2 : Hid (∀ ty, (Builtin.clear_ #[27] ty #[.slice (some ⟨g, k * 2, none⟩) 1 1]).run Try.prog W1 = .ok (.tuple #[]) W2) := fun ty => by
      have := HB.out ty
      rwa [show k + 1 - k = 1 by omega] at this
    go_wp2_with (first
      | (at_builtin; refine Lib.wpList_append_run _ rfl _ _ _ _ rfl _ _ rfl rfl _ _ (HA2.out _) ?_)
      | (refine wpList_clear_run _ rfl _ 27 rfl _ rfl (HB2.out _) ?_))
    go_ret
    exact ⟨_, rfl, HEND.out⟩
  · clear HA'
    go_wp2_with fail
    refine wp_region_still_tail 6 (by kernel_rfl) (by kernel_rfl) ?_
    simp only [List.take_succ_cons, List.take_zero, List.drop_succ_cons, List.drop_zero]
    change wpStill _ _ (World.drew _) (fun a' => wpList _ _ _ _ a' (World.drew _)) _ _
    iterate 6 still_step
    refine wpStill_nil ?_
    go_wp2_with (first
      | (at_builtin; refine Lib.wpList_append_run _ rfl _ _ _ _ rfl _ _ rfl rfl _ _ (HA.out _) ?_)
      | (refine wpList_clear_run _ rfl _ 27 rfl _ rfl (HB.out _) ?_))
    go_ret
    exact ⟨_, rfl, HEND.out⟩
end Go.Proofs.Ytgbgdbadifagcaa
