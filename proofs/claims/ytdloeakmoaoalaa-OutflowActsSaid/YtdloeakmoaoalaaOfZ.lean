/- The document's answer for layer 17: rows of ints; its buffer in memory. -/
import Derived.Test.YtdloeakmoaoalaaRows
import Derived.Test.YtdloeakmoaoalaaAid
import Derived.Test.YtdloeakmoaoalaaPlainOf
import Derived.Test.YtdloeakmoaoalaaPlainOf2
import Derived.Test.YtdloeakmoaoalaaPlainOf5
import Derived.Test.YtdloeakmoaoalaaOfW
import Derived.Test.YtdloeakmoaoalaaOfX
import Derived.Test.YtdloeakmoaoalaaOfA
import Derived.Test.YtdloeakmoaoalaaOfB
import Derived.Test.YtdloeakmoaoalaaOfC
import Derived.Test.YtdloeakmoaoalaaOfV
import Derived.WalkKit
import Derived.OwnWalk
import Derived.Laws.Rows
import Derived.Laws.Tables
import Derived.Laws.CopyRow
import Derived.Laws.AppendOwn
import Derived.Deep.AppendSrc
import Derived.Lib.AppendZeros
import Derived.Lib.AppendZerosOnto
import Derived.Lib.Hide
import Derived.WalkSpells
import Derived.WalkLawsBesides
import Derived.BigQuiet
import Derived.Handy
import Derived.Lib.Walk
import Derived.IntWalk
namespace Go.Proofs.Ytdloeakmoaoalaa
open Go.RowKit
set_option linter.unusedVariables false
set_option linter.unusedSimpArgs false

def i64v (n : Nat) : Value := .int .i64 (n : Int)
theorem infoI64 : (Try.prog.info? 3).map (fun i => (i.zero, i.size, i.bytes)) = some (some (.int .i64 0), 1, 8) := by kernel_rfl
/-- A slice value that holds these bytes, from its block's first cell on. -/
def RowI (w : World) (v : Value) (g : Nat) (l : List Nat) : Prop :=
  (v = .slice none 0 0 ∧ l = []) ∨
  ∃ (c : Nat) (rest : List Value), v = .slice (some ⟨g, 0, none⟩) l.length c ∧ l.length ≤ c ∧ c ≤ maxLen ∧ c ≤ l.length + rest.length ∧ Obj w g 3 (l.map i64v ++ rest).toArray
theorem RowI.to {w w' : World} {v : Value} {g : Nat} {l : List Nat} (h : RowI w v g l) (hk : g < w.heap.size → w'.heap[g]? = w.heap[g]?) : RowI w' v g l := by
  rcases h with h | ⟨c, rest, h1, h2, h3, h4, h⟩
  · exact Or.inl h
  · exact Or.inr ⟨c, rest, h1, h2, h3, h4, (hk h.lt).trans h⟩
theorem RowI.kept {w w' : World} {v : Value} {g : Nat} {l : List Nat} (h : RowI w v g l) (hb : Below w.heap.size w w') : RowI w' v g l := h.to fun hl => hb.block g hl
theorem RowI.upd {w w' : World} {v : Value} {g b : Nat} {l : List Nat} (h : RowI w v g l) (hb : Upd b w w') (hne : g ≠ b) : RowI w' v g l := h.to fun hl => hb.block g hl hne
theorem RowI.form {w : World} {v : Value} {g : Nat} {l : List Nat} (h : RowI w v g l) : ∃ base c, v = .slice base l.length c ∧ l.length ≤ c ∧ c ≤ maxLen ∧ ((base = none ∧ l = [] ∧ c = 0) ∨ base = some ⟨g, 0, none⟩) ∧ (∀ i, i < l.length → base = some ⟨g, 0, none⟩ ∧ w.cell? ⟨g, i, none⟩ = some (i64v (l.getD i 0))) := by
  rcases h with ⟨rfl, rfl⟩ | ⟨c, rest, h1, h2, h3, h4, h⟩
  · exact ⟨none, 0, rfl, Nat.le_refl _, Nat.zero_le _, Or.inl ⟨rfl, rfl, rfl⟩, fun i hi => absurd hi (by simp)⟩
  · refine ⟨_, c, h1, h2, h3, Or.inr rfl, fun i hi => ⟨rfl, ?_⟩⟩
    rw [h.cell, List.getElem?_toArray, List.getElem?_append_left (by simpa using hi)]
    simp [List.getD_eq_getElem?_getD, hi]
/-- A byte of it is turned. -/
theorem RowI.set {w : World} {g c : Nat} {base : Option Addr} {l : List Nat} (h : RowI w (.slice base l.length c) g l) {i : Nat} (hi : i < l.length) (x : Nat) :
    RowI (w.setCell ⟨g, i, none⟩ (i64v x)) (.slice base l.length c) g (l.set i x) := by
  rcases h with ⟨_, h⟩ | ⟨c', rest, h1, h2, h3, h4, h⟩
  · rw [h] at hi; simp at hi
  · cases h1
    refine Or.inr ⟨c, rest, by simp, by simpa using h2, h3, by simpa using h4, ?_⟩
    refine (h.set i (i64v x)).as ?_
    rw [List.setIfInBounds_toArray, List.set_append_left _ _ (by simpa using hi), List.map_set]

/-- append of bytes: in its place, or in a new block. -/
theorem RowI.append {w : World} {v vx : Value} {g : Nat} {l X : List Nat} (hR : RowI w v g l) (hs : Src Try.prog 1 38 vx X.length (X.map i64v) w) (hm : l.length + X.length ≤ 100000000) (hX : 0 < X.length) :
    ∃ v' w' g', (∀ ty, (Builtin.append_ #[38, 38] ty #[v, vx]).run Try.prog w = .ok v' w') ∧ RowI w' v' g' (l ++ X) ∧ (g' = g ∨ w.heap.size ≤ g') ∧ Upd g w w' := by
  obtain ⟨i0, hi0, hz0, hz1, hz2⟩ := info_parts infoI64
  have hs' : Src Try.prog i0.size 38 vx X.length (X.map i64v) w := by rw [hz1]; exact hs
  have grow : ∀ (base : Option Addr) (c : Nat), c < l.length + X.length → (Builtin.firstCells i0.size l.length (.slice base l.length c)).run Try.prog w.drew = .ok (l.map i64v).toArray w.drew →
      ∃ v' w' g', (∀ ty, (Builtin.append_ #[38, 38] ty #[.slice base l.length c, vx]).run Try.prog w = .ok v' w') ∧ RowI w' v' g' (l ++ X) ∧ (g' = g ∨ w.heap.size ≤ g') ∧ Upd g w w' := by
    intro base c hc hold
    have hzz : ∀ k, (Builtin.zeroCells (Value.int .i64 0).cells k).toList.length = k := fun k => by
      rw [Array.length_toList, size_zeroCells]; show k * 1 = k; omega
    have hge := grownCap_ge w (l.length + X.length) c 3
    refine ⟨_, _, w.heap.size, fun ty => run_append_grow_src w 38 38 ty 3 i0 _ Try.underlying38 hi0 hz0 base l.length c (l.map i64v) hold _ X.length (X.map i64v) hs' hc (by omega) (by rw [hz2]; exact growslice_fits hc (by omega)), Or.inr ⟨grownCap w (l.length + X.length) c 3, (Builtin.zeroCells (Value.int .i64 0).cells (grownCap w (l.length + X.length) c 3 - (l.length + X.length))).toList, by simp, ?_, ?_, ?_, ?_⟩, Or.inr (Nat.le_refl _), ((Upd.refl g w).drew).alloc _⟩
    · simpa using hge
    · exact grownCap_le_maxLen w _ _ _ (by simp only [maxLen]; omega)
    · rw [hzz, List.length_append]; omega
    · refine (Obj.new w.drew _ _).as ?_
      rw [List.map_append]
      simp
  rcases hR with ⟨rfl, rfl⟩ | ⟨c, rest, rfl, h2, h3, h4, h⟩
  · exact grow none 0 (by simpa using hX) (run_firstCells_none _ _ _ _ _)
  · by_cases hc : l.length + X.length ≤ c
    · refine ⟨_, _, g, fun ty => run_append_row_src w 38 38 ty 3 i0 Try.underlying38 hi0 g l.length c _ h vx X.length (X.map i64v) hs' hc (by rw [hz1]; simp; omega), Or.inr ⟨c, rest.drop X.length, by simp, by simpa using hc, h3, by simp; omega, ?_⟩, Or.inl rfl, (Upd.refl g w).row8 _⟩
      refine (Obj.row8 h _).as ?_
      rw [hz1, Nat.mul_one, List.map_append]
      congr 1
      show (l.map i64v ++ rest).take l.length ++ X.map i64v ++ (l.map i64v ++ rest).drop (l.length + (X.map i64v).length) = _
      rw [List.take_append_of_le_length (by simp), List.take_of_length_le (by simp), List.drop_append, List.drop_of_length_le (by simp)]
      simp
    · refine grow (some ⟨g, 0, none⟩) c (by omega) ?_
      rw [hz1]
      refine run_firstCells_some w.drew 1 l.length ⟨g, 0, none⟩ l.length c (l.map i64v) (by simp) fun j u hj => ?_
      rw [show (⟨g, 0, none⟩ : Addr).add j = ⟨g, j, none⟩ by rw [Addr.add_lit, Nat.zero_add]]
      have := (List.getElem?_eq_some_iff.1 hj).1
      exact (h.cell j).trans (by rw [List.getElem?_toArray, List.getElem?_append_left this, hj])
/-- The document's buffer in memory: block r; its text's row in hb, its states' in hs. -/
def Rf (w : World) (r hb hs : Nat) (x : Of.B) : Prop :=
  ∃ vb vs, Obj w r 40 #[vb, vs, .bool x.fin, .int .i64 (x.en : Int), .int .u64 (x.lim : Int)] ∧ RowB w vb hb x.b ∧ RowI w vs hs x.s
theorem Rf.kept {w w' : World} {r hb hs : Nat} {x : Of.B} (h : Rf w r hb hs x) (hk : Below w.heap.size w w') : Rf w' r hb hs x := by
  obtain ⟨vb, vs, h1, h2, h3⟩ := h
  exact ⟨vb, vs, h1.kept hk, h2.kept hk, h3.kept hk⟩
theorem Rf.lt {w : World} {r hb hs : Nat} {x : Of.B} (h : Rf w r hb hs x) : r < w.heap.size := by
  obtain ⟨vb, vs, h1, h2, h3⟩ := h; exact h1.lt
theorem Rf.upd3 {w w' : World} {r hb hs a gb gs : Nat} {x : Of.B} (h : Rf w r hb hs x) (hu : Upd3 a gb gs w w') (h1 : r ≠ a ∧ r ≠ gb ∧ r ≠ gs) (h2 : hb ≠ a ∧ hb ≠ gb ∧ hb ≠ gs) (h3 : hs ≠ a ∧ hs ≠ gb ∧ hs ≠ gs) : Rf w' r hb hs x := by
  obtain ⟨vb, vs, k1, k2, k3⟩ := h
  exact ⟨vb, vs, k1.upd3 hu h1.1 h1.2.1 h1.2.2, k2.to fun hl => hu.block hb hl h2.1 h2.2.1 h2.2.2, k3.to fun hl => hu.block hs hl h3.1 h3.2.1 h3.2.2⟩
/-- Blocks of different types are different. -/
theorem Obj.apart {w : World} {g k : Nat} {t u : TypeId} {cs ds : Array Value} (h : Obj w g t cs) (h' : Obj w k u ds) (hne : t ≠ u) : g ≠ k := by
  rintro rfl
  have := h.symm.trans h'
  simp at this
  exact hne this.2
theorem RowB.apart {w : World} {v : Value} {g k : Nat} {l : List Nat} {t : TypeId} {cs : Array Value} (h : RowB w v g l) (hO : Obj w k t cs) (hne : t ≠ 5) : (v = .slice none 0 0 ∧ l = []) ∨ g ≠ k := by
  rcases h with h | ⟨c, rest, h1, h2, h3, h4, h⟩
  · exact Or.inl h
  · exact Or.inr (h.apart hO (Ne.symm hne))
theorem RowI.apart {w : World} {v : Value} {g k : Nat} {l : List Nat} {t : TypeId} {cs : Array Value} (h : RowI w v g l) (hO : Obj w k t cs) (hne : t ≠ 3) : (v = .slice none 0 0 ∧ l = []) ∨ g ≠ k := by
  rcases h with h | ⟨c, rest, h1, h2, h3, h4, h⟩
  · exact Or.inl h
  · exact Or.inr (h.apart hO (Ne.symm hne))
theorem RowI.ltv {w : World} {v : Value} {g : Nat} {l : List Nat} (h : RowI w v g l) : v = .slice none 0 0 ∨ g < w.heap.size := by
  rcases h with ⟨h, _⟩ | ⟨c, rest, e1, e2, e3, e4, e5⟩
  · exact Or.inl h
  · exact Or.inr e5.lt
/-- The numbers of rows that aren't there may be the structure's. -/
theorem Rf.norm {w : World} {r hb hs : Nat} {x : Of.B} (h : Rf w r hb hs x) : ∃ hb' hs', Rf w r hb' hs' x ∧ hb' < w.heap.size ∧ hs' < w.heap.size ∧ (hb' = hb ∨ hb' = r) ∧ (hs' = hs ∨ hs' = r) := by
  obtain ⟨vb, vs, hO, hb1, hs1⟩ := h
  have ha := hO.lt
  have kb : ∃ hb', RowB w vb hb' x.b ∧ hb' < w.heap.size ∧ (hb' = hb ∨ hb' = r) := by
    rcases hb1 with h | ⟨c, rest, e1, e2, e3, e4, e5⟩
    · exact ⟨r, Or.inl h, ha, Or.inr rfl⟩
    · exact ⟨hb, Or.inr ⟨c, rest, e1, e2, e3, e4, e5⟩, e5.lt, Or.inl rfl⟩
  have ks : ∃ hs', RowI w vs hs' x.s ∧ hs' < w.heap.size ∧ (hs' = hs ∨ hs' = r) := by
    rcases hs1 with h | ⟨c, rest, e1, e2, e3, e4, e5⟩
    · exact ⟨r, Or.inl h, ha, Or.inr rfl⟩
    · exact ⟨hs, Or.inr ⟨c, rest, e1, e2, e3, e4, e5⟩, e5.lt, Or.inl rfl⟩
  obtain ⟨hb', b1, b2, b3⟩ := kb
  obtain ⟨hs', s1, s2, s3⟩ := ks
  exact ⟨hb', hs', ⟨vb, vs, hO, b1, s1⟩, b2, s2, b3, s3⟩
theorem Rf.new (lim : Nat) (w : World) : Rf (w.alloc (.cells #[.slice none 0 0, .slice none 0 0, .bool false, .int .i64 0, .int .u64 (lim : Int)] 40)) w.heap.size w.heap.size w.heap.size ⟨[], [], false, 0, lim⟩ :=
  ⟨_, _, Obj.new w _ _, Or.inl ⟨rfl, rfl⟩, Or.inl ⟨rfl, rfl⟩⟩

theorem rfirst_any (r hb hs : Nat) (x : Of.B) (w : World) (h : Rf w r hb hs x) (hok : Of.Ok x) (c : Nat) :
    Calls Try.prog 45 #[.pointer (some ⟨r, 0, none⟩), .int .i64 (c : Int)] w fun e w' => e = .returned (.int .i64 (idx c x.s)) ∧ w = w' := by
  obtain ⟨vb, vs, hO, hb1, hs1⟩ := h
  have hsl : x.s.length ≤ 2000 := by have := hok.len; have := hok.cap; omega
  obtain ⟨base, cs, rfl, hlc, hcm, _, hcell⟩ := hs1.form
  have hcsi : cs ≤ 9223372036854775807 := by simp only [maxLen] at hcm; omega
  have f1 : w.cell? ⟨r, 1, none⟩ = some (.slice base x.s.length cs) := by rw [hO.cell]; rfl
  have HIDX : Hid (idx c x.s = if Of.fst c x.s < x.s.length then (Of.fst c x.s : Int) else -1) := rfl
  have HLE := Lib.hid (Of.fst_le c x.s)
  have HAT : Hid (Of.fst c x.s < x.s.length → x.s.getD (Of.fst c x.s) 0 = c) := fun h => Of.fst_at h
  have HNOT : Hid (∀ k, k < Of.fst c x.s → x.s.getD k 0 ≠ c) := fun k h => Of.fst_not h
  have HCELL := Lib.hid hcell
  clear hO hb1 hs1 hcell hok
  generalize idx c x.s = R at *
  generalize Of.fst c x.s = f at *
  generalize x.s.length = m at *
  go_enter Try.func45, Try.ntmps45
  go_wp2
  go_loopw [5] (fun i wr => ∃ k : Nat, k ≤ f ∧ i = .int .i64 k ∧ wr = w) (fun i _ => m - (intOf i).toNat)
  case atStart => exact ⟨0, Nat.zero_le _, rfl, rfl⟩
  case round =>
    obtain ⟨k, hk, rfl, rfl⟩ := hrel
    have hle := HLE.out
    by_cases hkm : k < m
    · obtain ⟨rfl, hc⟩ := HCELL.out k hkm
      have hk3 : IntKind.i64.wrap ((k : Int) + 1) = (k : Int) + 1 := by rw [IntKind.wrap_i64]; omega
      have hkc : k < cs := by omega
      simp only [i64v] at hc
      by_cases hkf : k < f
      · have hne := HNOT.out k hkf
        generalize x.s.getD k 0 = y at *
        have hd : ((y : Int) == (c : Int)) = false := by simp; omega
        clear hne
        go_wp2
        go_roundw
        case rel => exact ⟨k + 1, by omega, by go_num, (by first | rfl | trivial)⟩
        case measure => simp [intOf]; omega
      · obtain rfl : f = k := by omega
        have he := HAT.out hkm
        rw [he] at hc
        clear he
        go_wp2
        go_ret
        exact ⟨by rw [HIDX.out, if_pos hkm]; rfl, (by first | rfl | trivial)⟩
    · obtain rfl : f = k := by omega
      go_wp2
      go_ret
      exact ⟨by rw [HIDX.out, if_neg hkm]; rfl, (by first | rfl | trivial)⟩

theorem rsent_any (r hb hs : Nat) (x : Of.B) (w : World) (h : Rf w r hb hs x) (hok : Of.Ok x) (hp : Of.Pre x) :
    Calls Try.prog 28 #[.pointer (some ⟨r, 0, none⟩)] w fun e w' => e = .returned (.int .i64 (Of.sent x : Nat)) ∧ w = w' := by
  obtain ⟨vb, vs, hO, hb1, hs1⟩ := h
  have hsl : x.s.length ≤ 2000 := by have := hok.len; have := hok.cap; omega
  obtain ⟨base, cs, rfl, hlc, hcm, _, hcell⟩ := hs1.form
  have hcsi : cs ≤ 9223372036854775807 := by simp only [maxLen] at hcm; omega
  have f1 : w.cell? ⟨r, 1, none⟩ = some (.slice base x.s.length cs) := by rw [hO.cell]; rfl
  have HLE : Hid (Of.sent x ≤ x.s.length) := Of.fst_le 0 x.s
  have HAT : Hid (∀ k, k < x.s.length → (x.s.getD k 0 = 0 ↔ Of.sent x ≤ k)) := fun k h => Of.sent_pre hp k h
  have HCELL := Lib.hid hcell
  clear hO hb1 hs1 hcell hok hp
  generalize Of.sent x = f at *
  generalize x.s.length = m at *
  go_enter Try.func28, Try.ntmps28
  go_wp2
  go_loopw [3, 4] (fun n i wr => ∃ k : Nat, k ≤ m ∧ i = .int .i64 k ∧ n = .int .i64 (min k f : Nat) ∧ wr = w) (fun _ i _ => m - (intOf i).toNat)
  case atStart => exact ⟨0, Nat.zero_le _, rfl, by simp, rfl⟩
  case round =>
    obtain ⟨k, hk, rfl, rfl, rfl⟩ := hrel
    have hle := HLE.out
    by_cases hkm : k < m
    · obtain ⟨rfl, hc⟩ := HCELL.out k hkm
      have hk3 : IntKind.i64.wrap ((k : Int) + 1) = (k : Int) + 1 := by rw [IntKind.wrap_i64]; omega
      have hkc : k < cs := by omega
      simp only [i64v] at hc
      have hat := HAT.out k hkm
      by_cases hkf : k < f
      · have hmin : min k f = k := by omega
        have HM2 : Hid (min (k + 1) f = k + 1) := by unfold Hid; omega
        rw [hmin]
        have hne : ¬ x.s.getD k 0 = 0 := by omega
        clear hat hmin
        generalize x.s.getD k 0 = y at *
        have hd : ((y : Int) != (0 : Int)) = true := by simp; omega
        clear hne
        go_wp2
        go_roundw
        case rel => exact ⟨k + 1, by omega, by go_num, by rw [HM2.out]; go_num, (by first | rfl | trivial)⟩
        case measure => simp [intOf]; omega
      · have HM2 : Hid (min (k + 1) f = min k f) := by unfold Hid; omega
        have he : x.s.getD k 0 = 0 := by omega
        rw [he] at hc
        clear hat he
        generalize min k f = q at *
        go_wp2
        go_roundw
        case rel => exact ⟨k + 1, by omega, by go_num, by rw [HM2.out], (by first | rfl | trivial)⟩
        case measure => simp [intOf]; omega
    · have HM2 : Hid (min k f = f) := by unfold Hid; omega
      generalize min k f = q at *
      go_wp2
      go_ret
      exact ⟨by rw [← HM2.out]; rfl, (by first | rfl | trivial)⟩

set_option maxHeartbeats 2000000 in
theorem rblocked_any (r hb hs : Nat) (x : Of.B) (w : World) (h : Rf w r hb hs x) (hok : Of.Ok x) :
    Calls Try.prog 29 #[.pointer (some ⟨r, 0, none⟩)] w fun e w' => e = .returned (.bool (Of.blocked x)) ∧ w = w' := by
  have HF0 : Hid (Calls Try.prog 45 #[.pointer (some ⟨r, 0, none⟩), .int .i64 0] w fun e w' => e = .returned (.int .i64 (idx 0 x.s)) ∧ w = w') := rfirst_any r hb hs x w h hok 0
  have HF2 : Hid (Calls Try.prog 45 #[.pointer (some ⟨r, 0, none⟩), .int .i64 2] w fun e w' => e = .returned (.int .i64 (idx 2 x.s)) ∧ w = w') := rfirst_any r hb hs x w h hok 2
  obtain ⟨vb, vs, hO, hb1, hs1⟩ := h
  have hsl : x.s.length ≤ 2000 := by have := hok.len; have := hok.cap; omega
  have f4 : w.cell? ⟨r, 4, none⟩ = some (.int .u64 (x.lim : Int)) := by rw [hO.cell]; rfl
  have HB : Hid (Of.blocked x = (decide (Of.fst 0 x.s < x.s.length) && decide (Of.openB x ≤ Of.fst 0 x.s) && decide (Of.fst 2 x.s = x.s.length))) := rfl
  have HX0 : Hid (idx 0 x.s = if Of.fst 0 x.s < x.s.length then (Of.fst 0 x.s : Int) else -1) := rfl
  have HX2 : Hid (idx 2 x.s = if Of.fst 2 x.s < x.s.length then (Of.fst 2 x.s : Int) else -1) := rfl
  have HL := Lib.hid (And.intro (Of.fst_le 0 x.s) (Of.fst_le 2 x.s))
  have HO : Hid (Of.openB x = min x.s.length x.lim) := rfl
  clear hO hb1 hs1 hok
  rw [HB.out, HO.out]
  clear HB HO
  rw [HX0.out] at HF0
  rw [HX2.out] at HF2
  clear HX0 HX2
  generalize Of.fst 0 x.s = p0 at *
  generalize Of.fst 2 x.s = p2 at *
  generalize x.s.length = m at *
  generalize x.lim = lim at *
  have hl := HL.out
  obtain ⟨hl0, hl2⟩ := hl
  by_cases h1 : p0 < m
  · rw [if_pos h1] at HF0
    by_cases h2 : lim ≤ p0
    · have hq : (lim : Int) ≤ (p0 : Int) := by omega
      by_cases h3 : p2 < m
      · rw [if_pos h3] at HF2
        have HR : Hid ((decide (p0 < m) && decide (min m lim ≤ p0) && decide (p2 = m)) = false) := by
          unfold Hid; rw [decide_eq_false (show ¬ p2 = m by omega)]; simp
        rw [HR.out]
        clear HR HL
        go_enter Try.func29, Try.ntmps29
        go_wp2_with fail
        refine HF0.out.mono ?_
        rintro e w1 ⟨rfl, rfl⟩
        go_wp2_with fail
        refine HF2.out.mono ?_
        rintro e w1 ⟨rfl, rfl⟩
        go_wp2
        go_ret
        exact ⟨rfl, rfl⟩
      · rw [if_neg h3] at HF2
        have HR : Hid ((decide (p0 < m) && decide (min m lim ≤ p0) && decide (p2 = m)) = true) := by
          unfold Hid; rw [decide_eq_true h1, decide_eq_true (show p2 = m by omega), decide_eq_true (by omega)]; rfl
        rw [HR.out]
        clear HR HL
        go_enter Try.func29, Try.ntmps29
        go_wp2_with fail
        refine HF0.out.mono ?_
        rintro e w1 ⟨rfl, rfl⟩
        go_wp2_with fail
        refine HF2.out.mono ?_
        rintro e w1 ⟨rfl, rfl⟩
        go_wp2
        go_ret
        exact ⟨rfl, rfl⟩
    · have hq : ¬ (lim : Int) ≤ (p0 : Int) := by omega
      have HR : Hid ((decide (p0 < m) && decide (min m lim ≤ p0) && decide (p2 = m)) = false) := by
        unfold Hid; rw [decide_eq_false (show ¬ min m lim ≤ p0 by omega)]; simp
      rw [HR.out]
      clear HR HL
      go_enter Try.func29, Try.ntmps29
      go_wp2_with fail
      refine HF0.out.mono ?_
      rintro e w1 ⟨rfl, rfl⟩
      go_wp2
      go_ret
      exact ⟨rfl, rfl⟩
  · rw [if_neg h1] at HF0
    have HR : Hid ((decide (p0 < m) && decide (min m lim ≤ p0) && decide (p2 = m)) = false) := by
      unfold Hid; rw [decide_eq_false h1]; simp
    rw [HR.out]
    clear HR HL
    go_enter Try.func29, Try.ntmps29
    go_wp2_with fail
    refine HF0.out.mono ?_
    rintro e w1 ⟨rfl, rfl⟩
    go_wp2
    go_ret
    exact ⟨rfl, rfl⟩
end Go.Proofs.Ytdloeakmoaoalaa
