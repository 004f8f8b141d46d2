/- Layer 17's outflow, walked: slices.Clone of bytes; lemmas for rows. -/
import Derived.Test.YtdloeakmoaoalaaRows
import Derived.Test.YtdloeakmoaoalaaAid
import Derived.Test.YtdloeakmoaoalaaPlainOf
import Derived.Test.YtdloeakmoaoalaaOfW
import Derived.Test.YtdloeakmoaoalaaOfX
import Derived.Test.YtdloeakmoaoalaaOfA
import Derived.Test.YtdloeakmoaoalaaOfB
import Derived.WalkKit
import Derived.OwnWalk
import Derived.Laws.Rows
import Derived.Laws.Tables
import Derived.Laws.AppendOwn
import Derived.Lib.SliceRun
import Derived.WalkSpells
import Derived.WalkLawsBesides
import Derived.BigQuiet
import Derived.Handy
import Derived.Lib.Hide
import Derived.IntWalk
namespace Go.Proofs.Ytdloeakmoaoalaa
open Go.RowKit
set_option linter.unusedVariables false
set_option linter.unusedSimpArgs false

theorem Rb.below {w w' : World} {A : Option Addr} {l : List Nat} (h : Rb w A l) (hb : Below w.heap.size w w') : Rb w' A l := fun hp => by
  obtain ⟨b, off, rfl, hlt, hc⟩ := h hp
  exact ⟨b, off, rfl, Nat.lt_of_lt_of_le hlt hb.size, fun j hj => (hb.cell (p := ⟨b, off + j, none⟩) hlt).trans (hc j hj)⟩
theorem own_rb {w : World} {base n : Nat} {v : Value} {l : List Nat} (h : w.ownsRow base 5 1 v n (l.map b8)) : ∃ A c, v = .slice A n c ∧ l.length = n ∧ n ≤ c ∧ c ≤ maxLen ∧ Rb w A l ∧ (A = none ∨ ∃ g, A = some ⟨g, 0, none⟩ ∧ base ≤ g) := by
  obtain ⟨h1, h2⟩ := h
  simp at h1
  rcases h2 with ⟨rfl, rfl⟩ | ⟨g, cap, cur, rfl, hb, hg, hn, hc, hs, ht⟩
  · exact ⟨none, 0, rfl, h1, Nat.le_refl _, Nat.zero_le _, fun hp => by omega, Or.inl rfl⟩
  · refine ⟨_, cap, rfl, h1, hn, hc, fun hp => ⟨g, 0, rfl, ?_, fun j hj => ?_⟩, Or.inr ⟨g, rfl, hb⟩⟩
    · rcases Nat.lt_or_ge g w.heap.size with h | h
      · exact h
      · rw [Array.getElem?_eq_none h] at hg; cases hg
    · rw [Nat.zero_add, cell_of_row w g j cur _ _ hg]
      have hj2 : j < n := by omega
      have h3 : (cur.toList.take (n * 1))[j]? = cur[j]? := by rw [List.getElem?_take]; simp [hj2]
      rw [← h3, ht, List.getElem?_map, List.getElem?_eq_getElem hj]
      simp [b8, List.getD_eq_getElem?_getD, hj]
/-- Bytes that are appended to a slice of the call's own. -/
theorem wpList_appb {ops : Array Oper} {rest : List Oper} {o : Oper} {a : Act} {w : World} {Q : Exit → Act → World → Prop} (hgd : o.guard = none) (s x : Operand)
    (ho : o.op = .call { callee := .builtin .append, args := #[s, x], argTypes := #[28, 28] })
    (base : Nat) (v : Value) (n : Nat) (xs : List Value) (hs : a.eval s = v) (hown : w.ownsRow base 5 1 v n xs)
    (ad : Addr) (m c : Nat) (l : List Nat) (hx : a.eval x = .slice (some ad) m c) (hl : l.length = m) (hR : Rb w (some ad) l) (hm : n + m ≤ 100000000) (hbase : base ≤ w.heap.size)
    (h : ∀ v' w', w'.ownsRow base 5 1 v' (n + m) (xs ++ l.map b8) → w.grownBy w' v.ownBlock → wpList Try.prog ops Q rest (a.put o.dst v') w') : wpList Try.prog ops Q (o :: rest) a w := by
  obtain ⟨i0, hi, hz0, hz1, hz2⟩ := info_parts infoB8
  refine wpList_append_own w hgd s x 28 ho base 5 i0 (.int .u8 0) 1 1 Try.underlying28 hi hz0 hz1 hz2 rfl (by decide) v n xs hs hown ad m c (l.map b8) hx (by simp [hl]) ?_ ?_ ?_ ?_ hbase (fun v' w' h1 h2 _ => h v' w' h1 h2)
  · intro j u hu
    rw [List.getElem?_map, Option.map_eq_some_iff] at hu
    obtain ⟨y, hy, rfl⟩ := hu
    have hj := (List.getElem?_eq_some_iff.1 hy).1
    obtain ⟨b, o, e, hlt, hc⟩ := hR (by omega)
    obtain rfl : ad = ⟨b, o, none⟩ := by cases e; rfl
    rw [Addr.add_mid, hc j hj]
    simp [b8, List.getD_eq_getElem?_getD, hy]
  · intro u hu
    obtain ⟨x, _, rfl⟩ := List.mem_map.1 hu
    rfl
  · unfold maxLen; omega
  · omega

set_option maxHeartbeats 1000000 in
theorem clone_any (A : Option Addr) (c : Nat) (l : List Nat) (w : World) (h : Rb w A l) (hm : l.length ≤ 1000000) :
    Calls Try.prog 40 #[.slice A l.length c] w fun e w' => ∃ v, e = .returned v ∧ w'.ownsRow w.heap.size 5 1 v l.length (l.map b8) ∧ Below w.heap.size w w' := by
  have hq := fun w' a n c => Lib.run_eql_slice_nil (P := Try.prog) w' 28 5 a n c 0 0 Try.underlying28
  rcases A with _ | a
  · have h0 : l = [] := by
      rcases l with _ | ⟨x, r⟩
      · rfl
      · obtain ⟨_, _, e, _⟩ := h (by simp); cases e
    subst h0
    go_enter Try.func40, Try.ntmps40
    go_wp2
    go_ret
    exact ⟨_, rfl, World.ownsRow_nil _ _ _ _, Below.refl _ _⟩
  · have HR := Lib.hid (Rb.below h ((Below.refl _ w).alloc (Nat.le_refl _) (.cells #[] 5)))
    have HM := Lib.hid (show 0 + l.length ≤ 100000000 by omega)
    have HOW := Lib.hid (World.ownsRow_made (base := w.heap.size) (e := 5) (size := 1) w #[] 0 (Nat.le_refl _) (Nat.zero_le _) rfl)
    have HBS : Hid (w.heap.size ≤ (w.alloc (.cells #[] 5)).heap.size) := by unfold Hid; simp
    clear h hm
    go_enter Try.func40, Try.ntmps40
    go_wp2_with (at_builtin; refine wpList_appb rfl _ _ rfl w.heap.size _ _ _ rfl HOW.out a l.length c l rfl rfl HR.out HM.out HBS.out ?_; intro v' w1 hown1 hgrow1)
    go_ret
    rw [Nat.zero_add, List.nil_append] at hown1
    exact ⟨_, rfl, hown1, Below.grown ((Below.refl _ w).alloc (Nat.le_refl _) _) hgrow1 HBS.out (fun k hk => by cases hk; exact Nat.le_refl _)⟩

section
variable {w w' w1 w2 : World} {a b c : Nat}
theorem Upd3.refl (a b c : Nat) (w : World) : Upd3 a b c w w := ⟨rfl, rfl, rfl, Nat.le_refl _, fun _ _ _ _ _ => rfl⟩
theorem Upd3.trans (h : Upd3 a b c w w1) (k : Upd3 a b c w1 w2) : Upd3 a b c w w2 :=
  ⟨k.os.trans h.os, k.tape.trans h.tape, k.output.trans h.output, Nat.le_trans h.size k.size, fun i hi h1 h2 h3 =>
    (k.block i (Nat.lt_of_lt_of_le hi h.size) h1 h2 h3).trans (h.block i hi h1 h2 h3)⟩
theorem Upd3.below (h : Below w.heap.size w w1) (a b c : Nat) : Upd3 a b c w w1 := ⟨h.os, h.tape, h.output, h.size, fun k hk _ _ _ => h.block k hk⟩
theorem Upd3.one (h : Upd a w w1) (b c : Nat) : Upd3 a b c w w1 := ⟨h.os, h.tape, h.output, h.size, fun k hk h1 _ _ => h.block k hk h1⟩
theorem Upd3.three (h : Upd c w w1) (a b : Nat) : Upd3 a b c w w1 := ⟨h.os, h.tape, h.output, h.size, fun k hk _ _ h1 => h.block k hk h1⟩
end
theorem RowB.free {w : World} {v : Value} {g : Nat} {l : List Nat} (h : RowB w v g l) (hl : 0 < l.length) (i : Nat) : w.frozen? ⟨g, i, none⟩ = false := by
  rcases h with ⟨_, h⟩ | ⟨c, rest, h1, h2, h3, h4, h⟩
  · rw [h] at hl; simp at hl
  · exact h.free i
theorem RowB.rb {w : World} {g c : Nat} {base : Option Addr} {l : List Nat} (h : RowB w (.slice base l.length c) g l) : Rb w base l := fun hp => by
  rcases h with ⟨_, h⟩ | ⟨c', rest, h1, h2, h3, h4, h⟩
  · rw [h] at hp; simp at hp
  · cases h1
    refine ⟨g, 0, rfl, h.lt, fun i hi => ?_⟩
    rw [Nat.zero_add]
    rw [h.cell, List.getElem?_toArray, List.getElem?_append_left (by simpa using hi)]
    simp [List.getD_eq_getElem?_getD, hi]
end Go.Proofs.Ytdloeakmoaoalaa
namespace Of
theorem setR_len (s : List Nat) (lo hi v : Nat) : (setR s lo hi v).length = s.length := by simp [setR]
theorem setR_getD (s : List Nat) (lo hi v i : Nat) (h : i < s.length) : (setR s lo hi v).getD i 0 = if lo ≤ i ∧ i < hi then v else s.getD i 0 := by
  unfold setR
  rw [List.getD_eq_getElem?_getD, List.getElem?_map, List.getElem?_range h]
  rfl
theorem list_ext {l m : List Nat} (h : l.length = m.length) (hi : ∀ i, i < l.length → l.getD i 0 = m.getD i 0) : l = m := by
  apply List.ext_getElem h
  intro i h1 h2
  have := hi i h1
  rw [List.getD_eq_getElem?_getD, List.getD_eq_getElem?_getD, List.getElem?_eq_getElem h1, List.getElem?_eq_getElem h2] at this
  simpa using this
theorem setR_none (s : List Nat) (lo v : Nat) : setR s lo lo v = s := by
  refine list_ext (setR_len _ _ _ _) fun i hi => ?_
  rw [setR_len] at hi
  rw [setR_getD _ _ _ _ _ hi, if_neg (by omega)]
theorem set_getD (l : List Nat) (k v i : Nat) (h : i < l.length) : (l.set k v).getD i 0 = if i = k then v else l.getD i 0 := by
  rw [List.getD_eq_getElem?_getD, List.getElem?_set]
  by_cases e : k = i
  · subst e; simp [h]
  · rw [if_neg e, if_neg (fun h => e h.symm), List.getD_eq_getElem?_getD]
theorem setR_set (s : List Nat) (lo k v : Nat) (h1 : lo ≤ k) (h2 : k < s.length) : (setR s lo k v).set k v = setR s lo (k + 1) v := by
  refine list_ext (by simp [setR]) fun i hi => ?_
  rw [List.length_set, setR_len] at hi
  rw [set_getD _ _ _ _ (by rw [setR_len]; exact hi), setR_getD _ _ _ _ _ hi, setR_getD _ _ _ _ _ hi]
  by_cases e : i = k
  · subst e; rw [if_pos rfl, if_pos (by omega)]
  · rw [if_neg e]
    by_cases h : lo ≤ i ∧ i < k
    · rw [if_pos h, if_pos (by omega)]
    · rw [if_neg h, if_neg (by omega)]
end Of
