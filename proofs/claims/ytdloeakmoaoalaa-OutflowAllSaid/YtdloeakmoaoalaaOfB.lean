/- Layer 17's outflow, walked: Write. -/
import Derived.Test.YtdloeakmoaoalaaRows
import Derived.Test.YtdloeakmoaoalaaAid
import Derived.Test.YtdloeakmoaoalaaPlainOf
import Derived.Test.YtdloeakmoaoalaaOfW
import Derived.Test.YtdloeakmoaoalaaOfX
import Derived.Test.YtdloeakmoaoalaaOfA
import Derived.Test.YtdloeakmoaoalaaHeldT
import Derived.WalkKit
import Derived.OwnWalk
import Derived.Laws.Rows
import Derived.Laws.Tables
import Derived.Deep.AppendSrc
import Derived.Lib.AppendZeros
import Derived.WalkSpells
import Derived.WalkLawsBesides
import Derived.BigQuiet
import Derived.Handy
import Derived.StillTailTactics
import Derived.Lib.Hide
import Derived.IntWalk
namespace Go.Proofs.Ytdloeakmoaoalaa
open Go.RowKit
set_option linter.unusedVariables false
set_option linter.unusedSimpArgs false

/-- A slice of bytes that reads as a list. -/
def Rb (w : World) (A : Option Addr) (l : List Nat) : Prop := 0 < l.length → ∃ b off, A = some ⟨b, off, none⟩ ∧ b < w.heap.size ∧ ∀ i, i < l.length → w.cell? ⟨b, off + i, none⟩ = some (b8 (l.getD i 0))
/-- Of what was there nothing has turned, but three blocks. -/
structure Upd3 (a b c : Nat) (w w' : World) : Prop where
  os : w'.os = w.os
  tape : w'.tape = w.tape
  output : w'.output = w.output
  size : w.heap.size ≤ w'.heap.size
  block : ∀ k, k < w.heap.size → k ≠ a → k ≠ b → k ≠ c → w'.heap[k]? = w.heap[k]?
/-- A row's number may be taken anew where the slice is nil. -/
theorem RowB.fresh {w : World} {v : Value} {g : Nat} {l : List Nat} (h : RowB w v g l) (n : Nat) (hn : w.heap.size ≤ n) : ∃ g', RowB w v g' l ∧ (g' = g ∨ w.heap.size ≤ g') ∧ ((v = .slice none 0 0 ∧ g' = n) ∨ (v ≠ .slice none 0 0 ∧ g' = g ∧ g < w.heap.size)) := by
  rcases h with ⟨rfl, rfl⟩ | ⟨c, rest, h1, h2, h3, h4, h⟩
  · exact ⟨n, Or.inl ⟨rfl, rfl⟩, Or.inr hn, Or.inl ⟨rfl, rfl⟩⟩
  · exact ⟨g, Or.inr ⟨c, rest, h1, h2, h3, h4, h⟩, Or.inl rfl, Or.inr ⟨by rw [h1]; simp, rfl, h.lt⟩⟩

set_option maxHeartbeats 2000000 in
theorem write_any (a gb gs : Nat) (A : Option Addr) (c : Nat) (data : List Nat) (x : Of.B) (w : World) (h : Bf w a gb gs x) (hok : Of.Ok x) (hd : Rb w A data) (hlc : data.length ≤ c) (hcm : c ≤ maxLen) (hdl : data.length ≤ 1000000) :
    Calls Try.prog 13 #[.pointer (some ⟨a, 0, none⟩), .slice A data.length c] w fun e w' => ∃ gb' gs', e = .returned (.int .i64 ((Of.write x data).1 : Nat)) ∧ Bf w' a gb' gs' (Of.write x data).2 ∧ (gb' = gb ∨ w.heap.size ≤ gb') ∧ (gs' = gs ∨ w.heap.size ≤ gs') ∧ Upd3 a gb gs w w' := by
  obtain ⟨vb, vs, hO, hb, hs, hsep⟩ := id h
  have f2 : w.cell? ⟨a, 2, none⟩ = some (.bool x.fin) := by rw [hO.cell]; rfl
  have HH := Lib.hid h
  cases hf : x.fin with
  | true =>
    rw [hf] at f2
    have HF : Hid (Of.write x data = (0, x)) := by unfold Hid Of.write; rw [hf]; rfl
    clear hO hb hs h hsep
    go_enter Try.func13, Try.ntmps13
    go_wp2
    go_ret
    rw [HF.out]
    exact ⟨gb, gs, rfl, HH.out, Or.inl rfl, Or.inl rfl, ⟨rfl, rfl, rfl, Nat.le_refl _, fun _ _ _ _ _ => rfl⟩⟩
  | false =>
    rw [hf] at f2
    have hcap := hok.cap
    obtain ⟨k, hk⟩ : ∃ k, min data.length (2000 - x.b.length) = k := ⟨_, rfl⟩
    have HF : Hid (Of.write x data = (k, { x with b := x.b ++ data.take k, s := x.s ++ List.replicate k 0 })) := by
      unfold Hid Of.write; rw [hf]; simp only [hk]; rfl
    have hkd : k ≤ data.length := by omega
    have hmin : min (data.length : Int) (2000 - (x.b.length : Int)) = (k : Int) := by omega
    have hmin2 : (if (2000 : Int) - (x.b.length : Int) < (data.length : Int) then (2000 : Int) - (x.b.length : Int) else (data.length : Int)) = (k : Int) := by split <;> omega
    obtain ⟨g1, hb1, hg1, hf1⟩ := hb.fresh (w.heap.size + 1) (by omega)
    obtain ⟨basb, cb, rfl, _⟩ := hb1.form
    have f0 : w.cell? ⟨a, 0, none⟩ = some (.slice basb x.b.length cb) := by rw [hO.cell]; rfl
    have hTL : (data.take k).length = k := by rw [List.length_take]; omega
    -- what is appended to the text
    have hap : ∃ v' w' g', (∀ ty, (Builtin.append_ #[28, 28] ty #[.slice basb x.b.length cb, .slice A k c]).run Try.prog w.drew = .ok v' w') ∧ RowB w' v' g' (x.b ++ data.take k) ∧ (g' = g1 ∨ w.heap.size ≤ g') ∧ Upd g1 w w' := by
      rcases Nat.eq_zero_or_pos k with h0 | hpos
      · rw [h0]
        refine ⟨_, w.drew, g1, fun ty => RowB.append0 (w := w.drew) (hb1.kept ⟨rfl, rfl, rfl, Nat.le_refl _, fun _ _ => rfl⟩) ?_ ty, by simpa using (hb1.kept (w' := w.drew) ⟨rfl, rfl, rfl, Nat.le_refl _, fun _ _ => rfl⟩), Or.inl rfl, (Upd.refl g1 w).drew⟩
        cases A with
        | none => exact Or.inl ⟨c, rfl⟩
        | some ad => exact Or.inr ⟨ad, c, rfl⟩
      · obtain ⟨B, off, rfl, hBl, hcell⟩ := hd (by omega)
        have hsrc : Src Try.prog 1 28 (.slice (some ⟨B, off, none⟩) k c) (data.take k).length ((data.take k).map b8) w.drew := by
          rw [hTL]
          refine Src.ofSlice w.drew Try.underlying28 ⟨B, off, none⟩ k c _ (by rw [List.length_map, hTL]; omega) (fun j u hj => ?_) (fun u hu => by obtain ⟨y, _, rfl⟩ := List.mem_map.1 hu; rfl)
          rw [Addr.add_lit]
          rw [List.getElem?_map, List.getElem?_take] at hj
          split at hj
          · rename_i hjk
            refine (hcell j (by omega)).trans ?_
            rw [List.getElem?_eq_getElem (by omega)] at hj
            simp only [Option.map_some] at hj
            rw [← hj, List.getD_eq_getElem?_getD, List.getElem?_eq_getElem (by omega), Option.getD_some]
          · cases hj
        have := RowB.append (w := w.drew) (hb1.kept ⟨rfl, rfl, rfl, Nat.le_refl _, fun _ _ => rfl⟩) hsrc (by rw [hTL]; omega) (by rw [hTL]; exact hpos)
        obtain ⟨v', w', g', r1, r2, r3, r4⟩ := this
        exact ⟨v', w', g', r1, r2, r3, ⟨r4.os, r4.tape, r4.output, r4.size, r4.block⟩⟩
    obtain ⟨v1, w1, g1', hr1, hb2, hg2, hu1⟩ := hap
    have hal := hO.lt
    have hag : a ≠ g1 := by
      rcases hf1 with ⟨_, h⟩ | ⟨hv, h, _⟩
      · omega
      · rcases hb.ne hO with ⟨h', _⟩ | h'
        · exact absurd h' hv
        · rw [h]; exact fun e => h' e.symm
    have hO1 := hO.upd hu1 hag
    obtain ⟨bas1, c1, rfl, _⟩ := hb2.form
    have hs1 : RowB w1 vs gs x.s := by
      rcases hs with hs | ⟨c', rest, e1, e2, e3, e4, e5⟩
      · exact Or.inl hs
      · refine (show RowB w vs gs x.s from Or.inr ⟨c', rest, e1, e2, e3, e4, e5⟩).upd hu1 ?_
        have hgl := e5.lt
        rcases hf1 with ⟨_, h⟩ | ⟨hv, h, _⟩
        · omega
        · rcases hsep with h' | h' | h'
          · exact absurd h' hv
          · rw [e1] at h'; cases h'
          · rw [h]; exact fun e => h' e.symm
    obtain ⟨W2, hW2⟩ : ∃ W2, w1.setCell ⟨a, 0, none⟩ (.slice bas1 (x.b ++ data.take k).length c1) = W2 := ⟨_, rfl⟩
    have hO2 : Obj W2 a 63 #[.slice bas1 (x.b ++ data.take k).length c1, vs, .bool x.fin, b8 x.en, .int .u64 (x.lim : Int)] := by rw [← hW2]; exact (hO1.set 0 _).as rfl
    have hu2 : Upd a w1 W2 := by rw [← hW2]; exact (Upd.refl a w1).set _ _
    have hb3 := hb2.updA hO1 hu2
    have hs2 := hs1.updA hO1 hu2
    obtain ⟨g2, hs3, hg3, hf2⟩ := hs2.fresh (W2.heap.size + 1) (by omega)
    have hlen : x.s.length = x.b.length := hok.len
    obtain ⟨v3, W3, g3, hr3, hs4, hg4, hu3⟩ := hs3.appendZ k (by omega)
    have hal2 := hO2.lt
    have hag2 : a ≠ g2 := by
      rcases hf2 with ⟨_, h⟩ | ⟨hv, h, _⟩
      · omega
      · rcases hs2.ne hO2 with ⟨h', _⟩ | h'
        · exact absurd h' hv
        · rw [h]; exact fun e => h' e.symm
    have hO3 := hO2.upd hu3 hag2
    have hsz1 := hu1.size
    have hsz2 := hu2.size
    have hsz3 := hu3.size
    -- the text's row stays
    have hgg : RowB W3 (.slice bas1 (x.b ++ data.take k).length c1) g1' (x.b ++ data.take k) ∧ (Value.slice bas1 (x.b ++ data.take k).length c1 = .slice none 0 0 ∨ v3 = .slice none 0 0 ∨ g1' ≠ g3) := by
      rcases hb3 with ⟨e1, e2⟩ | ⟨c', rest, e1, e2, e3, e4, e5⟩
      · exact ⟨Or.inl ⟨e1, e2⟩, Or.inl e1⟩
      · have hgl := e5.lt
        have hne : g1' ≠ g2 := by
          rcases hf2 with ⟨_, h⟩ | ⟨hv, h, hlt⟩
          · omega
          · rw [h]
            rcases hs with ⟨hs0, _⟩ | ⟨c'', rest', q1, q2, q3, q4, q5⟩
            · exact absurd hs0 hv
            · have hgs := q5.lt
              rcases hg2 with e | e
              · rw [e]
                rcases hf1 with ⟨_, h'⟩ | ⟨hv', h', _⟩
                · omega
                · rcases hsep with h'' | h'' | h''
                  · exact absurd h'' hv'
                  · exact absurd h'' hv
                  · rw [h']; exact h''
              · omega
        refine ⟨(show RowB W2 _ g1' _ from Or.inr ⟨c', rest, e1, e2, e3, e4, e5⟩).upd hu3 hne, Or.inr (Or.inr ?_)⟩
        rcases hg4 with e | e
        · rw [e]; exact hne
        · omega
    obtain ⟨bas3, c3, rfl, _⟩ := hs4.form
    obtain ⟨W4, hW4⟩ : ∃ W4, W3.setCell ⟨a, 1, none⟩ (.slice bas3 (x.s ++ List.replicate k 0).length c3) = W4 := ⟨_, rfl⟩
    have hu4 : Upd a W3 W4 := by rw [← hW4]; exact (Upd.refl a W3).set _ _
    have HEND : Hid (Bf W4 a g1' g3 { x with b := x.b ++ data.take k, s := x.s ++ List.replicate k 0 } ∧ (g1' = gb ∨ w.heap.size ≤ g1') ∧ (g3 = gs ∨ w.heap.size ≤ g3) ∧ Upd3 a gb gs w W4) := by
      refine ⟨⟨_, _, by rw [← hW4]; exact (hO3.set 1 _).as rfl, hgg.1.updA hO3 hu4, hs4.updA hO3 hu4, hgg.2⟩, ?_, ?_, ⟨?_, ?_, ?_, ?_, fun q hq q1 q2 q3 => ?_⟩⟩
      · rcases hg2 with e | e
        · rw [e]; exact hg1
        · exact Or.inr e
      · rcases hg4 with e | e
        · rw [e]
          rcases hg3 with e' | e'
          · exact Or.inl e'
          · exact Or.inr (by omega)
        · exact Or.inr (by omega)
      · exact hu4.os.trans (hu3.os.trans (hu2.os.trans hu1.os))
      · exact hu4.tape.trans (hu3.tape.trans (hu2.tape.trans hu1.tape))
      · exact hu4.output.trans (hu3.output.trans (hu2.output.trans hu1.output))
      · have := hu4.size; omega
      · have a1 : q ≠ g1 := by rcases hg1 with e | e <;> omega
        have a2 : q ≠ g2 := by rcases hg3 with e | e <;> omega
        exact (hu4.block q (by omega) q1).trans ((hu3.block q (by omega) a2).trans ((hu2.block q (by omega) q1).trans (hu1.block q hq a1)))
    have f1 : W2.cell? ⟨a, 1, none⟩ = some vs := by rw [hO2.cell]; rfl
    have z0 := hO1.free 0
    have z1 := hO3.free 1
    have f5 : w1.cell? ⟨a, 0, none⟩ = some (.slice basb x.b.length cb) := by rw [hO1.cell]; rfl
    have f6 : W3.cell? ⟨a, 1, none⟩ = some vs := by rw [hO3.cell]; rfl
    have HA := Lib.hid hr1
    have HB := Lib.hid hr3
    have f7 : w1.cell? ⟨a, 1, none⟩ = some vs := by rw [hO1.cell]; rfl
    have hk0 : (k : Int) ≤ (c : Int) := by omega
    have hkz : (0 : Int) ≤ (k : Int) := by omega
    have hcz : c ≤ 9223372036854775807 := by simp only [maxLen] at hcm; omega
    have hx2 : x.b.length ≤ 2000 := hcap
    clear h hO hb hs hsep hd hb1 hg1 hf1 hr1 hb2 hg2 hu1 hO1 hs1 hO2 hu2 hb3 hs2 hs3 hg3 hf2 hlen hr3 hs4 hg4 hu3 hO3 hgg hu4 hTL hok hal hal2 hag hag2
    subst hW2
    subst hW4
    clear f1
    generalize (x.b ++ data.take k).length = m1 at *
    generalize (x.s ++ List.replicate k 0).length = m3 at *
    generalize data.length = dl at *
    generalize x.b.length = bl at *
    go_enter Try.func13, Try.ntmps13
    go_wp2
    refine wp_region_T 11 (fun w' => w'.cell? ⟨a, 0, none⟩ = some (.slice basb bl cb)) (by kernel_rfl) f0 (fun hHeld => ?_)
    refine wpAnyT_take (i := 0) (oi := ?_) (v := ?_) ?_ ?_ ?_ ?_ ?_ ?_ ?_ (by assumption) ?_
    rotate_left 2
    · simp only [List.getElem?_toArray, List.getElem?_cons_zero, List.getElem?_cons_succ]
      rfl
    · kernel_rfl
    · kernel_rfl
    · kernel_rfl
    · kernel_rfl
    · exact fun _ _ _ h => h
    · refine Or.inl ⟨by rfl, ?_⟩
      intro w hSw
      (try dsimp only at hSw)
      go_simp
      all_goals with_reducible rfl
    simp only [Act.put, List.setIfInBounds_toArray, List.set_cons_zero, List.set_cons_succ]
    refine wpAnyT_take (i := 1) (oi := ?_) (v := ?_) ?_ ?_ ?_ ?_ ?_ ?_ ?_ (by assumption) ?_
    rotate_left 2
    · simp only [List.getElem?_toArray, List.getElem?_cons_zero, List.getElem?_cons_succ]
      rfl
    · kernel_rfl
    · kernel_rfl
    · kernel_rfl
    · kernel_rfl
    · exact fun _ _ _ h => h
    · refine Or.inl ⟨by rfl, ?_⟩
      intro w hSw
      (try dsimp only at hSw)
      go_simp
      all_goals with_reducible rfl
    simp only [Act.put, List.setIfInBounds_toArray, List.set_cons_zero, List.set_cons_succ]
    refine wpAnyT_take (i := 2) (oi := ?_) (v := ?_) ?_ ?_ ?_ ?_ ?_ ?_ ?_ (by assumption) ?_
    rotate_left 2
    · simp only [List.getElem?_toArray, List.getElem?_cons_zero, List.getElem?_cons_succ]
      rfl
    · kernel_rfl
    · kernel_rfl
    · kernel_rfl
    · kernel_rfl
    · exact fun _ _ _ h => h
    · refine Or.inl ⟨by rfl, ?_⟩
      intro w hSw
      (try dsimp only at hSw)
      go_simp
      all_goals with_reducible rfl
    simp only [Act.put, List.setIfInBounds_toArray, List.set_cons_zero, List.set_cons_succ]
    refine wpAnyT_take (i := 3) (oi := ?_) (v := ?_) ?_ ?_ ?_ ?_ ?_ ?_ ?_ (by assumption) ?_
    rotate_left 2
    · simp only [List.getElem?_toArray, List.getElem?_cons_zero, List.getElem?_cons_succ]
      rfl
    · kernel_rfl
    · kernel_rfl
    · kernel_rfl
    · kernel_rfl
    · exact fun _ _ _ h => h
    · refine Or.inl ⟨by rfl, ?_⟩
      intro w hSw
      (try dsimp only at hSw)
      go_simp
      all_goals with_reducible rfl
    simp only [Act.put, List.setIfInBounds_toArray, List.set_cons_zero, List.set_cons_succ]
    refine wpAnyT_take (i := 4) (oi := ?_) (v := ?_) ?_ ?_ ?_ ?_ ?_ ?_ ?_ (by assumption) ?_
    rotate_left 2
    · simp only [List.getElem?_toArray, List.getElem?_cons_zero, List.getElem?_cons_succ]
      rfl
    · kernel_rfl
    · kernel_rfl
    · kernel_rfl
    · kernel_rfl
    · exact fun _ _ _ h => h
    · refine Or.inl ⟨by rfl, ?_⟩
      intro w' hSw
      (try dsimp only at hSw)
      have q := hSw
      go_simp
      all_goals with_reducible rfl
    simp only [Act.put, List.setIfInBounds_toArray, List.set_cons_zero, List.set_cons_succ]
    refine wpAnyT_take (i := 5) (oi := ?_) (v := ?_) ?_ ?_ ?_ ?_ ?_ ?_ ?_ (by assumption) ?_
    rotate_left 2
    · simp only [List.getElem?_toArray, List.getElem?_cons_zero, List.getElem?_cons_succ]
      rfl
    · kernel_rfl
    · kernel_rfl
    · kernel_rfl
    · kernel_rfl
    · exact fun _ _ _ h => h
    · refine Or.inl ⟨by rfl, ?_⟩
      intro w hSw
      (try dsimp only at hSw)
      go_simp
      all_goals with_reducible rfl
    simp only [Act.put, List.setIfInBounds_toArray, List.set_cons_zero, List.set_cons_succ]
    refine wpAnyT_take (i := 6) (oi := ?_) (v := ?_) ?_ ?_ ?_ ?_ ?_ ?_ ?_ (by assumption) ?_
    rotate_left 2
    · simp only [List.getElem?_toArray, List.getElem?_cons_zero, List.getElem?_cons_succ]
      rfl
    · kernel_rfl
    · kernel_rfl
    · kernel_rfl
    · kernel_rfl
    · exact fun _ _ _ h => h
    · refine Or.inl ⟨by rfl, ?_⟩
      intro w hSw
      (try dsimp only at hSw)
      go_simp
      all_goals with_reducible rfl
    simp only [Act.put, List.setIfInBounds_toArray, List.set_cons_zero, List.set_cons_succ]
    refine wpAnyT_take (i := 7) (oi := ?_) (v := ?_) ?_ ?_ ?_ ?_ ?_ ?_ ?_ (by assumption) ?_
    rotate_left 2
    · simp only [List.getElem?_toArray, List.getElem?_cons_zero, List.getElem?_cons_succ]
      rfl
    · kernel_rfl
    · kernel_rfl
    · kernel_rfl
    · kernel_rfl
    · exact fun _ _ _ h => h
    · refine Or.inl ⟨by rfl, ?_⟩
      intro w hSw
      (try dsimp only at hSw)
      go_simp
      all_goals with_reducible rfl
    simp only [Act.put, List.setIfInBounds_toArray, List.set_cons_zero, List.set_cons_succ]
    refine wpAnyT_one (i := 8) (o := ?_) (by kernel_rfl) ?_ (fun KK hKK => ?_)
    rotate_left
    · simp only [List.getElem?_toArray, List.getElem?_cons_zero, List.getElem?_cons_succ]
      rfl
    rw [if_pos (by rfl)]
    refine Lib.wp_append_run _ _ _ _ _ rfl _ _ rfl rfl _ _ (HA.out _) ?_
    refine hKK.out _ _ ?_ (fun h8 => ?_)
    · (try dsimp only)
      exact f5
    clear hKK KK
    try simp only [Act.put, List.setIfInBounds_toArray, List.set_cons_zero, List.set_cons_succ]
    refine wpAnyT_one (i := 9) (o := ?_) (by kernel_rfl) ?_ (fun KK hKK => ?_)
    rotate_left
    · simp only [List.getElem?_toArray, List.getElem?_cons_zero, List.getElem?_cons_succ]
      rfl
    go_simp
    refine hKK.out _ _ ?_ (fun h9 => ?_)
    · (try dsimp only)
      exact f5
    clear hKK KK
    try simp only [Act.put, List.setIfInBounds_toArray, List.set_cons_zero, List.set_cons_succ]
    refine wpAnyT_one (i := 10) (o := ?_) (by kernel_rfl) ?_ (fun KK hKK => ?_)
    rotate_left
    · simp only [List.getElem?_toArray, List.getElem?_cons_zero, List.getElem?_cons_succ]
      rfl
    go_simp
    refine hKK.out _ _ ?_ (fun h10 => ?_)
    · (try dsimp only)
      exact f5
    clear hKK KK
    try simp only [Act.put, List.setIfInBounds_toArray, List.set_cons_zero, List.set_cons_succ]
    refine wpAnyT_last (o := ?_) (by kernel_rfl) ?_ (fun KK hKK => ?_)
    rotate_left
    · simp only [List.getElem?_toArray, List.getElem?_cons_zero, List.getElem?_cons_succ]
      rfl
    go_simp
    refine hKK.out _ _ ?_
    clear hKK KK
    try simp only [Act.put, List.setIfInBounds_toArray, List.set_cons_zero, List.set_cons_succ]
    refine wpAnyT_done (by kernel_rfl) ?_ _
    go_wp2_with (at_builtin; refine Lib.wpList_append_run _ rfl _ _ _ _ rfl _ _ rfl rfl _ _ (HB.out _) ?_)
    all_goals go_ret
    all_goals rw [HF.out]
    all_goals exact ⟨g1', g3, rfl, HEND.out⟩
end Go.Proofs.Ytdloeakmoaoalaa
