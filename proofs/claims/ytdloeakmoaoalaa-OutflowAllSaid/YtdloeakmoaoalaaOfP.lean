/- Layer 17's outflow, walked: turn, Acked, Lost. -/
import Derived.Test.YtdloeakmoaoalaaRows
import Derived.Test.YtdloeakmoaoalaaAid
import Derived.Test.YtdloeakmoaoalaaPlainOf
import Derived.Test.YtdloeakmoaoalaaOfW
import Derived.Test.YtdloeakmoaoalaaOfX
import Derived.Test.YtdloeakmoaoalaaOfA
import Derived.Test.YtdloeakmoaoalaaHeldT
import Derived.Test.YtdloeakmoaoalaaOfB
import Derived.Test.YtdloeakmoaoalaaOfM
import Derived.WalkKit
import Derived.OwnWalk
import Derived.Laws.Rows
import Derived.Laws.Tables
import Derived.WalkSpells
import Derived.WalkLawsBesides
import Derived.BigQuiet
import Derived.Handy
import Derived.StillTailTactics
import Derived.Lib.Walk
import Derived.Shelf.Abstract
import Derived.Lib.Hide
import Derived.IntWalk
namespace Of
set_option linter.unusedVariables false
set_option linter.unusedSimpArgs false
/-- States turned from a place to a place. -/
def turnR (s : List Nat) (lo hi : Nat) (f : Nat → Nat) : List Nat := (List.range s.length).map fun i => if lo ≤ i ∧ i < hi then f (s.getD i 0) else s.getD i 0
theorem turnR_len (s : List Nat) (lo hi : Nat) (f : Nat → Nat) : (turnR s lo hi f).length = s.length := by simp [turnR]
theorem turnR_getD (s : List Nat) (lo hi : Nat) (f : Nat → Nat) (i : Nat) (h : i < s.length) : (turnR s lo hi f).getD i 0 = if lo ≤ i ∧ i < hi then f (s.getD i 0) else s.getD i 0 := by
  unfold turnR
  rw [List.getD_eq_getElem?_getD, List.getElem?_map, List.getElem?_range h]
  rfl
theorem turnR_none (s : List Nat) (lo : Nat) (f : Nat → Nat) : turnR s lo lo f = s :=
  list_ext (turnR_len _ _ _ _) fun i hi => by
    rw [turnR_len] at hi
    rw [turnR_getD _ _ _ _ _ hi, if_neg (by omega)]
theorem turnR_set (s : List Nat) (lo k : Nat) (f : Nat → Nat) (h1 : lo ≤ k) (h2 : k < s.length) : (turnR s lo k f).set k (f (s.getD k 0)) = turnR s lo (k + 1) f :=
  list_ext (by rw [List.length_set, turnR_len, turnR_len]) fun i hi => by
    rw [List.length_set, turnR_len] at hi
    rw [set_getD _ _ _ _ (by rw [turnR_len]; exact hi), turnR_getD _ _ _ _ _ hi, turnR_getD _ _ _ _ _ hi]
    by_cases e : i = k
    · subst e
      rw [if_pos rfl, if_pos (by omega)]
    · rw [if_neg e]
      by_cases hh : lo ≤ i ∧ i < k
      · rw [if_pos hh, if_pos (by omega)]
      · rw [if_neg hh, if_neg (by omega)]
theorem turn_s (x : B) (off : Nat) (n : Int) (e : Bool) (f : Nat → Nat) (k : Nat) (h1 : min off x.s.length ≤ k) (h2 : k ≤ x.s.length) (h3 : k = min off x.s.length ∨ (k : Int) - (min off x.s.length : Nat) ≤ n) (h4 : k = x.s.length ∨ n ≤ (k : Int) - (min off x.s.length : Nat)) :
    (turn x off n e f).s = turnR x.s (min off x.s.length) k f := by
  unfold turn turnR
  simp only
  apply List.map_congr_left
  intro i hi
  rw [List.mem_range] at hi
  by_cases hh : min off x.s.length ≤ i ∧ i < k
  · rw [if_pos hh, if_pos (by omega)]
  · rw [if_neg hh, if_neg (by omega)]
end Of
namespace Go.Proofs.Ytdloeakmoaoalaa
open Go.RowKit
set_option linter.unusedVariables false
set_option linter.unusedSimpArgs false

set_option maxHeartbeats 4000000 in
theorem turn_any (a gb gs off : Nat) (n : Int) (en : Bool) (g : Nat) (F : Nat → Nat) (x : Of.B) (w : World) (h : Bf w a gb gs x) (hok : Of.Ok x)
    (eg : ∀ args w, (callFunc g args).run Try.prog w = .ok (.enter g args) w) (hC : ∀ (c : Nat) (w : World), Calls Try.prog g #[b8 c] w fun e w' => e = .returned (b8 (F c)) ∧ w = w') :
    Calls Try.prog 36 #[.pointer (some ⟨a, 0, none⟩), .int .u64 (off : Int), .int .i64 n, .bool en, .func (.func g) #[] #[]] w fun e w' => e = .returned (.tuple #[])
      ∧ Bf w' a gb gs (Of.turn x off n en F) ∧ Upd3 a gb gs w w' := by
  obtain ⟨vb, vs, hO, hb, hs, hsep⟩ := id h
  have hsl : x.s.length ≤ 2000 := by have := hok.len; have := hok.cap; omega
  have hbl : x.b.length = x.s.length := hok.len.symm
  obtain ⟨bs, cs, rfl, hlcs, hcms, _, _⟩ := hs.form
  have hcsi : cs ≤ 9223372036854775807 := by simp only [maxLen] at hcms; omega
  have hbs1 : 0 < x.s.length → bs = some ⟨gs, 0, none⟩ := fun hl => by
    rcases hs with ⟨_, h⟩ | ⟨c', rest, h1, _⟩
    · rw [h] at hl; simp at hl
    · cases h1; rfl
  have hags : 0 < x.s.length → gs ≠ a := fun hl => by
    rcases hs.ne hO with ⟨_, h⟩ | h
    · rw [h] at hl; simp at hl
    · exact h
  have hgbs : 0 < x.s.length → gb ≠ gs ∨ vb = .slice none 0 0 := fun hl => by
    rcases hsep with h' | h' | h'
    · exact Or.inr h'
    · rw [hbs1 hl] at h'; cases h'
    · exact Or.inl h'
  obtain ⟨at_, hat⟩ : ∃ at_, min off x.s.length = at_ := ⟨_, rfl⟩
  have hat1 : at_ ≤ x.s.length := by omega
  have hmin : min (off : Int) (x.s.length : Int) = (at_ : Int) := by omega
  have hmin2 : (if (x.s.length : Int) < (off : Int) then (x.s.length : Int) else (off : Int)) = (at_ : Int) := by split <;> omega
  have hEND := fun k => Of.turn_s x off n en F k
  rw [hat] at hEND
  have hE2 : Hid ((Of.turn x off n en F) = { x with s := (Of.turn x off n en F).s, en := if en && x.fin then F x.en else x.en }) := rfl
  let R : Nat → World → Prop := fun k wr => Obj wr a 63 #[vb, .slice bs x.s.length cs, .bool x.fin, b8 x.en, .int .u64 (x.lim : Int)] ∧ RowB wr vb gb x.b ∧ RowB wr (.slice bs x.s.length cs) gs (Of.turnR x.s at_ k F) ∧ Upd3 a gb gs w wr
  have hR0 : R at_ w := ⟨hO, hb, by rw [Of.turnR_none]; exact hs, Upd3.refl _ _ _ _⟩
  have hR1 : ∀ k wr, R k wr → at_ ≤ k → k < x.s.length → bs = some ⟨gs, 0, none⟩ ∧ wr.cell? ⟨gs, k, none⟩ = some (b8 (x.s.getD k 0)) ∧ wr.frozen? ⟨gs, k, none⟩ = false ∧ R (k + 1) (wr.setCell ⟨gs, k, none⟩ (b8 (F (x.s.getD k 0)))).drew := by
    rintro k wr ⟨r1, r2, r3, r4⟩ h1 h2
    have hl : 0 < x.s.length := by omega
    obtain ⟨bs', cs', hbc, _, _, _, hcell⟩ := r3.form
    have hl2 : 0 < (Of.turnR x.s at_ k F).length := by rw [Of.turnR_len]; exact hl
    have hck := (hcell k (by rw [Of.turnR_len]; omega)).2
    rw [Of.turnR_getD _ _ _ _ _ h2, if_neg (by omega)] at hck
    have hB : Below (wr.setCell ⟨gs, k, none⟩ (b8 (F (x.s.getD k 0)))).heap.size (wr.setCell ⟨gs, k, none⟩ (b8 (F (x.s.getD k 0)))) (wr.setCell ⟨gs, k, none⟩ (b8 (F (x.s.getD k 0)))).drew := ⟨rfl, rfl, rfl, Nat.le_refl _, fun _ _ => rfl⟩
    refine ⟨hbs1 hl, hck, r3.free hl2 k, ?_, ?_, ?_, ?_⟩
    · exact (r1.upd ((Upd.refl gs wr).set _ _) (fun e => hags hl e.symm)).kept hB
    · refine RowB.kept ?_ hB
      rcases hgbs hl with h' | h'
      · exact r2.upd ((Upd.refl gs wr).set _ _) h'
      · rcases r2 with r2 | ⟨c', rest, e1, _⟩
        · exact Or.inl r2
        · rw [h'] at e1; cases e1
    · have := RowB.set (w := wr) (g := gs) (c := cs) (base := bs) (l := Of.turnR x.s at_ k F) (by rw [Of.turnR_len]; exact r3) (i := k) (by rw [Of.turnR_len]; omega) (F (x.s.getD k 0))
      rw [Of.turnR_set _ _ _ _ h1 h2, Of.turnR_len] at this
      exact this.kept hB
    · exact (r4.trans (Upd3.three ((Upd.refl gs wr).set _ _) a gb)).trans (Upd3.below hB a gb gs)
  have hR2 : ∀ k wr, R k wr → wr.cell? ⟨a, 1, none⟩ = some (.slice bs x.s.length cs) ∧ wr.cell? ⟨a, 2, none⟩ = some (.bool x.fin) ∧ wr.cell? ⟨a, 3, none⟩ = some (b8 x.en) ∧ wr.frozen? ⟨a, 3, none⟩ = false := by
    rintro k wr ⟨r1, r2, r3, r4⟩
    exact ⟨by rw [r1.cell]; rfl, by rw [r1.cell]; rfl, by rw [r1.cell]; rfl, r1.free 3⟩
  have hR3 : ∀ k wr, R k wr → at_ ≤ k → k ≤ x.s.length → (k = at_ ∨ (k : Int) - (at_ : Nat) ≤ n) → (k = x.s.length ∨ n ≤ (k : Int) - (at_ : Nat)) →
      ((en && x.fin) = false → Bf wr a gb gs (Of.turn x off n en F) ∧ Upd3 a gb gs w wr) ∧ ((en && x.fin) = true → Bf (wr.setCell ⟨a, 3, none⟩ (b8 (F x.en))) a gb gs (Of.turn x off n en F) ∧ Upd3 a gb gs w (wr.setCell ⟨a, 3, none⟩ (b8 (F x.en)))) := by
    rintro k wr ⟨r1, r2, r3, r4⟩ h1 h2 h3 h4
    have hu : Upd a wr (wr.setCell ⟨a, 3, none⟩ (b8 (F x.en))) := (Upd.refl a wr).set _ _
    have hO2 : Obj (wr.setCell ⟨a, 3, none⟩ (b8 (F x.en))) a 63 #[vb, .slice bs x.s.length cs, .bool x.fin, b8 (F x.en), .int .u64 (x.lim : Int)] := (r1.set 3 _).as rfl
    refine ⟨fun e => ?_, fun e => ?_⟩
    · rw [hE2.out, e]
      refine ⟨⟨_, _, r1, r2, ?_, hsep⟩, r4⟩
      rw [hEND k h1 h2 h3 h4]; exact r3
    · rw [hE2.out, e]
      refine ⟨⟨_, _, hO2, r2.updA r1 hu, ?_, hsep⟩, r4.trans (Upd3.one hu gb gs)⟩
      rw [hEND k h1 h2 h3 h4]; exact r3.updA r1 hu
  have HR0 := Lib.hid hR0
  have HR1 := Lib.hid hR1
  have HR2 := Lib.hid hR2
  have HR3 := Lib.hid hR3
  have HC := Lib.hid hC
  clear hO hb hs hsep hEND hE2 hR0 hR1 hR2 hR3 hbs1 hags hgbs h hok hC hbl hat
  clear_value R
  generalize x.s.length = m at *
  go_enter Try.func36, Try.ntmps36
  obtain ⟨f1, f2, f3, z3⟩ := HR2.out _ _ HR0.out
  go_wp2
  go_loopw [11] (fun i wr => ∃ k : Nat, at_ ≤ k ∧ k ≤ m ∧ (k = at_ ∨ (k : Int) - (at_ : Int) ≤ n) ∧ i = .int .i64 k ∧ R k wr) (fun i _ => m - (intOf i).toNat)
  case atStart => exact ⟨at_, Nat.le_refl _, hat1, Or.inl rfl, rfl, HR0.out⟩
  case round =>
    obtain ⟨k, hk1, hk2, hk3, rfl, hRk⟩ := hrel
    have HRk := Lib.hid hRk
    have HK3 := Lib.hid hk3
    clear hRk hk3
    obtain ⟨f1, f2, f3, z3⟩ := HR2.out _ _ HRk.out
    by_cases hlt : k < m
    · by_cases hlt2 : (k : Int) - (at_ : Int) < n
      · obtain ⟨rfl, c1, z1, hRn⟩ := HR1.out k wr HRk.out hk1 hlt
        have HRN := Lib.hid hRn
        clear hRn HRk
        have HCK := Lib.hid (HC.out (x.s.getD k 0))
        generalize x.s.getD k 0 = c at *
        go_wp2
        refine wp_region_T 15 (fun w' => w'.cell? ⟨a, 1, none⟩ = some (.slice (some ⟨gs, 0, none⟩) m cs) ∧ w'.cell? ⟨gs, k, none⟩ = some (b8 c)) (by kernel_rfl) ⟨f1, c1⟩ (fun hHeld => ?_)
        refine wpAnyT_take (i := 0) (oi := ?_) (v := ?_) ?_ ?_ ?_ ?_ ?_ ?_ ?_ (by assumption) ?_
        rotate_left 2
        · simp only [List.getElem?_toArray, List.getElem?_cons_zero, List.getElem?_cons_succ]
          rfl
        · kernel_rfl
        · kernel_rfl
        · kernel_rfl
        · kernel_rfl
        · exact fun _ _ _ h => h
        · refine Or.inl ⟨by rfl, ?_⟩
          intro w hSw
          (try dsimp only at hSw)
          go_simp
          all_goals with_reducible rfl
        simp only [Act.put, List.setIfInBounds_toArray, List.set_cons_zero, List.set_cons_succ]
        refine wpAnyT_take (i := 1) (oi := ?_) (v := ?_) ?_ ?_ ?_ ?_ ?_ ?_ ?_ (by assumption) ?_
        rotate_left 2
        · simp only [List.getElem?_toArray, List.getElem?_cons_zero, List.getElem?_cons_succ]
          rfl
        · kernel_rfl
        · kernel_rfl
        · kernel_rfl
        · kernel_rfl
        · exact fun _ _ _ h => h
        · refine Or.inl ⟨by rfl, ?_⟩
          intro w hSw
          (try dsimp only at hSw)
          go_simp
          all_goals with_reducible rfl
        simp only [Act.put, List.setIfInBounds_toArray, List.set_cons_zero, List.set_cons_succ]
        refine wpAnyT_take (i := 2) (oi := ?_) (v := ?_) ?_ ?_ ?_ ?_ ?_ ?_ ?_ (by assumption) ?_
        rotate_left 2
        · simp only [List.getElem?_toArray, List.getElem?_cons_zero, List.getElem?_cons_succ]
          rfl
        · kernel_rfl
        · kernel_rfl
        · kernel_rfl
        · kernel_rfl
        · exact fun _ _ _ h => h
        · refine Or.inl ⟨by rfl, ?_⟩
          intro w hSw
          (try dsimp only at hSw)
          go_simp
          all_goals with_reducible rfl
        simp only [Act.put, List.setIfInBounds_toArray, List.set_cons_zero, List.set_cons_succ]
        refine wpAnyT_take (i := 3) (oi := ?_) (v := ?_) ?_ ?_ ?_ ?_ ?_ ?_ ?_ (by assumption) ?_
        rotate_left 2
        · simp only [List.getElem?_toArray, List.getElem?_cons_zero, List.getElem?_cons_succ]
          rfl
        · kernel_rfl
        · kernel_rfl
        · kernel_rfl
        · kernel_rfl
        · exact fun _ _ _ h => h
        · refine Or.inl ⟨by rfl, ?_⟩
          intro w' hSw
          (try dsimp only at hSw)
          obtain ⟨q1, q2⟩ := hSw
          go_simp
          all_goals with_reducible rfl
        simp only [Act.put, List.setIfInBounds_toArray, List.set_cons_zero, List.set_cons_succ]
        refine wpAnyT_take (i := 4) (oi := ?_) (v := ?_) ?_ ?_ ?_ ?_ ?_ ?_ ?_ (by assumption) ?_
        rotate_left 2
        · simp only [List.getElem?_toArray, List.getElem?_cons_zero, List.getElem?_cons_succ]
          rfl
        · kernel_rfl
        · kernel_rfl
        · kernel_rfl
        · kernel_rfl
        · exact fun _ _ _ h => h
        · refine Or.inl ⟨by rfl, ?_⟩
          intro w hSw
          (try dsimp only at hSw)
          go_simp
          all_goals with_reducible rfl
        simp only [Act.put, List.setIfInBounds_toArray, List.set_cons_zero, List.set_cons_succ]
        refine wpAnyT_take (i := 5) (oi := ?_) (v := ?_) ?_ ?_ ?_ ?_ ?_ ?_ ?_ (by assumption) ?_
        rotate_left 2
        · simp only [List.getElem?_toArray, List.getElem?_cons_zero, List.getElem?_cons_succ]
          rfl
        · kernel_rfl
        · kernel_rfl
        · kernel_rfl
        · kernel_rfl
        · exact fun _ _ _ h => h
        · refine Or.inl ⟨by rfl, ?_⟩
          intro w hSw
          (try dsimp only at hSw)
          go_simp
          all_goals with_reducible rfl
        simp only [Act.put, List.setIfInBounds_toArray, List.set_cons_zero, List.set_cons_succ]
        refine wpAnyT_take (i := 6) (oi := ?_) (v := ?_) ?_ ?_ ?_ ?_ ?_ ?_ ?_ (by assumption) ?_
        rotate_left 2
        · simp only [List.getElem?_toArray, List.getElem?_cons_zero, List.getElem?_cons_succ]
          rfl
        · kernel_rfl
        · kernel_rfl
        · kernel_rfl
        · kernel_rfl
        · exact fun _ _ _ h => h
        · refine Or.inl ⟨by rfl, ?_⟩
          intro w hSw
          (try dsimp only at hSw)
          go_simp
          all_goals with_reducible rfl
        simp only [Act.put, List.setIfInBounds_toArray, List.set_cons_zero, List.set_cons_succ]
        refine wpAnyT_take (i := 7) (oi := ?_) (v := ?_) ?_ ?_ ?_ ?_ ?_ ?_ ?_ (by assumption) ?_
        rotate_left 2
        · simp only [List.getElem?_toArray, List.getElem?_cons_zero, List.getElem?_cons_succ]
          rfl
        · kernel_rfl
        · kernel_rfl
        · kernel_rfl
        · kernel_rfl
        · exact fun _ _ _ h => h
        · refine Or.inl ⟨by rfl, ?_⟩
          intro w hSw
          (try dsimp only at hSw)
          go_simp
          all_goals with_reducible rfl
        simp only [Act.put, List.setIfInBounds_toArray, List.set_cons_zero, List.set_cons_succ]
        refine wpAnyT_take (i := 8) (oi := ?_) (v := ?_) ?_ ?_ ?_ ?_ ?_ ?_ ?_ (by assumption) ?_
        rotate_left 2
        · simp only [List.getElem?_toArray, List.getElem?_cons_zero, List.getElem?_cons_succ]
          rfl
        · kernel_rfl
        · kernel_rfl
        · kernel_rfl
        · kernel_rfl
        · exact fun _ _ _ h => h
        · refine Or.inl ⟨by rfl, ?_⟩
          intro w hSw
          (try dsimp only at hSw)
          go_simp
          all_goals with_reducible rfl
        simp only [Act.put, List.setIfInBounds_toArray, List.set_cons_zero, List.set_cons_succ]
        refine wpAnyT_take (i := 9) (oi := ?_) (v := ?_) ?_ ?_ ?_ ?_ ?_ ?_ ?_ (by assumption) ?_
        rotate_left 2
        · simp only [List.getElem?_toArray, List.getElem?_cons_zero, List.getElem?_cons_succ]
          rfl
        · kernel_rfl
        · kernel_rfl
        · kernel_rfl
        · kernel_rfl
        · exact fun _ _ _ h => h
        · refine Or.inl ⟨by rfl, ?_⟩
          intro w' hSw
          (try dsimp only at hSw)
          obtain ⟨q1, q2⟩ := hSw
          go_simp
          all_goals with_reducible rfl
        simp only [Act.put, List.setIfInBounds_toArray, List.set_cons_zero, List.set_cons_succ]
        refine wpAnyT_take (i := 10) (oi := ?_) (v := ?_) ?_ ?_ ?_ ?_ ?_ ?_ ?_ (by assumption) ?_
        rotate_left 2
        · simp only [List.getElem?_toArray, List.getElem?_cons_zero, List.getElem?_cons_succ]
          rfl
        · kernel_rfl
        · kernel_rfl
        · kernel_rfl
        · kernel_rfl
        · exact fun _ _ _ h => h
        · refine Or.inl ⟨by rfl, ?_⟩
          intro w hSw
          (try dsimp only at hSw)
          go_simp
          all_goals with_reducible rfl
        simp only [Act.put, List.setIfInBounds_toArray, List.set_cons_zero, List.set_cons_succ]
        refine wpAnyT_take (i := 11) (oi := ?_) (v := ?_) ?_ ?_ ?_ ?_ ?_ ?_ ?_ (by assumption) ?_
        rotate_left 2
        · simp only [List.getElem?_toArray, List.getElem?_cons_zero, List.getElem?_cons_succ]
          rfl
        · kernel_rfl
        · kernel_rfl
        · kernel_rfl
        · kernel_rfl
        · exact fun _ _ _ h => h
        · refine Or.inl ⟨by rfl, ?_⟩
          intro w hSw
          (try dsimp only at hSw)
          go_simp
          all_goals with_reducible rfl
        simp only [Act.put, List.setIfInBounds_toArray, List.set_cons_zero, List.set_cons_succ]
        refine wpAnyT_take (i := 12) (oi := ?_) (v := ?_) ?_ ?_ ?_ ?_ ?_ ?_ ?_ (by assumption) ?_
        rotate_left 2
        · simp only [List.getElem?_toArray, List.getElem?_cons_zero, List.getElem?_cons_succ]
          rfl
        · kernel_rfl
        · kernel_rfl
        · kernel_rfl
        · kernel_rfl
        · exact fun _ _ _ h => h
        · refine Or.inl ⟨by rfl, ?_⟩
          intro w' hSw
          (try dsimp only at hSw)
          obtain ⟨q1, q2⟩ := hSw
          go_simp
          all_goals with_reducible rfl
        simp only [Act.put, List.setIfInBounds_toArray, List.set_cons_zero, List.set_cons_succ]
        refine wpAnyT_one (i := 13) (o := ?_) (by kernel_rfl) ?_ (fun KK hKK => ?_)
        rotate_left
        · simp only [List.getElem?_toArray, List.getElem?_cons_zero, List.getElem?_cons_succ]
          rfl
        go_simp
        go_at_fn g; refine (HCK.out _).mono ?_; rintro e w3 ⟨rfl, rfl⟩
        try go_wp2_with fail
        refine hKK.out _ _ ?_ (fun h9 => ?_)
        · (try dsimp only)
          exact ⟨f1, c1⟩
        clear hKK KK
        try simp only [Act.put, List.setIfInBounds_toArray, List.set_cons_zero, List.set_cons_succ]
        refine wpAnyT_take (i := 14) (oi := ?_) (v := ?_) ?_ ?_ ?_ ?_ ?_ ?_ ?_ (by assumption) ?_
        rotate_left 2
        · simp only [List.getElem?_toArray, List.getElem?_cons_zero, List.getElem?_cons_succ]
          rfl
        · kernel_rfl
        · kernel_rfl
        · kernel_rfl
        · kernel_rfl
        · exact fun _ _ _ h => h
        · refine Or.inl ⟨by rfl, ?_⟩
          intro w hSw
          (try dsimp only at hSw)
          go_simp
          all_goals with_reducible rfl
        simp only [Act.put, List.setIfInBounds_toArray, List.set_cons_zero, List.set_cons_succ]
        refine wpAnyT_last (o := ?_) (by kernel_rfl) ?_ (fun KK hKK => ?_)
        rotate_left
        · simp only [List.getElem?_toArray, List.getElem?_cons_zero, List.getElem?_cons_succ]
          rfl
        go_simp
        simp only [b8]
        go_simp
        refine hKK.out _ _ ?_
        clear hKK KK
        try simp only [Act.put, List.setIfInBounds_toArray, List.set_cons_zero, List.set_cons_succ]
        refine wpAnyT_done (by kernel_rfl) ?_ _
        go_wp2
        go_roundw
        case rel => exact ⟨k + 1, by omega, by omega, Or.inr (by omega), by go_num, HRN.out⟩
        case measure => simp [intOf]; omega
      · have HS := Lib.hid (HR3.out k wr HRk.out hk1 hk2 HK3.out (Or.inr (by omega)))
        cases en with
        | false =>
          have HX := Lib.hid (HS.out.1 rfl)
          clear HS HR0 HR1 HR2 HR3 HC
          go_wp2
          go_end0
          exact ⟨rfl, HX.out⟩
        | true =>
          cases hfin : x.fin with
          | false =>
            have HX := Lib.hid (HS.out.1 (by rw [hfin]; rfl))
            rw [hfin] at f2
            clear HS HR0 HR1 HR2 HR3 HC hfin
            go_wp2
            go_end0
            exact ⟨rfl, HX.out⟩
          | true =>
            have HX := Lib.hid (HS.out.2 (by rw [hfin]; rfl))
            have HCE := Lib.hid (HC.out x.en)
            rw [hfin] at f2
            clear HS HR0 HR1 HR2 HR3 HC hfin
            go_wp2_with (go_at_fn g; refine (HCE.out _).mono ?_; rintro e w3 ⟨rfl, rfl⟩)
            simp only [b8]
            go_simp
            try go_wp2
            go_end0
            exact ⟨rfl, HX.out⟩
    · have HS := Lib.hid (HR3.out k wr HRk.out hk1 hk2 HK3.out (Or.inl (by omega)))
      cases en with
      | false =>
        have HX := Lib.hid (HS.out.1 rfl)
        clear HS HR0 HR1 HR2 HR3 HC
        go_wp2
        go_end0
        exact ⟨rfl, HX.out⟩
      | true =>
        cases hfin : x.fin with
        | false =>
          have HX := Lib.hid (HS.out.1 (by rw [hfin]; rfl))
          rw [hfin] at f2
          clear HS HR0 HR1 HR2 HR3 HC hfin
          go_wp2
          go_end0
          exact ⟨rfl, HX.out⟩
        | true =>
          have HX := Lib.hid (HS.out.2 (by rw [hfin]; rfl))
          have HCE := Lib.hid (HC.out x.en)
          rw [hfin] at f2
          clear HS HR0 HR1 HR2 HR3 HC hfin
          go_wp2_with (go_at_fn g; refine (HCE.out _).mono ?_; rintro e w3 ⟨rfl, rfl⟩)
          simp only [b8]
          go_simp
          try go_wp2
          go_end0
          exact ⟨rfl, HX.out⟩

theorem acked1_any (c : Nat) (w : World) :
    Calls Try.prog 37 #[b8 c] w fun e w' => e = .returned (b8 (Of.fAck c)) ∧ w = w' := by
  by_cases h : c = 0
  · subst h
    go_enter Try.func37, Try.ntmps37
    simp only [b8]
    go_wp2
    go_ret
    exact ⟨rfl, rfl⟩
  · have HF : Hid (Of.fAck c = 3) := by unfold Hid Of.fAck; rw [if_neg h]
    have hd : ((c : Int) == 0) = false := by simp; omega
    go_enter Try.func37, Try.ntmps37
    simp only [b8]
    go_wp2
    go_ret
    rw [HF.out]
    exact ⟨rfl, rfl⟩
theorem lost1_any (c : Nat) (w : World) :
    Calls Try.prog 38 #[b8 c] w fun e w' => e = .returned (b8 (Of.fLost c)) ∧ w = w' := by
  by_cases h : c = 1
  · subst h
    go_enter Try.func38, Try.ntmps38
    simp only [b8]
    go_wp2
    go_ret
    exact ⟨rfl, rfl⟩
  · have HF : Hid (Of.fLost c = c) := by unfold Hid Of.fLost; rw [if_neg h]
    have hd : ((c : Int) == 1) = false := by simp; omega
    go_enter Try.func38, Try.ntmps38
    simp only [b8]
    go_wp2
    go_ret
    rw [HF.out]
    exact ⟨rfl, rfl⟩
theorem acked_any (a gb gs off : Nat) (n : Int) (en : Bool) (x : Of.B) (w : World) (h : Bf w a gb gs x) (hok : Of.Ok x) :
    Calls Try.prog 10 #[.pointer (some ⟨a, 0, none⟩), .int .u64 (off : Int), .int .i64 n, .bool en] w fun e w' => e = .returned (.tuple #[])
      ∧ Bf w' a gb gs (Of.turn x off n en Of.fAck) ∧ Upd3 a gb gs w w' := by
  have HT := Lib.hid (turn_any a gb gs off n en 37 Of.fAck x w h hok (enters_of Try.func37 (by kernel_rfl) rfl) acked1_any)
  clear h hok
  go_enter Try.func10, Try.ntmps10
  go_wp2_with fail
  refine HT.out.mono ?_
  rintro e w' ⟨rfl, h1, h2⟩
  have HX := Lib.hid (And.intro h1 h2)
  clear h1 h2
  go_wp2
  go_end0
  exact ⟨rfl, HX.out⟩
theorem lost_any (a gb gs off : Nat) (n : Int) (en : Bool) (x : Of.B) (w : World) (h : Bf w a gb gs x) (hok : Of.Ok x) :
    Calls Try.prog 11 #[.pointer (some ⟨a, 0, none⟩), .int .u64 (off : Int), .int .i64 n, .bool en] w fun e w' => e = .returned (.tuple #[])
      ∧ Bf w' a gb gs (Of.turn x off n en Of.fLost) ∧ Upd3 a gb gs w w' := by
  have HT := Lib.hid (turn_any a gb gs off n en 38 Of.fLost x w h hok (enters_of Try.func38 (by kernel_rfl) rfl) lost1_any)
  clear h hok
  go_enter Try.func11, Try.ntmps11
  go_wp2_with fail
  refine HT.out.mono ?_
  rintro e w' ⟨rfl, h1, h2⟩
  have HX := Lib.hid (And.intro h1 h2)
  clear h1 h2
  go_wp2
  go_end0
  exact ⟨rfl, HX.out⟩
end Go.Proofs.Ytdloeakmoaoalaa
