/- Layer 17's outflow, walked: New, Finish, Raise, Written, Write. -/
import Derived.Test.YtdloeakmoaoalaaRows
import Derived.Test.YtdloeakmoaoalaaAid
import Derived.Test.YtdloeakmoaoalaaPlainOf
import Derived.Test.YtdloeakmoaoalaaOfW
import Derived.WalkKit
import Derived.OwnWalk
import Derived.Laws.Rows
import Derived.Laws.Tables
import Derived.WalkSpells
import Derived.WalkLawsBesides
import Derived.BigQuiet
import Derived.Handy
import Derived.StillTailTactics
import Derived.Lib.Hide
import Derived.IntWalk
namespace Go.Proofs.Ytdloeakmoaoalaa
open Go.RowKit
set_option linter.unusedVariables false
set_option linter.unusedSimpArgs false

/-- A buffer in memory: block a; its text's row in gb, its states' in gs. -/
def Bf (w : World) (a gb gs : Nat) (x : Of.B) : Prop :=
  ∃ vb vs, Obj w a 63 #[vb, vs, .bool x.fin, b8 x.en, .int .u64 (x.lim : Int)] ∧ RowB w vb gb x.b ∧ RowB w vs gs x.s ∧ (vb = .slice none 0 0 ∨ vs = .slice none 0 0 ∨ gb ≠ gs)
theorem Bf.kept {w w' : World} {a gb gs : Nat} {x : Of.B} (h : Bf w a gb gs x) (hb : Below w.heap.size w w') : Bf w' a gb gs x := by
  obtain ⟨vb, vs, h1, h2, h3, h4⟩ := h
  exact ⟨vb, vs, h1.kept hb, h2.kept hb, h3.kept hb, h4⟩

theorem new_any (lim : Nat) (w : World) :
    Calls Try.prog 22 #[.int .u64 (lim : Int)] w fun e w' => e = .returned (.pointer (some ⟨w.heap.size, 0, none⟩)) ∧ w' = w.alloc (.cells #[.slice none 0 0, .slice none 0 0, .bool false, .int .u8 0, .int .u64 (lim : Int)] 63) := by
  go_enter Try.func22, Try.ntmps22
  go_wp2
  go_ret
  exact ⟨rfl, rfl⟩
theorem Bf.new (lim : Nat) (w : World) : Bf (w.alloc (.cells #[.slice none 0 0, .slice none 0 0, .bool false, .int .u8 0, .int .u64 (lim : Int)] 63)) w.heap.size w.heap.size w.heap.size ⟨[], [], false, 0, lim⟩ :=
  ⟨_, _, Obj.new w _ _, Or.inl ⟨rfl, rfl⟩, Or.inl ⟨rfl, rfl⟩, Or.inl rfl⟩
/-- Where a row is not nil, its block is not the structure's. -/
theorem RowB.ne {w : World} {v : Value} {a g : Nat} {l : List Nat} {cs : Array Value} (h : RowB w v g l) (hO : Obj w a 63 cs) : (v = .slice none 0 0 ∧ l = []) ∨ g ≠ a := by
  rcases h with h | ⟨c, rest, h1, h2, h3, h4, h⟩
  · exact Or.inl h
  · refine Or.inr ?_
    rintro rfl
    have := h.symm.trans hO
    simp at this
theorem RowB.updA {w w' : World} {v : Value} {a g : Nat} {l : List Nat} {cs : Array Value} (h : RowB w v g l) (hO : Obj w a 63 cs) (hu : Upd a w w') : RowB w' v g l := by
  rcases h.ne hO with h' | h'
  · exact Or.inl h'
  · exact h.upd hu h'

theorem finish_any (a gb gs : Nat) (x : Of.B) (w : World) (h : Bf w a gb gs x) :
    Calls Try.prog 14 #[.pointer (some ⟨a, 0, none⟩)] w fun e w' => e = .returned (.bool (Of.finish x).1) ∧ Bf w' a gb gs (Of.finish x).2 ∧ Upd a w w' := by
  obtain ⟨vb, vs, hO, hb, hs, hsep⟩ := id h
  have f2 : w.cell? ⟨a, 2, none⟩ = some (.bool x.fin) := by rw [hO.cell]; rfl
  have z2 := hO.free 2
  have HO := Lib.hid hO
  have HH := Lib.hid h
  have HSEP := Lib.hid hsep
  clear hsep
  cases hf : x.fin with
  | true =>
    rw [hf] at f2
    have HF : Hid (Of.finish x = (false, x)) := by unfold Hid Of.finish; rw [hf]; rfl
    clear hO hb hs h
    go_enter Try.func14, Try.ntmps14
    go_wp2
    go_ret
    rw [HF.out]
    exact ⟨rfl, HH.out, Upd.refl _ _⟩
  | false =>
    rw [hf] at f2
    have HF : Hid (Of.finish x = (true, { x with fin := true })) := by unfold Hid Of.finish; rw [hf]; rfl
    have hu : Upd a w (w.setCell ⟨a, 2, none⟩ (.bool true)) := (Upd.refl a w).set _ _
    have HU := Lib.hid hu
    have HB := Lib.hid (hb.updA hO hu)
    have HS := Lib.hid (hs.updA hO hu)
    clear hO hb hs h hu
    go_enter Try.func14, Try.ntmps14
    go_wp2
    go_ret
    rw [HF.out]
    exact ⟨rfl, ⟨vb, vs, (HO.out.set 2 (.bool true)).as rfl, HB.out, HS.out, HSEP.out⟩, HU.out⟩

theorem raise_any (a gb gs lim : Nat) (x : Of.B) (w : World) (h : Bf w a gb gs x) :
    Calls Try.prog 15 #[.pointer (some ⟨a, 0, none⟩), .int .u64 (lim : Int)] w fun e w' => e = .returned (.bool (Of.raise x lim).1) ∧ Bf w' a gb gs (Of.raise x lim).2 ∧ Upd a w w' := by
  obtain ⟨vb, vs, hO, hb, hs, hsep⟩ := id h
  have f4 : w.cell? ⟨a, 4, none⟩ = some (.int .u64 (x.lim : Int)) := by rw [hO.cell]; rfl
  have z4 := hO.free 4
  have HO := Lib.hid hO
  have HH := Lib.hid h
  have HSEP := Lib.hid hsep
  clear hsep
  by_cases hl : lim ≤ x.lim
  · have HF : Hid (Of.raise x lim = (false, x)) := by unfold Hid Of.raise; rw [if_pos hl]
    have hd : decide (lim ≤ x.lim) = true := by simpa using hl
    clear hO hb hs h
    go_enter Try.func15, Try.ntmps15
    go_wp2
    go_ret
    rw [HF.out]
    exact ⟨rfl, HH.out, Upd.refl _ _⟩
  · have HF : Hid (Of.raise x lim = (true, { x with lim := lim })) := by unfold Hid Of.raise; rw [if_neg hl]
    have hd : decide (lim ≤ x.lim) = false := by simpa using hl
    have hu : Upd a w (w.setCell ⟨a, 4, none⟩ (.int .u64 (lim : Int))) := (Upd.refl a w).set _ _
    have HU := Lib.hid hu
    have HB := Lib.hid (hb.updA hO hu)
    have HS := Lib.hid (hs.updA hO hu)
    clear hO hb hs h hu
    go_enter Try.func15, Try.ntmps15
    go_wp2
    go_ret
    rw [HF.out]
    exact ⟨rfl, ⟨vb, vs, (HO.out.set 4 (.int .u64 (lim : Int))).as rfl, HB.out, HS.out, HSEP.out⟩, HU.out⟩

theorem written_any (a gb gs : Nat) (x : Of.B) (w : World) (h : Bf w a gb gs x) :
    Calls Try.prog 16 #[.pointer (some ⟨a, 0, none⟩)] w fun e w' => e = .returned (.int .i64 (x.b.length : Nat)) ∧ w = w' := by
  obtain ⟨vb, vs, hO, hb, hs, hsep⟩ := h
  obtain ⟨base, c, rfl, _⟩ := hb.form
  have f0 : w.cell? ⟨a, 0, none⟩ = some (.slice base x.b.length c) := by rw [hO.cell]; rfl
  clear hO hb hs
  go_enter Try.func16, Try.ntmps16
  go_wp2
  go_ret
  exact ⟨rfl, rfl⟩
end Go.Proofs.Ytdloeakmoaoalaa
