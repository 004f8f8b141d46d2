/- Layer 7's Sum of the document, walked. -/
import Derived.Test.YtanigdadhldceaaDoorShD
import Derived.Test.YtanigdadhldceaaDoorShI
import Derived.Test.YtanigdadhldceaaDoorShJ
import Derived.Test.YtanigdadhldceaaDoorShL
namespace Go.Proofs.YtanigdadhldceaaDoor
open Go Go.RowKit Go.Shelf
set_option linter.unusedVariables false
set_option linter.unusedSimpArgs false
attribute [local go_sem] Oper.semAt_some

/-- A text that grows. -/
structure Gw (w0 : World) (B : Nat) (l : List Nat) (v : Value) (V : World) : Prop where
  rO : Obj V B 25 #[.int .u8 0, .int .u8 0, .int .u8 0, .int .u8 0, .int .u8 0, .int .u8 0, .int .u8 0, .int .u8 0, .int .u8 0, .int .u8 0, .int .u8 0, .int .u8 0, .int .u8 0, .int .u8 0, .int .u8 0, .int .u8 0, .int .u8 0, .int .u8 0, .int .u8 0, .int .u8 0, .int .u8 0, .int .u8 0, .int .u8 0, .int .u8 0, .int .u8 0, .int .u8 0, .int .u8 0, .int .u8 0, .int .u8 0, .int .u8 0, .int .u8 0, .int .u8 0]
  own : V.ownsRow (B + 1) 5 1 v l.length (l.map b8)
  bel : Below B w0 V
theorem Gw.kept {w0 V V' : World} {B : Nat} {l : List Nat} {v : Value} (h : Gw w0 B l v V) (hb : Below V.heap.size V V') : Gw w0 B l v V' :=
  ⟨h.rO.kept hb, ownsRow_kept h.own hb, h.bel.trans (hb.mono (Nat.le_of_lt h.rO.lt))⟩
theorem Gw.app {w0 V : World} {B : Nat} {l : List Nat} {v : Value} (h : Gw w0 B l v V) (ty : TypeId) (A : Option Addr) (m c : Nat) (X : List Nat) (hl : X.length = m) (hR : Rb V A X) (hm : l.length + m ≤ 1000000) :
    ∃ A' c' w', (Builtin.append_ #[22, 22] ty #[v, .slice A m c]).run Tryd.prog V = .ok (.slice A' (l.length + m) c') w' ∧ (l.length + m ≤ c' ∧ c' ≤ maxLen) ∧ Gw w0 B (l ++ X) (.slice A' (l.length + m) c') w' := by
  have hlt := h.rO.lt
  obtain ⟨v', w', h1, h2, h3⟩ := own_app V ty h.own A m c X hl hR (by omega) hlt
  obtain ⟨A', c', rfl, hl2, hc1, hc2, _, _⟩ := own_rb h2
  refine ⟨A', c', w', h1, ⟨hc1, hc2⟩, (h3.block B hlt (fun e => by have := (h.own.lt B e.symm).1; omega)).trans h.rO, by rw [hl2]; exact h2, h.bel.grown h3 (Nat.le_of_lt hlt) (fun k e => by have := (h.own.lt k e).1; omega)⟩
theorem litL_rb (V : World) (l : List Nat) : Rb (V.alloc (.cells (l.map b8).toArray 5)) (some ⟨V.heap.size, 0, none⟩) l := fun _ => ⟨V.heap.size, 0, rfl, by simp, fun i hi => by rw [Nat.zero_add]; exact Obj.getK (k := .u8) (Obj.new V 5 (cellsK .u8 l)) i hi⟩
theorem Gw.app1 {w0 V : World} {B : Nat} {l : List Nat} {v : Value} (h : Gw w0 B l v V) (ty : TypeId) (x : Int) (k : Nat) (hx : x = k) (hm : l.length ≤ 900000) :
    ∃ A' c' w', (Builtin.append_ #[22, 22] ty #[v, .slice (some ⟨V.heap.size, 0, none⟩) 1 1]).run Tryd.prog (V.alloc (.cells #[.int .u8 x] 5)) = .ok (.slice A' (l.length + 1) c') w' ∧ (l.length + 1 ≤ c' ∧ c' ≤ maxLen) ∧ Gw w0 B (l ++ [k]) (.slice A' (l.length + 1) c') w' := by
  subst hx
  exact (h.kept ((Below.refl _ V).alloc (Nat.le_refl _) _)).app ty _ 1 1 [k] rfl (litL_rb V [k]) (by omega)
theorem first_app (w : World) (ty : TypeId) (A : Option Addr) (n c : Nat) (t : List Nat) (hl : t.length = n) (hR : Rb w A t) (hn : n ≤ 900000) :
    ∃ A' c' w', (Builtin.append_ #[22, 22] ty #[.slice (some ⟨w.heap.size + 1, 0, none⟩) 0 0, .slice A n c]).run Tryd.prog ((w.alloc (.cells #[.int .u8 0, .int .u8 0, .int .u8 0, .int .u8 0, .int .u8 0, .int .u8 0, .int .u8 0, .int .u8 0, .int .u8 0, .int .u8 0, .int .u8 0, .int .u8 0, .int .u8 0, .int .u8 0, .int .u8 0, .int .u8 0, .int .u8 0, .int .u8 0, .int .u8 0, .int .u8 0, .int .u8 0, .int .u8 0, .int .u8 0, .int .u8 0, .int .u8 0, .int .u8 0, .int .u8 0, .int .u8 0, .int .u8 0, .int .u8 0, .int .u8 0, .int .u8 0] 25)).alloc (.cells #[] 5)) = .ok (.slice A' n c') w' ∧ (n ≤ c' ∧ c' ≤ maxLen) ∧ Gw w w.heap.size t (.slice A' n c') w' := by
  have o1 := Obj.new w 25 #[.int .u8 0, .int .u8 0, .int .u8 0, .int .u8 0, .int .u8 0, .int .u8 0, .int .u8 0, .int .u8 0, .int .u8 0, .int .u8 0, .int .u8 0, .int .u8 0, .int .u8 0, .int .u8 0, .int .u8 0, .int .u8 0, .int .u8 0, .int .u8 0, .int .u8 0, .int .u8 0, .int .u8 0, .int .u8 0, .int .u8 0, .int .u8 0, .int .u8 0, .int .u8 0, .int .u8 0, .int .u8 0, .int .u8 0, .int .u8 0, .int .u8 0, .int .u8 0]
  have b1 : Below w.heap.size w (w.alloc (.cells #[.int .u8 0, .int .u8 0, .int .u8 0, .int .u8 0, .int .u8 0, .int .u8 0, .int .u8 0, .int .u8 0, .int .u8 0, .int .u8 0, .int .u8 0, .int .u8 0, .int .u8 0, .int .u8 0, .int .u8 0, .int .u8 0, .int .u8 0, .int .u8 0, .int .u8 0, .int .u8 0, .int .u8 0, .int .u8 0, .int .u8 0, .int .u8 0, .int .u8 0, .int .u8 0, .int .u8 0, .int .u8 0, .int .u8 0, .int .u8 0, .int .u8 0, .int .u8 0] 25)) := (Below.refl _ w).alloc (Nat.le_refl _) _
  have b2 : Below w.heap.size w ((w.alloc (.cells #[.int .u8 0, .int .u8 0, .int .u8 0, .int .u8 0, .int .u8 0, .int .u8 0, .int .u8 0, .int .u8 0, .int .u8 0, .int .u8 0, .int .u8 0, .int .u8 0, .int .u8 0, .int .u8 0, .int .u8 0, .int .u8 0, .int .u8 0, .int .u8 0, .int .u8 0, .int .u8 0, .int .u8 0, .int .u8 0, .int .u8 0, .int .u8 0, .int .u8 0, .int .u8 0, .int .u8 0, .int .u8 0, .int .u8 0, .int .u8 0, .int .u8 0, .int .u8 0] 25)).alloc (.cells #[] 5)) := b1.alloc b1.size _
  have h2 := own_made (w.alloc (.cells #[.int .u8 0, .int .u8 0, .int .u8 0, .int .u8 0, .int .u8 0, .int .u8 0, .int .u8 0, .int .u8 0, .int .u8 0, .int .u8 0, .int .u8 0, .int .u8 0, .int .u8 0, .int .u8 0, .int .u8 0, .int .u8 0, .int .u8 0, .int .u8 0, .int .u8 0, .int .u8 0, .int .u8 0, .int .u8 0, .int .u8 0, .int .u8 0, .int .u8 0, .int .u8 0, .int .u8 0, .int .u8 0, .int .u8 0, .int .u8 0, .int .u8 0, .int .u8 0] 25)) (w.heap.size + 1) (by simp)
  rw [World.size_alloc] at h2
  have hG : Gw w w.heap.size [] (.slice (some ⟨w.heap.size + 1, 0, none⟩) 0 0) ((w.alloc (.cells #[.int .u8 0, .int .u8 0, .int .u8 0, .int .u8 0, .int .u8 0, .int .u8 0, .int .u8 0, .int .u8 0, .int .u8 0, .int .u8 0, .int .u8 0, .int .u8 0, .int .u8 0, .int .u8 0, .int .u8 0, .int .u8 0, .int .u8 0, .int .u8 0, .int .u8 0, .int .u8 0, .int .u8 0, .int .u8 0, .int .u8 0, .int .u8 0, .int .u8 0, .int .u8 0, .int .u8 0, .int .u8 0, .int .u8 0, .int .u8 0, .int .u8 0, .int .u8 0] 25)).alloc (.cells #[] 5)) := ⟨o1.alloc _, h2, b2⟩
  obtain ⟨A', c', w', h3, h4, h5⟩ := hG.app ty A n c t hl (hR.below b2) (by simp; omega)
  simp only [List.length_nil, Nat.zero_add, List.nil_append] at h3 h4 h5
  exact ⟨A', c', w', h3, h4, h5⟩
/-- Between two turns. -/
structure SmR (w0 : World) (B Hb g : Nat) (p : List Nat) (i : Nat) (V : World) : Prop where
  rO : Obj V B 25 #[.int .u8 0, .int .u8 0, .int .u8 0, .int .u8 0, .int .u8 0, .int .u8 0, .int .u8 0, .int .u8 0, .int .u8 0, .int .u8 0, .int .u8 0, .int .u8 0, .int .u8 0, .int .u8 0, .int .u8 0, .int .u8 0, .int .u8 0, .int .u8 0, .int .u8 0, .int .u8 0, .int .u8 0, .int .u8 0, .int .u8 0, .int .u8 0, .int .u8 0, .int .u8 0, .int .u8 0, .int .u8 0, .int .u8 0, .int .u8 0, .int .u8 0, .int .u8 0]
  hO : Obj V Hb 40 (cellsK .u32 (Sh.turns Sh.first p i))
  rb : Rb V (some ⟨g, 0, none⟩) p
  bel : Below B w0 V
  ne : B < Hb ∧ g < Hb ∧ w0.heap.size ≤ B
theorem SmR.next {w0 W w' : World} {B Hb g i : Nat} {p : List Nat} (h : SmR w0 B Hb g p i W) (hb : Below W.heap.size W w') :
    SmR w0 B Hb g p (i + 1) (w'.setRow Hb (cellsK .u32 (Sh.turns Sh.first p (i + 1)))) := by
  have hne := h.ne
  have u : Upd Hb w' (w'.setRow Hb (cellsK .u32 (Sh.turns Sh.first p (i + 1)))) := (Upd.refl _ _).row _
  refine ⟨(h.rO.kept hb).upd u (by omega), (h.hO.kept hb).row _, ?_, ?_, hne⟩
  · intro hp
    obtain ⟨b, o, e, h1, h2⟩ := (h.rb.below hb) hp
    cases e
    exact ⟨_, _, rfl, Nat.lt_of_lt_of_le h1 u.size, fun q hq => (World.cell?_of_block (a := ⟨g, 0 + q, none⟩) (u.block g h1 (by omega))).trans (h2 q hq)⟩
  · have hl := h.rO.lt
    exact ⟨u.os.trans (hb.os.trans h.bel.os), u.tape.trans (hb.tape.trans h.bel.tape), u.output.trans (hb.output.trans h.bel.output), by have := h.bel.size; have := hb.size; have := u.size; omega, fun k hk => (u.block k (by have := hb.size; omega) (by omega)).trans ((hb.block k (by omega)).trans (h.bel.block k hk))⟩
theorem SmR.drewN {w0 V : World} {B Hb g i : Nat} {p : List Nat} (h : SmR w0 B Hb g p i V) (n : Nat) : SmR w0 B Hb g p i (V.drewN n) := ⟨h.rO, h.hO, h.rb, ⟨h.bel.os, h.bel.tape, h.bel.output, h.bel.size, h.bel.block⟩, h.ne⟩
theorem SmR.start {w w4 : World} {B g c4 : Nat} {p : List Nat} (h : Gw w B p (.slice (some ⟨g, 0, none⟩) p.length c4) w4) (hB : w.heap.size = B) (hg : g < w4.heap.size) :
    SmR w B w4.heap.size g p 0 ((w4.alloc (.cells #[.int .u32 0, .int .u32 0, .int .u32 0, .int .u32 0, .int .u32 0, .int .u32 0, .int .u32 0, .int .u32 0] 40)).setRow w4.heap.size #[.int .u32 1779033703, .int .u32 3144134277, .int .u32 1013904242, .int .u32 2773480762, .int .u32 1359893119, .int .u32 2600822924, .int .u32 528734635, .int .u32 1541459225]) := by
  have k1 : Below w4.heap.size w4 (w4.alloc (.cells #[.int .u32 0, .int .u32 0, .int .u32 0, .int .u32 0, .int .u32 0, .int .u32 0, .int .u32 0, .int .u32 0] 40)) := (Below.refl _ w4).alloc (Nat.le_refl _) _
  have o1 : Obj (w4.alloc (.cells #[.int .u32 0, .int .u32 0, .int .u32 0, .int .u32 0, .int .u32 0, .int .u32 0, .int .u32 0, .int .u32 0] 40)) w4.heap.size 40 #[.int .u32 0, .int .u32 0, .int .u32 0, .int .u32 0, .int .u32 0, .int .u32 0, .int .u32 0, .int .u32 0] := Obj.new w4 _ _
  have u2 : Upd w4.heap.size (w4.alloc (.cells #[.int .u32 0, .int .u32 0, .int .u32 0, .int .u32 0, .int .u32 0, .int .u32 0, .int .u32 0, .int .u32 0] 40)) _ := (Upd.refl w4.heap.size _).row #[.int .u32 1779033703, .int .u32 3144134277, .int .u32 1013904242, .int .u32 2773480762, .int .u32 1359893119, .int .u32 2600822924, .int .u32 528734635, .int .u32 1541459225]
  have o2 := o1.row #[.int .u32 1779033703, .int .u32 3144134277, .int .u32 1013904242, .int .u32 2773480762, .int .u32 1359893119, .int .u32 2600822924, .int .u32 528734635, .int .u32 1541459225]
  have b2 : Below w4.heap.size w4 ((w4.alloc (.cells #[.int .u32 0, .int .u32 0, .int .u32 0, .int .u32 0, .int .u32 0, .int .u32 0, .int .u32 0, .int .u32 0] 40)).setRow w4.heap.size #[.int .u32 1779033703, .int .u32 3144134277, .int .u32 1013904242, .int .u32 2773480762, .int .u32 1359893119, .int .u32 2600822924, .int .u32 528734635, .int .u32 1541459225]) := Upd.below k1 (Nat.le_refl _) u2
  obtain ⟨_, _, e, _, _, _, hr, _⟩ := own_rb h.own
  cases e
  exact ⟨h.rO.kept b2, o2.as rfl, hr.below b2, h.bel.trans (b2.mono (Nat.le_of_lt h.rO.lt)), h.rO.lt, hg, by omega⟩
/-- A row that is filled from its beginning. -/
def fillK (l : List Nat) (k : Nat) : List Nat := l.take k ++ List.replicate (l.length - k) 0
theorem fillK_len (l : List Nat) (k : Nat) (h : k ≤ l.length) : (fillK l k).length = l.length := by unfold fillK; rw [List.length_append, List.length_take, List.length_replicate]; omega
theorem fillK_full (l : List Nat) : fillK l l.length = l := by unfold fillK; rw [List.take_of_length_le (Nat.le_refl _), Nat.sub_self]; simp
theorem fillK_set (l : List Nat) (k : Nat) (h : k < l.length) : (fillK l k).set k (l.getD k 0) = fillK l (k + 1) := by
  unfold fillK
  rw [List.set_append_right _ _ (by rw [List.length_take]; omega), List.length_take, Nat.min_eq_left (by omega), Nat.sub_self, show l.length - k = (l.length - (k + 1)) + 1 by omega, List.replicate_succ, List.set_cons_zero, List.take_succ_eq_append_getElem h, List.append_assoc, List.getD_eq_getElem?_getD, List.getElem?_eq_getElem h]
  rfl
theorem byte_of (s : List Nat) (hs : s.length = 8) (i : Nat) (hi : i < 32) : (Sh.bytes s).getD i 0 = gt s (i / 4) / 256 ^ (3 - i % 4) % 256 := by
  rcases s with _ | ⟨a0, _ | ⟨a1, _ | ⟨a2, _ | ⟨a3, _ | ⟨a4, _ | ⟨a5, _ | ⟨a6, _ | ⟨a7, _ | ⟨a8, r⟩⟩⟩⟩⟩⟩⟩⟩⟩ <;> (try (simp at hs; done))
  have key : ∀ j, j < 32 → (Sh.bytes [a0, a1, a2, a3, a4, a5, a6, a7]).getD j 0 = gt [a0, a1, a2, a3, a4, a5, a6, a7] (j / 4) / 256 ^ (3 - j % 4) % 256 := by
    intro j hj
    have : j = 0 ∨ j = 1 ∨ j = 2 ∨ j = 3 ∨ j = 4 ∨ j = 5 ∨ j = 6 ∨ j = 7 ∨ j = 8 ∨ j = 9 ∨ j = 10 ∨ j = 11 ∨ j = 12 ∨ j = 13 ∨ j = 14 ∨ j = 15 ∨ j = 16 ∨ j = 17 ∨ j = 18 ∨ j = 19 ∨ j = 20 ∨ j = 21 ∨ j = 22 ∨ j = 23 ∨ j = 24 ∨ j = 25 ∨ j = 26 ∨ j = 27 ∨ j = 28 ∨ j = 29 ∨ j = 30 ∨ j = 31 := by omega
    rcases this with rfl | rfl | rfl | rfl | rfl | rfl | rfl | rfl | rfl | rfl | rfl | rfl | rfl | rfl | rfl | rfl | rfl | rfl | rfl | rfl | rfl | rfl | rfl | rfl | rfl | rfl | rfl | rfl | rfl | rfl | rfl | rfl <;> simp [Sh.bytes, Sh.four, gt]
  exact key i hi
/-- The digest's bytes so far. -/
structure SmO (w0 : World) (B Hb Ob : Nat) (s l : List Nat) (k : Nat) (V : World) : Prop where
  rO : Obj V B 25 #[.int .u8 0, .int .u8 0, .int .u8 0, .int .u8 0, .int .u8 0, .int .u8 0, .int .u8 0, .int .u8 0, .int .u8 0, .int .u8 0, .int .u8 0, .int .u8 0, .int .u8 0, .int .u8 0, .int .u8 0, .int .u8 0, .int .u8 0, .int .u8 0, .int .u8 0, .int .u8 0, .int .u8 0, .int .u8 0, .int .u8 0, .int .u8 0, .int .u8 0, .int .u8 0, .int .u8 0, .int .u8 0, .int .u8 0, .int .u8 0, .int .u8 0, .int .u8 0]
  hO : Obj V Hb 40 (cellsK .u32 s)
  oO : Obj V Ob 25 (cellsK .u8 (fillK l k))
  bel : Below B w0 V
  ne : B < Ob ∧ Hb < Ob ∧ w0.heap.size ≤ B
theorem SmO.start {w0 V : World} {B Hb g i : Nat} {p s l : List Nat} (h : SmR w0 B Hb g p i V) (hs : Sh.turns Sh.first p i = s) (hl : l.length = 32) : SmO w0 B Hb V.heap.size s l 0 (V.alloc (.cells #[.int .u8 0, .int .u8 0, .int .u8 0, .int .u8 0, .int .u8 0, .int .u8 0, .int .u8 0, .int .u8 0, .int .u8 0, .int .u8 0, .int .u8 0, .int .u8 0, .int .u8 0, .int .u8 0, .int .u8 0, .int .u8 0, .int .u8 0, .int .u8 0, .int .u8 0, .int .u8 0, .int .u8 0, .int .u8 0, .int .u8 0, .int .u8 0, .int .u8 0, .int .u8 0, .int .u8 0, .int .u8 0, .int .u8 0, .int .u8 0, .int .u8 0, .int .u8 0] 25)) := by
  have hr := h.rO.lt
  have hh := h.hO.lt
  refine ⟨h.rO.alloc _, hs ▸ h.hO.alloc _, (Obj.new V _ _).as ?_, h.bel.alloc (Nat.le_of_lt hr) _, hr, hh, h.ne.2.2⟩
  unfold fillK; rw [hl]; rfl
theorem SmO.set {w0 V : World} {B Hb Ob k : Nat} {s l : List Nat} (h : SmO w0 B Hb Ob s l k V) (hk : k < l.length) : SmO w0 B Hb Ob s l (k + 1) (V.setCell ⟨Ob, k, none⟩ (.int .u8 ((l.getD k 0 : Nat) : Int))) := by
  have hne := h.ne
  have hu : Upd Ob V (V.setCell ⟨Ob, k, none⟩ (.int .u8 ((l.getD k 0 : Nat) : Int))) := (Upd.refl _ V).set _ _
  refine ⟨h.rO.upd hu (by omega), h.hO.upd hu (by omega), ?_, ⟨hu.os.trans h.bel.os, hu.tape.trans h.bel.tape, hu.output.trans h.bel.output, Nat.le_trans h.bel.size hu.size, fun j hj => (hu.block j (by have := h.rO.lt; omega) (by omega)).trans (h.bel.block j hj)⟩, hne⟩
  rw [← fillK_set l k hk]
  exact h.oO.setK k _

set_option maxRecDepth 100000 in
set_option maxHeartbeats 8000000 in
theorem rsum_any (A : Option Addr) (n c : Nat) (t : List Nat) (w : World) (ht : Tabs w) (hA : Rb w A t) (hl : t.length = n) (hb : ∀ x ∈ t, x < 256) (hn : n ≤ 2000) (hc : n ≤ c ∧ c ≤ maxLen) :
    Calls Tryd.prog 10 #[.slice A n c] w fun e w' => e = .returned (.agg (cellsK .u8 (Sh.sum t))) ∧ Below w.heap.size w w' := by
  obtain ⟨B, hB⟩ : ∃ B, w.heap.size = B := ⟨_, rfl⟩
  obtain ⟨A1, c1, w1, hr1, hc1, hG1⟩ := first_app w 22 A n c t hl hA (by omega)
  obtain ⟨A2, c2, w2, hr2, hc2, hG2⟩ := hG1.app1 22 128 128 rfl (by omega)
  obtain ⟨z, hz⟩ : ∃ z, Sh.zeros t.length = z := ⟨_, rfl⟩
  have HZ := Lib.hid hz
  have HR1 := Lib.hid hr1
  have HG2 := Lib.hid hG2
  rw [hl] at hr2
  have HR2 := Lib.hid hr2
  have HT := Lib.hid ht
  have HL := Lib.hid hl
  have HBY := Lib.hid hb
  have HB := Lib.hid hB
  have hzn : (n + 1 + z) % 64 = 56 ∧ ∀ k, k < z → (n + 1 + k) % 64 ≠ 56 := by
    rw [hl] at hz; unfold Sh.zeros at hz
    refine ⟨by omega, fun k hk => ?_⟩
    omega
  have hz64 : z < 64 := by rw [hl] at hz; unfold Sh.zeros at hz; omega
  have HZN := Lib.hid hzn
  obtain ⟨n8, hn8⟩ : ∃ r, n * 8 = r := ⟨_, rfl⟩
  have hn8i : (n : Int) * 8 = (n8 : Int) := by omega
  have hn8b : n8 ≤ 16000 := by omega
  have HN8 := Lib.hid hn8
  clear ht hl hb hB hz hzn hr1 hr2 hG1 hG2 hc hA hc1 hc2 hn8
  go_enter Tryd.func10, Tryd.ntmps10
  go_wp2_with (first
    | (at_builtin; refine Lib.wpList_append_run _ rfl (.tmp 11) (.tmp 12) _ _ rfl _ _ rfl rfl _ _ HR1.out ?_)
    | (at_builtin; refine Lib.wpList_append_run _ rfl (.tmp 13) (.tmp 14) _ _ rfl _ _ rfl rfl _ _ HR2.out ?_))
  go_loopw [3] (fun v wx => ∃ k A c, k ≤ z ∧ v = .slice A (n + 1 + k) c ∧ Gw w w.heap.size (t ++ [128] ++ List.replicate k 0) v wx) (fun v _ => match v with | .slice _ q _ => n + 1 + z - q | _ => 0)
  case atStart =>
    refine ⟨0, _, _, by omega, rfl, ?_⟩
    have := HG2.out
    rw [HL.out] at this
    simpa using this
  case round =>
    obtain ⟨k, Ak, ck, hk, rfl, hG⟩ := hrel
    have hlk : (t ++ [128] ++ List.replicate k 0).length = n + 1 + k := by rw [List.length_append, List.length_append, HL.out, List.length_replicate]; rfl
    clear HG2 HR1 HR2
    obtain ⟨q, hq⟩ : ∃ q, n + 1 + k = q := ⟨_, rfl⟩
    have hqb : q ≤ 2100 := by omega
    by_cases hlt : k < z
    · have hne := HZN.out.2 k hlt
      rw [hq] at hne
      obtain ⟨r, hr⟩ : ∃ r, q % 64 = r := ⟨_, rfl⟩
      rw [hr] at hne
      have e1 : (q : Int) % 64 = (r : Int) := by omega
      have e1i : ¬ ((r : Int) = 56) := by omega
      obtain ⟨A3, c3, w3, hr3, hc3, hG3⟩ := hG.app1 22 0 0 rfl (by omega)
      rw [hlk, hq] at hr3 hG3
      have HR3 := Lib.hid hr3
      have HG3 : Hid (Gw w w.heap.size (t ++ [128] ++ List.replicate (k + 1) 0) (.slice A3 (q + 1) c3) w3) := by
        unfold Hid; rw [List.replicate_succ', ← List.append_assoc]; exact hG3
      have HQ := Lib.hid hq
      rw [hq]
      clear hr3 hG3 hG hlk hr hne hq
      go_wp2_with (at_builtin; refine Lib.wpList_append_run _ rfl (.tmp 20) (.tmp 21) _ _ rfl _ _ rfl rfl _ _ HR3.out ?_)
      go_roundw
      case rel => exact ⟨k + 1, _, _, by omega, by have := HQ.out; rw [← this]; rfl, HG3.out⟩
      case measure => have := HQ.out; (try dsimp only); omega
    · obtain rfl : k = z := by omega
      have hne := HZN.out.1
      rw [hq] at hne
      have e1 : (q : Int) % 64 = 56 := by omega
      obtain ⟨a, ha⟩ : ∃ a, n8 / 256 = a := ⟨_, rfl⟩
      obtain ⟨b, hb⟩ : ∃ b, n8 % 256 = b := ⟨_, rfl⟩
      have g0 : (n8 : Int) / 16777216 = 0 := by omega
      have g1 : (n8 : Int) / 65536 = 0 := by omega
      have g2 : (n8 : Int) / 256 = (a : Int) := by omega
      have g3 : (a : Int) % 256 = (a : Int) := by omega
      have g4 : (n8 : Int) % 256 = (b : Int) := by omega
      have g5 : IntKind.u8.wrap (a : Int) = (a : Int) := by rw [IntKind.wrap_u8]; omega
      have g6 : IntKind.u8.wrap (b : Int) = (b : Int) := by rw [IntKind.wrap_u8]; omega
      obtain ⟨A5, c5, w5, hr5, hc5, hG5⟩ := (hG.kept ((Below.refl _ wr).alloc (Nat.le_refl _) (.cells #[.int .u8 0, .int .u8 0, .int .u8 0, .int .u8 0, .int .u8 0, .int .u8 0, .int .u8 (a : Int), .int .u8 (b : Int)] 5))).app 22 (some ⟨wr.heap.size, 0, none⟩) 8 8 [0, 0, 0, 0, 0, 0, a, b] rfl (litL_rb wr [0, 0, 0, 0, 0, 0, a, b]) (by omega)
      have HPAD : Hid (t ++ [128] ++ List.replicate k 0 ++ [0, 0, 0, 0, 0, 0, a, b] = Sh.pad t) := by
        have h8 := HN8.out
        unfold Hid Sh.pad
        rw [HZ.out, HL.out, h8, show n8 / 4294967296 = 0 by omega, show n8 % 4294967296 = n8 by omega]
        simp only [Sh.four, List.append_assoc]
        rw [show n8 / 16777216 = 0 by omega, show n8 / 65536 = 0 by omega, show n8 / 256 % 256 = a by omega, hb]
        rfl
      rw [HPAD.out] at hG5
      obtain ⟨tot, htot⟩ : ∃ x, (Sh.pad t).length = x := ⟨_, rfl⟩
      have hlt5 : (t ++ [128] ++ List.replicate k 0).length + 8 = tot := by rw [← htot, ← HPAD.out, @List.length_append _ (t ++ [128] ++ List.replicate k 0)]; rfl
      rw [hlt5, hq] at hr5
      rw [hlt5] at hG5 hc5
      rw [hlk, hq] at hlt5
      obtain ⟨N, hN⟩ : ∃ N, 64 * N = tot := ⟨tot / 64, by have := Sh.pad_len t; rw [htot] at this; omega⟩
      have htb : tot ≤ 2200 := by omega
      have hp : 0 < (Sh.pad t).length := by omega
      obtain ⟨g, hA5, hg5⟩ : ∃ g, A5 = some ⟨g, 0, none⟩ ∧ g < w5.heap.size := by
        obtain ⟨_, _, e, _, _, _, hrb, hA'⟩ := own_rb hG5.own
        cases e
        obtain ⟨b', off, e', hlt', _⟩ := hrb hp
        rcases hA' with e | ⟨g, e, hg⟩
        · rw [e] at e'; cases e'
        · rw [e] at e'; cases e'
          exact ⟨_, e, hlt'⟩
      subst hA5
      have HR5 := Lib.hid hr5
      rw [← htot] at hG5
      have HS5 := Lib.hid (SmR.start hG5 rfl hg5)
      have HT5 := HT.out.below hG5.bel
      have f0 : w5.cell? ⟨0, 0, none⟩ = some (.int .u32 1779033703) := HT5.f 0 (by omega)
      have f1 : w5.cell? ⟨0, 1, none⟩ = some (.int .u32 3144134277) := HT5.f 1 (by omega)
      have f2 : w5.cell? ⟨0, 2, none⟩ = some (.int .u32 1013904242) := HT5.f 2 (by omega)
      have f3 : w5.cell? ⟨0, 3, none⟩ = some (.int .u32 2773480762) := HT5.f 3 (by omega)
      have f4 : w5.cell? ⟨0, 4, none⟩ = some (.int .u32 1359893119) := HT5.f 4 (by omega)
      have f5 : w5.cell? ⟨0, 5, none⟩ = some (.int .u32 2600822924) := HT5.f 5 (by omega)
      have f6 : w5.cell? ⟨0, 6, none⟩ = some (.int .u32 528734635) := HT5.f 6 (by omega)
      have f7 : w5.cell? ⟨0, 7, none⟩ = some (.int .u32 1541459225) := HT5.f 7 (by omega)
      have HO8 : Hid (Obj (w5.alloc (.cells #[.int .u32 0, .int .u32 0, .int .u32 0, .int .u32 0, .int .u32 0, .int .u32 0, .int .u32 0, .int .u32 0] 40)) w5.heap.size 40 (cellsK .u32 (List.replicate 8 0))) := Obj.new w5 _ _
      have HQ := Lib.hid hq
      have HTOT := Lib.hid htot
      have HN := Lib.hid hN
      have hc5i : tot ≤ c5 ∧ c5 ≤ 9223372036854775807 := ⟨hc5.1, by have := hc5.2; simp only [maxLen] at this; omega⟩
      rw [hq]
      clear hr5 hG5 hG hlk hne hq HT5 hlt5 hp htot hN ha hb hc5
      go_wp2_with (first
        | (at_builtin; refine Lib.wpList_append_run _ rfl (.tmp 26) (.tmp 41) _ _ rfl _ _ rfl rfl _ _ HR5.out ?_)
        | (refine wpList_store8 rfl (.tmp 5) (.tmp 43) rfl _ _ _ _ _ _ _ _ _ rfl rfl (List.replicate 8 0) HO8.out rfl ?_))
      clear f0 f1 f2 f3 f4 f5 f6 f7 HR5 HO8
      obtain ⟨Hb, hHb⟩ : ∃ Hb, w5.heap.size = Hb := ⟨_, rfl⟩
      rw [hHb] at HS5 ⊢
      go_loopw [6] (fun i wx => ∃ j : Nat, j ≤ N ∧ i = .int .i64 ((64 * j : Nat) : Int) ∧ SmR w w.heap.size Hb g (Sh.pad t) j wx) (fun i _ => tot + 1 - (intOf i).toNat)
      case atStart => exact ⟨0, by omega, rfl, HS5.out⟩
      case round =>
        clear HS5
        obtain ⟨j, hj, rfl, hR⟩ := hrel
        have HRS := Lib.hid hR
        obtain ⟨p, hp⟩ : ∃ p, 64 * j = p := ⟨_, rfl⟩
        have HP := Lib.hid hp
        rw [hp]
        by_cases hlt2 : j < N
        · have hpt : p + 64 ≤ tot := by have := HN.out; omega
          have h8 := Sh.turns_len Sh.first (Sh.pad t) Sh.first_lt.1 j
          have h9 := Sh.turns_len Sh.first (Sh.pad t) Sh.first_lt.1 (j + 1)
          obtain ⟨cc, hcc⟩ : ∃ cc, c5 - p = cc := ⟨_, rfl⟩
          obtain ⟨p2, hp2⟩ : ∃ p2, p + 64 = p2 := ⟨_, rfl⟩
          have q1 : (p : Int) + 64 = (p2 : Int) := by omega
          have q2 : IntKind.i64.wrap (p2 : Int) = (p2 : Int) := by rw [IntKind.wrap_i64]; omega
          have q3 : (p2 : Int) ≤ (c5 : Int) := by omega
          have q4 : p ≤ p2 := by omega
          have q5 : p2 - p = 64 := by omega
          have q6 : ¬ c5 = p := by omega
          have HTU : Hid (Calls Tryd.prog 23 #[.agg (cellsK .u32 (Sh.turns Sh.first (Sh.pad t) j)), .slice (some ⟨g, p, none⟩) 64 cc] wr.drew fun e w' => e = .returned (.agg (cellsK .u32 (Sh.turns Sh.first (Sh.pad t) (j + 1)))) ∧ Below wr.drew.heap.size wr.drew w') := by
            have hr0 : Rb wr.drew (some ⟨g, p, none⟩) ((Sh.pad t).drop (64 * j)) := by
              have := (hR.drewN 1).rb.drop (64 * j)
              rw [Nat.zero_add] at this
              rw [← hp]; exact this
            refine turn_any (Sh.turns Sh.first (Sh.pad t) j) _ cc (((Sh.pad t).drop (64 * j)).take 64) wr.drew (HT.out.below (hR.drewN 1).bel) h8 (Sh.turns_lt _ _ Sh.first_lt.2 j) (hr0.take 64) ?_ ?_ ⟨by omega, by unfold maxLen; omega⟩
            · rw [List.length_take, List.length_drop, HTOT.out]
              omega
            · intro x hx
              exact pad_lt t HBY.out x (List.mem_of_mem_drop (List.mem_of_mem_take hx))
          have HNX : Hid (∀ w', Below wr.drew.heap.size wr.drew w' → SmR w w.heap.size Hb g (Sh.pad t) (j + 1) (w'.setRow Hb (cellsK .u32 (Sh.turns Sh.first (Sh.pad t) (j + 1))))) := fun w' hb => (hR.drewN 1).next hb
          have hHO : Obj wr Hb 40 (cellsK .u32 (Sh.turns Sh.first (Sh.pad t) j)) := hR.hO
          have HSI := Lib.hid (size32x8 h8)
          have HSN := Lib.hid (size32x8 h9)
          have HS8 := Lib.hid h8
          have HS9 := Lib.hid h9
          clear hR hp h8 h9
          generalize Sh.turns Sh.first (Sh.pad t) (j + 1) = s1 at *
          generalize Sh.turns Sh.first (Sh.pad t) j = s0 at *
          have hpi : (p : Int) < (tot : Int) := by omega
          go_wp2
          refine wp_region_T 7 (fun wq => Obj wq Hb 40 (cellsK .u32 s0)) (by kernel_rfl) hHO (fun hHeld => ?_)
          refine wpAnyT_take (i := 0) (oi := ?_) (v := ?_) ?_ ?_ ?_ ?_ ?_ ?_ ?_ (by assumption) ?_
          rotate_left 2
          · simp only [List.getElem?_toArray, List.getElem?_cons_zero, List.getElem?_cons_succ]
            rfl
          · kernel_rfl
          · kernel_rfl
          · kernel_rfl
          · kernel_rfl
          · exact fun _ _ _ h => h
          · refine yieldsIf_load_row (g := Hb) (t := 40) (cs := cellsK .u32 s0) (ty := 40) (x := .tmp 5) ?_ ?_ ?_ ?_ Tryd.underlying40 rfl HSI.out
            · rfl
            · rfl
            · rfl
            · exact fun w hSw => hSw
          simp only [Act.put, List.setIfInBounds_toArray, List.set_cons_zero, List.set_cons_succ]
          refine wpAnyT_take (i := 1) (oi := ?_) (v := ?_) ?_ ?_ ?_ ?_ ?_ ?_ ?_ (by assumption) ?_
          rotate_left 2
          · simp only [List.getElem?_toArray, List.getElem?_cons_zero, List.getElem?_cons_succ]
            rfl
          · kernel_rfl
          · kernel_rfl
          · kernel_rfl
          · kernel_rfl
          · exact fun _ _ _ h => h
          · refine Or.inl ⟨by rfl, ?_⟩
            intro w hSw
            (try dsimp only at hSw)
            go_simp
            all_goals with_reducible rfl
          simp only [Act.put, List.setIfInBounds_toArray, List.set_cons_zero, List.set_cons_succ]
          refine wpAnyT_take (i := 2) (oi := ?_) (v := ?_) ?_ ?_ ?_ ?_ ?_ ?_ ?_ (by assumption) ?_
          rotate_left 2
          · simp only [List.getElem?_toArray, List.getElem?_cons_zero, List.getElem?_cons_succ]
            rfl
          · kernel_rfl
          · kernel_rfl
          · kernel_rfl
          · kernel_rfl
          · exact fun _ _ _ h => h
          · refine Or.inl ⟨by rfl, ?_⟩
            intro w hSw
            (try dsimp only at hSw)
            go_simp
            all_goals with_reducible rfl
          simp only [Act.put, List.setIfInBounds_toArray, List.set_cons_zero, List.set_cons_succ]
          refine wpAnyT_take (i := 3) (oi := ?_) (v := ?_) ?_ ?_ ?_ ?_ ?_ ?_ ?_ (by assumption) ?_
          rotate_left 2
          · simp only [List.getElem?_toArray, List.getElem?_cons_zero, List.getElem?_cons_succ]
            rfl
          · kernel_rfl
          · kernel_rfl
          · kernel_rfl
          · kernel_rfl
          · exact fun _ _ _ h => h
          · refine Or.inl ⟨by rfl, ?_⟩
            intro w hSw
            (try dsimp only at hSw)
            go_simp
            all_goals with_reducible rfl
          simp only [Act.put, List.setIfInBounds_toArray, List.set_cons_zero, List.set_cons_succ]
          refine wpAnyT_take (i := 4) (oi := ?_) (v := ?_) ?_ ?_ ?_ ?_ ?_ ?_ ?_ (by assumption) ?_
          rotate_left 2
          · simp only [List.getElem?_toArray, List.getElem?_cons_zero, List.getElem?_cons_succ]
            rfl
          · kernel_rfl
          · kernel_rfl
          · kernel_rfl
          · kernel_rfl
          · exact fun _ _ _ h => h
          · refine Or.inl ⟨by rfl, ?_⟩
            intro w hSw
            (try dsimp only at hSw)
            go_simp
            all_goals with_reducible rfl
          simp only [Act.put, List.setIfInBounds_toArray, List.set_cons_zero, List.set_cons_succ]
          refine wpAnyT_take (i := 5) (oi := ?_) (v := ?_) ?_ ?_ ?_ ?_ ?_ ?_ ?_ (by assumption) ?_
          rotate_left 2
          · simp only [List.getElem?_toArray, List.getElem?_cons_zero, List.getElem?_cons_succ]
            rfl
          · kernel_rfl
          · kernel_rfl
          · kernel_rfl
          · kernel_rfl
          · exact fun _ _ _ h => h
          · refine Or.inl ⟨by rfl, ?_⟩
            intro w hSw
            (try dsimp only at hSw)
            go_simp
            all_goals with_reducible rfl
          simp only [Act.put, List.setIfInBounds_toArray, List.set_cons_zero, List.set_cons_succ]
          refine wpAnyT_one (i := 6) (o := ?_) (by kernel_rfl) ?_ (fun KK hKK => ?_)
          rotate_left
          · simp only [List.getElem?_toArray, List.getElem?_cons_zero, List.getElem?_cons_succ]
            rfl
          go_simp
          refine HTU.out.mono ?_; rintro e wD ⟨rfl, hbD⟩
          try go_wp2_with fail
          refine hKK.out _ _ ?_ (fun hh1 => ?_)
          · (try dsimp only)
            exact Obj.kept hHeld hbD
          clear hKK KK
          try simp only [Act.put, List.setIfInBounds_toArray, List.set_cons_zero, List.set_cons_succ]
          refine wpAnyT_last (o := ?_) (by kernel_rfl) ?_ (fun KK hKK => ?_)
          rotate_left
          · simp only [List.getElem?_toArray, List.getElem?_cons_zero, List.getElem?_cons_succ]
            rfl
          rw [if_pos (by rfl)]
          refine wp_store_row 40 (.tmp 5) (.tmp 56) rfl _ _ rfl rfl _ _ hh1 HSN.out (by rw [cellsK_size, cellsK_size, HS8.out, HS9.out]) (one_cellsK _ _) ?_
          refine hKK.out _ _ ?_
          clear hKK KK
          try simp only [Act.put, List.setIfInBounds_toArray, List.set_cons_zero, List.set_cons_succ]
          refine wpAnyT_done (by kernel_rfl) ?_ _
          go_wp2
          go_roundw
          case rel => exact ⟨j + 1, by omega, by have := HP.out; go_num, HNX.out _ hbD⟩
          case measure => simp [intOf]; omega
        · obtain rfl : j = N := by omega
          have hpt : p = tot := by have := HN.out; omega
          subst hpt
          have HSUM : Hid (Sh.sum t = Sh.bytes (Sh.turns Sh.first (Sh.pad t) j)) := by
            unfold Hid Sh.sum
            rw [HTOT.out, ← HN.out, Nat.mul_div_cancel_left j (by omega)]
          have h8 := Sh.turns_len Sh.first (Sh.pad t) Sh.first_lt.1 j
          have hlt8 := Sh.turns_lt Sh.first (Sh.pad t) Sh.first_lt.2 j
          generalize hs0 : Sh.turns Sh.first (Sh.pad t) j = s0 at *
          have hl32 : (Sh.bytes s0).length = 32 := by rw [Sh.bytes_len, h8]
          have HOS := Lib.hid (SmO.start hR hs0 hl32)
          have HS8 := Lib.hid h8
          have HLT := Lib.hid hlt8
          have HL32 := Lib.hid hl32
          have HBO := Lib.hid (byte_of s0 h8)
          clear hR hs0 h8 hlt8 hl32 HRS HTOT HN
          go_wp2
          obtain ⟨Ob, hOb⟩ : ∃ Ob, wr.heap.size = Ob := ⟨_, rfl⟩
          rw [hOb] at HOS ⊢
          generalize hbs : Sh.bytes s0 = bs at *
          go_loopw [8, 9, 10] (fun i _ _ wx => ∃ e : Nat, e ≤ 32 ∧ i = .int .i64 (e : Int) ∧ SmO w w.heap.size Hb Ob s0 bs e wx) (fun i _ _ _ => 32 - (intOf i).toNat)
          case atStart => exact ⟨0, by omega, rfl, HOS.out⟩
          case round =>
            clear HOS
            obtain ⟨e, he, rfl, hO⟩ := hrel
            have HO := Lib.hid hO
            by_cases hlt3 : e < 32
            · obtain ⟨e4, he4⟩ : ∃ r, e / 4 = r := ⟨_, rfl⟩
              obtain ⟨em, hem⟩ : ∃ r, e % 4 = r := ⟨_, rfl⟩
              have i4 : (e : Int) / 4 = (e4 : Int) := by omega
              have im : (e : Int) % 4 = (em : Int) := by omega
              have hei : (e : Int) < 32 := by omega
              have he48 : e4 < 8 := by omega
              have hem4 : em < 4 := by omega
              have g0 : wr.cell? ⟨Hb, e4, none⟩ = some (.int .u32 ((gt s0 e4 : Nat) : Int)) := hO.hO.getK e4 (by rw [HS8.out]; exact he48)
              have hx := gt_lt HLT.out e4
              have HBE : Hid (bs.getD e 0 = gt s0 e4 / 256 ^ (3 - em) % 256) := by
                have := HBO.out e hlt3
                rwa [he4, hem] at this
              have HNX := Lib.hid (hO.set (by rw [HL32.out]; exact hlt3))
              have hfree := hO.oO.free e
              have hcur := hO.oO.getK e (by rw [fillK_len _ _ (by rw [HL32.out]; exact he), HL32.out]; exact hlt3)
              clear hO he4 hem
              generalize gt s0 e4 = x at *
              go_wp2
              go_loopw [9, 10] (fun xv kv wx => ∃ q y : Nat, q + em ≤ 3 ∧ kv = .int .i64 ((em + q : Nat) : Int) ∧ xv = .int .u32 (y : Int) ∧ x / 256 ^ q = y ∧ wx = wr) (fun _ kv _ => 3 - (intOf kv).toNat)
              case atStart => exact ⟨0, x, by omega, by rw [im]; rfl, rfl, by simp, rfl⟩
              case round =>
                obtain ⟨q, y, hq, rfl, rfl, hy, rfl⟩ := hrel
                obtain ⟨d, hd⟩ : ∃ d, em + q = d := ⟨_, rfl⟩
                rw [hd]
                have HY := Lib.hid hy
                have hyl : y < 4294967296 := by rw [← hy]; exact Nat.lt_of_le_of_lt (Nat.div_le_self _ _) hx
                clear hy
                by_cases hlt4 : d < 3
                · obtain ⟨y2, hy2⟩ : ∃ y2, y / 256 = y2 := ⟨_, rfl⟩
                  have iy : (y : Int) / 256 = (y2 : Int) := by omega
                  have hdi : (d : Int) < 3 := by omega
                  have HY2 : Hid (x / 256 ^ (q + 1) = y2) := by unfold Hid; rw [Nat.pow_succ, ← Nat.div_div_eq_div_mul, HY.out, hy2]
                  clear hy2
                  go_wp2
                  go_roundw
                  case rel => exact ⟨q + 1, y2, by omega, by go_num, by go_num, HY2.out, trivial⟩
                  case measure => simp [intOf]; omega
                · have hd3 : d = 3 := by omega
                  subst hd3
                  obtain ⟨v, hv⟩ : ∃ v, y % 256 = v := ⟨_, rfl⟩
                  have iv : (y : Int) % 256 = (v : Int) := by omega
                  have ivw : IntKind.u8.wrap (v : Int) = (v : Int) := by rw [IntKind.wrap_u8]; omega
                  have HV : Hid (bs.getD e 0 = v) := by
                    unfold Hid
                    rw [HBE.out, show 3 - em = q by omega, HY.out, hv]
                  rw [HV.out] at HNX
                  clear hv
                  go_wp2
                  go_roundw
                  case rel => exact ⟨e + 1, by omega, by go_num, HNX.out⟩
                  case measure => simp [intOf]; omega
            · obtain rfl : e = 32 := by omega
              have hf : fillK bs 32 = bs := by rw [← HL32.out]; exact fillK_full bs
              have hOO := hO.oO
              rw [hf] at hOO
              have HOO := Lib.hid hOO
              have HRO := Lib.hid hO.rO
              have HBL := Lib.hid hO.bel
              have HSZ := Lib.hid (sizeH HL32.out)
              have HROW := Lib.hid (hO.rO.row (cellsK .u8 bs))
              clear hO HO hOO hf
              go_wp2_with (first
                | (refine wpList_load_row rfl 25 (.tmp 7) rfl _ rfl _ _ _ _ HOO.out Tryd.underlying25 rfl HSZ.out ?_)
                | (refine wpList_store_row rfl 25 (.tmp 2) (.tmp 78) rfl _ _ rfl rfl _ _ HRO.out HSZ.out (by rw [cellsK_size, HL32.out]; rfl) (one_cellsK _ _) ?_))
              exact bodyPost_ret (v := .agg (cellsK .u8 bs)) (results_cell_row rfl _ _ _ _ _ _ _ rfl HROW.out Tryd.underlying25 rfl HSZ.out) rfl ⟨by rw [HSUM.out], row_belowB HBL.out HRO.out.lt _⟩
end Go.Proofs.YtanigdadhldceaaDoor
