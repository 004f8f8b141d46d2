/- Layer 7's Expand and Label of the document, walked. -/
import Derived.Test.YtanigdadhldceaaDoorShO
import Derived.Test.YtanigdadhldceaaDoorShL
namespace Go.Proofs.YtanigdadhldceaaDoor
open Go Go.RowKit Go.Shelf
set_option linter.unusedVariables false
set_option linter.unusedSimpArgs false

theorem trio (V : World) (ty1 ty2 ty3 : TypeId) (A : Option Addr) (L c : Nat) (l : List Nat) (hl : l.length = L) (hR : Rb V A l) (A2 : Option Addr) (m d : Nat) (info : List Nat) (hi : info.length = m) (hRi : Rb V A2 info) (i : Nat) (hL : L ≤ 1000) (hm : m ≤ 100000) :
    ∃ A1 c1 w1, (Builtin.append_ #[22, 22] ty1 #[.slice (some ⟨V.heap.size, 0, none⟩) 0 0, .slice A L c]).run Tryd.prog (V.alloc (.cells #[] 5)) = .ok (.slice A1 L c1) w1 ∧
    ∃ A3 c3 w2, (Builtin.append_ #[22, 22] ty2 #[.slice A1 L c1, .slice A2 m d]).run Tryd.prog w1 = .ok (.slice A3 (L + m) c3) w2 ∧
    ∃ A4 c4 w3, (Builtin.append_ #[22, 22] ty3 #[.slice A3 (L + m) c3, .slice (some ⟨w2.heap.size, 0, none⟩) 1 1]).run Tryd.prog (w2.alloc (.cells #[.int .u8 (i : Int)] 5)) = .ok (.slice A4 (L + m + 1) c4) w3 ∧ Rb w3 A4 (l ++ info ++ [i]) ∧ Below V.heap.size V w3 := by
  have b1 : Below V.heap.size V (V.alloc (.cells #[] 5)) := (Below.refl _ V).alloc (Nat.le_refl _) _
  obtain ⟨v1, w1, h1, h2, h3⟩ := own_app (V.alloc (.cells #[] 5)) ty1 (own_made V V.heap.size (Nat.le_refl _)) A L c l hl (hR.below b1) (by omega) (by simp)
  have b2 := b1.grown h3 (by simp) (fun k e => by cases e; exact Nat.le_refl _)
  rw [Nat.zero_add, List.nil_append] at h2
  obtain ⟨A1, c1, rfl, _, _, _, _, _⟩ := own_rb h2
  obtain ⟨v3, w2, h4, h5, h6⟩ := own_app w1 ty2 h2 A2 m d info hi (hRi.below b2) (by omega) b2.size
  have b3 := b2.grown h6 b2.size (fun k e => (h2.lt k e).1)
  obtain ⟨A3, c3, rfl, _, _, _, _, _⟩ := own_rb h5
  have b4 : Below V.heap.size V (w2.alloc (.cells #[.int .u8 (i : Int)] 5)) := b3.alloc b3.size _
  have h7 := ownsRow_kept h5 ((Below.refl _ w2).alloc (Nat.le_refl _) (.cells #[.int .u8 (i : Int)] 5))
  obtain ⟨v4, w3, h8, h9, h10⟩ := own_app (w2.alloc (.cells #[.int .u8 (i : Int)] 5)) ty3 h7 (some ⟨w2.heap.size, 0, none⟩) 1 1 [i] rfl (litL_rb w2 [i]) (by omega) b4.size
  obtain ⟨A4, c4, rfl, _, _, _, hr, _⟩ := own_rb h9
  exact ⟨A1, c1, w1, h1, A3, c3, w2, h4, A4, c4, w3, h8, hr, b4.grown h10 b4.size (fun k e => (h7.lt k e).1)⟩

set_option maxRecDepth 100000 in
set_option maxHeartbeats 400000 in
theorem rexpand_no (s : List Nat) (A : Option Addr) (m d : Nat) (n : Int) (w : World) (hn : n < 0 ∨ 255 < n) :
    Calls Tryd.prog 16 #[.agg (cellsK .u8 s), .slice A m d, .int .i64 n] w fun e w' => e = .returned (.slice none 0 0) ∧ Below w.heap.size w w' := by
  rcases hn with h | h
  · go_enter Tryd.func16, Tryd.ntmps16
    go_wp2
    go_ret
    exact ⟨rfl, (Below.refl _ _).alloc (Nat.le_refl _) _⟩
  · have h' : ¬ n < 0 := by omega
    go_enter Tryd.func16, Tryd.ntmps16
    go_wp2
    go_ret
    exact ⟨rfl, (Below.refl _ _).alloc (Nat.le_refl _) _⟩

set_option maxRecDepth 100000 in
set_option maxHeartbeats 8000000 in
theorem rexpand_any (s info : List Nat) (A2 : Option Addr) (m d n : Nat) (w : World) (ht : Tabs w) (hs : s.length = 32) (hs2 : ∀ x ∈ s, x < 256) (hA2 : Rb w A2 info) (hl2 : info.length = m) (hb2 : ∀ x ∈ info, x < 256) (hm : m ≤ 1800) (hn : n ≤ 255) :
    Calls Tryd.prog 16 #[.agg (cellsK .u8 s), .slice A2 m d, .int .i64 (n : Int)] w fun e w' => ∃ A c, e = .returned (.slice A n c) ∧ Rb w' A (Sh.expand s info n) ∧ Below w.heap.size w w' := by
  have HT := Lib.hid ht
  have HS := Lib.hid hs
  have HS2 := Lib.hid hs2
  have HA2 := Lib.hid hA2
  have HL2 := Lib.hid hl2
  have HBY2 := Lib.hid hb2
  have hni : (n : Int) ≤ 255 := by omega
  obtain ⟨wc, hwc⟩ : ∃ wc, w.alloc (.cells (cellsK .u8 s) 25) = wc := ⟨_, rfl⟩
  have hO0 : Obj wc w.heap.size 25 (cellsK .u8 s) := hwc ▸ Obj.new w _ _
  have hB0 : Below w.heap.size w wc := hwc ▸ (Below.refl _ w).alloc (Nat.le_refl _) _
  have HO0 := Lib.hid hO0
  have HB0 := Lib.hid hB0
  have HTW : Hid (Tw wc (w.heap.size + 1) [] [] (.slice none 0 0) (.slice none 0 0) wc) := ⟨World.ownsRow_nil _ _ _ _, World.ownsRow_nil _ _ _ _, (fun g e => by cases e), Below.refl _ _, hO0.lt⟩
  clear ht hs hs2 hA2 hl2 hb2 hO0 hB0
  go_enter Tryd.func16, Tryd.ntmps16
  go_wp2
  try rw [hwc]
  clear hwc
  obtain ⟨B, hB⟩ : ∃ B, w.heap.size = B := ⟨_, rfl⟩
  have HB := Lib.hid hB
  rw [hB] at HTW HO0 ⊢
  clear hB
  go_loopw [7, 8, 9, 10, 11] (fun ov lv i _ _ wr => ∃ k : Nat, k ≤ 8 ∧ (k = 0 ∨ 32 * (k - 1) < n) ∧ i = .int .i64 ((k + 1 : Nat) : Int) ∧ Tw wc (B + 1) (Sh.exK s info k).2 (Sh.exK s info k).1 ov lv wr) (fun _ _ i _ _ _ => 9 - (intOf i).toNat)
  case atStart => exact ⟨0, by omega, .inl rfl, rfl, HTW.out⟩
  case round =>
    clear HTW
    obtain ⟨k, hk, hkn, rfl, hR⟩ := hrel
    have hlk := exK_len s info k
    obtain ⟨q, hq⟩ : ∃ q, 32 * k = q := ⟨_, rfl⟩
    obtain ⟨Ao, co, rfl, _, hoc, hcm, hro, hAo⟩ := own_rb hR.o1
    obtain ⟨Al, cl, rfl, _, _, _, hrl, _⟩ := own_rb hR.o2
    have hbw : Below B w wr := (HB.out ▸ HB0.out).trans (hR.bel.mono (by omega))
    rw [hlk, hq] at hoc ⊢
    have hco : co ≤ 9223372036854775807 := by simp only [maxLen] at hcm; omega
    by_cases hlt : q < n
    · have hd1 : decide ((q : Int) < (n : Int)) = true := by simp; omega
      obtain ⟨i1, hi1⟩ : ∃ i1, k + 1 = i1 := ⟨_, rfl⟩
      have hk8 : i1 ≤ 8 := by omega
      have HL := Lib.hid (exK_next s info k)
      have hlt1 := exK_lt s info k
      rw [hi1] at HL ⊢
      have hl1 : (Sh.exK s info k).1.length ≤ 32 := by
        cases k with
        | zero => simp [Sh.exK]
        | succ k => rw [(exK_next s info k).1, tag_len]; omega
      have HQ2 : (Sh.exK s info k).2.length = q := by rw [exK_len]; exact hq
      have HKK : Hid (k + 1 = i1 ∧ 32 * k = q) := ⟨hi1, hq⟩
      clear hlk hq
      generalize (Sh.exK s info k).2 = o at *
      generalize (Sh.exK s info k).1 = l at *
      obtain ⟨L, hL⟩ : ∃ L, l.length = L := ⟨_, rfl⟩
      rw [hL]
      have hu8 : IntKind.u8.wrap (i1 : Int) = (i1 : Int) := by rw [IntKind.wrap_u8]; omega
      obtain ⟨A1, c1, w1, hr1, A3, c3, w2, hr2, A4, c4, w3, hr3, hrt, hb3⟩ := trio wr 22 22 22 Al L cl l hL (by rw [hL] at *; exact hrl) A2 m d info HL2.out (HA2.out.below (HB.out.symm ▸ hbw)) i1 (by omega) (by omega)
      have hbw3 : Below B w w3 := hbw.trans (hb3.mono (by have := hbw.size; have := HB.out; omega))
      have hB3 : Below (B + 1) wc w3 := hR.bel.trans (hb3.mono hR.le)
      have hO3 : Obj w3 B 25 (cellsK .u8 s) := (hB3.block B (by omega)).trans HO0.out
      obtain ⟨nt, hnt⟩ : ∃ nt, L + m + 1 = nt := ⟨_, rfl⟩
      rw [hnt] at hr3
      have HTC : Hid (Calls Tryd.prog 12 #[.slice (some ⟨B, 0, none⟩) 32 32, .slice A4 nt c4] w3 fun e w' => e = .returned (.agg (cellsK .u8 (Sh.tag s (l ++ info ++ [i1])))) ∧ Below w3.heap.size w3 w') :=
        rtag_any (some ⟨B, 0, none⟩) A4 32 32 nt c4 s (l ++ info ++ [i1]) w3 (HT.out.below (HB.out.symm ▸ hbw3)) (fun _ => ⟨B, 0, rfl, hO3.lt, fun j hj => by rw [Nat.zero_add]; exact hO3.getK j hj⟩) HS.out HS2.out (by omega) ⟨Nat.le_refl _, by unfold maxLen; omega⟩ hrt (by rw [List.length_append, List.length_append, hL, HL2.out]; exact hnt) (fun x hx => by
          rcases List.mem_append.1 hx with hx | hx
          · rcases List.mem_append.1 hx with hx | hx
            · exact hlt1.1 x hx
            · exact HBY2.out x hx
          · rw [List.mem_singleton.1 hx]; omega) (by omega)
      have htl := tag_len s (l ++ info ++ [i1])
      generalize Sh.tag s (l ++ info ++ [i1]) = tg at *
      have ho3 := ownsRow_kept hR.o1 hb3
      rw [HQ2] at ho3
      have HF : Hid (∀ w4, Below w3.heap.size w3 w4 → Obj (w4.alloc (.cells #[.int .u8 0, .int .u8 0, .int .u8 0, .int .u8 0, .int .u8 0, .int .u8 0, .int .u8 0, .int .u8 0, .int .u8 0, .int .u8 0, .int .u8 0, .int .u8 0, .int .u8 0, .int .u8 0, .int .u8 0, .int .u8 0, .int .u8 0, .int .u8 0, .int .u8 0, .int .u8 0, .int .u8 0, .int .u8 0, .int .u8 0, .int .u8 0, .int .u8 0, .int .u8 0, .int .u8 0, .int .u8 0, .int .u8 0, .int .u8 0, .int .u8 0, .int .u8 0] 25)) w4.heap.size 25 #[.int .u8 0, .int .u8 0, .int .u8 0, .int .u8 0, .int .u8 0, .int .u8 0, .int .u8 0, .int .u8 0, .int .u8 0, .int .u8 0, .int .u8 0, .int .u8 0, .int .u8 0, .int .u8 0, .int .u8 0, .int .u8 0, .int .u8 0, .int .u8 0, .int .u8 0, .int .u8 0, .int .u8 0, .int .u8 0, .int .u8 0, .int .u8 0, .int .u8 0, .int .u8 0, .int .u8 0, .int .u8 0, .int .u8 0, .int .u8 0, .int .u8 0, .int .u8 0] ∧ ∃ A5 c5 w6,
          (Builtin.append_ #[22, 22] 22 #[.slice (some ⟨w4.heap.size + 1, 0, none⟩) 0 0, .slice (some ⟨w4.heap.size, 0, none⟩) 32 32]).run Tryd.prog (((w4.alloc (.cells #[.int .u8 0, .int .u8 0, .int .u8 0, .int .u8 0, .int .u8 0, .int .u8 0, .int .u8 0, .int .u8 0, .int .u8 0, .int .u8 0, .int .u8 0, .int .u8 0, .int .u8 0, .int .u8 0, .int .u8 0, .int .u8 0, .int .u8 0, .int .u8 0, .int .u8 0, .int .u8 0, .int .u8 0, .int .u8 0, .int .u8 0, .int .u8 0, .int .u8 0, .int .u8 0, .int .u8 0, .int .u8 0, .int .u8 0, .int .u8 0, .int .u8 0, .int .u8 0] 25)).setRow w4.heap.size (cellsK .u8 tg)).alloc (.cells #[] 5)) = .ok (.slice A5 32 c5) w6 ∧ ∃ A7 c7 w7,
          (Builtin.append_ #[22, 22] 22 #[.slice Ao q co, .slice A5 32 c5]).run Tryd.prog w6 = .ok (.slice A7 (q + 32) c7) w7 ∧ Tw wc (B + 1) (o ++ tg) tg (.slice A7 (q + 32) c7) (.slice A5 32 c5) w7) := fun w4 h4 => by
        have o2 := Obj.new w4 25 #[.int .u8 0, .int .u8 0, .int .u8 0, .int .u8 0, .int .u8 0, .int .u8 0, .int .u8 0, .int .u8 0, .int .u8 0, .int .u8 0, .int .u8 0, .int .u8 0, .int .u8 0, .int .u8 0, .int .u8 0, .int .u8 0, .int .u8 0, .int .u8 0, .int .u8 0, .int .u8 0, .int .u8 0, .int .u8 0, .int .u8 0, .int .u8 0, .int .u8 0, .int .u8 0, .int .u8 0, .int .u8 0, .int .u8 0, .int .u8 0, .int .u8 0, .int .u8 0]
        have u := (Upd.refl w4.heap.size (w4.alloc (.cells #[.int .u8 0, .int .u8 0, .int .u8 0, .int .u8 0, .int .u8 0, .int .u8 0, .int .u8 0, .int .u8 0, .int .u8 0, .int .u8 0, .int .u8 0, .int .u8 0, .int .u8 0, .int .u8 0, .int .u8 0, .int .u8 0, .int .u8 0, .int .u8 0, .int .u8 0, .int .u8 0, .int .u8 0, .int .u8 0, .int .u8 0, .int .u8 0, .int .u8 0, .int .u8 0, .int .u8 0, .int .u8 0, .int .u8 0, .int .u8 0, .int .u8 0, .int .u8 0] 25))).row (cellsK .u8 tg)
        have hbel : Below w4.heap.size w4 ((w4.alloc (.cells #[.int .u8 0, .int .u8 0, .int .u8 0, .int .u8 0, .int .u8 0, .int .u8 0, .int .u8 0, .int .u8 0, .int .u8 0, .int .u8 0, .int .u8 0, .int .u8 0, .int .u8 0, .int .u8 0, .int .u8 0, .int .u8 0, .int .u8 0, .int .u8 0, .int .u8 0, .int .u8 0, .int .u8 0, .int .u8 0, .int .u8 0, .int .u8 0, .int .u8 0, .int .u8 0, .int .u8 0, .int .u8 0, .int .u8 0, .int .u8 0, .int .u8 0, .int .u8 0] 25)).setRow w4.heap.size (cellsK .u8 tg)) := Upd.below ((Below.refl _ w4).alloc (Nat.le_refl _) _) (Nat.le_refl _) u
        have o5 := o2.row (cellsK .u8 tg)
        have hsz : ((w4.alloc (.cells #[.int .u8 0, .int .u8 0, .int .u8 0, .int .u8 0, .int .u8 0, .int .u8 0, .int .u8 0, .int .u8 0, .int .u8 0, .int .u8 0, .int .u8 0, .int .u8 0, .int .u8 0, .int .u8 0, .int .u8 0, .int .u8 0, .int .u8 0, .int .u8 0, .int .u8 0, .int .u8 0, .int .u8 0, .int .u8 0, .int .u8 0, .int .u8 0, .int .u8 0, .int .u8 0, .int .u8 0, .int .u8 0, .int .u8 0, .int .u8 0, .int .u8 0, .int .u8 0] 25)).setRow w4.heap.size (cellsK .u8 tg)).heap.size = w4.heap.size + 1 := by simp [row_size]
        have h5 : Below w3.heap.size w3 ((w4.alloc (.cells #[.int .u8 0, .int .u8 0, .int .u8 0, .int .u8 0, .int .u8 0, .int .u8 0, .int .u8 0, .int .u8 0, .int .u8 0, .int .u8 0, .int .u8 0, .int .u8 0, .int .u8 0, .int .u8 0, .int .u8 0, .int .u8 0, .int .u8 0, .int .u8 0, .int .u8 0, .int .u8 0, .int .u8 0, .int .u8 0, .int .u8 0, .int .u8 0, .int .u8 0, .int .u8 0, .int .u8 0, .int .u8 0, .int .u8 0, .int .u8 0, .int .u8 0, .int .u8 0] 25)).setRow w4.heap.size (cellsK .u8 tg)) := h4.trans (hbel.mono h4.size)
        generalize (w4.alloc (.cells #[.int .u8 0, .int .u8 0, .int .u8 0, .int .u8 0, .int .u8 0, .int .u8 0, .int .u8 0, .int .u8 0, .int .u8 0, .int .u8 0, .int .u8 0, .int .u8 0, .int .u8 0, .int .u8 0, .int .u8 0, .int .u8 0, .int .u8 0, .int .u8 0, .int .u8 0, .int .u8 0, .int .u8 0, .int .u8 0, .int .u8 0, .int .u8 0, .int .u8 0, .int .u8 0, .int .u8 0, .int .u8 0, .int .u8 0, .int .u8 0, .int .u8 0, .int .u8 0] 25)).setRow w4.heap.size (cellsK .u8 tg) = W5 at *
        have hm := own_made W5 W5.heap.size (Nat.le_refl _)
        have b5 : Below W5.heap.size W5 (W5.alloc (.cells #[] 5)) := (Below.refl _ W5).alloc (Nat.le_refl _) _
        have hro5 : Rb W5 (some ⟨w4.heap.size, 0, none⟩) tg := fun _ => ⟨_, 0, rfl, o5.lt, fun i hi => by rw [Nat.zero_add]; exact o5.getK i hi⟩
        obtain ⟨v6, w6, hr6, ho6, hg6⟩ := own_app (W5.alloc (.cells #[] 5)) 22 hm (some ⟨w4.heap.size, 0, none⟩) 32 32 tg htl (hro5.below b5) (by omega) (by simp)
        rw [Nat.zero_add, List.nil_append] at ho6
        obtain ⟨A5, c5, rfl, _, _, _, hR6, hA6⟩ := own_rb ho6
        have b6 : Below W5.heap.size W5 w6 := b5.grown hg6 (by simp) (fun k e => by cases e; exact Nat.le_refl _)
        have h36 : Below w3.heap.size w3 w6 := h5.trans (b6.mono h5.size)
        have hoo := ownsRow_kept ho3 h36
        have hB6 : Below (B + 1) wc w6 := hB3.trans (h36.mono (Nat.le_trans hR.le hb3.size))
        have hle6 : B + 1 ≤ w6.heap.size := Nat.le_trans hR.le (Nat.le_trans hb3.size h36.size)
        have hlw : wr.heap.size ≤ W5.heap.size := Nat.le_trans hb3.size h5.size
        obtain ⟨b', o', e', hlt', hc'⟩ := hR6 (by omega)
        subst e'
        obtain ⟨v7, w7, hr7, ho7, hg7, hne7⟩ := own_app2 w6 22 hoo b' o' 32 c5 tg htl hR6 (by omega) (by omega) hle6
        obtain ⟨A7, c7, rfl, _, _, _, _, _⟩ := own_rb ho7
        have hnb : ∀ g, (Value.slice Ao q co).ownBlock = some g → g < wr.heap.size := fun g e => (hR.o1.lt g (by rw [HQ2]; exact e)).2
        have hfb : ∀ g, (Value.slice (some ⟨b', o', none⟩) 32 c5).ownBlock = some g → W5.heap.size ≤ g ∧ g < w6.heap.size := fun g e => ho6.lt g e
        refine ⟨o2, some ⟨b', o', none⟩, c5, w6, by rw [← hsz]; exact hr6, A7, c7, w7, hr7, ?_, ?_, ?_, hB6.grown hg7 hle6 (fun g e => (hoo.lt g e).1), Nat.le_trans hle6 hg7.size⟩
        · rw [List.length_append, HQ2, htl]; exact ho7
        · rw [htl]
          have := own_other ho6 hg7 (fun g e1 e2 => by have := hnb g e1; have := (hfb g e2).1; omega)
          refine ⟨this.1, ?_⟩
          rcases this.2 with h0 | ⟨g, cap, cur, e, hb1, h3⟩
          · exact .inl h0
          · exact .inr ⟨g, cap, cur, e, by have := Nat.le_trans hR.le hlw; omega, h3⟩
        · intro g e1 e2
          have hf := hfb g e2
          rcases hne7 g e1 with e | e
          · have := hnb g e; omega
          · omega
      have HSZ := Lib.hid (sizeH htl)
      have HTL := Lib.hid htl
      have HR1 := Lib.hid hr1
      have HR2 := Lib.hid hr2
      have HR3 := Lib.hid hr3
      have hsl := fun g w' => slice32all g w'
      clear hR hoc hcm hro hAo hrl hr1 hr2 hr3 hrt hb3 hbw hbw3 hB3 hO3 ho3 htl hi1 hlt1 hnt hl1 HQ2 hL
      go_wp2_with (first
        | (at_builtin; refine Lib.wpList_append_run _ rfl (.tmp 24) (.tmp 25) _ _ rfl _ _ rfl rfl _ _ HR1.out ?_)
        | (at_builtin; refine Lib.wpList_append_run _ rfl (.tmp 26) (.tmp 27) _ _ rfl _ _ rfl rfl _ _ HR2.out ?_)
        | (at_builtin; refine Lib.wpList_append_run _ rfl (.tmp 28) (.tmp 31) _ _ rfl _ _ rfl rfl _ _ HR3.out ?_)
        | (go_at_call 12; refine HTC.out.mono ?_; rintro e w4 ⟨rfl, hb4⟩; obtain ⟨o4, A5, c5, w6, hr6, A7, c7, w7, hr7, hT7⟩ := HF.out w4 hb4; have HO4 := Lib.hid o4; have HR6 := Lib.hid hr6; have HR7 := Lib.hid hr7; have HT7 := Lib.hid hT7; clear o4 hr6 hr7 hT7 hb4 HTC)
        | (refine wpList_store_row rfl 25 (.tmp 11) (.tmp 35) rfl _ _ rfl rfl _ _ HO4.out HSZ.out (by rw [cellsK_size, HTL.out]; rfl) (one_cellsK _ _) ?_)
        | (at_builtin; refine Lib.wpList_append_run _ rfl (.tmp 36) (.tmp 37) _ _ rfl _ _ rfl rfl _ _ HR6.out ?_)
        | (at_builtin; refine Lib.wpList_append_run _ rfl (.tmp 39) (.tmp 40) _ _ rfl _ _ rfl rfl _ _ HR7.out ?_))
      have HN := HT7.out
      rw [← HL.out.2, ← HL.out.1] at HN
      have HNX := Lib.hid HN
      clear HN HF
      go_roundw
      case rel => exact ⟨i1, hk8, .inr (by have := HKK.out; omega), by go_num, HNX.out⟩
      case measure => have := HKK.out.1; simp [intOf]; omega
    · have hd1 : decide ((q : Int) < (n : Int)) = false := by simp; omega
      have hnq : n ≤ q := by omega
      have HFIN : Hid (Rb wr Ao (Sh.expand s info n)) := by
        have hk2 : (n + 31) / 32 = k := by omega
        unfold Hid Sh.expand
        rw [hk2]
        exact hro.take n
      have HBL := Lib.hid hbw
      have hnc : (n : Int) ≤ (co : Int) := by omega
      have hzc : 0 < n → ∃ b, Ao = some ⟨b, 0, none⟩ := fun h => by
        obtain ⟨b, off, e, _, _⟩ := hro (by rw [hlk]; omega)
        rcases hAo with e2 | ⟨g, e2, _⟩
        · rw [e2] at e; cases e
        · exact ⟨g, e2⟩
      rcases hAo with rfl | ⟨g, rfl, _⟩
      · have hn0 : n = 0 := by
          rcases Nat.eq_zero_or_pos n with h | h
          · exact h
          · obtain ⟨b, e⟩ := hzc h; cases e
        subst hn0
        clear hR hoc hcm hro hlk hq hbw hzc hrl
        go_wp2
        go_ret
        exact ⟨_, ⟨_, rfl⟩, HFIN.out, by rw [HB.out]; exact HBL.out⟩
      · clear hR hoc hcm hro hlk hq hbw hzc hrl
        go_wp2
        go_ret
        exact ⟨_, ⟨_, rfl⟩, HFIN.out, by rw [HB.out]; exact HBL.out⟩
end Go.Proofs.YtanigdadhldceaaDoor
