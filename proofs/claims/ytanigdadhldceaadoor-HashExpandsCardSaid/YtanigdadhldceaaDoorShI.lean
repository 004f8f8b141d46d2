/- Layer 7's Expand, walked. -/
import Derived.WalkKit
import Derived.OwnWalk
import Derived.ArgAppend
import Derived.WalkSpells
import Derived.WalkLawsBesides
import Derived.BigQuiet
import Derived.Deep.QuietTactic
import Derived.Deep.DeepCutAuto
import Derived.Laws.BitsAllLaws
import Derived.Laws.CopyOwn
import Derived.StillTailTactics
import Derived.Deep.RegionHeld3
import Derived.Handy
import Derived.Lib.Hide
import Derived.IntWalk
import Derived.Test.YtanigdadhldceaaDoorRows
import Derived.Test.YtanigdadhldceaaDoorAid
import Derived.Test.YtanigdadhldceaaDoorPlainSh
import Derived.Test.YtanigdadhldceaaDoorBy
import Derived.Test.YtanigdadhldceaaDoorShB
import Derived.Test.YtanigdadhldceaaDoorShW
import Derived.Test.YtanigdadhldceaaDoorHeldT
import Derived.Test.YtanigdadhldceaaDoorShC
import Derived.Test.YtanigdadhldceaaDoorShE
import Derived.Test.YtanigdadhldceaaDoorShG
import Derived.Test.YtanigdadhldceaaDoorShH
namespace Go.Proofs.YtanigdadhldceaaDoor
open Go Go.RowKit
set_option linter.unusedVariables false
set_option linter.unusedSimpArgs false

theorem exK_len (s info : List Nat) : ∀ k, (Sh.exK s info k).2.length = 32 * k
  | 0 => rfl
  | k + 1 => by
    show ((Sh.exK s info k).2 ++ Sh.tag s _).length = _
    rw [List.length_append, exK_len s info k]
    show _ + (Sh.sum _).length = _
    rw [Sh.sum_len]; omega
theorem exK_lt (s info : List Nat) : ∀ k, (∀ x ∈ (Sh.exK s info k).1, x < 256) ∧ (∀ x ∈ (Sh.exK s info k).2, x < 256)
  | 0 => ⟨fun x h => (by cases h), fun x h => (by cases h)⟩
  | k + 1 => by
    refine ⟨fun x h => Sh.sum_lt _ x h, fun x h => ?_⟩
    rcases List.mem_append.1 h with h | h
    · exact (exK_lt s info k).2 x h
    · exact Sh.sum_lt _ x h
theorem exK_next (s info : List Nat) (k : Nat) : (Sh.exK s info (k + 1)).1 = Sh.tag s ((Sh.exK s info k).1 ++ info ++ [k + 1]) ∧ (Sh.exK s info (k + 1)).2 = (Sh.exK s info k).2 ++ Sh.tag s ((Sh.exK s info k).1 ++ info ++ [k + 1]) := ⟨rfl, rfl⟩
theorem tag_len (s t : List Nat) : (Sh.tag s t).length = 32 := Sh.sum_len _
theorem tag_lt (s t : List Nat) : ∀ x ∈ Sh.tag s t, x < 256 := Sh.sum_lt _
theorem own_ne {V : World} {base n b : Nat} {v : Value} {xs : List Value} {T : TypeId} {cs : Array Value} (h : V.ownsRow base 5 1 v n xs) (hO : Obj V b T cs) (hT : T ≠ 5) : some b ≠ v.ownBlock := by
  rcases h.2 with ⟨rfl, _⟩ | ⟨g, cap, cur, rfl, hb, hg, _⟩
  · intro e; cases e
  · intro e
    cases e
    have : V.heap[g]? = _ := hO
    rw [hg] at this
    cases this
    exact hT rfl
/-- The last tag. -/
def LastAt (V : World) (lv : Value) (l : List Nat) : Prop := (l = [] ∧ lv = .slice none 0 0) ∨ (l.length = 32 ∧ ∃ b, lv = .slice (some ⟨b, 0, none⟩) 32 32 ∧ Obj V b 25 (cellsK .u8 l))
theorem LastAt.rb {V : World} {lv : Value} {l : List Nat} (h : LastAt V lv l) : ∃ A L, lv = .slice A L L ∧ l.length = L ∧ Rb V A l ∧ L ≤ 32 := by
  rcases h with ⟨rfl, rfl⟩ | ⟨hl, b, rfl, hO⟩
  · exact ⟨none, 0, rfl, rfl, fun h => (by cases h), by omega⟩
  · exact ⟨_, _, rfl, hl, fun _ => ⟨b, 0, rfl, hO.lt, fun i hi => by rw [Nat.zero_add]; exact hO.getK i hi⟩, by omega⟩
theorem LastAt.kept {V V' : World} {lv : Value} {l : List Nat} (h : LastAt V lv l) (hb : Below V.heap.size V V') : LastAt V' lv l := by
  rcases h with h | ⟨hl, b, e, hO⟩
  · exact .inl h
  · exact .inr ⟨hl, b, e, hO.kept hb⟩
theorem ownsRow_kept {V V' : World} {base n : Nat} {v : Value} {xs : List Value} (h : V.ownsRow base 5 1 v n xs) (hb : Below V.heap.size V V') : V'.ownsRow base 5 1 v n xs := by
  refine ⟨h.1, ?_⟩
  rcases h.2 with h0 | ⟨g, cap, cur, e, hb1, hg, h3⟩
  · exact .inl h0
  · exact .inr ⟨g, cap, cur, e, hb1, (hb.block g (Array.getElem?_eq_some_iff.1 hg).1).trans hg, h3⟩
/-- Expand's blocks. -/
structure ExP (w0 : World) (B : Nat) (s : List Nat) (outv lastv : Value) (o l : List Nat) (V : World) : Prop where
  sO : Obj V B 25 (cellsK .u8 s)
  out : V.ownsRow (B + 1) 5 1 outv o.length (o.map b8)
  last : LastAt V lastv l
  bel : Below B w0 V
theorem ExP.kept {w0 V V' : World} {B : Nat} {s o l : List Nat} {outv lastv : Value} (h : ExP w0 B s outv lastv o l V) (hb : Below V.heap.size V V') : ExP w0 B s outv lastv o l V' :=
  ⟨h.sO.kept hb, ownsRow_kept h.out hb, h.last.kept hb, h.bel.trans (hb.mono (Nat.le_of_lt h.sO.lt))⟩
theorem ExP.drewN {w0 V : World} {B : Nat} {s o l : List Nat} {outv lastv : Value} (h : ExP w0 B s outv lastv o l V) (n : Nat) : ExP w0 B s outv lastv o l (V.drewN n) :=
  ⟨h.sO, h.out, h.last, ⟨h.bel.os, h.bel.tape, h.bel.output, h.bel.size, h.bel.block⟩⟩
theorem ExP.alloc {w0 V : World} {B : Nat} {s o l : List Nat} {outv lastv : Value} (h : ExP w0 B s outv lastv o l V) (ob : _root_.Go.Obj) : ExP w0 B s outv lastv o l (V.alloc ob) :=
  h.kept ((Below.refl _ V).alloc (Nat.le_refl _) _)
theorem ExP.new {w0 V : World} {B : Nat} {s o l : List Nat} {outv lastv : Value} (h : ExP w0 B s outv lastv o l V) (T : TypeId) (cs : Array Value) : Obj (V.alloc (.cells cs T)) V.heap.size T cs := Obj.new V T cs
/-- What Concat joins. -/
def Lx (l info : List Nat) (i : Nat) : Nat → List Nat
  | 0 => l
  | 1 => info
  | _ => [i]
theorem Lx_cat (l info : List Nat) (i : Nat) : catK (Lx l info i) 3 = l ++ info ++ [i] := by simp [catK, Lx]
theorem exp_cat {w0 V : World} {B b4 b5 m d i : Nat} {s o l info : List Nat} {outv lastv : Value} {A2 : Option Addr} (h : ExP w0 B s outv lastv o l V) (hB : w0.heap.size = B) (hi : Rb w0 A2 info) (him : info.length = m) (hm : m ≤ 80000)
    (h4 : Obj V b4 5 #[.int .u8 (i : Int)]) (h5 : Obj V b5 22 #[lastv, .slice A2 m d, .slice (some ⟨b4, 0, none⟩) 1 1]) :
    Calls Tryd.prog 19 #[.slice (some ⟨b5, 0, none⟩) 3 3] V fun e w' => ∃ A6 n6 c6, e = .returned (.slice A6 n6 c6) ∧ (l ++ info ++ [i]).length = n6 ∧ Rb w' A6 (l ++ info ++ [i]) ∧ n6 ≤ 90000 ∧ Below V.heap.size V w' := by
  obtain ⟨A, L, rfl, hl, hr, hL⟩ := h.last.rb
  have hlen : (catK (Lx l info i) 3).length = L + m + 1 := by rw [Lx_cat, List.length_append, List.length_append, hl, him]; rfl
  refine (concat_any b5 3 (fun j => match j with | 0 => A | 1 => A2 | _ => some ⟨b4, 0, none⟩) (fun j => match j with | 0 => L | 1 => m | _ => 1) (fun j => match j with | 0 => L | 1 => d | _ => 1) (Lx l info i) V (by omega) h5.lt ?_ ?_ (by rw [hlen]; omega)).mono ?_
  · intro j hj
    rw [h5.cell j]
    have : j = 0 ∨ j = 1 ∨ j = 2 := by omega
    rcases this with rfl | rfl | rfl <;> rfl
  · intro j hj
    have : j = 0 ∨ j = 1 ∨ j = 2 := by omega
    rcases this with rfl | rfl | rfl
    · exact ⟨hl, hr⟩
    · exact ⟨him, hi.below (hB ▸ h.bel)⟩
    · exact ⟨rfl, fun _ => ⟨b4, 0, rfl, h4.lt, fun q hq => by
        obtain rfl : q = 0 := by simp [Lx] at hq; omega
        exact h4.cell 0⟩⟩
  · rintro e w' ⟨v, rfl, hown, hbel⟩
    rw [Lx_cat] at hown hlen
    obtain ⟨A6, c6, rfl, hl6, _, _, hr6, _⟩ := own_rb hown
    exact ⟨A6, _, c6, rfl, hl6, hr6, by rw [hlen]; omega, hbel⟩
/-- Behind a round's tag. -/
def ExC (w0 : World) (B : Nat) (s : List Nat) (outv lastv : Value) (o l t : List Nat) (p : Value) (V : World) : Prop :=
  ∃ b, p = .pointer (some ⟨b, 0, none⟩) ∧ Obj V b 25 (cellsK .u8 t) ∧ ExP w0 B s outv lastv o l V
theorem exp_end {w0 V wr : World} {B b : Nat} {s o l t : List Nat} {outv lastv : Value} {cs : Array Value} (h : ExP w0 B s outv lastv o l V) (h8 : Obj V b 25 cs) (hb : B < b) (hw : LastAt wr lastv l) (hbr : wr.heap.size ≤ b) (hs : w0.heap.size = B) : ExC w0 B s outv lastv o l t (.pointer (some ⟨b, 0, none⟩)) (V.setRow b (cellsK .u8 t)) := by
  have u := (Upd.refl b V).row (cellsK .u8 t)
  have hl := h.sO.lt
  refine ⟨b, rfl, h8.row _, h.sO.upd u (by omega), ?_, ?_, ⟨u.os.trans h.bel.os, u.tape.trans h.bel.tape, u.output.trans h.bel.output, Nat.le_trans h.bel.size u.size, fun k hk => (u.block k (by omega) (by omega)).trans (h.bel.block k hk)⟩⟩
  · have hn := own_ne h.out h8 (by decide)
    refine ⟨h.out.1, ?_⟩
    rcases h.out.2 with h0 | ⟨g, cap, cur, e, hb1, hg, h3⟩
    · exact .inl h0
    · exact .inr ⟨g, cap, cur, e, hb1, (u.block g (Array.getElem?_eq_some_iff.1 hg).1 (fun e' => hn (by rw [e, e']; rfl))).trans hg, h3⟩
  · rcases h.last with h0 | ⟨hl, b', e, hO⟩
    · exact .inl h0
    · refine .inr ⟨hl, b', e, hO.upd u (fun e' => ?_)⟩
      rcases hw with ⟨e0, _⟩ | ⟨_, b2, e2, hO2⟩
      · rw [e0] at hl; cases hl
      · rw [e] at e2; cases e2
        have := hO2.lt; omega
theorem size_drew (V : World) : V.drew.heap.size = V.heap.size := rfl

set_option maxRecDepth 100000 in
set_option maxHeartbeats 400000 in
theorem expand_no (s : List Nat) (A : Option Addr) (m d : Nat) (n : Int) (w : World) (hn : n < 0 ∨ 255 < n) :
    Calls Tryd.prog 15 #[.agg (cellsK .u8 s), .slice A m d, .int .i64 n] w fun e w' => e = .returned (.slice none 0 0) ∧ Below w.heap.size w w' := by
  rcases hn with h | h
  · go_enter Tryd.func15, Tryd.ntmps15
    go_wp2
    go_ret
    exact ⟨rfl, (Below.refl _ _).alloc (Nat.le_refl _) _⟩
  · have h' : ¬ n < 0 := by omega
    go_enter Tryd.func15, Tryd.ntmps15
    go_wp2
    go_ret
    exact ⟨rfl, (Below.refl _ _).alloc (Nat.le_refl _) _⟩

set_option maxRecDepth 100000 in
set_option maxHeartbeats 16000000 in
theorem expand_any (s info : List Nat) (A2 : Option Addr) (m d n : Nat) (w : World) (ht : Tabs w) (hs : s.length = 32) (hs2 : ∀ x ∈ s, x < 256) (hA2 : Rb w A2 info) (hl2 : info.length = m) (hb2 : ∀ x ∈ info, x < 256) (hm : m ≤ 80000) (hn : n ≤ 255) :
    Calls Tryd.prog 15 #[.agg (cellsK .u8 s), .slice A2 m d, .int .i64 (n : Int)] w fun e w' => ∃ A, e = .returned (.slice A n n) ∧ Rb w' A (Sh.expand s info n) ∧ Below w.heap.size w w' := by
  obtain ⟨B, hB⟩ : ∃ B, w.heap.size = B := ⟨_, rfl⟩
  have HB := Lib.hid hB
  have HT := Lib.hid ht
  have HS := Lib.hid hs
  have HS2 := Lib.hid hs2
  have HA2 := Lib.hid hA2
  have HL2 := Lib.hid hl2
  have HBY2 := Lib.hid hb2
  have hni : (n : Int) ≤ 255 := by omega
  have HE0 : Hid (ExP w B s (.slice none 0 0) (.slice none 0 0) [] [] (w.alloc (.cells (cellsK .u8 s) 25))) :=
    ⟨hB ▸ Obj.new w _ _, World.ownsRow_nil _ _ _ _, .inl ⟨rfl, rfl⟩, hB ▸ (Below.refl _ w).alloc (Nat.le_refl _) _⟩
  clear ht hs hs2 hA2 hl2 hb2 hB
  go_enter Tryd.func15, Tryd.ntmps15
  go_wp2
  rw [HB.out]
  go_loopw [7, 8, 9] (fun ov lv i wr => ∃ k : Nat, k ≤ 8 ∧ (k = 0 ∨ 32 * (k - 1) < n) ∧ i = .int .u8 ((k + 1 : Nat) : Int) ∧ ExP w B s ov lv (Sh.exK s info k).2 (Sh.exK s info k).1 wr) (fun _ _ i _ => 9 - (intOf i).toNat)
  case atStart => exact ⟨0, by omega, .inl rfl, rfl, HE0.out⟩
  case round =>
    clear HE0
    obtain ⟨k, hk, hkn, rfl, hR⟩ := hrel
    obtain ⟨Ao, co, rfl, hol, hoc, hcm, hro, hAo⟩ := own_rb hR.out
    have hlk := exK_len s info k
    obtain ⟨q, hq⟩ : ∃ q, 32 * k = q := ⟨_, rfl⟩
    obtain ⟨lA, lL, rfl, hll, hlr, hl32⟩ := hR.last.rb
    rw [hlk, hq] at hR
    have HR := Lib.hid hR
    rw [hlk, hq] at hoc ⊢
    clear hll hlr
    have hco : co ≤ 9223372036854775807 := by simp only [maxLen] at hcm; omega
    by_cases hlt : q < n
    · have hd1 : decide ((q : Int) < (n : Int)) = true := by simp; omega
      have HQ := Lib.hid hq
      have hBw := hR.sO.lt
      have HLW := Lib.hid hR.last
      obtain ⟨i1, hi1⟩ : ∃ i1, k + 1 = i1 := ⟨_, rfl⟩
      have hk8 : i1 ≤ 8 := by omega
      have HL := Lib.hid (exK_next s info k)
      have hlt1 := exK_lt s info k
      rw [hi1] at HL ⊢
      have HI1 := Lib.hid hi1
      have HQ2 : Hid ((Sh.exK s info k).2.length = q) := by unfold Hid; rw [exK_len]; exact hq
      have HO2 := Lib.hid hlt1
      clear hR hol hcm hro hAo hlk hq hi1 hlt1
      generalize (Sh.exK s info k).2 = o at *
      generalize (Sh.exK s info k).1 = l at *
      have HTC : Hid (∀ (W : World) A6 n6 c6, ExP w B s (.slice Ao q co) (.slice lA lL lL) o l W → (l ++ info ++ [i1]).length = n6 → Rb W A6 (l ++ info ++ [i1]) → n6 ≤ 90000 → Calls Tryd.prog 11 #[.slice (some ⟨B, 0, none⟩) 32 32, .slice A6 n6 c6] W fun e w' => e = .returned (.agg (cellsK .u8 (Sh.tag s (l ++ info ++ [i1])))) ∧ Below W.heap.size W w') := fun W A6 n6 c6 h1 h2 h3 h4 =>
        tag_any (some ⟨B, 0, none⟩) A6 32 32 n6 c6 s _ W (HT.out.below (HB.out.symm ▸ h1.bel)) (fun _ => ⟨B, 0, rfl, h1.sO.lt, fun j hj => by rw [Nat.zero_add]; exact h1.sO.getK j hj⟩) HS.out HS2.out (by omega) ⟨Nat.le_refl _, by unfold maxLen; omega⟩ h3 h2 (fun x hx => by
          rcases List.mem_append.1 hx with hx | hx
          · rcases List.mem_append.1 hx with hx | hx
            · exact HO2.out.1 x hx
            · exact HBY2.out x hx
          · rw [List.mem_singleton.1 hx]; omega) h4
      have htl := tag_len s (l ++ info ++ [i1])
      generalize hTG : Sh.tag s (l ++ info ++ [i1]) = tg at *
      have HTG := Lib.hid hTG
      have HSZ := Lib.hid (sizeH htl)
      have HTL := Lib.hid htl
      clear hTG htl
      have hsl := fun g w' => slice32all g w'
      go_upto_region 7 with fail
      go_cut [10] (fun p wx => ExC w B s (.slice Ao q co) (.slice lA lL lL) o l tg p wx)
      case first =>
        have HE0 : Hid (ExP w B s (.slice Ao q co) (.slice lA lL lL) o l wr.drew) := HR.out.drewN 1
        clear HR
        go_wp2_with fail
        refine wp_region_held_drew (S := (fun _ => True)) (by kernel_rfl) trivial (fun hHeld => ?_)
        refine wpAnyH_take (i := 0) (oi := ?_) (v := ?_) ?_ ?_ ?_ ?_ ?_ ?_ (by assumption) ?_
        rotate_left 2
        · simp only [List.getElem?_toArray, List.getElem?_cons_zero, List.getElem?_cons_succ]
          rfl
        · kernel_rfl
        · kernel_rfl
        · kernel_rfl
        · exact fun _ _ _ h => h
        · refine Or.inl ⟨by rfl, ?_⟩
          intro w hSw
          (try dsimp only at hSw)
          go_simp
          all_goals with_reducible rfl
        simp only [Act.put, List.setIfInBounds_toArray, List.set_cons_zero, List.set_cons_succ]
        refine wpAnyH_take (i := 1) (oi := ?_) (v := ?_) ?_ ?_ ?_ ?_ ?_ ?_ (by assumption) ?_
        rotate_left 2
        · simp only [List.getElem?_toArray, List.getElem?_cons_zero, List.getElem?_cons_succ]
          rfl
        · kernel_rfl
        · kernel_rfl
        · kernel_rfl
        · exact fun _ _ _ h => h
        · refine Or.inl ⟨by rfl, ?_⟩
          intro w hSw
          (try dsimp only at hSw)
          go_simp
          all_goals with_reducible rfl
        simp only [Act.put, List.setIfInBounds_toArray, List.set_cons_zero, List.set_cons_succ]
        refine wpAnyH_take (i := 2) (oi := ?_) (v := ?_) ?_ ?_ ?_ ?_ ?_ ?_ (by assumption) ?_
        rotate_left 2
        · simp only [List.getElem?_toArray, List.getElem?_cons_zero, List.getElem?_cons_succ]
          rfl
        · kernel_rfl
        · kernel_rfl
        · kernel_rfl
        · exact fun _ _ _ h => h
        · refine Or.inl ⟨by rfl, ?_⟩
          intro w hSw
          (try dsimp only at hSw)
          go_simp
          all_goals with_reducible rfl
        simp only [Act.put, List.setIfInBounds_toArray, List.set_cons_zero, List.set_cons_succ]
        refine wpAnyH_take (i := 3) (oi := ?_) (v := ?_) ?_ ?_ ?_ ?_ ?_ ?_ (by assumption) ?_
        rotate_left 2
        · simp only [List.getElem?_toArray, List.getElem?_cons_zero, List.getElem?_cons_succ]
          rfl
        · kernel_rfl
        · kernel_rfl
        · kernel_rfl
        · exact fun _ _ _ h => h
        · refine Or.inl ⟨by rfl, ?_⟩
          intro w hSw
          (try dsimp only at hSw)
          go_simp
          all_goals with_reducible rfl
        simp only [Act.put, List.setIfInBounds_toArray, List.set_cons_zero, List.set_cons_succ]
        clear hHeld
        refine wpAnyH_ready (rs := [4, 8]) (by kernel_rfl) (by simp) ?_
        refine AllReadyH.cons (o := ?_) ?_ (fun KK hKK => ?_) ?_
        rotate_left
        · simp only [List.getElem?_toArray, List.getElem?_cons_zero, List.getElem?_cons_succ]
          rfl
        · go_simp
          refine hKK.out _ _ ?_ (fun hh => ?_)
          · trivial
          clear hKK KK hh
          try simp only [Act.put, List.setIfInBounds_toArray, List.set_cons_zero, List.set_cons_succ]
          have h1 := HE0.out.new 5 #[.int .u8 (i1 : Int)]
          (try simp only [World.size_alloc, size_drew] at h1)
          have H2 := Lib.hid h1
          have HE3 := Lib.hid (HE0.out.alloc (.cells #[.int .u8 (i1 : Int)] 5))
          clear h1 HE0
          refine wpAnyH_ready (rs := [5, 8]) (by kernel_rfl) (by simp) ?_
          refine AllReadyH.cons (o := ?_) ?_ (fun KK hKK => ?_) ?_
          rotate_left
          · simp only [List.getElem?_toArray, List.getElem?_cons_zero, List.getElem?_cons_succ]
            rfl
          · go_simp
            refine hKK.out _ _ ?_ (fun hh => ?_)
            · trivial
            clear hKK KK hh
            try simp only [Act.put, List.setIfInBounds_toArray, List.set_cons_zero, List.set_cons_succ]
            have h4 := HE3.out.new 22 #[.slice lA lL lL, .slice A2 m d, .slice (some ⟨wr.heap.size, 0, none⟩) 1 1]
            (try simp only [World.size_alloc, size_drew] at h4)
            have H5 := Lib.hid h4
            have HE6 := Lib.hid (HE3.out.alloc (.cells #[.slice lA lL lL, .slice A2 m d, .slice (some ⟨wr.heap.size, 0, none⟩) 1 1] 22))
            have H7 := Lib.hid (H2.out.alloc (.cells #[.slice lA lL lL, .slice A2 m d, .slice (some ⟨wr.heap.size, 0, none⟩) 1 1] 22))
            clear h4 HE3 H2
            refine wpAnyH_ready (rs := [6, 8]) (by kernel_rfl) (by simp) ?_
            refine AllReadyH.cons (o := ?_) ?_ (fun KK hKK => ?_) ?_
            rotate_left
            · simp only [List.getElem?_toArray, List.getElem?_cons_zero, List.getElem?_cons_succ]
              rfl
            · go_simp
              refine (exp_cat HE6.out HB.out HA2.out HL2.out hm H7.out H5.out).mono ?_
              rintro e w6 ⟨A6, n6, c6, rfl, hl6, hr6, hn6, hb6⟩
              try go_wp2_with fail
              refine hKK.out _ _ ?_ (fun hh => ?_)
              · trivial
              clear hKK KK hh
              try simp only [Act.put, List.setIfInBounds_toArray, List.set_cons_zero, List.set_cons_succ]
              have HE8 := Lib.hid (HE6.out.kept hb6)
              have HR9 := Lib.hid hr6
              have HL10 := Lib.hid hl6
              have hs6 := hb6.size
              simp only [World.size_alloc, size_drew] at hs6
              clear hb6 hr6 hl6 HE6 H7 H5
              refine wpAnyH_ready (rs := [7, 8]) (by kernel_rfl) (by simp) ?_
              refine AllReadyH.cons (o := ?_) ?_ (fun KK hKK => ?_) ?_
              rotate_left
              · simp only [List.getElem?_toArray, List.getElem?_cons_zero, List.getElem?_cons_succ]
                rfl
              · go_simp
                refine (HTC.out _ A6 n6 c6 HE8.out HL10.out HR9.out hn6).mono ?_
                rintro e w7 ⟨rfl, hb7⟩
                try go_wp2_with fail
                refine hKK.out _ _ ?_ (fun hh => ?_)
                · trivial
                clear hKK KK hh
                try simp only [Act.put, List.setIfInBounds_toArray, List.set_cons_zero, List.set_cons_succ]
                have HE11 := Lib.hid (HE8.out.kept hb7)
                have hs7 := hb7.size
                (try simp only [World.size_alloc] at hs7)
                clear hb7 HE8 HR9
                refine wpAnyH_ready (rs := [8]) (by kernel_rfl) (by simp) ?_
                refine AllReadyH.cons (o := ?_) ?_ (fun KK hKK => ?_) AllReadyH.nil
                rotate_left
                · simp only [List.getElem?_toArray, List.getElem?_cons_zero, List.getElem?_cons_succ]
                  rfl
                go_simp
                refine hKK.out _ _ ?_ (fun hh => ?_)
                · trivial
                clear hKK KK hh
                try simp only [Act.put, List.setIfInBounds_toArray, List.set_cons_zero, List.set_cons_succ]
                have h12 := HE11.out.new 25 #[.int .u8 0, .int .u8 0, .int .u8 0, .int .u8 0, .int .u8 0, .int .u8 0, .int .u8 0, .int .u8 0, .int .u8 0, .int .u8 0, .int .u8 0, .int .u8 0, .int .u8 0, .int .u8 0, .int .u8 0, .int .u8 0, .int .u8 0, .int .u8 0, .int .u8 0, .int .u8 0, .int .u8 0, .int .u8 0, .int .u8 0, .int .u8 0, .int .u8 0, .int .u8 0, .int .u8 0, .int .u8 0, .int .u8 0, .int .u8 0, .int .u8 0, .int .u8 0]
                (try simp only [World.size_alloc, size_drew] at h12)
                have H13 := Lib.hid h12
                have HE14 := Lib.hid (HE11.out.alloc (.cells #[.int .u8 0, .int .u8 0, .int .u8 0, .int .u8 0, .int .u8 0, .int .u8 0, .int .u8 0, .int .u8 0, .int .u8 0, .int .u8 0, .int .u8 0, .int .u8 0, .int .u8 0, .int .u8 0, .int .u8 0, .int .u8 0, .int .u8 0, .int .u8 0, .int .u8 0, .int .u8 0, .int .u8 0, .int .u8 0, .int .u8 0, .int .u8 0, .int .u8 0, .int .u8 0, .int .u8 0, .int .u8 0, .int .u8 0, .int .u8 0, .int .u8 0, .int .u8 0] 25))
                clear h12 HE11
                refine wpAnyH_ready (rs := [9]) (by kernel_rfl) (by simp) ?_
                refine AllReadyH.cons (o := ?_) ?_ (fun KK hKK => ?_) AllReadyH.nil
                rotate_left
                · simp only [List.getElem?_toArray, List.getElem?_cons_zero, List.getElem?_cons_succ]
                  rfl
                rw [if_pos (by rfl)]
                refine wp_store_row 25 (.tmp 10) (.tmp 30) rfl _ _ rfl rfl _ _ H13.out HSZ.out (by rw [cellsK_size, HTL.out]; rfl) (one_cellsK _ _) ?_
                refine hKK.out _ _ ?_ (fun hh => ?_)
                · trivial
                clear hKK KK hh
                try simp only [Act.put, List.setIfInBounds_toArray, List.set_cons_zero, List.set_cons_succ]
                refine wpAnyH_done (by kernel_rfl) ?_ _
                go_wp2
                go_meet
                exact exp_end HE14.out H13.out (by omega) HLW.out (by omega) HB.out
              refine AllReadyH.cons (o := ?_) ?_ (fun KK hKK => ?_) AllReadyH.nil
              rotate_left
              · simp only [List.getElem?_toArray, List.getElem?_cons_zero, List.getElem?_cons_succ]
                rfl
              go_simp
              refine hKK.out _ _ ?_ (fun hh => ?_)
              · trivial
              clear hKK KK hh
              try simp only [Act.put, List.setIfInBounds_toArray, List.set_cons_zero, List.set_cons_succ]
              have h15 := HE8.out.new 25 #[.int .u8 0, .int .u8 0, .int .u8 0, .int .u8 0, .int .u8 0, .int .u8 0, .int .u8 0, .int .u8 0, .int .u8 0, .int .u8 0, .int .u8 0, .int .u8 0, .int .u8 0, .int .u8 0, .int .u8 0, .int .u8 0, .int .u8 0, .int .u8 0, .int .u8 0, .int .u8 0, .int .u8 0, .int .u8 0, .int .u8 0, .int .u8 0, .int .u8 0, .int .u8 0, .int .u8 0, .int .u8 0, .int .u8 0, .int .u8 0, .int .u8 0, .int .u8 0]
              (try simp only [World.size_alloc, size_drew] at h15)
              have H16 := Lib.hid h15
              have HE17 := Lib.hid (HE8.out.alloc (.cells #[.int .u8 0, .int .u8 0, .int .u8 0, .int .u8 0, .int .u8 0, .int .u8 0, .int .u8 0, .int .u8 0, .int .u8 0, .int .u8 0, .int .u8 0, .int .u8 0, .int .u8 0, .int .u8 0, .int .u8 0, .int .u8 0, .int .u8 0, .int .u8 0, .int .u8 0, .int .u8 0, .int .u8 0, .int .u8 0, .int .u8 0, .int .u8 0, .int .u8 0, .int .u8 0, .int .u8 0, .int .u8 0, .int .u8 0, .int .u8 0, .int .u8 0, .int .u8 0] 25))
              have HR18 := Lib.hid (HR9.out.below ((Below.refl _ _).alloc (Nat.le_refl _) (.cells #[.int .u8 0, .int .u8 0, .int .u8 0, .int .u8 0, .int .u8 0, .int .u8 0, .int .u8 0, .int .u8 0, .int .u8 0, .int .u8 0, .int .u8 0, .int .u8 0, .int .u8 0, .int .u8 0, .int .u8 0, .int .u8 0, .int .u8 0, .int .u8 0, .int .u8 0, .int .u8 0, .int .u8 0, .int .u8 0, .int .u8 0, .int .u8 0, .int .u8 0, .int .u8 0, .int .u8 0, .int .u8 0, .int .u8 0, .int .u8 0, .int .u8 0, .int .u8 0] 25)))
              clear h15 HE8 HR9
              refine wpAnyH_ready (rs := [7]) (by kernel_rfl) (by simp) ?_
              refine AllReadyH.cons (o := ?_) ?_ (fun KK hKK => ?_) AllReadyH.nil
              rotate_left
              · simp only [List.getElem?_toArray, List.getElem?_cons_zero, List.getElem?_cons_succ]
                rfl
              go_simp
              refine (HTC.out _ A6 n6 c6 HE17.out HL10.out HR18.out hn6).mono ?_
              rintro e w7 ⟨rfl, hb7⟩
              try go_wp2_with fail
              refine hKK.out _ _ ?_ (fun hh => ?_)
              · trivial
              clear hKK KK hh
              try simp only [Act.put, List.setIfInBounds_toArray, List.set_cons_zero, List.set_cons_succ]
              have HE19 := Lib.hid (HE17.out.kept hb7)
              have hs7 := hb7.size
              (try simp only [World.size_alloc] at hs7)
              have H20 := Lib.hid (H16.out.kept hb7)
              clear hb7 HE17 HR18 H16
              refine wpAnyH_ready (rs := [9]) (by kernel_rfl) (by simp) ?_
              refine AllReadyH.cons (o := ?_) ?_ (fun KK hKK => ?_) AllReadyH.nil
              rotate_left
              · simp only [List.getElem?_toArray, List.getElem?_cons_zero, List.getElem?_cons_succ]
                rfl
              rw [if_pos (by rfl)]
              refine wp_store_row 25 (.tmp 10) (.tmp 30) rfl _ _ rfl rfl _ _ H20.out HSZ.out (by rw [cellsK_size, HTL.out]; rfl) (one_cellsK _ _) ?_
              refine hKK.out _ _ ?_ (fun hh => ?_)
              · trivial
              clear hKK KK hh
              try simp only [Act.put, List.setIfInBounds_toArray, List.set_cons_zero, List.set_cons_succ]
              refine wpAnyH_done (by kernel_rfl) ?_ _
              go_wp2
              go_meet
              exact exp_end HE19.out H20.out (by omega) HLW.out (by omega) HB.out
            refine AllReadyH.cons (o := ?_) ?_ (fun KK hKK => ?_) AllReadyH.nil
            rotate_left
            · simp only [List.getElem?_toArray, List.getElem?_cons_zero, List.getElem?_cons_succ]
              rfl
            go_simp
            refine hKK.out _ _ ?_ (fun hh => ?_)
            · trivial
            clear hKK KK hh
            try simp only [Act.put, List.setIfInBounds_toArray, List.set_cons_zero, List.set_cons_succ]
            have h21 := HE6.out.new 25 #[.int .u8 0, .int .u8 0, .int .u8 0, .int .u8 0, .int .u8 0, .int .u8 0, .int .u8 0, .int .u8 0, .int .u8 0, .int .u8 0, .int .u8 0, .int .u8 0, .int .u8 0, .int .u8 0, .int .u8 0, .int .u8 0, .int .u8 0, .int .u8 0, .int .u8 0, .int .u8 0, .int .u8 0, .int .u8 0, .int .u8 0, .int .u8 0, .int .u8 0, .int .u8 0, .int .u8 0, .int .u8 0, .int .u8 0, .int .u8 0, .int .u8 0, .int .u8 0]
            (try simp only [World.size_alloc, size_drew] at h21)
            have H22 := Lib.hid h21
            have HE23 := Lib.hid (HE6.out.alloc (.cells #[.int .u8 0, .int .u8 0, .int .u8 0, .int .u8 0, .int .u8 0, .int .u8 0, .int .u8 0, .int .u8 0, .int .u8 0, .int .u8 0, .int .u8 0, .int .u8 0, .int .u8 0, .int .u8 0, .int .u8 0, .int .u8 0, .int .u8 0, .int .u8 0, .int .u8 0, .int .u8 0, .int .u8 0, .int .u8 0, .int .u8 0, .int .u8 0, .int .u8 0, .int .u8 0, .int .u8 0, .int .u8 0, .int .u8 0, .int .u8 0, .int .u8 0, .int .u8 0] 25))
            have H24 := Lib.hid (H7.out.alloc (.cells #[.int .u8 0, .int .u8 0, .int .u8 0, .int .u8 0, .int .u8 0, .int .u8 0, .int .u8 0, .int .u8 0, .int .u8 0, .int .u8 0, .int .u8 0, .int .u8 0, .int .u8 0, .int .u8 0, .int .u8 0, .int .u8 0, .int .u8 0, .int .u8 0, .int .u8 0, .int .u8 0, .int .u8 0, .int .u8 0, .int .u8 0, .int .u8 0, .int .u8 0, .int .u8 0, .int .u8 0, .int .u8 0, .int .u8 0, .int .u8 0, .int .u8 0, .int .u8 0] 25))
            have H25 := Lib.hid (H5.out.alloc (.cells #[.int .u8 0, .int .u8 0, .int .u8 0, .int .u8 0, .int .u8 0, .int .u8 0, .int .u8 0, .int .u8 0, .int .u8 0, .int .u8 0, .int .u8 0, .int .u8 0, .int .u8 0, .int .u8 0, .int .u8 0, .int .u8 0, .int .u8 0, .int .u8 0, .int .u8 0, .int .u8 0, .int .u8 0, .int .u8 0, .int .u8 0, .int .u8 0, .int .u8 0, .int .u8 0, .int .u8 0, .int .u8 0, .int .u8 0, .int .u8 0, .int .u8 0, .int .u8 0] 25))
            clear h21 HE6 H7 H5
            refine wpAnyH_ready (rs := [6]) (by kernel_rfl) (by simp) ?_
            refine AllReadyH.cons (o := ?_) ?_ (fun KK hKK => ?_) AllReadyH.nil
            rotate_left
            · simp only [List.getElem?_toArray, List.getElem?_cons_zero, List.getElem?_cons_succ]
              rfl
            go_simp
            refine (exp_cat HE23.out HB.out HA2.out HL2.out hm H24.out H25.out).mono ?_
            rintro e w6 ⟨A6, n6, c6, rfl, hl6, hr6, hn6, hb6⟩
            try go_wp2_with fail
            refine hKK.out _ _ ?_ (fun hh => ?_)
            · trivial
            clear hKK KK hh
            try simp only [Act.put, List.setIfInBounds_toArray, List.set_cons_zero, List.set_cons_succ]
            have HE26 := Lib.hid (HE23.out.kept hb6)
            have HR27 := Lib.hid hr6
            have HL28 := Lib.hid hl6
            have hs6 := hb6.size
            simp only [World.size_alloc, size_drew] at hs6
            have H29 := Lib.hid (H22.out.kept hb6)
            clear hb6 hr6 hl6 HE23 H24 H25 H22
            refine wpAnyH_ready (rs := [7]) (by kernel_rfl) (by simp) ?_
            refine AllReadyH.cons (o := ?_) ?_ (fun KK hKK => ?_) AllReadyH.nil
            rotate_left
            · simp only [List.getElem?_toArray, List.getElem?_cons_zero, List.getElem?_cons_succ]
              rfl
            go_simp
            refine (HTC.out _ A6 n6 c6 HE26.out HL28.out HR27.out hn6).mono ?_
            rintro e w7 ⟨rfl, hb7⟩
            try go_wp2_with fail
            refine hKK.out _ _ ?_ (fun hh => ?_)
            · trivial
            clear hKK KK hh
            try simp only [Act.put, List.setIfInBounds_toArray, List.set_cons_zero, List.set_cons_succ]
            have HE30 := Lib.hid (HE26.out.kept hb7)
            have hs7 := hb7.size
            (try simp only [World.size_alloc] at hs7)
            have H31 := Lib.hid (H29.out.kept hb7)
            clear hb7 HE26 HR27 H29
            refine wpAnyH_ready (rs := [9]) (by kernel_rfl) (by simp) ?_
            refine AllReadyH.cons (o := ?_) ?_ (fun KK hKK => ?_) AllReadyH.nil
            rotate_left
            · simp only [List.getElem?_toArray, List.getElem?_cons_zero, List.getElem?_cons_succ]
              rfl
            rw [if_pos (by rfl)]
            refine wp_store_row 25 (.tmp 10) (.tmp 30) rfl _ _ rfl rfl _ _ H31.out HSZ.out (by rw [cellsK_size, HTL.out]; rfl) (one_cellsK _ _) ?_
            refine hKK.out _ _ ?_ (fun hh => ?_)
            · trivial
            clear hKK KK hh
            try simp only [Act.put, List.setIfInBounds_toArray, List.set_cons_zero, List.set_cons_succ]
            refine wpAnyH_done (by kernel_rfl) ?_ _
            go_wp2
            go_meet
            exact exp_end HE30.out H31.out (by omega) HLW.out (by omega) HB.out
          refine AllReadyH.cons (o := ?_) ?_ (fun KK hKK => ?_) AllReadyH.nil
          rotate_left
          · simp only [List.getElem?_toArray, List.getElem?_cons_zero, List.getElem?_cons_succ]
            rfl
          go_simp
          refine hKK.out _ _ ?_ (fun hh => ?_)
          · trivial
          clear hKK KK hh
          try simp only [Act.put, List.setIfInBounds_toArray, List.set_cons_zero, List.set_cons_succ]
          have h32 := HE3.out.new 25 #[.int .u8 0, .int .u8 0, .int .u8 0, .int .u8 0, .int .u8 0, .int .u8 0, .int .u8 0, .int .u8 0, .int .u8 0, .int .u8 0, .int .u8 0, .int .u8 0, .int .u8 0, .int .u8 0, .int .u8 0, .int .u8 0, .int .u8 0, .int .u8 0, .int .u8 0, .int .u8 0, .int .u8 0, .int .u8 0, .int .u8 0, .int .u8 0, .int .u8 0, .int .u8 0, .int .u8 0, .int .u8 0, .int .u8 0, .int .u8 0, .int .u8 0, .int .u8 0]
          (try simp only [World.size_alloc, size_drew] at h32)
          have H33 := Lib.hid h32
          have HE34 := Lib.hid (HE3.out.alloc (.cells #[.int .u8 0, .int .u8 0, .int .u8 0, .int .u8 0, .int .u8 0, .int .u8 0, .int .u8 0, .int .u8 0, .int .u8 0, .int .u8 0, .int .u8 0, .int .u8 0, .int .u8 0, .int .u8 0, .int .u8 0, .int .u8 0, .int .u8 0, .int .u8 0, .int .u8 0, .int .u8 0, .int .u8 0, .int .u8 0, .int .u8 0, .int .u8 0, .int .u8 0, .int .u8 0, .int .u8 0, .int .u8 0, .int .u8 0, .int .u8 0, .int .u8 0, .int .u8 0] 25))
          have H35 := Lib.hid (H2.out.alloc (.cells #[.int .u8 0, .int .u8 0, .int .u8 0, .int .u8 0, .int .u8 0, .int .u8 0, .int .u8 0, .int .u8 0, .int .u8 0, .int .u8 0, .int .u8 0, .int .u8 0, .int .u8 0, .int .u8 0, .int .u8 0, .int .u8 0, .int .u8 0, .int .u8 0, .int .u8 0, .int .u8 0, .int .u8 0, .int .u8 0, .int .u8 0, .int .u8 0, .int .u8 0, .int .u8 0, .int .u8 0, .int .u8 0, .int .u8 0, .int .u8 0, .int .u8 0, .int .u8 0] 25))
          clear h32 HE3 H2
          refine wpAnyH_ready (rs := [5]) (by kernel_rfl) (by simp) ?_
          refine AllReadyH.cons (o := ?_) ?_ (fun KK hKK => ?_) AllReadyH.nil
          rotate_left
          · simp only [List.getElem?_toArray, List.getElem?_cons_zero, List.getElem?_cons_succ]
            rfl
          go_simp
          refine hKK.out _ _ ?_ (fun hh => ?_)
          · trivial
          clear hKK KK hh
          try simp only [Act.put, List.setIfInBounds_toArray, List.set_cons_zero, List.set_cons_succ]
          have h36 := HE34.out.new 22 #[.slice lA lL lL, .slice A2 m d, .slice (some ⟨wr.heap.size, 0, none⟩) 1 1]
          (try simp only [World.size_alloc, size_drew] at h36)
          have H37 := Lib.hid h36
          have HE38 := Lib.hid (HE34.out.alloc (.cells #[.slice lA lL lL, .slice A2 m d, .slice (some ⟨wr.heap.size, 0, none⟩) 1 1] 22))
          have H39 := Lib.hid (H35.out.alloc (.cells #[.slice lA lL lL, .slice A2 m d, .slice (some ⟨wr.heap.size, 0, none⟩) 1 1] 22))
          have H40 := Lib.hid (H33.out.alloc (.cells #[.slice lA lL lL, .slice A2 m d, .slice (some ⟨wr.heap.size, 0, none⟩) 1 1] 22))
          clear h36 HE34 H35 H33
          refine wpAnyH_ready (rs := [6]) (by kernel_rfl) (by simp) ?_
          refine AllReadyH.cons (o := ?_) ?_ (fun KK hKK => ?_) AllReadyH.nil
          rotate_left
          · simp only [List.getElem?_toArray, List.getElem?_cons_zero, List.getElem?_cons_succ]
            rfl
          go_simp
          refine (exp_cat HE38.out HB.out HA2.out HL2.out hm H39.out H37.out).mono ?_
          rintro e w6 ⟨A6, n6, c6, rfl, hl6, hr6, hn6, hb6⟩
          try go_wp2_with fail
          refine hKK.out _ _ ?_ (fun hh => ?_)
          · trivial
          clear hKK KK hh
          try simp only [Act.put, List.setIfInBounds_toArray, List.set_cons_zero, List.set_cons_succ]
          have HE41 := Lib.hid (HE38.out.kept hb6)
          have HR42 := Lib.hid hr6
          have HL43 := Lib.hid hl6
          have hs6 := hb6.size
          simp only [World.size_alloc, size_drew] at hs6
          have H44 := Lib.hid (H40.out.kept hb6)
          clear hb6 hr6 hl6 HE38 H39 H37 H40
          refine wpAnyH_ready (rs := [7]) (by kernel_rfl) (by simp) ?_
          refine AllReadyH.cons (o := ?_) ?_ (fun KK hKK => ?_) AllReadyH.nil
          rotate_left
          · simp only [List.getElem?_toArray, List.getElem?_cons_zero, List.getElem?_cons_succ]
            rfl
          go_simp
          refine (HTC.out _ A6 n6 c6 HE41.out HL43.out HR42.out hn6).mono ?_
          rintro e w7 ⟨rfl, hb7⟩
          try go_wp2_with fail
          refine hKK.out _ _ ?_ (fun hh => ?_)
          · trivial
          clear hKK KK hh
          try simp only [Act.put, List.setIfInBounds_toArray, List.set_cons_zero, List.set_cons_succ]
          have HE45 := Lib.hid (HE41.out.kept hb7)
          have hs7 := hb7.size
          (try simp only [World.size_alloc] at hs7)
          have H46 := Lib.hid (H44.out.kept hb7)
          clear hb7 HE41 HR42 H44
          refine wpAnyH_ready (rs := [9]) (by kernel_rfl) (by simp) ?_
          refine AllReadyH.cons (o := ?_) ?_ (fun KK hKK => ?_) AllReadyH.nil
          rotate_left
          · simp only [List.getElem?_toArray, List.getElem?_cons_zero, List.getElem?_cons_succ]
            rfl
          rw [if_pos (by rfl)]
          refine wp_store_row 25 (.tmp 10) (.tmp 30) rfl _ _ rfl rfl _ _ H46.out HSZ.out (by rw [cellsK_size, HTL.out]; rfl) (one_cellsK _ _) ?_
          refine hKK.out _ _ ?_ (fun hh => ?_)
          · trivial
          clear hKK KK hh
          try simp only [Act.put, List.setIfInBounds_toArray, List.set_cons_zero, List.set_cons_succ]
          refine wpAnyH_done (by kernel_rfl) ?_ _
          go_wp2
          go_meet
          exact exp_end HE45.out H46.out (by omega) HLW.out (by omega) HB.out
        refine AllReadyH.cons (o := ?_) ?_ (fun KK hKK => ?_) AllReadyH.nil
        rotate_left
        · simp only [List.getElem?_toArray, List.getElem?_cons_zero, List.getElem?_cons_succ]
          rfl
        go_simp
        refine hKK.out _ _ ?_ (fun hh => ?_)
        · trivial
        clear hKK KK hh
        try simp only [Act.put, List.setIfInBounds_toArray, List.set_cons_zero, List.set_cons_succ]
        have h47 := HE0.out.new 25 #[.int .u8 0, .int .u8 0, .int .u8 0, .int .u8 0, .int .u8 0, .int .u8 0, .int .u8 0, .int .u8 0, .int .u8 0, .int .u8 0, .int .u8 0, .int .u8 0, .int .u8 0, .int .u8 0, .int .u8 0, .int .u8 0, .int .u8 0, .int .u8 0, .int .u8 0, .int .u8 0, .int .u8 0, .int .u8 0, .int .u8 0, .int .u8 0, .int .u8 0, .int .u8 0, .int .u8 0, .int .u8 0, .int .u8 0, .int .u8 0, .int .u8 0, .int .u8 0]
        (try simp only [World.size_alloc, size_drew] at h47)
        have H48 := Lib.hid h47
        have HE49 := Lib.hid (HE0.out.alloc (.cells #[.int .u8 0, .int .u8 0, .int .u8 0, .int .u8 0, .int .u8 0, .int .u8 0, .int .u8 0, .int .u8 0, .int .u8 0, .int .u8 0, .int .u8 0, .int .u8 0, .int .u8 0, .int .u8 0, .int .u8 0, .int .u8 0, .int .u8 0, .int .u8 0, .int .u8 0, .int .u8 0, .int .u8 0, .int .u8 0, .int .u8 0, .int .u8 0, .int .u8 0, .int .u8 0, .int .u8 0, .int .u8 0, .int .u8 0, .int .u8 0, .int .u8 0, .int .u8 0] 25))
        clear h47 HE0
        refine wpAnyH_ready (rs := [4]) (by kernel_rfl) (by simp) ?_
        refine AllReadyH.cons (o := ?_) ?_ (fun KK hKK => ?_) AllReadyH.nil
        rotate_left
        · simp only [List.getElem?_toArray, List.getElem?_cons_zero, List.getElem?_cons_succ]
          rfl
        go_simp
        refine hKK.out _ _ ?_ (fun hh => ?_)
        · trivial
        clear hKK KK hh
        try simp only [Act.put, List.setIfInBounds_toArray, List.set_cons_zero, List.set_cons_succ]
        have h50 := HE49.out.new 5 #[.int .u8 (i1 : Int)]
        (try simp only [World.size_alloc, size_drew] at h50)
        have H51 := Lib.hid h50
        have HE52 := Lib.hid (HE49.out.alloc (.cells #[.int .u8 (i1 : Int)] 5))
        have H53 := Lib.hid (H48.out.alloc (.cells #[.int .u8 (i1 : Int)] 5))
        clear h50 HE49 H48
        refine wpAnyH_ready (rs := [5]) (by kernel_rfl) (by simp) ?_
        refine AllReadyH.cons (o := ?_) ?_ (fun KK hKK => ?_) AllReadyH.nil
        rotate_left
        · simp only [List.getElem?_toArray, List.getElem?_cons_zero, List.getElem?_cons_succ]
          rfl
        go_simp
        refine hKK.out _ _ ?_ (fun hh => ?_)
        · trivial
        clear hKK KK hh
        try simp only [Act.put, List.setIfInBounds_toArray, List.set_cons_zero, List.set_cons_succ]
        have h54 := HE52.out.new 22 #[.slice lA lL lL, .slice A2 m d, .slice (some ⟨wr.heap.size + 1, 0, none⟩) 1 1]
        (try simp only [World.size_alloc, size_drew] at h54)
        have H55 := Lib.hid h54
        have HE56 := Lib.hid (HE52.out.alloc (.cells #[.slice lA lL lL, .slice A2 m d, .slice (some ⟨wr.heap.size + 1, 0, none⟩) 1 1] 22))
        have H57 := Lib.hid (H51.out.alloc (.cells #[.slice lA lL lL, .slice A2 m d, .slice (some ⟨wr.heap.size + 1, 0, none⟩) 1 1] 22))
        have H58 := Lib.hid (H53.out.alloc (.cells #[.slice lA lL lL, .slice A2 m d, .slice (some ⟨wr.heap.size + 1, 0, none⟩) 1 1] 22))
        clear h54 HE52 H51 H53
        refine wpAnyH_ready (rs := [6]) (by kernel_rfl) (by simp) ?_
        refine AllReadyH.cons (o := ?_) ?_ (fun KK hKK => ?_) AllReadyH.nil
        rotate_left
        · simp only [List.getElem?_toArray, List.getElem?_cons_zero, List.getElem?_cons_succ]
          rfl
        go_simp
        refine (exp_cat HE56.out HB.out HA2.out HL2.out hm H57.out H55.out).mono ?_
        rintro e w6 ⟨A6, n6, c6, rfl, hl6, hr6, hn6, hb6⟩
        try go_wp2_with fail
        refine hKK.out _ _ ?_ (fun hh => ?_)
        · trivial
        clear hKK KK hh
        try simp only [Act.put, List.setIfInBounds_toArray, List.set_cons_zero, List.set_cons_succ]
        have HE59 := Lib.hid (HE56.out.kept hb6)
        have HR60 := Lib.hid hr6
        have HL61 := Lib.hid hl6
        have hs6 := hb6.size
        simp only [World.size_alloc, size_drew] at hs6
        have H62 := Lib.hid (H58.out.kept hb6)
        clear hb6 hr6 hl6 HE56 H57 H55 H58
        refine wpAnyH_ready (rs := [7]) (by kernel_rfl) (by simp) ?_
        refine AllReadyH.cons (o := ?_) ?_ (fun KK hKK => ?_) AllReadyH.nil
        rotate_left
        · simp only [List.getElem?_toArray, List.getElem?_cons_zero, List.getElem?_cons_succ]
          rfl
        go_simp
        refine (HTC.out _ A6 n6 c6 HE59.out HL61.out HR60.out hn6).mono ?_
        rintro e w7 ⟨rfl, hb7⟩
        try go_wp2_with fail
        refine hKK.out _ _ ?_ (fun hh => ?_)
        · trivial
        clear hKK KK hh
        try simp only [Act.put, List.setIfInBounds_toArray, List.set_cons_zero, List.set_cons_succ]
        have HE63 := Lib.hid (HE59.out.kept hb7)
        have hs7 := hb7.size
        (try simp only [World.size_alloc] at hs7)
        have H64 := Lib.hid (H62.out.kept hb7)
        clear hb7 HE59 HR60 H62
        refine wpAnyH_ready (rs := [9]) (by kernel_rfl) (by simp) ?_
        refine AllReadyH.cons (o := ?_) ?_ (fun KK hKK => ?_) AllReadyH.nil
        rotate_left
        · simp only [List.getElem?_toArray, List.getElem?_cons_zero, List.getElem?_cons_succ]
          rfl
        rw [if_pos (by rfl)]
        refine wp_store_row 25 (.tmp 10) (.tmp 30) rfl _ _ rfl rfl _ _ H64.out HSZ.out (by rw [cellsK_size, HTL.out]; rfl) (one_cellsK _ _) ?_
        refine hKK.out _ _ ?_ (fun hh => ?_)
        · trivial
        clear hKK KK hh
        try simp only [Act.put, List.setIfInBounds_toArray, List.set_cons_zero, List.set_cons_succ]
        refine wpAnyH_done (by kernel_rfl) ?_ _
        go_wp2
        go_meet
        exact exp_end HE63.out H64.out (by omega) HLW.out (by omega) HB.out
      obtain ⟨b, rfl, hbO, hE⟩ := hcut
      have HBO := Lib.hid hbO
      have HE := Lib.hid hE
      have HRB : Hid (Rb wc (some ⟨b, 0, none⟩) tg) := fun _ => ⟨b, 0, rfl, hbO.lt, fun j hj => by rw [Nat.zero_add]; exact hbO.getK j hj⟩
      have hE0 := hE.out
      rw [HQ2.out] at hE0
      have HOW := Lib.hid hE0
      have hsz : B + 1 ≤ wc.heap.size := hE.sO.lt
      clear hbO hE hE0 HTC HR
      have hq250 : q ≤ 300 := by omega
      have hw1 : IntKind.u8.wrap ((i1 : Int) + 1) = ((i1 + 1 : Nat) : Int) := by rw [IntKind.wrap_u8]; omega
      go_wp2_with (at_builtin; refine wpList_appX rfl (.tmp 32) (.tmp 33) rfl _ _ _ _ rfl HOW.out _ _ _ tg rfl HTL.out HRB.out (by omega) hsz ?_)
      intro v' w' hown' hgr
      have HN : Hid (ExP w B s v' (.slice (some ⟨b, 0, none⟩) 32 32) (o ++ tg) tg w') := by
        have h0 := HE.out
        have hl := h0.sO.lt
        have hn1 : some B ≠ (Value.slice Ao q co).ownBlock := fun e => by have := (HOW.out.lt B e.symm).1; omega
        have hn2 : some b ≠ (Value.slice Ao q co).ownBlock := own_ne HOW.out HBO.out (by decide)
        refine ⟨(hgr.block B hl hn1).trans h0.sO, ?_, .inr ⟨HTL.out, b, rfl, (hgr.block b HBO.out.lt hn2).trans HBO.out⟩, h0.bel.grown hgr (by omega) (fun j e => by have := (HOW.out.lt j e).1; omega)⟩
        rw [List.length_append, HQ2.out, HTL.out, List.map_append]
        simpa using hown'
      clear hown' hgr
      rw [← HL.out.2, ← HL.out.1] at HN
      go_wp2
      go_roundw
      case rel => exact ⟨i1, hk8, .inr (by have := HI1.out; have := HQ.out; omega), rfl, HN.out⟩
      case measure => have := HI1.out; simp [intOf]; omega
    · have hd1 : decide ((q : Int) < (n : Int)) = false := by simp; omega
      have hnq : n ≤ q := by omega
      have HFIN : Hid (Rb wr Ao (Sh.expand s info n)) := by
        have hk2 : (n + 31) / 32 = k := by omega
        unfold Hid Sh.expand
        rw [hk2]
        exact hro.take n
      have HBL := Lib.hid hR.bel
      clear hR hol hcm hro hAo hlk hq HR
      go_wp2
      go_ret
      exact ⟨_, rfl, HFIN.out, by rw [HB.out]; exact HBL.out⟩
end Go.Proofs.YtanigdadhldceaaDoor
