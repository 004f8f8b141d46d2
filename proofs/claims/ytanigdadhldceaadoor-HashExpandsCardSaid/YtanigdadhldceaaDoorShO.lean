/- Layer 7's Tag of the document, walked. -/
import Derived.Test.YtanigdadhldceaaDoorShN
namespace Go.Proofs.YtanigdadhldceaaDoor
open Go Go.RowKit Go.Shelf
set_option linter.unusedVariables false
set_option linter.unusedSimpArgs false

/-- Appending turns the row's own block, or makes a new one. -/
theorem own_app2 (w : World) (ty : TypeId) {base n : Nat} {v : Value} {l : List Nat} (hown : w.ownsRow base 5 1 v n (l.map b8)) (b o : Nat) (m c : Nat) (X : List Nat) (hl : X.length = m) (hR : Rb w (some ⟨b, o, none⟩) X) (hm : n + m ≤ 1000000) (hm1 : 1 ≤ m) (hbase : base ≤ w.heap.size) :
    ∃ v' w', (Builtin.append_ #[22, 22] ty #[v, .slice (some ⟨b, o, none⟩) m c]).run Tryd.prog w = .ok v' w' ∧ w'.ownsRow base 5 1 v' (n + m) ((l ++ X).map b8) ∧ w.grownBy w' v.ownBlock ∧ (∀ g, v'.ownBlock = some g → v.ownBlock = some g ∨ w.heap.size ≤ g) := by
  obtain ⟨v', w', h1, h2, h3⟩ := own_app w ty hown (some ⟨b, o, none⟩) m c X hl hR (by omega) hbase
  refine ⟨v', w', h1, h2, h3, fun g hg => ?_⟩
  obtain ⟨i0, hi, hz0, hz1, hz2⟩ := info_parts info8
  have hu := Tryd.underlying22
  have hsrc : ∀ j u, (X.map b8)[j]? = some u → w.cell? ((⟨b, o, none⟩ : Addr).add j) = some u := by
    intro j u hu'
    rw [List.getElem?_map, Option.map_eq_some_iff] at hu'
    obtain ⟨y, hy, rfl⟩ := hu'
    have hj := (List.getElem?_eq_some_iff.1 hy).1
    obtain ⟨b', o', e, hlt, hc⟩ := hR (by omega)
    cases e
    rw [add_mid, hc j hj]
    simp [b8, List.getD_eq_getElem?_getD, hy]
  rcases hown.2 with ⟨rfl, h0⟩ | ⟨g0, cap, cur, rfl, hbg, hg0, hnc, hcm, hcs, htk⟩
  · obtain ⟨v'', w'', k1, k2, _⟩ := own_app w ty (base := w.heap.size) (n := n) (v := .slice none 0 0) (l := l) ⟨hown.1, .inl ⟨rfl, h0⟩⟩ (some ⟨b, o, none⟩) m c X hl hR (by omega) (Nat.le_refl _)
    rw [h1] at k1
    cases k1
    exact .inr (k2.lt g hg).1
  · by_cases hroom : n + m ≤ cap
    · have hO : Obj w g0 5 cur := hg0
      have hr := run_append_room_cells (P := Tryd.prog) w 22 ty 5 i0 hu hi g0 0 n cap ⟨b, o, none⟩ m c (X.map b8) (by rw [List.length_map, hl, hz1, Nat.mul_one]) hsrc
        (fun u hu' => by obtain ⟨x, _, rfl⟩ := List.mem_map.1 hu'; rfl) hroom
        (fun j hj => by
          rw [List.length_map, hl] at hj
          rw [hz1, hO.cell, Array.getElem?_eq_getElem (by omega)]; rfl)
        (fun j hj => hO.free _)
      rw [h1] at hr
      cases hr
      exact .inl hg
    · obtain ⟨v'', w'', k1, k2, _⟩ := run_append_arg_grows (P := Tryd.prog) w 22 ty 5 i0 (.int .u8 0) 1 1 hu hi hz0 hz1 hz2 rfl (by decide) ⟨g0, 0, none⟩ n cap (l.map b8) hown.1
        (fun j u hu' => by
          have hO : Obj w g0 5 cur := hg0
          have hj := (List.getElem?_eq_some_iff.1 hu').1
          rw [← htk, List.getElem?_take_of_lt (by have := hown.1; omega)] at hu'
          rw [add_mid, Nat.zero_add, hO.cell]
          simpa using hu') ⟨b, o, none⟩ m c (X.map b8) (by rw [List.length_map, hl, Nat.mul_one]) hsrc (by omega) (by unfold maxLen; omega) (by omega)
      rw [h1] at k1
      cases k1
      exact .inr (k2.lt g hg).1
/-- Two texts that grow. -/
structure Tw (wc : World) (D : Nat) (l1 l2 : List Nat) (v1 v2 : Value) (V : World) : Prop where
  o1 : V.ownsRow D 5 1 v1 l1.length (l1.map b8)
  o2 : V.ownsRow D 5 1 v2 l2.length (l2.map b8)
  ne : ∀ g, v1.ownBlock = some g → v2.ownBlock = some g → False
  bel : Below D wc V
  le : D ≤ V.heap.size
theorem Tw.symm {wc V : World} {D : Nat} {l1 l2 : List Nat} {v1 v2 : Value} (h : Tw wc D l1 l2 v1 v2 V) : Tw wc D l2 l1 v2 v1 V := ⟨h.o2, h.o1, fun g a b => h.ne g b a, h.bel, h.le⟩
theorem Tw.kept {wc V V' : World} {D : Nat} {l1 l2 : List Nat} {v1 v2 : Value} (h : Tw wc D l1 l2 v1 v2 V) (hb : Below V.heap.size V V') : Tw wc D l1 l2 v1 v2 V' :=
  ⟨ownsRow_kept h.o1 hb, ownsRow_kept h.o2 hb, h.ne, h.bel.trans (hb.mono h.le), Nat.le_trans h.le hb.size⟩
theorem own_other {V V' : World} {base n : Nat} {v : Value} {xs : List Value} {r : Option Nat} (h : V.ownsRow base 5 1 v n xs) (hg : V.grownBy V' r) (hne : ∀ g, r = some g → v.ownBlock = some g → False) : V'.ownsRow base 5 1 v n xs := by
  refine ⟨h.1, ?_⟩
  rcases h.2 with h0 | ⟨g, cap, cur, e, hb1, hg1, h3⟩
  · exact .inl h0
  · exact .inr ⟨g, cap, cur, e, hb1, (hg.block g (Array.getElem?_eq_some_iff.1 hg1).1 (fun e2 => hne g e2.symm (by rw [e]; rfl))).trans hg1, h3⟩
theorem Tw.app1 {wc V : World} {D : Nat} {l1 l2 : List Nat} {v1 v2 : Value} (h : Tw wc D l1 l2 v1 v2 V) (ty : TypeId) (x : Int) (k : Nat) (hx : x = k) (hm : l1.length ≤ 1000) :
    ∃ A' c' w', (Builtin.append_ #[22, 22] ty #[v1, .slice (some ⟨V.heap.size, 0, none⟩) 1 1]).run Tryd.prog (V.alloc (.cells #[.int .u8 x] 5)) = .ok (.slice A' (l1.length + 1) c') w' ∧ Tw wc D (l1 ++ [k]) l2 (.slice A' (l1.length + 1) c') v2 w' := by
  subst hx
  have hk := h.kept ((Below.refl _ V).alloc (Nat.le_refl _) (.cells #[.int .u8 ((k : Nat) : Int)] 5))
  obtain ⟨v', w', h1, h2, h3, h4⟩ := own_app2 (V.alloc (.cells #[.int .u8 ((k : Nat) : Int)] 5)) ty hk.o1 V.heap.size 0 1 1 [k] rfl (litL_rb V [k]) (by omega) (Nat.le_refl _) hk.le
  obtain ⟨A', c', rfl, hl2, hc1, hc2, _, _⟩ := own_rb h2
  refine ⟨A', c', w', h1, by rw [hl2]; exact h2, own_other hk.o2 h3 hk.ne, fun g e1 e2 => ?_, hk.bel.grown h3 hk.le (fun q e => (hk.o1.lt q e).1), Nat.le_trans hk.le h3.size⟩
  rcases h4 g e1 with e | e
  · exact hk.ne g e e2
  · have := (hk.o2.lt g e2).2
    omega
theorem mask_next (kk : List Nat) (c j : Nat) (hj : j < 64) : (Sh.mask kk c).take (j + 1) = (Sh.mask kk c).take j ++ [kk.getD j 0 ^^^ c] := by
  have hl : (Sh.mask kk c).length = 64 := by rw [← mskK_full]; exact mskK_len _ _ _
  rw [List.take_succ_eq_append_getElem (by omega)]
  have := mskK_get kk c 64 j hj
  rw [mskK_full, if_pos hj, List.getD_eq_getElem?_getD, List.getElem?_eq_getElem (by omega)] at this
  rw [← this]; rfl

set_option maxRecDepth 100000 in
set_option maxHeartbeats 8000000 in
theorem rtag_any (A A2 : Option Addr) (n c m d : Nat) (k t : List Nat) (w : World) (ht : Tabs w) (hA : Rb w A k) (hl : k.length = n) (hb : ∀ x ∈ k, x < 256) (hn : n ≤ 1900) (hc : n ≤ c ∧ c ≤ maxLen)
    (hA2 : Rb w A2 t) (hl2 : t.length = m) (hb2 : ∀ x ∈ t, x < 256) (hm : m ≤ 1900) :
    Calls Tryd.prog 12 #[.slice A n c, .slice A2 m d] w fun e w' => e = .returned (.agg (cellsK .u8 (Sh.tag k t))) ∧ Below w.heap.size w w' := by
  obtain ⟨B, hB⟩ : ∃ B, w.heap.size = B := ⟨_, rfl⟩
  have HB := Lib.hid hB
  have HT := Lib.hid ht
  have HA := Lib.hid hA
  have HL := Lib.hid hl
  have HBY := Lib.hid hb
  have HC := Lib.hid hc
  have HA2 := Lib.hid hA2
  have HL2 := Lib.hid hl2
  have HBY2 := Lib.hid hb2
  have O1 : Obj (w.alloc (.cells #[.int .u8 0, .int .u8 0, .int .u8 0, .int .u8 0, .int .u8 0, .int .u8 0, .int .u8 0, .int .u8 0, .int .u8 0, .int .u8 0, .int .u8 0, .int .u8 0, .int .u8 0, .int .u8 0, .int .u8 0, .int .u8 0, .int .u8 0, .int .u8 0, .int .u8 0, .int .u8 0, .int .u8 0, .int .u8 0, .int .u8 0, .int .u8 0, .int .u8 0, .int .u8 0, .int .u8 0, .int .u8 0, .int .u8 0, .int .u8 0, .int .u8 0, .int .u8 0] 25)) B 25 #[.int .u8 0, .int .u8 0, .int .u8 0, .int .u8 0, .int .u8 0, .int .u8 0, .int .u8 0, .int .u8 0, .int .u8 0, .int .u8 0, .int .u8 0, .int .u8 0, .int .u8 0, .int .u8 0, .int .u8 0, .int .u8 0, .int .u8 0, .int .u8 0, .int .u8 0, .int .u8 0, .int .u8 0, .int .u8 0, .int .u8 0, .int .u8 0, .int .u8 0, .int .u8 0, .int .u8 0, .int .u8 0, .int .u8 0, .int .u8 0, .int .u8 0, .int .u8 0] := hB ▸ Obj.new w _ _
  have L1 : Below B w (w.alloc (.cells #[.int .u8 0, .int .u8 0, .int .u8 0, .int .u8 0, .int .u8 0, .int .u8 0, .int .u8 0, .int .u8 0, .int .u8 0, .int .u8 0, .int .u8 0, .int .u8 0, .int .u8 0, .int .u8 0, .int .u8 0, .int .u8 0, .int .u8 0, .int .u8 0, .int .u8 0, .int .u8 0, .int .u8 0, .int .u8 0, .int .u8 0, .int .u8 0, .int .u8 0, .int .u8 0, .int .u8 0, .int .u8 0, .int .u8 0, .int .u8 0, .int .u8 0, .int .u8 0] 25)) := hB ▸ (Below.refl _ w).alloc (Nat.le_refl _) _
  have HO1 := Lib.hid O1
  have HL1 := Lib.hid L1
  clear ht hA hl hb hc hA2 hl2 hb2 O1 L1 hB
  have hn64 : n ≤ 9223372036854775807 := by omega
  go_enter Tryd.func12, Tryd.ntmps12
  go_upto_if 13 with fail
  go_cut [0] (fun s wx => TgK w B k s wx)
  case first =>
    by_cases h64 : 64 < n
    · have h64' : 64 < (n : Int) := by omega
      have HS : Hid (Calls Tryd.prog 10 #[.slice A n c] (w.alloc (.cells #[.int .u8 0, .int .u8 0, .int .u8 0, .int .u8 0, .int .u8 0, .int .u8 0, .int .u8 0, .int .u8 0, .int .u8 0, .int .u8 0, .int .u8 0, .int .u8 0, .int .u8 0, .int .u8 0, .int .u8 0, .int .u8 0, .int .u8 0, .int .u8 0, .int .u8 0, .int .u8 0, .int .u8 0, .int .u8 0, .int .u8 0, .int .u8 0, .int .u8 0, .int .u8 0, .int .u8 0, .int .u8 0, .int .u8 0, .int .u8 0, .int .u8 0, .int .u8 0] 25)) fun e w' => e = .returned (.agg (cellsK .u8 (Sh.sum k))) ∧ Below (w.alloc (.cells #[.int .u8 0, .int .u8 0, .int .u8 0, .int .u8 0, .int .u8 0, .int .u8 0, .int .u8 0, .int .u8 0, .int .u8 0, .int .u8 0, .int .u8 0, .int .u8 0, .int .u8 0, .int .u8 0, .int .u8 0, .int .u8 0, .int .u8 0, .int .u8 0, .int .u8 0, .int .u8 0, .int .u8 0, .int .u8 0, .int .u8 0, .int .u8 0, .int .u8 0, .int .u8 0, .int .u8 0, .int .u8 0, .int .u8 0, .int .u8 0, .int .u8 0, .int .u8 0] 25)).heap.size (w.alloc (.cells #[.int .u8 0, .int .u8 0, .int .u8 0, .int .u8 0, .int .u8 0, .int .u8 0, .int .u8 0, .int .u8 0, .int .u8 0, .int .u8 0, .int .u8 0, .int .u8 0, .int .u8 0, .int .u8 0, .int .u8 0, .int .u8 0, .int .u8 0, .int .u8 0, .int .u8 0, .int .u8 0, .int .u8 0, .int .u8 0, .int .u8 0, .int .u8 0, .int .u8 0, .int .u8 0, .int .u8 0, .int .u8 0, .int .u8 0, .int .u8 0, .int .u8 0, .int .u8 0] 25)) w') :=
        rsum_any A n c k _ (HT.out.below (HB.out ▸ HL1.out)) (HA.out.below (HB.out ▸ HL1.out)) HL.out HBY.out (by omega) HC.out
      have HKEY : Hid (Sh.key k = Sh.sum k) := by unfold Hid Sh.key; rw [if_pos (by rw [HL.out]; exact h64)]
      have HFIN : Hid (∀ w1, Below (w.alloc (.cells #[.int .u8 0, .int .u8 0, .int .u8 0, .int .u8 0, .int .u8 0, .int .u8 0, .int .u8 0, .int .u8 0, .int .u8 0, .int .u8 0, .int .u8 0, .int .u8 0, .int .u8 0, .int .u8 0, .int .u8 0, .int .u8 0, .int .u8 0, .int .u8 0, .int .u8 0, .int .u8 0, .int .u8 0, .int .u8 0, .int .u8 0, .int .u8 0, .int .u8 0, .int .u8 0, .int .u8 0, .int .u8 0, .int .u8 0, .int .u8 0, .int .u8 0, .int .u8 0] 25)).heap.size (w.alloc (.cells #[.int .u8 0, .int .u8 0, .int .u8 0, .int .u8 0, .int .u8 0, .int .u8 0, .int .u8 0, .int .u8 0, .int .u8 0, .int .u8 0, .int .u8 0, .int .u8 0, .int .u8 0, .int .u8 0, .int .u8 0, .int .u8 0, .int .u8 0, .int .u8 0, .int .u8 0, .int .u8 0, .int .u8 0, .int .u8 0, .int .u8 0, .int .u8 0, .int .u8 0, .int .u8 0, .int .u8 0, .int .u8 0, .int .u8 0, .int .u8 0, .int .u8 0, .int .u8 0] 25)) w1 → Obj (w1.alloc (.cells #[.int .u8 0, .int .u8 0, .int .u8 0, .int .u8 0, .int .u8 0, .int .u8 0, .int .u8 0, .int .u8 0, .int .u8 0, .int .u8 0, .int .u8 0, .int .u8 0, .int .u8 0, .int .u8 0, .int .u8 0, .int .u8 0, .int .u8 0, .int .u8 0, .int .u8 0, .int .u8 0, .int .u8 0, .int .u8 0, .int .u8 0, .int .u8 0, .int .u8 0, .int .u8 0, .int .u8 0, .int .u8 0, .int .u8 0, .int .u8 0, .int .u8 0, .int .u8 0] 25)) w1.heap.size 25 #[.int .u8 0, .int .u8 0, .int .u8 0, .int .u8 0, .int .u8 0, .int .u8 0, .int .u8 0, .int .u8 0, .int .u8 0, .int .u8 0, .int .u8 0, .int .u8 0, .int .u8 0, .int .u8 0, .int .u8 0, .int .u8 0, .int .u8 0, .int .u8 0, .int .u8 0, .int .u8 0, .int .u8 0, .int .u8 0, .int .u8 0, .int .u8 0, .int .u8 0, .int .u8 0, .int .u8 0, .int .u8 0, .int .u8 0, .int .u8 0, .int .u8 0, .int .u8 0] ∧ TgK w B k (.slice (some ⟨w1.heap.size, 0, none⟩) 32 32) ((w1.alloc (.cells #[.int .u8 0, .int .u8 0, .int .u8 0, .int .u8 0, .int .u8 0, .int .u8 0, .int .u8 0, .int .u8 0, .int .u8 0, .int .u8 0, .int .u8 0, .int .u8 0, .int .u8 0, .int .u8 0, .int .u8 0, .int .u8 0, .int .u8 0, .int .u8 0, .int .u8 0, .int .u8 0, .int .u8 0, .int .u8 0, .int .u8 0, .int .u8 0, .int .u8 0, .int .u8 0, .int .u8 0, .int .u8 0, .int .u8 0, .int .u8 0, .int .u8 0, .int .u8 0] 25)).setRow w1.heap.size (cellsK .u8 (Sh.sum k)))) := by
        intro w1 h1
        have o1 := HO1.out.kept h1
        have o2 := Obj.new w1 25 #[.int .u8 0, .int .u8 0, .int .u8 0, .int .u8 0, .int .u8 0, .int .u8 0, .int .u8 0, .int .u8 0, .int .u8 0, .int .u8 0, .int .u8 0, .int .u8 0, .int .u8 0, .int .u8 0, .int .u8 0, .int .u8 0, .int .u8 0, .int .u8 0, .int .u8 0, .int .u8 0, .int .u8 0, .int .u8 0, .int .u8 0, .int .u8 0, .int .u8 0, .int .u8 0, .int .u8 0, .int .u8 0, .int .u8 0, .int .u8 0, .int .u8 0, .int .u8 0]
        have u := (Upd.refl w1.heap.size (w1.alloc (.cells #[.int .u8 0, .int .u8 0, .int .u8 0, .int .u8 0, .int .u8 0, .int .u8 0, .int .u8 0, .int .u8 0, .int .u8 0, .int .u8 0, .int .u8 0, .int .u8 0, .int .u8 0, .int .u8 0, .int .u8 0, .int .u8 0, .int .u8 0, .int .u8 0, .int .u8 0, .int .u8 0, .int .u8 0, .int .u8 0, .int .u8 0, .int .u8 0, .int .u8 0, .int .u8 0, .int .u8 0, .int .u8 0, .int .u8 0, .int .u8 0, .int .u8 0, .int .u8 0] 25))).row (cellsK .u8 (Sh.sum k))
        have o3 := o2.row (cellsK .u8 (Sh.sum k))
        have hb1 : Below B w w1 := HL1.out.trans (h1.mono (by have := HO1.out.lt; omega))
        refine ⟨o2, _, _, _, rfl, by rw [HKEY.out, Sh.sum_len], ?_, (o1.alloc _).upd u (by have := o1.lt; omega), ?_⟩
        · rw [HKEY.out]
          exact fun _ => ⟨_, _, rfl, o3.lt, fun i hi => by rw [Nat.zero_add]; exact o3.getK i hi⟩
        · have hs1 := o1.lt
          exact ⟨u.os.trans hb1.os, u.tape.trans hb1.tape, u.output.trans hb1.output, Nat.le_trans hb1.size (by simp [row_size]), fun j hj => (u.block j (by simp; omega) (by omega)).trans ((Below.heap_alloc _ _ _ (by omega)).trans (hb1.block j hj))⟩
      have hsl := fun g w' => slice32all g w'
      have HSZ := Lib.hid (sizeH (Sh.sum_len k))
      have HSL := Lib.hid (Sh.sum_len k)
      go_wp2_with (first
        | (go_at_call 10; refine HS.out.mono ?_; rintro e w1 ⟨rfl, hb1⟩; have HX := Lib.hid (HFIN.out w1 hb1); clear hb1)
        | (refine wpList_store_row rfl 25 (.tmp 5) (.tmp 15) rfl _ _ rfl rfl _ _ HX.out.1 HSZ.out (by rw [cellsK_size, HSL.out]; rfl) (one_cellsK _ _) ?_))
      go_meet
      exact HX.out.2
    · have h64' : ¬ 64 < (n : Int) := by omega
      have HFIN : Hid (TgK w B k (.slice A n c) (w.alloc (.cells #[.int .u8 0, .int .u8 0, .int .u8 0, .int .u8 0, .int .u8 0, .int .u8 0, .int .u8 0, .int .u8 0, .int .u8 0, .int .u8 0, .int .u8 0, .int .u8 0, .int .u8 0, .int .u8 0, .int .u8 0, .int .u8 0, .int .u8 0, .int .u8 0, .int .u8 0, .int .u8 0, .int .u8 0, .int .u8 0, .int .u8 0, .int .u8 0, .int .u8 0, .int .u8 0, .int .u8 0, .int .u8 0, .int .u8 0, .int .u8 0, .int .u8 0, .int .u8 0] 25))) := by
        have hk : Sh.key k = k := by unfold Sh.key; rw [if_neg (by rw [HL.out]; exact h64)]
        exact ⟨_, _, _, rfl, by rw [hk, HL.out], by rw [hk]; exact HA.out.below (HB.out ▸ HL1.out), HO1.out, HL1.out⟩
      go_wp2
      go_meet
      exact HFIN.out
  obtain ⟨A', kn, kc, rfl, hkl, hkr, hO, hbc⟩ := hcut
  have hk64 := key_len k
  have hklt := key_lt k HBY.out
  have HTAG : Hid (Sh.tag k t = Sh.sum (Sh.mask (Sh.key k) 92 ++ Sh.sum (Sh.mask (Sh.key k) 54 ++ t))) := rfl
  have HTW : Hid (Tw wc wc.heap.size [] [] (.slice none 0 0) (.slice none 0 0) wc) := ⟨World.ownsRow_nil _ _ _ _, World.ownsRow_nil _ _ _ _, (fun g e => by cases e), Below.refl _ _, Nat.le_refl _⟩
  have HRC := Lib.hid hkr
  have HOC := Lib.hid hO
  have HBC := Lib.hid hbc
  have HKL := Lib.hid hkl
  have HKLT := Lib.hid hklt
  have hkn : kn ≤ 64 := by omega
  clear hkl hkr hO hbc hk64 hklt HO1 HL1
  generalize Sh.key k = kk at *
  go_wp2
  go_loopw [6, 7, 8, 9] (fun v1 v2 i _ wr => ∃ j : Nat, j ≤ 64 ∧ i = .int .i64 (j : Int) ∧ Tw wc wc.heap.size ((Sh.mask kk 54).take j) ((Sh.mask kk 92).take j) v1 v2 wr) (fun _ _ i _ _ => 64 - (intOf i).toNat)
  case atStart => exact ⟨0, by omega, rfl, HTW.out⟩
  case round =>
    clear HTW
    obtain ⟨j, hj, rfl, hR⟩ := hrel
    have hm1 : (Sh.mask kk 54).length = 64 := by rw [← mskK_full]; exact mskK_len _ _ _
    have hm2 : (Sh.mask kk 92).length = 64 := by rw [← mskK_full]; exact mskK_len _ _ _
    by_cases hlt : j < 64
    · have hji : (j : Int) < 64 := by omega
      have hx := getD_lt8 HKLT.out j
      obtain ⟨Aa, ca, rfl, hla, _, _, _, _⟩ := own_rb hR.o1
      obtain ⟨Ab, cb, rfl, hlb, _, _, _, _⟩ := own_rb hR.o2
      have hq1 : ((Sh.mask kk 54).take j).length = j := by rw [List.length_take]; omega
      have hq2 : ((Sh.mask kk 92).take j).length = j := by rw [List.length_take]; omega
      by_cases hjk : j < kn
      · have hjki : (j : Int) < (kn : Int) := by omega
        obtain ⟨A3, c3, w3, hr3, hT3⟩ := hR.app1 22 _ (kk.getD j 0 ^^^ 54) rfl (by omega)
        obtain ⟨A4, c4, w4, hr4, hT4⟩ := hT3.symm.app1 22 _ (kk.getD j 0 ^^^ 92) rfl (by omega)
        rw [hq1] at hr3 hT4 ⊢
        rw [hq2] at hr4 hT4 ⊢
        have HN := hT4.symm
        rw [← mask_next kk 54 j hlt, ← mask_next kk 92 j hlt] at HN
        have HNX := Lib.hid HN
        have HR3 := Lib.hid hr3
        have HR4 := Lib.hid hr4
        have hx1 : kk.getD j 0 ^^^ 54 < 256 := Nat.xor_lt_two_pow (n := 8) hx (by decide)
        have hx2 : kk.getD j 0 ^^^ 92 < 256 := Nat.xor_lt_two_pow (n := 8) hx (by decide)
        have e1 : bits .xor .u8 ((kk.getD j 0 : Nat) : Int) 54 = ((kk.getD j 0 ^^^ 54 : Nat) : Int) := u8_xor_nat _ 54 hx (by decide)
        have e2 : bits .xor .u8 ((kk.getD j 0 : Nat) : Int) 92 = ((kk.getD j 0 ^^^ 92 : Nat) : Int) := u8_xor_nat _ 92 hx (by decide)
        obtain ⟨bk, ok, hAk, hbk, hck⟩ := (HRC.out.below hR.bel) (by rw [HKL.out]; omega)
        have g0 : wr.cell? ⟨bk, ok + j, none⟩ = some (.int .u8 ((kk.getD j 0 : Nat) : Int)) := hck j (by rw [HKL.out]; exact hjk)
        subst hAk
        clear hR hT3 hT4 HN hr3 hr4 hck hbk
        generalize kk.getD j 0 ^^^ 54 = y1 at *
        generalize kk.getD j 0 ^^^ 92 = y2 at *
        generalize kk.getD j 0 = x at *
        go_wp2_with (first
          | (at_builtin; refine Lib.wpList_append_run _ rfl (.tmp 29) (.tmp 32) _ _ rfl _ _ rfl rfl _ _ HR3.out ?_)
          | (at_builtin; refine Lib.wpList_append_run _ rfl (.tmp 34) (.tmp 37) _ _ rfl _ _ rfl rfl _ _ HR4.out ?_))
        go_roundw
        case rel => exact ⟨j + 1, by omega, by go_num, HNX.out⟩
        case measure => simp [intOf]; omega
      · have hjki : ¬ (j : Int) < (kn : Int) := by omega
        have h0 : kk.getD j 0 = 0 := by rw [List.getD_eq_getElem?_getD, List.getElem?_eq_none (by rw [HKL.out]; omega)]; rfl
        obtain ⟨A3, c3, w3, hr3, hT3⟩ := hR.app1 22 54 54 rfl (by omega)
        obtain ⟨A4, c4, w4, hr4, hT4⟩ := hT3.symm.app1 22 92 92 rfl (by omega)
        rw [hq1] at hr3 hT4 ⊢
        rw [hq2] at hr4 hT4 ⊢
        have HN := hT4.symm
        have m1 : (Sh.mask kk 54).take (j + 1) = (Sh.mask kk 54).take j ++ [54] := by rw [mask_next kk 54 j hlt, h0]; rfl
        have m2 : (Sh.mask kk 92).take (j + 1) = (Sh.mask kk 92).take j ++ [92] := by rw [mask_next kk 92 j hlt, h0]; rfl
        rw [← m1, ← m2] at HN
        have HNX := Lib.hid HN
        have HR3 := Lib.hid hr3
        have HR4 := Lib.hid hr4
        have e1 : bits .xor .u8 0 54 = 54 := by decide
        have e2 : bits .xor .u8 0 92 = 92 := by decide
        clear hR hT3 hT4 HN hr3 hr4 m1 m2 h0 hx
        go_wp2_with (first
          | (at_builtin; refine Lib.wpList_append_run _ rfl (.tmp 29) (.tmp 32) _ _ rfl _ _ rfl rfl _ _ HR3.out ?_)
          | (at_builtin; refine Lib.wpList_append_run _ rfl (.tmp 34) (.tmp 37) _ _ rfl _ _ rfl rfl _ _ HR4.out ?_))
        go_roundw
        case rel => exact ⟨j + 1, by omega, by go_num, HNX.out⟩
        case measure => simp [intOf]; omega
    · obtain rfl : j = 64 := by omega
      rw [List.take_of_length_le (by omega), List.take_of_length_le (by omega)] at hR
      have q1 : ∀ x ∈ Sh.mask kk 54, x < 256 := by rw [← mskK_full]; exact mskK_lt kk HKLT.out 54 (by decide) 64
      have q2 : ∀ x ∈ Sh.mask kk 92, x < 256 := by rw [← mskK_full]; exact mskK_lt kk HKLT.out 92 (by decide) 64
      have hbw : Below B w wr := HBC.out.trans (hR.bel.mono (Nat.le_of_lt HOC.out.lt))
      have hBw : B = w.heap.size := HB.out.symm
      obtain ⟨Aa, ca, rfl, _, _, _, _, _⟩ := own_rb hR.o1
      obtain ⟨Ab, cb, rfl, _, _, _, _, _⟩ := own_rb hR.o2
      obtain ⟨v5, w5, hr5, ho5, hg5⟩ := own_app wr 22 hR.o1 A2 m d t HL2.out (HA2.out.below (hBw ▸ hbw)) (by omega) hR.le
      obtain ⟨A5, c5, rfl, _, hc5, hc5', hR5, _⟩ := own_rb ho5
      have ho2 := own_other hR.o2 hg5 hR.ne
      have hb5 : Below wc.heap.size wc w5 := hR.bel.grown hg5 hR.le (fun q e => (hR.o1.lt q e).1)
      have hbw5 : Below B w w5 := HBC.out.trans (hb5.mono (Nat.le_of_lt HOC.out.lt))
      rw [hm1] at hr5 hc5
      rw [hm2] at ho2
      rw [hm1, hm2]
      obtain ⟨q, hq⟩ : ∃ q, 64 + m = q := ⟨_, rfl⟩
      rw [hq] at hr5 hc5
      have HS1 : Hid (Calls Tryd.prog 10 #[.slice A5 q c5] w5 fun e w' => e = .returned (.agg (cellsK .u8 (Sh.sum (Sh.mask kk 54 ++ t)))) ∧ Below w5.heap.size w5 w') :=
        rsum_any A5 q c5 (Sh.mask kk 54 ++ t) w5 (HT.out.below (hBw ▸ hbw5)) hR5 (by rw [List.length_append, hm1, HL2.out]; exact hq) (fun x hx => by rcases List.mem_append.1 hx with h | h; exact q1 x h; exact HBY2.out x h) (by omega) ⟨hc5, hc5'⟩
      have hs1 := Sh.sum_len (Sh.mask kk 54 ++ t)
      have q3 := Sh.sum_lt (Sh.mask kk 54 ++ t)
      have HTG2 : Hid (Sh.tag k t = Sh.sum (Sh.mask kk 92 ++ Sh.sum (Sh.mask kk 54 ++ t))) := HTAG.out
      generalize Sh.sum (Sh.mask kk 54 ++ t) = s1 at *
      have hOC5 : Obj w5 B 25 #[.int .u8 0, .int .u8 0, .int .u8 0, .int .u8 0, .int .u8 0, .int .u8 0, .int .u8 0, .int .u8 0, .int .u8 0, .int .u8 0, .int .u8 0, .int .u8 0, .int .u8 0, .int .u8 0, .int .u8 0, .int .u8 0, .int .u8 0, .int .u8 0, .int .u8 0, .int .u8 0, .int .u8 0, .int .u8 0, .int .u8 0, .int .u8 0, .int .u8 0, .int .u8 0, .int .u8 0, .int .u8 0, .int .u8 0, .int .u8 0, .int .u8 0, .int .u8 0] := HOC.out.kept hb5
      have HF : Hid (∀ w6, Below w5.heap.size w5 w6 → Obj (w6.alloc (.cells #[.int .u8 0, .int .u8 0, .int .u8 0, .int .u8 0, .int .u8 0, .int .u8 0, .int .u8 0, .int .u8 0, .int .u8 0, .int .u8 0, .int .u8 0, .int .u8 0, .int .u8 0, .int .u8 0, .int .u8 0, .int .u8 0, .int .u8 0, .int .u8 0, .int .u8 0, .int .u8 0, .int .u8 0, .int .u8 0, .int .u8 0, .int .u8 0, .int .u8 0, .int .u8 0, .int .u8 0, .int .u8 0, .int .u8 0, .int .u8 0, .int .u8 0, .int .u8 0] 25)) w6.heap.size 25 #[.int .u8 0, .int .u8 0, .int .u8 0, .int .u8 0, .int .u8 0, .int .u8 0, .int .u8 0, .int .u8 0, .int .u8 0, .int .u8 0, .int .u8 0, .int .u8 0, .int .u8 0, .int .u8 0, .int .u8 0, .int .u8 0, .int .u8 0, .int .u8 0, .int .u8 0, .int .u8 0, .int .u8 0, .int .u8 0, .int .u8 0, .int .u8 0, .int .u8 0, .int .u8 0, .int .u8 0, .int .u8 0, .int .u8 0, .int .u8 0, .int .u8 0, .int .u8 0] ∧ ∃ A8 c8 w8, (Builtin.append_ #[22, 22] 22 #[.slice Ab 64 cb, .slice (some ⟨w6.heap.size, 0, none⟩) 32 32]).run Tryd.prog ((w6.alloc (.cells #[.int .u8 0, .int .u8 0, .int .u8 0, .int .u8 0, .int .u8 0, .int .u8 0, .int .u8 0, .int .u8 0, .int .u8 0, .int .u8 0, .int .u8 0, .int .u8 0, .int .u8 0, .int .u8 0, .int .u8 0, .int .u8 0, .int .u8 0, .int .u8 0, .int .u8 0, .int .u8 0, .int .u8 0, .int .u8 0, .int .u8 0, .int .u8 0, .int .u8 0, .int .u8 0, .int .u8 0, .int .u8 0, .int .u8 0, .int .u8 0, .int .u8 0, .int .u8 0] 25)).setRow w6.heap.size (cellsK .u8 s1)) = .ok (.slice A8 96 c8) w8 ∧
          Calls Tryd.prog 10 #[.slice A8 96 c8] w8 (fun e w' => e = .returned (.agg (cellsK .u8 (Sh.sum (Sh.mask kk 92 ++ s1)))) ∧ Below w8.heap.size w8 w') ∧ Obj w8 B 25 #[.int .u8 0, .int .u8 0, .int .u8 0, .int .u8 0, .int .u8 0, .int .u8 0, .int .u8 0, .int .u8 0, .int .u8 0, .int .u8 0, .int .u8 0, .int .u8 0, .int .u8 0, .int .u8 0, .int .u8 0, .int .u8 0, .int .u8 0, .int .u8 0, .int .u8 0, .int .u8 0, .int .u8 0, .int .u8 0, .int .u8 0, .int .u8 0, .int .u8 0, .int .u8 0, .int .u8 0, .int .u8 0, .int .u8 0, .int .u8 0, .int .u8 0, .int .u8 0] ∧ Below B w w8) := fun w6 h6 => by
        have o2 := Obj.new w6 25 #[.int .u8 0, .int .u8 0, .int .u8 0, .int .u8 0, .int .u8 0, .int .u8 0, .int .u8 0, .int .u8 0, .int .u8 0, .int .u8 0, .int .u8 0, .int .u8 0, .int .u8 0, .int .u8 0, .int .u8 0, .int .u8 0, .int .u8 0, .int .u8 0, .int .u8 0, .int .u8 0, .int .u8 0, .int .u8 0, .int .u8 0, .int .u8 0, .int .u8 0, .int .u8 0, .int .u8 0, .int .u8 0, .int .u8 0, .int .u8 0, .int .u8 0, .int .u8 0]
        have u := (Upd.refl w6.heap.size (w6.alloc (.cells #[.int .u8 0, .int .u8 0, .int .u8 0, .int .u8 0, .int .u8 0, .int .u8 0, .int .u8 0, .int .u8 0, .int .u8 0, .int .u8 0, .int .u8 0, .int .u8 0, .int .u8 0, .int .u8 0, .int .u8 0, .int .u8 0, .int .u8 0, .int .u8 0, .int .u8 0, .int .u8 0, .int .u8 0, .int .u8 0, .int .u8 0, .int .u8 0, .int .u8 0, .int .u8 0, .int .u8 0, .int .u8 0, .int .u8 0, .int .u8 0, .int .u8 0, .int .u8 0] 25))).row (cellsK .u8 s1)
        have hbel : Below w6.heap.size w6 ((w6.alloc (.cells #[.int .u8 0, .int .u8 0, .int .u8 0, .int .u8 0, .int .u8 0, .int .u8 0, .int .u8 0, .int .u8 0, .int .u8 0, .int .u8 0, .int .u8 0, .int .u8 0, .int .u8 0, .int .u8 0, .int .u8 0, .int .u8 0, .int .u8 0, .int .u8 0, .int .u8 0, .int .u8 0, .int .u8 0, .int .u8 0, .int .u8 0, .int .u8 0, .int .u8 0, .int .u8 0, .int .u8 0, .int .u8 0, .int .u8 0, .int .u8 0, .int .u8 0, .int .u8 0] 25)).setRow w6.heap.size (cellsK .u8 s1)) := Upd.below ((Below.refl _ w6).alloc (Nat.le_refl _) _) (Nat.le_refl _) u
        have h7 : Below w5.heap.size w5 ((w6.alloc (.cells #[.int .u8 0, .int .u8 0, .int .u8 0, .int .u8 0, .int .u8 0, .int .u8 0, .int .u8 0, .int .u8 0, .int .u8 0, .int .u8 0, .int .u8 0, .int .u8 0, .int .u8 0, .int .u8 0, .int .u8 0, .int .u8 0, .int .u8 0, .int .u8 0, .int .u8 0, .int .u8 0, .int .u8 0, .int .u8 0, .int .u8 0, .int .u8 0, .int .u8 0, .int .u8 0, .int .u8 0, .int .u8 0, .int .u8 0, .int .u8 0, .int .u8 0, .int .u8 0] 25)).setRow w6.heap.size (cellsK .u8 s1)) := h6.trans (hbel.mono h6.size)
        have o7 := o2.row (cellsK .u8 s1)
        obtain ⟨W7, hW7⟩ : ∃ W7, (w6.alloc (.cells #[.int .u8 0, .int .u8 0, .int .u8 0, .int .u8 0, .int .u8 0, .int .u8 0, .int .u8 0, .int .u8 0, .int .u8 0, .int .u8 0, .int .u8 0, .int .u8 0, .int .u8 0, .int .u8 0, .int .u8 0, .int .u8 0, .int .u8 0, .int .u8 0, .int .u8 0, .int .u8 0, .int .u8 0, .int .u8 0, .int .u8 0, .int .u8 0, .int .u8 0, .int .u8 0, .int .u8 0, .int .u8 0, .int .u8 0, .int .u8 0, .int .u8 0, .int .u8 0] 25)).setRow w6.heap.size (cellsK .u8 s1) = W7 := ⟨_, rfl⟩
        rw [hW7] at h7 o7 ⊢
        have hw7 := ownsRow_kept ho2 h7
        have hle7 : wc.heap.size ≤ W7.heap.size := Nat.le_trans hb5.size h7.size
        obtain ⟨v8, w8, hr8, ho8, hg8⟩ := own_app W7 22 hw7 (some ⟨w6.heap.size, 0, none⟩) 32 32 s1 hs1 (fun _ => ⟨_, 0, rfl, o7.lt, fun i hi => by rw [Nat.zero_add]; exact o7.getK i hi⟩) (by omega) hle7
        obtain ⟨A8, c8, rfl, _, hc8, hc8', hR8, _⟩ := own_rb ho8
        have hb8 : Below wc.heap.size wc w8 := (hb5.trans (h7.mono hb5.size)).grown hg8 hle7 (fun q e => (hw7.lt q e).1)
        have hbw8 : Below B w w8 := HBC.out.trans (hb8.mono (Nat.le_of_lt HOC.out.lt))
        exact ⟨o2, A8, c8, w8, hr8, rsum_any A8 96 c8 _ w8 (HT.out.below (hBw ▸ hbw8)) hR8 (by rw [List.length_append, hm2, hs1]) (fun x hx => by rcases List.mem_append.1 hx with h | h; exact q2 x h; exact q3 x h) (by omega) ⟨hc8, hc8'⟩, HOC.out.kept hb8, hbw8⟩
      have HSZ := Lib.hid (sizeH hs1)
      have HSL := Lib.hid hs1
      have HSZ2 := Lib.hid (sizeH (Sh.sum_len (Sh.mask kk 92 ++ s1)))
      have HSL2 := Lib.hid (Sh.sum_len (Sh.mask kk 92 ++ s1))
      have HR5 := Lib.hid hr5
      have hsl := fun g w' => slice32all g w'
      clear hR q1 q2 q3 hbw hr5 ho5 hg5 hc5 hc5' hR5 ho2 hb5 hbw5 hs1 hOC5 hm1 hm2 hq
      generalize Sh.sum (Sh.mask kk 92 ++ s1) = s2 at *
      have hBB := HB.out
      subst hBB
      go_wp2_with (first
        | (at_builtin; refine Lib.wpList_append_run _ rfl (.tmp 39) (.tmp 40) _ _ rfl _ _ rfl rfl _ _ HR5.out ?_)
        | (go_at_call 10; refine HS1.out.mono ?_; rintro e w6 ⟨rfl, hb6⟩; obtain ⟨o6, A8, c8, w8, hr8, hs8, hO8, hB8⟩ := HF.out w6 hb6; have HO6 := Lib.hid o6; have HR8 := Lib.hid hr8; have HS8 := Lib.hid hs8; have HO8 := Lib.hid hO8; have HB8 := Lib.hid hB8; clear o6 hr8 hs8 hO8 hB8 hb6 HS1)
        | (refine wpList_store_row rfl 25 (.tmp 10) (.tmp 42) rfl _ _ rfl rfl _ _ HO6.out HSZ.out (by rw [cellsK_size, HSL.out]; rfl) (one_cellsK _ _) ?_)
        | (at_builtin; refine Lib.wpList_append_run _ rfl (.tmp 43) (.tmp 44) _ _ rfl _ _ rfl rfl _ _ HR8.out ?_)
        | (go_at_call 10; refine HS8.out.mono ?_; rintro e w9 ⟨rfl, hb9⟩; have HO9 := Lib.hid (HO8.out.kept hb9); have HB9 := Lib.hid (HB8.out.trans (hb9.mono (Nat.le_of_lt HO8.out.lt))); clear hb9 HS8)
        | (refine wpList_store_row rfl 25 (.tmp 4) (.tmp 46) rfl _ _ rfl rfl _ _ HO9.out HSZ2.out (by rw [cellsK_size, HSL2.out]; rfl) (one_cellsK _ _) ?_))
      exact bodyPost_ret (v := .agg (cellsK .u8 s2)) (results_cell_row rfl _ _ _ _ _ _ _ rfl (HO9.out.row _) Tryd.underlying25 rfl HSZ2.out) rfl ⟨by rw [HTG2.out], row_belowB HB9.out HO9.out.lt _⟩
end Go.Proofs.YtanigdadhldceaaDoor
