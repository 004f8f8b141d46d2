/- Layer 9's gcm, the document's product. -/
import Derived.RangeFuncNested
import Derived.RangeFuncBound
import Derived.RangeFuncCalls
import Derived.RangeFuncLeaves
import Derived.RangeFuncBox
import Derived.Shelf.Abstract
import Derived.Shelf.RegionOpen
import Derived.WalkKit
import Derived.OwnWalkIn
import Derived.TacticsInMore
import Derived.LoopN
import Derived.LoopNIn
import Derived.LoopIn
import Derived.WalkSpells
import Derived.WalkLawsBesides
import Derived.Laws.Rows
import Derived.Laws.EntriesVeiled
import Derived.Laws.BitsAllLaws
import Derived.Handy
import Derived.BigQuiet
import Derived.Deep.QuietTactic
import Derived.IntWalk
import Derived.Lib.Hide
import Derived.Outline
import Derived.Test.YtnphanhoakbkpaaRows
import Derived.Test.YtnphanhoakbkpaaAid
import Derived.Test.YtnphanhoakbkpaaPlainAe
import Derived.Test.YtnphanhoakbkpaaPlainAe2
import Derived.Test.YtnphanhoakbkpaaPlainGc
import Derived.Test.YtnphanhoakbkpaaPlainGc2
import Derived.Test.YtnphanhoakbkpaaAesB
import Derived.Test.YtnphanhoakbkpaaAesBox
import Derived.Test.YtnphanhoakbkpaaAesW
import Derived.Test.YtnphanhoakbkpaaAesE
import Derived.Test.YtnphanhoakbkpaaAesK
import Derived.Test.YtnphanhoakbkpaaAesS
import Derived.Test.YtnphanhoakbkpaaAesT
import Derived.Test.YtnphanhoakbkpaaBl
import Derived.Test.YtnphanhoakbkpaaItF
import Derived.Test.YtnphanhoakbkpaaGcA
import Derived.Test.YtnphanhoakbkpaaGcB
import Derived.Test.YtnphanhoakbkpaaGcD
import Derived.Test.YtnphanhoakbkpaaGcE
import Derived.Test.YtnphanhoakbkpaaGcF
import Derived.Test.YtnphanhoakbkpaaGcG
import Derived.Test.YtnphanhoakbkpaaGcH
import Derived.Test.YtnphanhoakbkpaaGcR
import Derived.Test.YtnphanhoakbkpaaPlainGc4
import Derived.Test.YtnphanhoakbkpaaPlainGc5
import Derived.Test.YtnphanhoakbkpaaGcS
namespace Go.Proofs.Ytnphanhoakbkpaa
open Go Go.RowKit Go.Shelf
set_option linter.unusedVariables false
set_option linter.unusedSimpArgs false
/-- Numbers' cells. -/
def cellsI (l : List Nat) : Array Value := (l.map iv).toArray
theorem cellsI_get (l : List Nat) (i : Nat) (h : i < l.length) : (cellsI l)[i]? = some (.int .i64 ((l.getD i 0 : Nat) : Int)) := by
  simp [cellsI, iv, List.getD_eq_getElem?_getD, h]
theorem Obj.getI {w : World} {b : Nat} {t : TypeId} {l : List Nat} (h : Obj w b t (cellsI l)) (i : Nat) (hi : i < l.length) : w.cell? ⟨b, i, none⟩ = some (.int .i64 ((l.getD i 0 : Nat) : Int)) := by rw [h.cell i, cellsI_get l i hi]
theorem Obj.setI {w : World} {b : Nat} {t : TypeId} {l : List Nat} (h : Obj w b t (cellsI l)) (i v : Nat) : Obj (w.setCell ⟨b, i, none⟩ (.int .i64 ((v : Nat) : Int))) b t (cellsI (l.set i v)) := by
  refine (h.set i _).as ?_
  apply Array.ext'
  simp [cellsI, iv, List.map_set]
theorem made_zerosI (n : Nat) : madeCells #[Value.int .i64 0] n = cellsI (List.replicate n 0) := by
  apply Array.ext
  · simp [cellsI, size_madeCells]
  · intro i h1 h2
    simp [madeCells, cellsI, iv, Nat.mod_one]
theorem mkI (N : Nat) (hN : N ≤ 1000) (w : World) :
    (Instr.makeSlice 49 (.int .i64 (N : Int)) (.int .i64 (N : Int))).run Try.prog w = .ok (.slice (some ⟨w.heap.size, 0, none⟩) N N) (w.alloc (.cells (cellsI (List.replicate N 0)) 3)) := by
  rw [run_make_row' 49 3 (.int .i64 0) 8 Try.underlying49 infoI rfl .i64 .i64 N (by omega) (by omega) w, made_zerosI]
/-- A row of numbers that is read. -/
def RI (w : World) (g : Nat) (l : List Nat) : Prop := g < w.heap.size ∧ ∀ j, j < l.length → w.cell? ⟨g, j, none⟩ = some (.int .i64 ((l.getD j 0 : Nat) : Int))
theorem RI.kept {w w' : World} {g : Nat} {l : List Nat} (h : RI w g l) (hb : Below w.heap.size w w') : RI w' g l := ⟨Nat.lt_of_lt_of_le h.1 hb.size, fun j hj => (hb.cell (p := ⟨g, j, none⟩) h.1).trans (h.2 j hj)⟩
theorem RI.upd {w w' : World} {g b : Nat} {l : List Nat} (h : RI w g l) (hu : Upd b w w') (hne : g ≠ b) : RI w' g l := ⟨Nat.lt_of_lt_of_le h.1 hu.size, fun j hj => (World.cell?_of_block (a := ⟨g, j, none⟩) (hu.block g h.1 hne)).trans (h.2 j hj)⟩
theorem own_RI {w : World} {base n : Nat} {v : Value} {l : List Nat} (h : w.ownsRow base 3 1 v n (l.map iv)) (hn : 0 < n) : ∃ g c, v = .slice (some ⟨g, 0, none⟩) n c ∧ base ≤ g ∧ n ≤ c ∧ RI w g l := by
  obtain ⟨A, c, rfl⟩ := own_form h
  have h0 := h
  rcases h.2 with ⟨e, h0⟩ | ⟨g, cap, cur, e, hb, hg, hnc, _⟩
  · omega
  · cases e
    have hl : l.length = n := by simpa using h.1
    refine ⟨g, c, rfl, hb, hnc, ?_, fun j hj => ?_⟩
    · exact (h.lt g rfl).2
    · rw [h0.cellAt j (by omega)]
      simp [iv, List.getD_eq_getElem?_getD, hj]
/-- The document's product under way. -/
structure TmR (w : World) (B gx gy P : Nat) (x y p : List Nat) (V : World) : Prop where
  p : Obj V P 3 (cellsI p)
  x : RI V gx x
  y : RI V gy y
  r : Obj V (B + 1 + 1) 22 (cellsN (List.replicate 16 0))
  bel : Below w.heap.size w V
theorem TmR.drew {w V : World} {B gx gy P : Nat} {x y p : List Nat} (h : TmR w B gx gy P x y p V) : TmR w B gx gy P x y p V.drew := ⟨h.p, h.x, h.y, h.r, h.bel.drew⟩
theorem TmR.set {w V : World} {B gx gy P : Nat} {x y p : List Nat} (h : TmR w B gx gy P x y p V) (hw : w.heap.size = B) (h1 : B + 2 < P) (h2 : gx ≠ P) (h3 : gy ≠ P) (j v : Nat) : TmR w B gx gy P x y (p.set j v) (V.setCell ⟨P, j, none⟩ (.int .i64 (v : Int))) :=
  ⟨h.p.setI j v, h.x.upd ((Upd.refl P V).set j _) h2, h.y.upd ((Upd.refl P V).set j _) h3, h.r.far (by simp; omega) _, h.bel.setCell (by simp; omega) _⟩

/-- The product's bytes under way. -/
structure OuI (w : World) (B P O : Nat) (p : List Nat) (k : Nat) (V : World) : Prop where
  c : Obj V P 3 (cellsI p)
  o : Obj V O 22 (cellsN (Gc.outL p k))
  r : Obj V (B + 1 + 1) 22 (cellsN (List.replicate 16 0))
  bel : Below w.heap.size w V

set_option maxRecDepth 100000 in
set_option maxHeartbeats 8000000 in
theorem refProd_any (a b : List Nat) (w : World) (la : a.length = 16) (lb : b.length = 16) (qa : Ae.bytes a) (qb : Ae.bytes b) :
    Calls Try.prog 11 #[.agg (cellsN a), .agg (cellsN b)] w fun e w' => e = .returned (.agg (cellsN (Gc.bn (Gc.mul (Gc.nb a) (Gc.nb b))))) ∧ Below w.heap.size w w' := by
  obtain ⟨B, hB⟩ : ∃ B, w.heap.size = B := ⟨_, rfl⟩
  obtain ⟨W3, hW3⟩ : ∃ W3, ((w.alloc (.cells (cellsN a) 22)).alloc (.cells (cellsN b) 22)).alloc (.cells #[.int .u8 0, .int .u8 0, .int .u8 0, .int .u8 0, .int .u8 0, .int .u8 0, .int .u8 0, .int .u8 0, .int .u8 0, .int .u8 0, .int .u8 0, .int .u8 0, .int .u8 0, .int .u8 0, .int .u8 0, .int .u8 0] 22) = W3 := ⟨_, rfl⟩
  have hb3 : Below w.heap.size w W3 := hW3 ▸ (((Below.refl _ w).alloc (Nat.le_refl _) _).alloc (by simp) _).alloc (by simp; omega) _
  have s3 : W3.heap.size = B + 3 := by rw [← hW3]; simp [hB]
  have o0 : Obj W3 B 22 (cellsN a) := hW3 ▸ hB ▸ ((Obj.new w _ _).alloc _).alloc _
  have o1 : Obj W3 (B + 1) 22 (cellsN b) := by
    have := (new2 w (.cells (cellsN a) 22) 22 (cellsN b)).alloc (.cells #[.int .u8 0, .int .u8 0, .int .u8 0, .int .u8 0, .int .u8 0, .int .u8 0, .int .u8 0, .int .u8 0, .int .u8 0, .int .u8 0, .int .u8 0, .int .u8 0, .int .u8 0, .int .u8 0, .int .u8 0, .int .u8 0] 22)
    rw [hB, hW3] at this; exact this
  have o2 : Obj W3 (B + 1 + 1) 22 (cellsN (List.replicate 16 0)) := by
    have := Obj.new ((w.alloc (.cells (cellsN a) 22)).alloc (.cells (cellsN b) 22)) 22 #[.int .u8 0, .int .u8 0, .int .u8 0, .int .u8 0, .int .u8 0, .int .u8 0, .int .u8 0, .int .u8 0, .int .u8 0, .int .u8 0, .int .u8 0, .int .u8 0, .int .u8 0, .int .u8 0, .int .u8 0, .int .u8 0]
    simp only [World.size_alloc, hB] at this; rw [hW3] at this; exact this
  have HIA := Lib.hid (size16 la)
  have HIB := Lib.hid (size16 lb)
  have H1 := Lib.hid (fun w => list_any a w la qa)
  have H2 := Lib.hid (fun w => list_any b w lb qb)
  have HRES := Lib.hid (Gc.times_ref la lb qa qb)
  have hlx := Gc.lbs_len a 128
  have hly := Gc.lbs_len b 128
  have hbx := Gc.lbs_bl a 128
  have hby := Gc.lbs_bl b 128
  generalize Gc.bn (Gc.mul (Gc.nb a) (Gc.nb b)) = R at *
  generalize Gc.lbs a 128 = x at *
  generalize Gc.lbs b 128 = y at *
  have hS0 : Obj W3.drew B 22 (cellsN a) ∧ Obj W3.drew (B + 1) 22 (cellsN b) ∧ Obj W3.drew (B + 1 + 1) 22 (cellsN (List.replicate 16 0)) ∧ Below w.heap.size w W3.drew := ⟨o0.drew, o1.drew, o2.drew, hb3.drew⟩
  have HW3 := Lib.hid hW3
  have HB := Lib.hid hB
  have HS3 := Lib.hid s3
  clear hW3 o0 o1 o2 hb3 qa qb la lb
  go_enter Try.func11, Try.ntmps11
  go_wp2
  rw [HW3.out]
  clear s3
  refine wp_nopanic0 ?_
  refine wp_region_held_drew (S := (fun wq => Obj wq B 22 (cellsN a) ∧ Obj wq (B + 1) 22 (cellsN b) ∧ Obj wq (B + 1 + 1) 22 (cellsN (List.replicate 16 0)) ∧ Below w.heap.size w wq)) (by kernel_rfl) hS0 (fun hHeld => ?_)
  refine wpAnyH_take (i := 0) (oi := ?_) (v := ?_) ?_ ?_ ?_ ?_ ?_ ?_ (by assumption) ?_
  rotate_left 2
  · simp only [List.getElem?_toArray, List.getElem?_cons_zero, List.getElem?_cons_succ]
    rfl
  · kernel_rfl
  · kernel_rfl
  · kernel_rfl
  · exact fun _ _ _ h => h
  · refine yieldsIf_load_row (g := B) (t := 22) (cs := cellsN a) (ty := 22) (x := (.tmp 2)) ?_ ?_ ?_ ?_ Try.underlying22 rfl HIA.out
    · rfl
    · rfl
    · rfl
    · exact fun w hSw => hSw.1
  simp only [Act.put, List.setIfInBounds_toArray, List.set_cons_zero, List.set_cons_succ]
  refine wpAnyH_take (i := 2) (oi := ?_) (v := ?_) ?_ ?_ ?_ ?_ ?_ ?_ (by assumption) ?_
  rotate_left 2
  · simp only [List.getElem?_toArray, List.getElem?_cons_zero, List.getElem?_cons_succ]
    rfl
  · kernel_rfl
  · kernel_rfl
  · kernel_rfl
  · exact fun _ _ _ h => h
  · refine yieldsIf_load_row (g := (B + 1)) (t := 22) (cs := cellsN b) (ty := 22) (x := (.tmp 3)) ?_ ?_ ?_ ?_ Try.underlying22 rfl HIB.out
    · rfl
    · rfl
    · rfl
    · exact fun w hSw => hSw.2.1
  simp only [Act.put, List.setIfInBounds_toArray, List.set_cons_zero, List.set_cons_succ]
  refine wpAnyH_ready (rs := [1]) (by kernel_rfl) (by simp) ?_
  refine AllReadyH.cons (o := ?_) ?_ (fun KK hKK => ?_) AllReadyH.nil
  rotate_left
  · simp only [List.getElem?_toArray, List.getElem?_cons_zero, List.getElem?_cons_succ]
    rfl
  go_simp
  refine (H1.out _).mono ?_
  rintro e y1 ⟨vx, rfl, hvx, hy1⟩
  have hS1 : Obj y1 B 22 (cellsN a) ∧ Obj y1 (B + 1) 22 (cellsN b) ∧ Obj y1 (B + 1 + 1) 22 (cellsN (List.replicate 16 0)) ∧ Below w.heap.size w y1 := ⟨hS0.1.kept hy1, hS0.2.1.kept hy1, hS0.2.2.1.kept hy1, hS0.2.2.2.trans (hy1.mono hS0.2.2.2.size)⟩
  obtain ⟨gx, cx, rfl, hgx, hcx, hrx⟩ := own_RI hvx (by decide)
  clear hy1 hvx
  try go_wp2_with fail
  refine hKK.out _ _ ?_ (fun hh1 => ?_)
  · (try dsimp only)
    exact hS1
  clear hKK KK
  try simp only [Act.put, List.setIfInBounds_toArray, List.set_cons_zero, List.set_cons_succ]
  refine wpAnyH_ready (rs := [3]) (by kernel_rfl) (by simp) ?_
  refine AllReadyH.cons (o := ?_) ?_ (fun KK hKK => ?_) AllReadyH.nil
  rotate_left
  · simp only [List.getElem?_toArray, List.getElem?_cons_zero, List.getElem?_cons_succ]
    rfl
  go_simp
  refine (H2.out _).mono ?_
  rintro e y2 ⟨vy, rfl, hvy, hy2⟩
  have hS2 : Obj y2 B 22 (cellsN a) ∧ Obj y2 (B + 1) 22 (cellsN b) ∧ Obj y2 (B + 1 + 1) 22 (cellsN (List.replicate 16 0)) ∧ Below w.heap.size w y2 := ⟨hS1.1.kept hy2, hS1.2.1.kept hy2, hS1.2.2.1.kept hy2, hS1.2.2.2.trans (hy2.mono hS1.2.2.2.size)⟩
  obtain ⟨gy, cy, rfl, hgy, hcy, hry⟩ := own_RI hvy (by decide)
  have HX := Lib.hid (hrx.kept hy2)
  have HY := Lib.hid hry
  have HT := Lib.hid hS2
  clear hy2 hvy hrx hry hgx hgy hcx hcy
  try go_wp2_with fail
  refine hKK.out _ _ ?_ (fun hh3 => ?_)
  · (try dsimp only)
    exact HT.out
  clear hKK KK
  try simp only [Act.put, List.setIfInBounds_toArray, List.set_cons_zero, List.set_cons_succ]
  refine wpAnyH_take (i := 4) (oi := ?_) (v := ?_) ?_ ?_ ?_ ?_ ?_ ?_ (by assumption) ?_
  rotate_left 2
  · simp only [List.getElem?_toArray, List.getElem?_cons_zero, List.getElem?_cons_succ]
    rfl
  · kernel_rfl
  · kernel_rfl
  · kernel_rfl
  · exact fun _ _ _ h => h
  · refine Or.inl ⟨by rfl, ?_⟩
    intro w hSw
    (try dsimp only at hSw)
    go_simp
    all_goals with_reducible rfl
  simp only [Act.put, List.setIfInBounds_toArray, List.set_cons_zero, List.set_cons_succ]
  refine wpAnyH_take (i := 5) (oi := ?_) (v := ?_) ?_ ?_ ?_ ?_ ?_ ?_ (by assumption) ?_
  rotate_left 2
  · simp only [List.getElem?_toArray, List.getElem?_cons_zero, List.getElem?_cons_succ]
    rfl
  · kernel_rfl
  · kernel_rfl
  · kernel_rfl
  · exact fun _ _ _ h => h
  · refine Or.inl ⟨by rfl, ?_⟩
    intro w hSw
    (try dsimp only at hSw)
    go_simp
    all_goals with_reducible rfl
  simp only [Act.put, List.setIfInBounds_toArray, List.set_cons_zero, List.set_cons_succ]
  refine wpAnyH_done (by kernel_rfl) ?_ _
  have hmk : ∀ w, (Instr.makeSlice 49 (.int .i64 255) (.int .i64 255)).run Try.prog w = .ok (.slice (some ⟨w.heap.size, 0, none⟩) 255 255) (w.alloc (.cells (cellsI (List.replicate 255 0)) 3)) := fun w => mkI 255 (by omega) w
  obtain ⟨P, hP⟩ : ∃ P, y2.heap.size = P := ⟨_, rfl⟩
  have hxP : gx ≠ P := by have := HX.out.1; omega
  have hyP : gy ≠ P := by have := HY.out.1; omega
  have hBP : B + 2 < P := by have := HT.out.2.2.1.lt; omega
  have k1 : Below y2.heap.size y2 (y2.alloc (.cells (cellsI (List.replicate 255 0)) 3)) := (Below.refl _ y2).alloc (Nat.le_refl _) _
  have HI0 : Hid (TmR w B gx gy P x y (Gc.prod x y 0) (y2.alloc (.cells (cellsI (List.replicate 255 0)) 3))) :=
    ⟨hP ▸ Obj.new y2 _ _, HX.out.kept k1, HY.out.kept k1, HT.out.2.2.1.kept k1, HT.out.2.2.2.trans (k1.mono HT.out.2.2.2.size)⟩
  have HLX := Lib.hid hlx
  have HLY := Lib.hid hly
  clear k1 hh1 hh3 hHeld hlx hly HX HY HT
  go_wp2
  clear hmk hP
  go_loopw [8] (fun i wr => ∃ j : Nat, j ≤ 128 ∧ i = .int .i64 (j : Int) ∧ TmR w B gx gy P x y (Gc.prod x y j) wr) (fun i _ => 128 - (intOf i).toNat)
  case atStart => exact ⟨0, by omega, rfl, HI0.out⟩
  case round =>
    clear HI0
    obtain ⟨j, hj, rfl, hF⟩ := hrel
    by_cases hlt : j < 128
    · have hji : (j : Int) < 128 := by omega
      have hpl := Gc.prod_len x y j
      have hpb := Gc.prod_bl x hby j hj
      by_cases hu : x.getD j 0 = 1
      · have HNX : Hid (Gc.rowL (Gc.prod x y j) y j 128 = Gc.prod x y (j + 1)) := by unfold Hid; rw [Gc.prod, if_pos hu]
        have HF0 : Hid (TmR w B gx gy P x y (Gc.rowL (Gc.prod x y j) y j 0) wr) := hF
        have HU := Lib.hid hu
        have HPL := Lib.hid hpl
        have HPB := Lib.hid hpb
        clear hF hu hpl hpb
        go_wp2
        go_loopw [9] (fun k V => ∃ m : Nat, m ≤ 128 ∧ k = .int .i64 (m : Int) ∧ TmR w B gx gy P x y (Gc.rowL (Gc.prod x y j) y j m) V) (fun k _ => 128 - (intOf k).toNat)
        case atStart => exact ⟨0, by omega, rfl, HF0.out⟩
        case round =>
          clear HF0
          obtain ⟨m, hm, rfl, hG⟩ := hrel
          have c0 := hG.x.2 j (by rw [HLX.out]; exact hlt)
          rw [HU.out] at c0
          by_cases hms : m < 128
          · have hmsi : (m : Int) < 128 := by omega
            obtain ⟨q, hq⟩ : ∃ q, j + m = q := ⟨_, rfl⟩
            have hqi : (j : Int) + (m : Int) = (q : Int) := by omega
            have hq255 : (q : Int) < 255 := by omega
            have hql : q < (Gc.rowL (Gc.prod x y j) y j m).length := by rw [Gc.rowL_len, HPL.out]; omega
            have c1 := hG.p.getI q hql
            have c2 := hG.p.free q
            have c3 := hG.y.2 m (by rw [HLY.out]; exact hms)
            have hrb := Gc.rowL_bl HPB.out hby j HPL.out hlt m hm
            have hxr := i64_xor ((Gc.rowL (Gc.prod x y j) y j m).getD q 0) (y.getD m 0) (by have := hrb q; omega) (by have := hby m; omega)
            have HN2 : Hid (TmR w B gx gy P x y (Gc.rowL (Gc.prod x y j) y j (m + 1)) (wr.drew.setCell ⟨P, q, none⟩ (.int .i64 (((Gc.rowL (Gc.prod x y j) y j m).getD q 0 ^^^ y.getD m 0 : Nat) : Int)))) := by
              have := hG.drew.set HB.out hBP hxP hyP q ((Gc.rowL (Gc.prod x y j) y j m).getD q 0 ^^^ y.getD m 0)
              rw [← hq] at this ⊢
              exact this
            generalize (Gc.rowL (Gc.prod x y j) y j m).getD q 0 = pq at *
            generalize y.getD m 0 = ym at *
            clear hG hrb hql hq
            go_wp2
            go_region
            go_wp2
            go_roundw
            case rel => exact ⟨m + 1, by omega, by go_num, HN2.out⟩
            case measure => simp [intOf]; omega
          · obtain rfl : m = 128 := by omega
            rw [HNX.out] at hG
            have HG := Lib.hid hG
            clear hG
            go_wp2
            go_roundw
            case rel => exact ⟨j + 1, by omega, by go_num, HG.out⟩
            case measure => simp [intOf]; omega
      · have HNX : Hid (Gc.prod x y (j + 1) = Gc.prod x y j) := by unfold Hid; rw [Gc.prod, if_neg hu]
        have c0 := hF.x.2 j (by rw [HLX.out]; exact hlt)
        obtain ⟨u, hue⟩ : ∃ u, x.getD j 0 = u := ⟨_, rfl⟩
        rw [hue] at c0 hu
        have hui : ¬ (u : Int) = 1 := by omega
        have HF := Lib.hid hF
        clear hF hue hu hpl hpb
        go_wp2
        go_loopw [9] (fun k V => k = .int .i64 0 ∧ V = wr) (fun k _ => 0)
        case atStart => exact ⟨rfl, rfl⟩
        case round =>
          obtain ⟨rfl, rfl⟩ := hrel
          go_wp2
          go_roundw
          case rel => exact ⟨j + 1, by omega, by go_num, by rw [HNX.out]; exact HF.out⟩
          case measure => simp [intOf]; omega
    · obtain rfl : j = 128 := by omega
      have hPl := Gc.prod_len x y 128
      have hPb := Gc.prod_bl x hby 128 (Nat.le_refl _)
      generalize Gc.prod x y 128 = Q at *
      have HF0 : Hid (TmR w B gx gy P x y (Gc.red Q 0) wr) := hF
      clear hF hlt hj
      go_wp2
      go_loopw [10] (fun i V => ∃ m : Nat, m ≤ 127 ∧ i = .int .i64 (254 - (m : Int)) ∧ TmR w B gx gy P x y (Gc.red Q m) V) (fun i _ => ((intOf i) - 127).toNat)
      case atStart => exact ⟨0, by omega, rfl, HF0.out⟩
      case round =>
        clear HF0
        obtain ⟨m, hm, rfl, hG⟩ := hrel
        have hrl := Gc.red_len Q m
        rw [hPl] at hrl
        have hrb := Gc.red_bl hPb hPl m hm
        obtain ⟨q, hq⟩ : ∃ q, 254 - m = q := ⟨_, rfl⟩
        have hqi : (254 : Int) - (m : Int) = (q : Int) := by omega
        rw [hqi]
        by_cases hms : m < 127
        · have hq128 : (128 : Int) ≤ (q : Int) := by omega
          have hq255 : (q : Int) < 255 := by omega
          have c0 := hG.p.getI q (by rw [hrl]; omega)
          have f0 := hG.p.free q
          by_cases h1 : (Gc.red Q m).getD q 0 = 1
          · have HNX : Hid (Gc.cut5 (Gc.red Q m) q = Gc.red Q (m + 1)) := by unfold Hid; rw [Gc.red, hq, if_pos h1]
            rw [h1] at c0
            generalize Gc.red Q m = p at *
            obtain ⟨r1, hr1⟩ : ∃ r, q - 128 = r := ⟨_, rfl⟩
            obtain ⟨r2, hr2⟩ : ∃ r, q - 127 = r := ⟨_, rfl⟩
            obtain ⟨r3, hr3⟩ : ∃ r, q - 126 = r := ⟨_, rfl⟩
            obtain ⟨r4, hr4⟩ : ∃ r, q - 121 = r := ⟨_, rfl⟩
            have i1 : (q : Int) - 128 = (r1 : Int) := by omega
            have i2 : (q : Int) - 127 = (r2 : Int) := by omega
            have i3 : (q : Int) - 126 = (r3 : Int) := by omega
            have i4 : (q : Int) - 121 = (r4 : Int) := by omega
            have j1 : (r1 : Int) < 255 := by omega
            have j2 : (r2 : Int) < 255 := by omega
            have j3 : (r3 : Int) < 255 := by omega
            have j4 : (r4 : Int) < 255 := by omega
            have g1 : TmR w B gx gy P x y (Gc.cut1 p q) (wr.setCell ⟨P, q, none⟩ (.int .i64 0)) := by
              have := hG.set HB.out hBP hxP hyP q (p.getD q 0 ^^^ 1)
              rw [h1] at this
              unfold Gc.cut1; rw [h1]; exact this
            have b1 := Gc.cut1_bl hrb q (by omega)
            have l1 := Gc.cut1_len p q
            obtain ⟨p1, hp1⟩ : ∃ p1, Gc.cut1 p q = p1 := ⟨_, rfl⟩
            rw [hp1] at g1 b1 l1
            have d1 := g1.p.getI r1 (by omega)
            have e1 := g1.p.free r1
            have x1 := i64_xor (p1.getD r1 0) 1 (by have := b1 r1; omega) (by decide)
            have g2 := g1.set HB.out hBP hxP hyP r1 (p1.getD r1 0 ^^^ 1)
            have b2 := Gc.cut1_bl b1 r1 (by omega)
            have l2 := Gc.cut1_len p1 r1
            change TmR w B gx gy P x y (Gc.cut1 p1 r1) _ at g2
            obtain ⟨p2, hp2⟩ : ∃ p', Gc.cut1 p1 r1 = p' := ⟨_, rfl⟩
            rw [hp2] at g2 b2 l2
            generalize p1.getD r1 0 = a1 at *
            change bits .xor .i64 (a1 : Int) 1 = _ at x1
            have d2 := g2.p.getI r2 (by omega)
            have e2 := g2.p.free r2
            have x2 := i64_xor (p2.getD r2 0) 1 (by have := b2 r2; omega) (by decide)
            have g3 := g2.set HB.out hBP hxP hyP r2 (p2.getD r2 0 ^^^ 1)
            have b3 := Gc.cut1_bl b2 r2 (by omega)
            have l3 := Gc.cut1_len p2 r2
            change TmR w B gx gy P x y (Gc.cut1 p2 r2) _ at g3
            obtain ⟨p3, hp3⟩ : ∃ p', Gc.cut1 p2 r2 = p' := ⟨_, rfl⟩
            rw [hp3] at g3 b3 l3
            generalize p2.getD r2 0 = a2 at *
            change bits .xor .i64 (a2 : Int) 1 = _ at x2
            have d3 := g3.p.getI r3 (by omega)
            have e3 := g3.p.free r3
            have x3 := i64_xor (p3.getD r3 0) 1 (by have := b3 r3; omega) (by decide)
            have g4 := g3.set HB.out hBP hxP hyP r3 (p3.getD r3 0 ^^^ 1)
            have b4 := Gc.cut1_bl b3 r3 (by omega)
            have l4 := Gc.cut1_len p3 r3
            change TmR w B gx gy P x y (Gc.cut1 p3 r3) _ at g4
            obtain ⟨p4, hp4⟩ : ∃ p', Gc.cut1 p3 r3 = p' := ⟨_, rfl⟩
            rw [hp4] at g4 b4 l4
            generalize p3.getD r3 0 = a3 at *
            change bits .xor .i64 (a3 : Int) 1 = _ at x3
            have d4 := g4.p.getI r4 (by omega)
            have e4 := g4.p.free r4
            have x4 := i64_xor (p4.getD r4 0) 1 (by have := b4 r4; omega) (by decide)
            have g5 := g4.set HB.out hBP hxP hyP r4 (p4.getD r4 0 ^^^ 1)
            have b5 := Gc.cut1_bl b4 r4 (by omega)
            have l5 := Gc.cut1_len p4 r4
            change TmR w B gx gy P x y (Gc.cut1 p4 r4) _ at g5
            obtain ⟨p5, hp5⟩ : ∃ p', Gc.cut1 p4 r4 = p' := ⟨_, rfl⟩
            rw [hp5] at g5 b5 l5
            generalize p4.getD r4 0 = a4 at *
            change bits .xor .i64 (a4 : Int) 1 = _ at x4
            have hp5' : Gc.cut5 p q = p5 := by unfold Gc.cut5; rw [hr1, hr2, hr3, hr4, hp1, hp2, hp3, hp4, hp5]
            rw [hp5'] at HNX
            have HG5 := Lib.hid g5
            clear g1 g2 g3 g4 g5 b1 b2 b3 b4 b5 l1 l2 l3 l4 l5 hp1 hp2 hp3 hp4 hp5 hp5' hr1 hr2 hr3 hr4 hrl hrb h1 hq hG
            go_wp2
            go_roundw
            case rel => exact ⟨m + 1, by omega, by go_num, by rw [← HNX.out]; exact HG5.out⟩
            case measure => simp [intOf]; omega
          · have HNX : Hid (Gc.red Q (m + 1) = Gc.red Q m) := by unfold Hid; rw [Gc.red, hq, if_neg h1]
            obtain ⟨u, hu⟩ : ∃ u, (Gc.red Q m).getD q 0 = u := ⟨_, rfl⟩
            rw [hu] at c0 h1
            have hui : ¬ (u : Int) = 1 := by omega
            have HG := Lib.hid hG
            clear hG hu h1 hrl hrb
            go_wp2
            go_roundw
            case rel => exact ⟨m + 1, by omega, by go_num, by rw [HNX.out]; exact HG.out⟩
            case measure => simp [intOf]; omega
        · obtain rfl : m = 127 := by omega
          obtain rfl : 127 = q := hq
          obtain ⟨O, hO⟩ : ∃ O, wr.heap.size = O := ⟨_, rfl⟩
          have hPO : P < O := hO ▸ hG.p.lt
          have HRES2 : Hid (Gc.outL (Gc.red Q 127) 128 = R) := HRES.out
          clear HRES
          generalize Gc.red Q 127 = p at *
          have hOZ := Gc.outL_zero p
          have HF4 : Hid (OuI w B P O p 0 (wr.alloc (.cells #[.int .u8 0, .int .u8 0, .int .u8 0, .int .u8 0, .int .u8 0, .int .u8 0, .int .u8 0, .int .u8 0, .int .u8 0, .int .u8 0, .int .u8 0, .int .u8 0, .int .u8 0, .int .u8 0, .int .u8 0, .int .u8 0] 22))) := ⟨hG.p.alloc _, (hO ▸ Obj.new wr _ _ : Obj _ O _ _).as (by rw [hOZ]; rfl), hG.r.alloc _, hG.bel.alloc hG.bel.size _⟩
          have HRB := Lib.hid hrb
          have HRL := Lib.hid hrl
          clear hG hrl hrb hxP hyP hOZ
          go_wp2
          clear hO
          go_loopw [12] (fun i V => ∃ k : Nat, k ≤ 128 ∧ i = .int .i64 (k : Int) ∧ OuI w B P O p k V) (fun i _ => 128 - (intOf i).toNat)
          case atStart => exact ⟨0, by omega, rfl, HF4.out⟩
          case round =>
            clear HF4
            obtain ⟨k, hk, rfl, hI⟩ := hrel
            by_cases hkl : k < 128
            · have hki : (k : Int) < 128 := by omega
              obtain ⟨q, hq⟩ : ∃ q, k / 8 = q := ⟨_, rfl⟩
              have hqi : (k : Int) / 8 = (q : Int) := by omega
              have hq16 : (q : Int) < 16 := by omega
              have c0 := hI.c.getI k (by rw [HRL.out]; omega)
              have c1 := hI.o.getN q (by rw [Gc.outL_len]; omega)
              have f1 := hI.o.free q
              rw [show q = k / 8 from hq.symm, Gc.outL_at p k hkl, hq] at c1
              have ho := Gc.outv_lt HRB.out q (k % 8)
              have ho2 : Gc.outv p q (k % 8) < 128 := Nat.lt_of_lt_of_le ho (Nat.le_trans (Nat.pow_le_pow_right (by decide) (show k % 8 ≤ 7 by omega)) (by decide))
              have hp2 := HRB.out k
              have HN : Hid (OuI w B P O p (k + 1) (wr.drew.setCell ⟨O, q, none⟩ (.int .u8 ((Gc.outv p q (k % 8) * 2 + p.getD k 0 : Nat) : Int)))) := by
                have h1 := Gc.outL_set p k hkl
                rw [hq] at h1
                have h2 := hI.o.drew.setN q (Gc.outv p q (k % 8) * 2 + p.getD k 0)
                rw [h1] at h2
                exact ⟨hI.c.drew.far (by simp; omega) _, h2, hI.r.drew.far (by simp; omega) _, hI.bel.drew.setCell (by have := HB.out; simp; omega) _⟩
              generalize Gc.outv p q (k % 8) = ov at *
              generalize p.getD k 0 = pk at *
              have hov : ((ov * 2 + pk : Nat) : Int) = (ov : Int) * 2 + (pk : Int) := by omega
              have hpk256 : (pk : Int) < 2 := by omega
              have hov128 : (ov : Int) < 128 := by omega
              rw [hov] at HN
              clear hI ho hq hov
              go_wp2
              go_region
              go_wp2
              go_roundw
              case rel => exact ⟨k + 1, by omega, by go_num, HN.out⟩
              case measure => simp [intOf]; omega
            · obtain rfl : k = 128 := by omega
              have HI := Lib.hid hI
              have HSO := Lib.hid (size16 (Gc.outL_len p 128))
              have HSZ : Hid ((cellsN (List.replicate 16 0)).size = (cellsN (Gc.outL p 128)).size) := by unfold Hid; rw [cellsN_size, cellsN_size, Gc.outL_len]; rfl
              have HFI : Hid (Obj (wr.setRow (B + 1 + 1) (cellsN (Gc.outL p 128))) (B + 1 + 1) 22 (cellsN (Gc.outL p 128)) ∧ Below w.heap.size w (wr.setRow (B + 1 + 1) (cellsN (Gc.outL p 128)))) := ⟨hI.r.row _, Upd.below hI.bel (by have := HB.out; omega) ((Upd.refl _ _).row _)⟩
              clear hI
              go_wp2_with (first
                | (refine wpList_load_row rfl 22 (.tmp 11) rfl O rfl _ _ _ _ HI.out.o Try.underlying22 rfl HSO.out ?_)
                | (refine wpList_store_row rfl 22 (.tmp 4) (.tmp 119) rfl _ _ rfl rfl _ _ HI.out.r HSO.out HSZ.out (one_cellsN _) ?_))
              refine bodyPost_ret (v := .agg (cellsN (Gc.outL p 128))) (results_cell_row rfl _ _ _ _ _ _ _ rfl HFI.out.1 Try.underlying22 rfl HSO.out) rfl ⟨?_, HFI.out.2⟩
              rw [HRES2.out]
end Go.Proofs.Ytnphanhoakbkpaa
