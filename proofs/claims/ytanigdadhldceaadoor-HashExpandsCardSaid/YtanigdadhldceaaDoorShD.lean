/- Layer 7's Turn of the document, walked. -/
import Derived.Test.YtanigdadhldceaaDoorRows
import Derived.Test.YtanigdadhldceaaDoorAid
import Derived.Test.YtanigdadhldceaaDoorPlainSh
import Derived.Test.YtanigdadhldceaaDoorBy
import Derived.Test.YtanigdadhldceaaDoorShA
import Derived.Test.YtanigdadhldceaaDoorShB
import Derived.Test.YtanigdadhldceaaDoorShW
import Derived.Test.YtanigdadhldceaaDoorHeldT
import Derived.Test.YtanigdadhldceaaDoorShC
import Derived.WalkKit
import Derived.OwnWalk
import Derived.Laws.Rows
import Derived.Laws.Tables
import Derived.Laws.BitsAllLaws
import Derived.WalkSpells
import Derived.WalkLawsBesides
import Derived.Deep.QuietTactic
import Derived.BigQuiet
import Derived.Handy
import Derived.Lib.Hide
import Derived.Deep.WholeRow
import Derived.IntWalk
import Derived.StillTailTactics
import Derived.Deep.RegionHeld3
namespace Go.Proofs.YtanigdadhldceaaDoor
open Go.RowKit
set_option linter.unusedVariables false
set_option linter.unusedSimpArgs false

theorem set_farU {w : World} {b i j : Nat} (v u : Value) (h : w.cell? ⟨b, i, none⟩ = some u) (hne : i ≠ j) : (w.setCell ⟨b, j, none⟩ v).cell? ⟨b, i, none⟩ = some u :=
  (World.cell?_setCell_other _ _ _ _ (by intro e; cases e; exact hne rfl)).trans h
theorem set_farB {w : World} {b c i j : Nat} (v u : Value) (h : w.cell? ⟨b, i, none⟩ = some u) (hne : b ≠ c) : (w.setCell ⟨c, j, none⟩ v).cell? ⟨b, i, none⟩ = some u :=
  (World.cell?_setCell_other _ _ _ _ (by intro e; cases e; exact hne rfl)).trans h
/-- Turn's blocks. -/
structure RdU (w0 : World) (B : Nat) (h : List Nat) (l : List Nat) (w : World) : Prop where
  hO : Obj w B 40 (cellsK .u32 h)
  rO : Obj w (B + 1) 40 (cellsK .u32 (List.replicate 8 0))
  wO : Obj w (B + 1 + 1) 54 (cellsK .u64 (row64 l))
  bel : Below B w0 w
theorem RdU.drewN {w0 w : World} {B : Nat} {h l : List Nat} (q : RdU w0 B h l w) (n : Nat) : RdU w0 B h l (w.drewN n) := ⟨q.hO, q.rO, q.wO, ⟨q.bel.os, q.bel.tape, q.bel.output, q.bel.size, q.bel.block⟩⟩
theorem RdU.set {w0 w : World} {B : Nat} {h l : List Nat} (q : RdU w0 B h l w) (hl : l.length < 64) (v : Nat) : RdU w0 B h (l ++ [v]) (w.setCell ⟨B + 1 + 1, l.length, none⟩ (.int .u64 ((v : Nat) : Int))) := by
  have hu : Upd (B + 1 + 1) w (w.setCell ⟨B + 1 + 1, l.length, none⟩ (.int .u64 ((v : Nat) : Int))) := (Upd.refl _ w).set _ _
  refine ⟨q.hO.upd hu (by omega), q.rO.upd hu (by omega), ?_, ⟨hu.os.trans q.bel.os, hu.tape.trans q.bel.tape, hu.output.trans q.bel.output, Nat.le_trans q.bel.size hu.size, fun k hk => (hu.block k (by have := q.hO.lt; omega) (by omega)).trans (q.bel.block k hk)⟩⟩
  rw [← row64_set l v hl]
  exact q.wO.setK l.length v
theorem RdU.kept {w0 w w' : World} {B : Nat} {h l : List Nat} (q : RdU w0 B h l w) (hb : Below w.heap.size w w') : RdU w0 B h l w' := ⟨q.hO.kept hb, q.rO.kept hb, q.wO.kept hb, q.bel.trans (hb.mono (Nat.le_of_lt q.hO.lt))⟩
theorem RdU.upd {w0 w w' : World} {B b : Nat} {h l : List Nat} (q : RdU w0 B h l w) (hu : Upd b w w') (hb : B + 1 + 1 < b) : RdU w0 B h l w' :=
  ⟨q.hO.upd hu (by omega), q.rO.upd hu (by omega), q.wO.upd hu (by omega), ⟨hu.os.trans q.bel.os, hu.tape.trans q.bel.tape, hu.output.trans q.bel.output, Nat.le_trans q.bel.size hu.size, fun k hk => (hu.block k (by have := q.hO.lt; omega) (by omega)).trans (q.bel.block k hk)⟩⟩
/-- Turn's blocks and its state's. -/
structure U2 (w0 : World) (B : Nat) (h l : List Nat) (Sb : Nat) (s : List Nat) (w : World) : Prop where
  rd : RdU w0 B h l w
  sO : Obj w Sb 56 (cellsK .u64 s)
  sb : B + 1 + 1 < Sb
theorem U2.drewN {w0 w : World} {B Sb : Nat} {h l s : List Nat} (q : U2 w0 B h l Sb s w) (n : Nat) : U2 w0 B h l Sb s (w.drewN n) := ⟨q.rd.drewN n, q.sO.drewN n, q.sb⟩
theorem U2.cell {w0 w : World} {B Sb : Nat} {h l s : List Nat} (q : U2 w0 B h l Sb s w) (hs : s.length = 8) (i : Nat) (hi : i < 8) : w.cell? ⟨Sb, i, none⟩ = some (.int .u64 ((gt s i : Nat) : Int)) := q.sO.getK i (by omega)
/-- The state's words so far. -/
def row8 (h : List Nat) (k : Nat) : List Nat := h.take k ++ List.replicate (8 - k) 0
theorem row8_zero (h : List Nat) : row8 h 0 = List.replicate 8 0 := rfl
theorem row8_len (h : List Nat) (k : Nat) (hh : h.length = 8) (hk : k ≤ 8) : (row8 h k).length = 8 := by unfold row8; rw [List.length_append, List.length_take, List.length_replicate]; omega
theorem row8_full (h : List Nat) (hh : h.length = 8) : row8 h 8 = h := by unfold row8; rw [List.take_of_length_le (by omega)]; simp
theorem row8_set (h : List Nat) (k : Nat) (hh : h.length = 8) (hk : k < 8) : (row8 h k).set k (gt h k) = row8 h (k + 1) := by
  unfold row8 gt
  have hl : (h.take k).length = k := by rw [List.length_take]; omega
  rw [List.set_append_right _ _ (by omega), hl, Nat.sub_self]
  obtain ⟨m, hm⟩ : ∃ m, 8 - k = m + 1 := ⟨8 - k - 1, by omega⟩
  rw [hm, show 8 - (k + 1) = m by omega, List.replicate_succ, List.set_cons_zero, List.take_succ_eq_append_getElem (by omega), List.append_assoc, List.getD_eq_getElem?_getD, List.getElem?_eq_getElem (by omega)]
  rfl
theorem U2.set {w0 w : World} {B Sb k : Nat} {h l : List Nat} (q : U2 w0 B h l Sb (row8 h k) w) (hh : h.length = 8) (hk : k < 8) : U2 w0 B h l Sb (row8 h (k + 1)) (w.setCell ⟨Sb, k, none⟩ (.int .u64 ((gt h k : Nat) : Int))) := by
  refine ⟨q.rd.upd ((Upd.refl Sb _).set _ _) q.sb, ?_, q.sb⟩
  rw [← row8_set h k hh hk]
  exact q.sO.setK k _
theorem wpList_store8u {ops : Array Oper} {rest : List Oper} {o : Oper} {a : Act} {w : World} {Q : Exit → Act → World → Prop} (hgd : o.guard = none) (x y : Operand) (ho : o.op = .store 56 x y)
    (g : Nat) (v0 v1 v2 v3 v4 v5 v6 v7 : Int) (hx : a.eval x = .pointer (some ⟨g, 0, none⟩)) (hy : a.eval y = .agg #[.int .u64 v0, .int .u64 v1, .int .u64 v2, .int .u64 v3, .int .u64 v4, .int .u64 v5, .int .u64 v6, .int .u64 v7]) (st : List Nat) (hO : Obj w g 56 (cellsK .u64 st)) (hl : st.length = 8)
    (h : wpList Tryd.prog ops Q rest (a.put o.dst undef) (w.setRow g #[.int .u64 v0, .int .u64 v1, .int .u64 v2, .int .u64 v3, .int .u64 v4, .int .u64 v5, .int .u64 v6, .int .u64 v7])) : wpList Tryd.prog ops Q (o :: rest) a w :=
  wpList_store_row hgd 56 x y ho g #[.int .u64 v0, .int .u64 v1, .int .u64 v2, .int .u64 v3, .int .u64 v4, .int .u64 v5, .int .u64 v6, .int .u64 v7] hx hy 56 _ hO info64x8 (by rw [cellsK_size, hl]; rfl) (by simp [Value.oneCell']) h
/-- Turn's last blocks. -/
structure U3 (w0 : World) (B Sb : Nat) (h s : List Nat) (k : Nat) (w : World) : Prop where
  hO : Obj w B 40 (cellsK .u32 (sumK h s k))
  rO : Obj w (B + 1) 40 (cellsK .u32 (List.replicate 8 0))
  sO : Obj w Sb 56 (cellsK .u64 s)
  sb : B + 1 + 1 < Sb
  bel : Below B w0 w
theorem U3.drewN {w0 w : World} {B Sb k : Nat} {h s : List Nat} (q : U3 w0 B Sb h s k w) (n : Nat) : U3 w0 B Sb h s k (w.drewN n) := ⟨q.hO, q.rO, q.sO, q.sb, ⟨q.bel.os, q.bel.tape, q.bel.output, q.bel.size, q.bel.block⟩⟩
theorem U3.set {w0 w : World} {B Sb k : Nat} {h s : List Nat} (q : U3 w0 B Sb h s k w) (hk : k < 8) : U3 w0 B Sb h s (k + 1) (w.setCell ⟨B, k, none⟩ (.int .u32 (((gt h k + gt s k) % 4294967296 : Nat) : Int))) := by
  have hu : Upd B w (w.setCell ⟨B, k, none⟩ (.int .u32 (((gt h k + gt s k) % 4294967296 : Nat) : Int))) := (Upd.refl _ w).set _ _
  have hsb := q.sb
  refine ⟨?_, q.rO.upd hu (by omega), q.sO.upd hu (by omega), q.sb, ⟨hu.os.trans q.bel.os, hu.tape.trans q.bel.tape, hu.output.trans q.bel.output, Nat.le_trans q.bel.size hu.size, fun j hj => (hu.block j (by have := q.hO.lt; omega) (by omega)).trans (q.bel.block j hj)⟩⟩
  rw [← sumK_set h s k hk]
  exact q.hO.setK k _
theorem wrap64u (a b c : Nat) (h : a + b = c) (hc : c < 18446744073709551616) : IntKind.u64.wrap ((a : Int) + (b : Int)) = (c : Int) := by rw [IntKind.wrap_u64]; omega
theorem up32 {a : Nat} (h : a < 4294967296) : a < 18446744073709551616 := Nat.lt_trans h (by decide)

set_option maxRecDepth 100000 in
set_option maxHeartbeats 16000000 in
theorem turn_any (h : List Nat) (A : Option Addr) (c : Nat) (l : List Nat) (w : World) (ht : Tabs w) (hh : h.length = 8) (hh2 : ∀ x ∈ h, x < 4294967296) (hA : Rb w A l) (hl : l.length = 64) (hb : ∀ x ∈ l, x < 256) (hc : 64 ≤ c ∧ c ≤ maxLen) :
    Calls Tryd.prog 23 #[.agg (cellsK .u32 h), .slice A 64 c] w fun e w' => e = .returned (.agg (cellsK .u32 (Sh.turn h l))) ∧ Below w.heap.size w w' := by
  obtain ⟨B, hB⟩ : ∃ B, w.heap.size = B := ⟨_, rfl⟩
  obtain ⟨bb, oo, rfl, hbb, hcell⟩ := hA (by omega)
  have hz := (zero_of_info zero64u).1
  have HW0 : Hid (RdU w B h [] (((w.alloc (.cells (cellsK .u32 h) 40)).alloc (.cells #[.int .u32 0, .int .u32 0, .int .u32 0, .int .u32 0, .int .u32 0, .int .u32 0, .int .u32 0, .int .u32 0] 40)).alloc (.cells (cellsK .u64 z64) 54))) := by
    have o1 := Obj.new w 40 (cellsK .u32 h)
    have o2 := Obj.new (w.alloc (.cells (cellsK .u32 h) 40)) 40 #[.int .u32 0, .int .u32 0, .int .u32 0, .int .u32 0, .int .u32 0, .int .u32 0, .int .u32 0, .int .u32 0]
    have o3 := Obj.new ((w.alloc (.cells (cellsK .u32 h) 40)).alloc (.cells #[.int .u32 0, .int .u32 0, .int .u32 0, .int .u32 0, .int .u32 0, .int .u32 0, .int .u32 0, .int .u32 0] 40)) 54 (cellsK .u64 z64)
    simp only [World.size_alloc, hB, Nat.add_assoc, Nat.reduceAdd] at o1 o2 o3
    refine ⟨(o1.alloc _).alloc _, o2.alloc _, o3, ?_⟩
    rw [← hB]
    exact (((Below.refl _ w).alloc (Nat.le_refl _) _).alloc (by simp) _).alloc (by simp; omega) _
  have HCE : Hid (∀ wr j, Below B w wr → j < 64 → ∃ v, v < 256 ∧ l.getD j 0 = v ∧ wr.cell? ⟨bb, oo + j, none⟩ = some (.int .u8 ((v : Nat) : Int))) := fun wr j hbw hj => by
    rw [← hB] at hbw
    refine ⟨l.getD j 0, ?_, rfl, (hbw.cell (p := ⟨bb, _, none⟩) hbb).trans (hcell j (by omega))⟩
    rw [List.getD_eq_getElem?_getD, List.getElem?_eq_getElem (by omega)]
    exact hb _ (List.getElem_mem _)
  have HBB : Hid (bb < B) := by unfold Hid; omega
  have HL := Lib.hid hl
  have HBY := Lib.hid hb
  have HT := Lib.hid ht
  have HH := Lib.hid hh
  have HH2 := Lib.hid hh2
  have hci : 64 ≤ c ∧ c ≤ 9223372036854775807 := ⟨hc.1, by have := hc.2; simp only [maxLen] at this; omega⟩
  clear ht hh hh2 hA hl hb hc hcell hbb
  go_enter Tryd.func23, Tryd.ntmps23
  go_wp2
  try rw [hB]
  have HB := Lib.hid hB
  clear hB
  clear hz
  go_loopw [6] (fun i wr => ∃ k : Nat, k ≤ 64 ∧ i = .int .i64 k ∧ RdU w B h (Sh.wK l k) wr) (fun i _ => 64 - (intOf i).toNat)
  case atStart => exact ⟨0, by omega, rfl, HW0.out⟩
  case round =>
    clear HW0
    obtain ⟨k, hk, rfl, hR⟩ := hrel
    have HR := Lib.hid hR
    by_cases hlt : k < 64
    · have hki : (k : Int) < 64 := by omega
      have zk := hR.wO.free k
      have ck := hR.wO.getK k (by rw [row64_len _ (by rw [Sh.wK_len]; omega)]; exact hlt)
      by_cases h16 : k < 16
      · have hk16 : (k : Int) < 16 := by omega
        obtain ⟨j0, hj0⟩ : ∃ j, 4 * k = j := ⟨_, rfl⟩
        have i0 : IntKind.i64.wrap (4 * (k : Int)) = (j0 : Int) := by rw [IntKind.wrap_i64]; omega
        have i0' : 4 * (k : Int) = (j0 : Int) := by omega
        have v0 : IntKind.i64.wrap (j0 : Int) = (j0 : Int) := by rw [IntKind.wrap_i64]; omega
        have i1 : IntKind.i64.wrap ((j0 : Int) + 1) = ((j0 + 1 : Nat) : Int) := by rw [IntKind.wrap_i64]; omega
        have i2 : IntKind.i64.wrap ((j0 : Int) + 2) = ((j0 + 2 : Nat) : Int) := by rw [IntKind.wrap_i64]; omega
        have i3 : IntKind.i64.wrap ((j0 : Int) + 3) = ((j0 + 3 : Nat) : Int) := by rw [IntKind.wrap_i64]; omega
        obtain ⟨x0, r0, t0, g0⟩ := HCE.out wr j0 hR.bel (by omega)
        obtain ⟨x1, r1, t1, g1⟩ := HCE.out wr (j0 + 1) hR.bel (by omega)
        obtain ⟨x2, r2, t2, g2⟩ := HCE.out wr (j0 + 2) hR.bel (by omega)
        obtain ⟨x3, r3, t3, g3⟩ := HCE.out wr (j0 + 3) hR.bel (by omega)
        have HWO : Hid (Sh.word l (4 * k) = ((x0 * 256 + x1) * 256 + x2) * 256 + x3) := by
          unfold Hid Sh.word
          rw [hj0, t0, t1, t2, t3]
        have b0 : (j0 : Int) < 64 := by omega
        have b1 : ((j0 : Int) + 1) < 64 := by omega
        have b2 : ((j0 : Int) + 2) < 64 := by omega
        have b3 : ((j0 : Int) + 3) < 64 := by omega
        have p1 : ((j0 : Int) + 1).toNat = j0 + 1 := by omega
        have p2 : ((j0 : Int) + 2).toNat = j0 + 2 := by omega
        have p3 : ((j0 : Int) + 3).toNat = j0 + 3 := by omega
        have n1 : (0 : Int) ≤ (j0 : Int) + 1 := by omega
        have n2 : (0 : Int) ≤ (j0 : Int) + 2 := by omega
        have n3 : (0 : Int) ≤ (j0 : Int) + 3 := by omega
        have HNX : Hid (∀ q, RdU w B h (Sh.wK l (k + 1)) ((wr.drewN q).setCell ⟨B + 1 + 1, k, none⟩ (.int .u64 ((Sh.word l (4 * k) : Nat) : Int)))) := fun q => by
          have := (hR.drewN q).set (by rw [Sh.wK_len]; exact hlt) (Sh.word l (4 * k))
          rw [Sh.wK_len] at this
          show RdU w B h (Sh.wK l k ++ [if k < 16 then Sh.word l (4 * k) else Sh.nextW (Sh.wK l k)]) _
          rw [if_pos h16]
          exact this
        rw [HWO.out] at HNX
        obtain ⟨y0, hy0⟩ : ∃ y, x0 * 256 = y := ⟨_, rfl⟩
        obtain ⟨y1, hy1⟩ : ∃ y, y0 + x1 = y := ⟨_, rfl⟩
        obtain ⟨y2, hy2⟩ : ∃ y, y1 * 256 = y := ⟨_, rfl⟩
        obtain ⟨y3, hy3⟩ : ∃ y, y2 + x2 = y := ⟨_, rfl⟩
        obtain ⟨y4, hy4⟩ : ∃ y, y3 * 256 = y := ⟨_, rfl⟩
        obtain ⟨y5, hy5⟩ : ∃ y, y4 + x3 = y := ⟨_, rfl⟩
        rw [show ((x0 * 256 + x1) * 256 + x2) * 256 + x3 = y5 by omega] at HNX
        have c0 : IntKind.u64.wrap (x0 : Int) = (x0 : Int) := by rw [IntKind.wrap_u64]; omega
        have c1 : IntKind.u64.wrap (x1 : Int) = (x1 : Int) := by rw [IntKind.wrap_u64]; omega
        have c2 : IntKind.u64.wrap (x2 : Int) = (x2 : Int) := by rw [IntKind.wrap_u64]; omega
        have c3 : IntKind.u64.wrap (x3 : Int) = (x3 : Int) := by rw [IntKind.wrap_u64]; omega
        have d0 : IntKind.u64.wrap ((x0 : Int) * 256) = (y0 : Int) := by rw [IntKind.wrap_u64]; omega
        have d1 : IntKind.u64.wrap ((y0 : Int) + (x1 : Int)) = (y1 : Int) := by rw [IntKind.wrap_u64]; omega
        have d2 : IntKind.u64.wrap ((y1 : Int) * 256) = (y2 : Int) := by rw [IntKind.wrap_u64]; omega
        have d3 : IntKind.u64.wrap ((y2 : Int) + (x2 : Int)) = (y3 : Int) := by rw [IntKind.wrap_u64]; omega
        have d4 : IntKind.u64.wrap ((y3 : Int) * 256) = (y4 : Int) := by rw [IntKind.wrap_u64]; omega
        have d5 : IntKind.u64.wrap ((y4 : Int) + (x3 : Int)) = (y5 : Int) := by rw [IntKind.wrap_u64]; omega
        have hne : bb ≠ B + 1 + 1 := by have := HBB.out; omega
        clear hR t0 t1 t2 t3 HWO hj0 hy0 hy1 hy2 hy3 hy4 hy5 r0 r1 r2 r3
        go_wp2
        refine wp_region_held_drew (S := (fun wq => wq.cell? ⟨bb, oo + j0, none⟩ = some (.int .u8 (x0 : Int)) ∧ wq.cell? ⟨bb, oo + (j0 + 1), none⟩ = some (.int .u8 (x1 : Int)) ∧ wq.cell? ⟨bb, oo + (j0 + 2), none⟩ = some (.int .u8 (x2 : Int)) ∧ wq.cell? ⟨bb, oo + (j0 + 3), none⟩ = some (.int .u8 (x3 : Int)))) (by kernel_rfl) ⟨g0, g1, g2, g3⟩ (fun hHeld => ?_)
        refine wpAnyH_take (i := 0) (oi := ?_) (v := ?_) ?_ ?_ ?_ ?_ ?_ ?_ (by assumption) ?_
        rotate_left 2
        · simp only [List.getElem?_toArray, List.getElem?_cons_zero, List.getElem?_cons_succ]
          rfl
        · kernel_rfl
        · kernel_rfl
        · kernel_rfl
        · exact fun _ _ _ h => h
        · refine Or.inl ⟨by rfl, ?_⟩
          intro w hSw
          (try dsimp only at hSw)
          go_simp
          all_goals with_reducible rfl
        simp only [Act.put, List.setIfInBounds_toArray, List.set_cons_zero, List.set_cons_succ]
        refine wpAnyH_take (i := 1) (oi := ?_) (v := ?_) ?_ ?_ ?_ ?_ ?_ ?_ (by assumption) ?_
        rotate_left 2
        · simp only [List.getElem?_toArray, List.getElem?_cons_zero, List.getElem?_cons_succ]
          rfl
        · kernel_rfl
        · kernel_rfl
        · kernel_rfl
        · exact fun _ _ _ h => h
        · refine Or.inl ⟨by rfl, ?_⟩
          intro w hSw
          (try dsimp only at hSw)
          go_simp
          all_goals with_reducible rfl
        simp only [Act.put, List.setIfInBounds_toArray, List.set_cons_zero, List.set_cons_succ]
        refine wpAnyH_take (i := 2) (oi := ?_) (v := ?_) ?_ ?_ ?_ ?_ ?_ ?_ (by assumption) ?_
        rotate_left 2
        · simp only [List.getElem?_toArray, List.getElem?_cons_zero, List.getElem?_cons_succ]
          rfl
        · kernel_rfl
        · kernel_rfl
        · kernel_rfl
        · exact fun _ _ _ h => h
        · refine Or.inl ⟨by rfl, ?_⟩
          intro w hSw
          (try dsimp only at hSw)
          go_simp
          all_goals with_reducible rfl
        simp only [Act.put, List.setIfInBounds_toArray, List.set_cons_zero, List.set_cons_succ]
        refine wpAnyH_take (i := 3) (oi := ?_) (v := ?_) ?_ ?_ ?_ ?_ ?_ ?_ (by assumption) ?_
        rotate_left 2
        · simp only [List.getElem?_toArray, List.getElem?_cons_zero, List.getElem?_cons_succ]
          rfl
        · kernel_rfl
        · kernel_rfl
        · kernel_rfl
        · exact fun _ _ _ h => h
        · refine Or.inl ⟨by rfl, ?_⟩
          intro w hSw
          (try dsimp only at hSw)
          go_simp
          all_goals with_reducible rfl
        simp only [Act.put, List.setIfInBounds_toArray, List.set_cons_zero, List.set_cons_succ]
        refine wpAnyH_take (i := 4) (oi := ?_) (v := ?_) ?_ ?_ ?_ ?_ ?_ ?_ (by assumption) ?_
        rotate_left 2
        · simp only [List.getElem?_toArray, List.getElem?_cons_zero, List.getElem?_cons_succ]
          rfl
        · kernel_rfl
        · kernel_rfl
        · kernel_rfl
        · exact fun _ _ _ h => h
        · refine Or.inl ⟨by rfl, ?_⟩
          intro w hSw
          (try dsimp only at hSw)
          go_simp
          all_goals with_reducible rfl
        simp only [Act.put, List.setIfInBounds_toArray, List.set_cons_zero, List.set_cons_succ]
        refine wpAnyH_take (i := 5) (oi := ?_) (v := ?_) ?_ ?_ ?_ ?_ ?_ ?_ (by assumption) ?_
        rotate_left 2
        · simp only [List.getElem?_toArray, List.getElem?_cons_zero, List.getElem?_cons_succ]
          rfl
        · kernel_rfl
        · kernel_rfl
        · kernel_rfl
        · exact fun _ _ _ h => h
        · refine Or.inl ⟨by rfl, ?_⟩
          intro w' hSw
          obtain ⟨q0, q1, q2, q3⟩ := hSw
          go_simp
          all_goals with_reducible rfl
        simp only [Act.put, List.setIfInBounds_toArray, List.set_cons_zero, List.set_cons_succ]
        refine wpAnyH_take (i := 6) (oi := ?_) (v := ?_) ?_ ?_ ?_ ?_ ?_ ?_ (by assumption) ?_
        rotate_left 2
        · simp only [List.getElem?_toArray, List.getElem?_cons_zero, List.getElem?_cons_succ]
          rfl
        · kernel_rfl
        · kernel_rfl
        · kernel_rfl
        · exact fun _ _ _ h => h
        · refine Or.inl ⟨by rfl, ?_⟩
          intro w hSw
          (try dsimp only at hSw)
          go_simp
          all_goals with_reducible rfl
        simp only [Act.put, List.setIfInBounds_toArray, List.set_cons_zero, List.set_cons_succ]
        refine wpAnyH_take (i := 7) (oi := ?_) (v := ?_) ?_ ?_ ?_ ?_ ?_ ?_ (by assumption) ?_
        rotate_left 2
        · simp only [List.getElem?_toArray, List.getElem?_cons_zero, List.getElem?_cons_succ]
          rfl
        · kernel_rfl
        · kernel_rfl
        · kernel_rfl
        · exact fun _ _ _ h => h
        · refine Or.inl ⟨by rfl, ?_⟩
          intro w hSw
          (try dsimp only at hSw)
          go_simp
          all_goals with_reducible rfl
        simp only [Act.put, List.setIfInBounds_toArray, List.set_cons_zero, List.set_cons_succ]
        refine wpAnyH_take (i := 8) (oi := ?_) (v := ?_) ?_ ?_ ?_ ?_ ?_ ?_ (by assumption) ?_
        rotate_left 2
        · simp only [List.getElem?_toArray, List.getElem?_cons_zero, List.getElem?_cons_succ]
          rfl
        · kernel_rfl
        · kernel_rfl
        · kernel_rfl
        · exact fun _ _ _ h => h
        · refine Or.inl ⟨by rfl, ?_⟩
          intro w hSw
          (try dsimp only at hSw)
          go_simp
          all_goals with_reducible rfl
        simp only [Act.put, List.setIfInBounds_toArray, List.set_cons_zero, List.set_cons_succ]
        refine wpAnyH_take (i := 9) (oi := ?_) (v := ?_) ?_ ?_ ?_ ?_ ?_ ?_ (by assumption) ?_
        rotate_left 2
        · simp only [List.getElem?_toArray, List.getElem?_cons_zero, List.getElem?_cons_succ]
          rfl
        · kernel_rfl
        · kernel_rfl
        · kernel_rfl
        · exact fun _ _ _ h => h
        · refine Or.inl ⟨by rfl, ?_⟩
          intro w hSw
          (try dsimp only at hSw)
          go_simp
          all_goals with_reducible rfl
        simp only [Act.put, List.setIfInBounds_toArray, List.set_cons_zero, List.set_cons_succ]
        refine wpAnyH_take (i := 10) (oi := ?_) (v := ?_) ?_ ?_ ?_ ?_ ?_ ?_ (by assumption) ?_
        rotate_left 2
        · simp only [List.getElem?_toArray, List.getElem?_cons_zero, List.getElem?_cons_succ]
          rfl
        · kernel_rfl
        · kernel_rfl
        · kernel_rfl
        · exact fun _ _ _ h => h
        · refine Or.inl ⟨by rfl, ?_⟩
          intro w hSw
          (try dsimp only at hSw)
          go_simp
          all_goals with_reducible rfl
        simp only [Act.put, List.setIfInBounds_toArray, List.set_cons_zero, List.set_cons_succ]
        refine wpAnyH_take (i := 11) (oi := ?_) (v := ?_) ?_ ?_ ?_ ?_ ?_ ?_ (by assumption) ?_
        rotate_left 2
        · simp only [List.getElem?_toArray, List.getElem?_cons_zero, List.getElem?_cons_succ]
          rfl
        · kernel_rfl
        · kernel_rfl
        · kernel_rfl
        · exact fun _ _ _ h => h
        · refine Or.inl ⟨by rfl, ?_⟩
          intro w hSw
          (try dsimp only at hSw)
          go_simp
          all_goals with_reducible rfl
        simp only [Act.put, List.setIfInBounds_toArray, List.set_cons_zero, List.set_cons_succ]
        refine wpAnyH_take (i := 12) (oi := ?_) (v := ?_) ?_ ?_ ?_ ?_ ?_ ?_ (by assumption) ?_
        rotate_left 2
        · simp only [List.getElem?_toArray, List.getElem?_cons_zero, List.getElem?_cons_succ]
          rfl
        · kernel_rfl
        · kernel_rfl
        · kernel_rfl
        · exact fun _ _ _ h => h
        · refine Or.inl ⟨by rfl, ?_⟩
          intro w hSw
          (try dsimp only at hSw)
          go_simp
          all_goals with_reducible rfl
        simp only [Act.put, List.setIfInBounds_toArray, List.set_cons_zero, List.set_cons_succ]
        refine wpAnyH_take (i := 13) (oi := ?_) (v := ?_) ?_ ?_ ?_ ?_ ?_ ?_ (by assumption) ?_
        rotate_left 2
        · simp only [List.getElem?_toArray, List.getElem?_cons_zero, List.getElem?_cons_succ]
          rfl
        · kernel_rfl
        · kernel_rfl
        · kernel_rfl
        · exact fun _ _ _ h => h
        · refine Or.inl ⟨by rfl, ?_⟩
          intro w' hSw
          obtain ⟨q0, q1, q2, q3⟩ := hSw
          go_simp
          all_goals with_reducible rfl
        simp only [Act.put, List.setIfInBounds_toArray, List.set_cons_zero, List.set_cons_succ]
        refine wpAnyH_take (i := 14) (oi := ?_) (v := ?_) ?_ ?_ ?_ ?_ ?_ ?_ (by assumption) ?_
        rotate_left 2
        · simp only [List.getElem?_toArray, List.getElem?_cons_zero, List.getElem?_cons_succ]
          rfl
        · kernel_rfl
        · kernel_rfl
        · kernel_rfl
        · exact fun _ _ _ h => h
        · refine Or.inl ⟨by rfl, ?_⟩
          intro w hSw
          (try dsimp only at hSw)
          go_simp
          all_goals with_reducible rfl
        simp only [Act.put, List.setIfInBounds_toArray, List.set_cons_zero, List.set_cons_succ]
        refine wpAnyH_take (i := 15) (oi := ?_) (v := ?_) ?_ ?_ ?_ ?_ ?_ ?_ (by assumption) ?_
        rotate_left 2
        · simp only [List.getElem?_toArray, List.getElem?_cons_zero, List.getElem?_cons_succ]
          rfl
        · kernel_rfl
        · kernel_rfl
        · kernel_rfl
        · exact fun _ _ _ h => h
        · refine Or.inl ⟨by rfl, ?_⟩
          intro w hSw
          (try dsimp only at hSw)
          go_simp
          all_goals with_reducible rfl
        simp only [Act.put, List.setIfInBounds_toArray, List.set_cons_zero, List.set_cons_succ]
        refine wpAnyH_take (i := 16) (oi := ?_) (v := ?_) ?_ ?_ ?_ ?_ ?_ ?_ (by assumption) ?_
        rotate_left 2
        · simp only [List.getElem?_toArray, List.getElem?_cons_zero, List.getElem?_cons_succ]
          rfl
        · kernel_rfl
        · kernel_rfl
        · kernel_rfl
        · exact fun _ _ _ h => h
        · refine Or.inl ⟨by rfl, ?_⟩
          intro w hSw
          (try dsimp only at hSw)
          go_simp
          all_goals with_reducible rfl
        simp only [Act.put, List.setIfInBounds_toArray, List.set_cons_zero, List.set_cons_succ]
        refine wpAnyH_take (i := 17) (oi := ?_) (v := ?_) ?_ ?_ ?_ ?_ ?_ ?_ (by assumption) ?_
        rotate_left 2
        · simp only [List.getElem?_toArray, List.getElem?_cons_zero, List.getElem?_cons_succ]
          rfl
        · kernel_rfl
        · kernel_rfl
        · kernel_rfl
        · exact fun _ _ _ h => h
        · refine Or.inl ⟨by rfl, ?_⟩
          intro w hSw
          (try dsimp only at hSw)
          go_simp
          all_goals with_reducible rfl
        simp only [Act.put, List.setIfInBounds_toArray, List.set_cons_zero, List.set_cons_succ]
        refine wpAnyH_take (i := 18) (oi := ?_) (v := ?_) ?_ ?_ ?_ ?_ ?_ ?_ (by assumption) ?_
        rotate_left 2
        · simp only [List.getElem?_toArray, List.getElem?_cons_zero, List.getElem?_cons_succ]
          rfl
        · kernel_rfl
        · kernel_rfl
        · kernel_rfl
        · exact fun _ _ _ h => h
        · refine Or.inl ⟨by rfl, ?_⟩
          intro w hSw
          (try dsimp only at hSw)
          go_simp
          all_goals with_reducible rfl
        simp only [Act.put, List.setIfInBounds_toArray, List.set_cons_zero, List.set_cons_succ]
        refine wpAnyH_take (i := 19) (oi := ?_) (v := ?_) ?_ ?_ ?_ ?_ ?_ ?_ (by assumption) ?_
        rotate_left 2
        · simp only [List.getElem?_toArray, List.getElem?_cons_zero, List.getElem?_cons_succ]
          rfl
        · kernel_rfl
        · kernel_rfl
        · kernel_rfl
        · exact fun _ _ _ h => h
        · refine Or.inl ⟨by rfl, ?_⟩
          intro w hSw
          (try dsimp only at hSw)
          go_simp
          all_goals with_reducible rfl
        simp only [Act.put, List.setIfInBounds_toArray, List.set_cons_zero, List.set_cons_succ]
        refine wpAnyH_take (i := 20) (oi := ?_) (v := ?_) ?_ ?_ ?_ ?_ ?_ ?_ (by assumption) ?_
        rotate_left 2
        · simp only [List.getElem?_toArray, List.getElem?_cons_zero, List.getElem?_cons_succ]
          rfl
        · kernel_rfl
        · kernel_rfl
        · kernel_rfl
        · exact fun _ _ _ h => h
        · refine Or.inl ⟨by rfl, ?_⟩
          intro w hSw
          (try dsimp only at hSw)
          go_simp
          all_goals with_reducible rfl
        simp only [Act.put, List.setIfInBounds_toArray, List.set_cons_zero, List.set_cons_succ]
        refine wpAnyH_take (i := 21) (oi := ?_) (v := ?_) ?_ ?_ ?_ ?_ ?_ ?_ (by assumption) ?_
        rotate_left 2
        · simp only [List.getElem?_toArray, List.getElem?_cons_zero, List.getElem?_cons_succ]
          rfl
        · kernel_rfl
        · kernel_rfl
        · kernel_rfl
        · exact fun _ _ _ h => h
        · refine Or.inl ⟨by rfl, ?_⟩
          intro w hSw
          (try dsimp only at hSw)
          go_simp
          all_goals with_reducible rfl
        simp only [Act.put, List.setIfInBounds_toArray, List.set_cons_zero, List.set_cons_succ]
        refine wpAnyH_take (i := 22) (oi := ?_) (v := ?_) ?_ ?_ ?_ ?_ ?_ ?_ (by assumption) ?_
        rotate_left 2
        · simp only [List.getElem?_toArray, List.getElem?_cons_zero, List.getElem?_cons_succ]
          rfl
        · kernel_rfl
        · kernel_rfl
        · kernel_rfl
        · exact fun _ _ _ h => h
        · refine Or.inl ⟨by rfl, ?_⟩
          intro w' hSw
          obtain ⟨q0, q1, q2, q3⟩ := hSw
          go_simp
          all_goals with_reducible rfl
        simp only [Act.put, List.setIfInBounds_toArray, List.set_cons_zero, List.set_cons_succ]
        refine wpAnyH_take (i := 23) (oi := ?_) (v := ?_) ?_ ?_ ?_ ?_ ?_ ?_ (by assumption) ?_
        rotate_left 2
        · simp only [List.getElem?_toArray, List.getElem?_cons_zero, List.getElem?_cons_succ]
          rfl
        · kernel_rfl
        · kernel_rfl
        · kernel_rfl
        · exact fun _ _ _ h => h
        · refine Or.inl ⟨by rfl, ?_⟩
          intro w hSw
          (try dsimp only at hSw)
          go_simp
          all_goals with_reducible rfl
        simp only [Act.put, List.setIfInBounds_toArray, List.set_cons_zero, List.set_cons_succ]
        refine wpAnyH_take (i := 24) (oi := ?_) (v := ?_) ?_ ?_ ?_ ?_ ?_ ?_ (by assumption) ?_
        rotate_left 2
        · simp only [List.getElem?_toArray, List.getElem?_cons_zero, List.getElem?_cons_succ]
          rfl
        · kernel_rfl
        · kernel_rfl
        · kernel_rfl
        · exact fun _ _ _ h => h
        · refine Or.inl ⟨by rfl, ?_⟩
          intro w hSw
          (try dsimp only at hSw)
          go_simp
          all_goals with_reducible rfl
        simp only [Act.put, List.setIfInBounds_toArray, List.set_cons_zero, List.set_cons_succ]
        refine wpAnyH_take (i := 25) (oi := ?_) (v := ?_) ?_ ?_ ?_ ?_ ?_ ?_ (by assumption) ?_
        rotate_left 2
        · simp only [List.getElem?_toArray, List.getElem?_cons_zero, List.getElem?_cons_succ]
          rfl
        · kernel_rfl
        · kernel_rfl
        · kernel_rfl
        · exact fun _ _ _ h => h
        · refine Or.inl ⟨by rfl, ?_⟩
          intro w hSw
          (try dsimp only at hSw)
          go_simp
          all_goals with_reducible rfl
        simp only [Act.put, List.setIfInBounds_toArray, List.set_cons_zero, List.set_cons_succ]
        refine wpAnyH_take (i := 26) (oi := ?_) (v := ?_) ?_ ?_ ?_ ?_ ?_ ?_ (by assumption) ?_
        rotate_left 2
        · simp only [List.getElem?_toArray, List.getElem?_cons_zero, List.getElem?_cons_succ]
          rfl
        · kernel_rfl
        · kernel_rfl
        · kernel_rfl
        · exact fun _ _ _ h => h
        · refine Or.inl ⟨by rfl, ?_⟩
          intro w hSw
          (try dsimp only at hSw)
          go_simp
          all_goals with_reducible rfl
        simp only [Act.put, List.setIfInBounds_toArray, List.set_cons_zero, List.set_cons_succ]
        refine wpAnyH_take (i := 27) (oi := ?_) (v := ?_) ?_ ?_ ?_ ?_ ?_ ?_ (by assumption) ?_
        rotate_left 2
        · simp only [List.getElem?_toArray, List.getElem?_cons_zero, List.getElem?_cons_succ]
          rfl
        · kernel_rfl
        · kernel_rfl
        · kernel_rfl
        · exact fun _ _ _ h => h
        · refine Or.inl ⟨by rfl, ?_⟩
          intro w hSw
          (try dsimp only at hSw)
          go_simp
          all_goals with_reducible rfl
        simp only [Act.put, List.setIfInBounds_toArray, List.set_cons_zero, List.set_cons_succ]
        refine wpAnyH_take (i := 28) (oi := ?_) (v := ?_) ?_ ?_ ?_ ?_ ?_ ?_ (by assumption) ?_
        rotate_left 2
        · simp only [List.getElem?_toArray, List.getElem?_cons_zero, List.getElem?_cons_succ]
          rfl
        · kernel_rfl
        · kernel_rfl
        · kernel_rfl
        · exact fun _ _ _ h => h
        · refine Or.inl ⟨by rfl, ?_⟩
          intro w hSw
          (try dsimp only at hSw)
          go_simp
          all_goals with_reducible rfl
        simp only [Act.put, List.setIfInBounds_toArray, List.set_cons_zero, List.set_cons_succ]
        refine wpAnyH_take (i := 29) (oi := ?_) (v := ?_) ?_ ?_ ?_ ?_ ?_ ?_ (by assumption) ?_
        rotate_left 2
        · simp only [List.getElem?_toArray, List.getElem?_cons_zero, List.getElem?_cons_succ]
          rfl
        · kernel_rfl
        · kernel_rfl
        · kernel_rfl
        · exact fun _ _ _ h => h
        · refine Or.inl ⟨by rfl, ?_⟩
          intro w hSw
          (try dsimp only at hSw)
          go_simp
          all_goals with_reducible rfl
        simp only [Act.put, List.setIfInBounds_toArray, List.set_cons_zero, List.set_cons_succ]
        refine wpAnyH_take (i := 30) (oi := ?_) (v := ?_) ?_ ?_ ?_ ?_ ?_ ?_ (by assumption) ?_
        rotate_left 2
        · simp only [List.getElem?_toArray, List.getElem?_cons_zero, List.getElem?_cons_succ]
          rfl
        · kernel_rfl
        · kernel_rfl
        · kernel_rfl
        · exact fun _ _ _ h => h
        · refine Or.inl ⟨by rfl, ?_⟩
          intro w hSw
          (try dsimp only at hSw)
          go_simp
          all_goals with_reducible rfl
        simp only [Act.put, List.setIfInBounds_toArray, List.set_cons_zero, List.set_cons_succ]
        refine wpAnyH_take (i := 31) (oi := ?_) (v := ?_) ?_ ?_ ?_ ?_ ?_ ?_ (by assumption) ?_
        rotate_left 2
        · simp only [List.getElem?_toArray, List.getElem?_cons_zero, List.getElem?_cons_succ]
          rfl
        · kernel_rfl
        · kernel_rfl
        · kernel_rfl
        · exact fun _ _ _ h => h
        · refine Or.inl ⟨by rfl, ?_⟩
          intro w' hSw
          obtain ⟨q0, q1, q2, q3⟩ := hSw
          go_simp
          all_goals with_reducible rfl
        simp only [Act.put, List.setIfInBounds_toArray, List.set_cons_zero, List.set_cons_succ]
        refine wpAnyH_take (i := 32) (oi := ?_) (v := ?_) ?_ ?_ ?_ ?_ ?_ ?_ (by assumption) ?_
        rotate_left 2
        · simp only [List.getElem?_toArray, List.getElem?_cons_zero, List.getElem?_cons_succ]
          rfl
        · kernel_rfl
        · kernel_rfl
        · kernel_rfl
        · exact fun _ _ _ h => h
        · refine Or.inl ⟨by rfl, ?_⟩
          intro w hSw
          (try dsimp only at hSw)
          go_simp
          all_goals with_reducible rfl
        simp only [Act.put, List.setIfInBounds_toArray, List.set_cons_zero, List.set_cons_succ]
        refine wpAnyH_take (i := 33) (oi := ?_) (v := ?_) ?_ ?_ ?_ ?_ ?_ ?_ (by assumption) ?_
        rotate_left 2
        · simp only [List.getElem?_toArray, List.getElem?_cons_zero, List.getElem?_cons_succ]
          rfl
        · kernel_rfl
        · kernel_rfl
        · kernel_rfl
        · exact fun _ _ _ h => h
        · refine Or.inl ⟨by rfl, ?_⟩
          intro w hSw
          (try dsimp only at hSw)
          go_simp
          all_goals with_reducible rfl
        simp only [Act.put, List.setIfInBounds_toArray, List.set_cons_zero, List.set_cons_succ]
        refine wpAnyH_take (i := 34) (oi := ?_) (v := ?_) ?_ ?_ ?_ ?_ ?_ ?_ (by assumption) ?_
        rotate_left 2
        · simp only [List.getElem?_toArray, List.getElem?_cons_zero, List.getElem?_cons_succ]
          rfl
        · kernel_rfl
        · kernel_rfl
        · kernel_rfl
        · exact fun _ _ _ h => h
        · refine Or.inl ⟨by rfl, ?_⟩
          intro w hSw
          (try dsimp only at hSw)
          go_simp
          all_goals with_reducible rfl
        simp only [Act.put, List.setIfInBounds_toArray, List.set_cons_zero, List.set_cons_succ]
        refine wpAnyH_ready (rs := [35]) (by kernel_rfl) (by simp) ?_
        refine AllReadyH.cons (o := ?_) ?_ (fun KK hKK => ?_) AllReadyH.nil
        rotate_left
        · simp only [List.getElem?_toArray, List.getElem?_cons_zero, List.getElem?_cons_succ]
          rfl
        go_simp
        refine hKK.out _ _ ?_ (fun hh1 => ?_)
        · (try dsimp only)
          exact ⟨set_farB _ _ hHeld.1 hne, set_farB _ _ hHeld.2.1 hne, set_farB _ _ hHeld.2.2.1 hne, set_farB _ _ hHeld.2.2.2 hne⟩
        clear hKK KK
        try simp only [Act.put, List.setIfInBounds_toArray, List.set_cons_zero, List.set_cons_succ]
        refine wpAnyH_done (by kernel_rfl) ?_ _
        go_wp2
        go_roundw
        case rel => exact ⟨k + 1, by omega, by go_num, HNX.out 1⟩
        case measure => simp [intOf]; omega
      · have hk16 : ¬ (k : Int) < 16 := by omega
        have hk16' : decide ((k : Int) < 16) = false := by simp; omega
        obtain ⟨m16, h16'⟩ : ∃ m, k - 16 = m := ⟨_, rfl⟩
        obtain ⟨m7, h7'⟩ : ∃ m, k - 7 = m := ⟨_, rfl⟩
        obtain ⟨m15, h15'⟩ : ∃ m, k - 15 = m := ⟨_, rfl⟩
        obtain ⟨m2, h2'⟩ : ∃ m, k - 2 = m := ⟨_, rfl⟩
        have i16 : IntKind.i64.wrap ((k : Int) - 16) = (m16 : Int) := by rw [IntKind.wrap_i64]; omega
        have j16 : (k : Int) - 16 = (m16 : Int) := by omega
        have v16 : IntKind.i64.wrap (m16 : Int) = (m16 : Int) := by rw [IntKind.wrap_i64]; omega
        have b16 : (m16 : Int) < 64 := by omega
        have i7 : IntKind.i64.wrap ((k : Int) - 7) = (m7 : Int) := by rw [IntKind.wrap_i64]; omega
        have j7 : (k : Int) - 7 = (m7 : Int) := by omega
        have v7 : IntKind.i64.wrap (m7 : Int) = (m7 : Int) := by rw [IntKind.wrap_i64]; omega
        have b7 : (m7 : Int) < 64 := by omega
        have i15 : IntKind.i64.wrap ((k : Int) - 15) = (m15 : Int) := by rw [IntKind.wrap_i64]; omega
        have j15 : (k : Int) - 15 = (m15 : Int) := by omega
        have v15 : IntKind.i64.wrap (m15 : Int) = (m15 : Int) := by rw [IntKind.wrap_i64]; omega
        have b15 : (m15 : Int) < 64 := by omega
        have i2 : IntKind.i64.wrap ((k : Int) - 2) = (m2 : Int) := by rw [IntKind.wrap_i64]; omega
        have j2 : (k : Int) - 2 = (m2 : Int) := by omega
        have v2 : IntKind.i64.wrap (m2 : Int) = (m2 : Int) := by rw [IntKind.wrap_i64]; omega
        have b2 : (m2 : Int) < 64 := by omega
        have hwl := Sh.wK_len l k
        have hwlt := Sh.wK_lt l HBY.out k
        have cell : ∀ i, i < k → wr.cell? ⟨B + 1 + 1, i, none⟩ = some (.int .u64 (((Sh.wK l k).getD i 0 : Nat) : Int)) := fun i hi => by
          rw [hR.wO.getK i (by rw [row64_len _ (by omega)]; omega), row64_get _ _ (by omega)]
        have g16 := cell m16 (by omega)
        have g7 := cell m7 (by omega)
        have g15 := cell m15 (by omega)
        have g2 := cell m2 (by omega)
        have t16 := Sh.getD_lt hwlt m16
        have t7 := Sh.getD_lt hwlt m7
        have t15 := Sh.getD_lt hwlt m15
        have t2 := Sh.getD_lt hwlt m2
        have HNV : Hid (Sh.nextW (Sh.wK l k) = ((Sh.wK l k).getD m16 0 + (Sh.wK l k).getD m7 0 + Sh.sg0 ((Sh.wK l k).getD m15 0) + Sh.sg1 ((Sh.wK l k).getD m2 0)) % 4294967296) := by
          unfold Hid Sh.nextW
          rw [hwl, h16', h7', h15', h2']
        have HNX : Hid (∀ q, RdU w B h (Sh.wK l (k + 1)) ((wr.drewN q).setCell ⟨B + 1 + 1, k, none⟩ (.int .u64 ((Sh.nextW (Sh.wK l k) : Nat) : Int)))) := fun q => by
          have := (hR.drewN q).set (by rw [Sh.wK_len]; exact hlt) (Sh.nextW (Sh.wK l k))
          rw [Sh.wK_len] at this
          show RdU w B h (Sh.wK l k ++ [if k < 16 then Sh.word l (4 * k) else Sh.nextW (Sh.wK l k)]) _
          rw [if_neg h16]
          exact this
        rw [HNV.out] at HNX
        have n1 : m16 ≠ k := by omega
        have n2 : m7 ≠ k := by omega
        clear hR cell hwl hwlt h16' h7' h15' h2' h16 HNV
        generalize (Sh.wK l k).getD m16 0 = a at *
        generalize (Sh.wK l k).getD m7 0 = d at *
        generalize (Sh.wK l k).getD m15 0 = x at *
        generalize (Sh.wK l k).getD m2 0 = y at *
        have HR7 := Lib.hid (fun w => right7_any x w t15)
        have HR18 := Lib.hid (fun w => right18_any x w t15)
        have HR17 := Lib.hid (fun w => right17_any y w t2)
        have HR19 := Lib.hid (fun w => right19_any y w t2)
        have u7 := Sh.rr_lt x 7 t15
        have u18 := Sh.rr_lt x 18 t15
        have u17 := Sh.rr_lt y 17 t2
        have u19 := Sh.rr_lt y 19 t2
        have us0 := Sh.sg0_lt x t15
        have us1 := Sh.sg1_lt y t2
        obtain ⟨p1, hp1⟩ : ∃ p, Sh.sg1 y + d = p := ⟨_, rfl⟩
        obtain ⟨p2, hp2⟩ : ∃ p, p1 + Sh.sg0 x = p := ⟨_, rfl⟩
        obtain ⟨p3, hp3⟩ : ∃ p, p2 + a = p := ⟨_, rfl⟩
        obtain ⟨p4, hp4⟩ : ∃ p, p3 % 4294967296 = p := ⟨_, rfl⟩
        have hpp : (a + d + Sh.sg0 x + Sh.sg1 y) % 4294967296 = p4 := by omega
        rw [hpp] at HNX
        have q1 : IntKind.u64.wrap (((Sh.sg1 y : Nat) : Int) + (d : Int)) = (p1 : Int) := by rw [IntKind.wrap_u64]; omega
        have q2 : IntKind.u64.wrap ((p1 : Int) + ((Sh.sg0 x : Nat) : Int)) = (p2 : Int) := by rw [IntKind.wrap_u64]; omega
        have q3 : IntKind.u64.wrap ((p2 : Int) + (a : Int)) = (p3 : Int) := by rw [IntKind.wrap_u64]; omega
        have q4 : (p3 : Int) % 4294967296 = (p4 : Int) := by omega
        have q5 : Int.tmod (p3 : Int) 4294967296 = (p4 : Int) := by rw [Int.tmod_eq_emod_of_nonneg (by omega)]; omega
        have y1 := u64_xor_nat _ _ (Nat.lt_trans u7 (by decide)) (Nat.lt_trans u18 (by decide))
        have y2 : bits .xor .u64 ((Sh.rr x 7 ^^^ Sh.rr x 18 : Nat) : Int) ((x : Int) / 8) = ((Sh.sg0 x : Nat) : Int) := by
          have := u64_xor_nat _ _ (Nat.lt_trans (Sh.xor_lt u7 u18) (by decide)) (Nat.lt_trans (Sh.div_lt x 8 t15) (by decide))
          have e : ((x / 8 : Nat) : Int) = (x : Int) / 8 := by omega
          rw [e] at this
          exact this
        have y3 := u64_xor_nat _ _ (Nat.lt_trans u17 (by decide)) (Nat.lt_trans u19 (by decide))
        have y4 : bits .xor .u64 ((Sh.rr y 17 ^^^ Sh.rr y 19 : Nat) : Int) ((y : Int) / 1024) = ((Sh.sg1 y : Nat) : Int) := by
          have := u64_xor_nat _ _ (Nat.lt_trans (Sh.xor_lt u17 u19) (by decide)) (Nat.lt_trans (Sh.div_lt y 1024 t2) (by decide))
          have e : ((y / 1024 : Nat) : Int) = (y : Int) / 1024 := by omega
          rw [e] at this
          exact this
        generalize Sh.rr x 7 ^^^ Sh.rr x 18 = z1 at *
        generalize Sh.rr y 17 ^^^ Sh.rr y 19 = z2 at *
        generalize Sh.sg0 x = s0 at *
        generalize Sh.sg1 y = s1 at *
        generalize Sh.rr x 7 = r7 at *
        generalize Sh.rr x 18 = r18 at *
        generalize Sh.rr y 17 = r17 at *
        generalize Sh.rr y 19 = r19 at *
        clear hp1 hp2 hp3 hp4 hpp
        go_wp2
        go_quiet (fail)
        go_wp2
        refine wp_region_held_drew (S := (fun wq => (wq.cell? ⟨B + 1 + 1, m16, none⟩ = some (.int .u64 (a : Int)) ∧ wq.cell? ⟨B + 1 + 1, m7, none⟩ = some (.int .u64 (d : Int))))) (by kernel_rfl) ⟨g16, g7⟩ (fun hHeld => ?_)
        refine wpAnyH_take (i := 0) (oi := ?_) (v := ?_) ?_ ?_ ?_ ?_ ?_ ?_ (by assumption) ?_
        rotate_left 2
        · simp only [List.getElem?_toArray, List.getElem?_cons_zero, List.getElem?_cons_succ]
          rfl
        · kernel_rfl
        · kernel_rfl
        · kernel_rfl
        · exact fun _ _ _ h => h
        · refine Or.inl ⟨by rfl, ?_⟩
          intro w hSw
          (try dsimp only at hSw)
          go_simp
          all_goals with_reducible rfl
        simp only [Act.put, List.setIfInBounds_toArray, List.set_cons_zero, List.set_cons_succ]
        refine wpAnyH_take (i := 1) (oi := ?_) (v := ?_) ?_ ?_ ?_ ?_ ?_ ?_ (by assumption) ?_
        rotate_left 2
        · simp only [List.getElem?_toArray, List.getElem?_cons_zero, List.getElem?_cons_succ]
          rfl
        · kernel_rfl
        · kernel_rfl
        · kernel_rfl
        · exact fun _ _ _ h => h
        · refine Or.inl ⟨by rfl, ?_⟩
          intro w hSw
          (try dsimp only at hSw)
          go_simp
          all_goals with_reducible rfl
        simp only [Act.put, List.setIfInBounds_toArray, List.set_cons_zero, List.set_cons_succ]
        refine wpAnyH_take (i := 3) (oi := ?_) (v := ?_) ?_ ?_ ?_ ?_ ?_ ?_ (by assumption) ?_
        rotate_left 2
        · simp only [List.getElem?_toArray, List.getElem?_cons_zero, List.getElem?_cons_succ]
          rfl
        · kernel_rfl
        · kernel_rfl
        · kernel_rfl
        · exact fun _ _ _ h => h
        · refine Or.inl ⟨by rfl, ?_⟩
          intro w hSw
          (try dsimp only at hSw)
          go_simp
          all_goals with_reducible rfl
        simp only [Act.put, List.setIfInBounds_toArray, List.set_cons_zero, List.set_cons_succ]
        refine wpAnyH_take (i := 6) (oi := ?_) (v := ?_) ?_ ?_ ?_ ?_ ?_ ?_ (by assumption) ?_
        rotate_left 2
        · simp only [List.getElem?_toArray, List.getElem?_cons_zero, List.getElem?_cons_succ]
          rfl
        · kernel_rfl
        · kernel_rfl
        · kernel_rfl
        · exact fun _ _ _ h => h
        · refine Or.inl ⟨by rfl, ?_⟩
          intro w hSw
          (try dsimp only at hSw)
          go_simp
          all_goals with_reducible rfl
        simp only [Act.put, List.setIfInBounds_toArray, List.set_cons_zero, List.set_cons_succ]
        refine wpAnyH_take (i := 7) (oi := ?_) (v := ?_) ?_ ?_ ?_ ?_ ?_ ?_ (by assumption) ?_
        rotate_left 2
        · simp only [List.getElem?_toArray, List.getElem?_cons_zero, List.getElem?_cons_succ]
          rfl
        · kernel_rfl
        · kernel_rfl
        · kernel_rfl
        · exact fun _ _ _ h => h
        · refine Or.inl ⟨by rfl, ?_⟩
          intro w hSw
          (try dsimp only at hSw)
          go_simp
          all_goals with_reducible rfl
        simp only [Act.put, List.setIfInBounds_toArray, List.set_cons_zero, List.set_cons_succ]
        refine wpAnyH_take (i := 9) (oi := ?_) (v := ?_) ?_ ?_ ?_ ?_ ?_ ?_ (by assumption) ?_
        rotate_left 2
        · simp only [List.getElem?_toArray, List.getElem?_cons_zero, List.getElem?_cons_succ]
          rfl
        · kernel_rfl
        · kernel_rfl
        · kernel_rfl
        · exact fun _ _ _ h => h
        · refine Or.inl ⟨by rfl, ?_⟩
          intro w hSw
          (try dsimp only at hSw)
          go_simp
          all_goals with_reducible rfl
        simp only [Act.put, List.setIfInBounds_toArray, List.set_cons_zero, List.set_cons_succ]
        refine wpAnyH_take (i := 10) (oi := ?_) (v := ?_) ?_ ?_ ?_ ?_ ?_ ?_ (by assumption) ?_
        rotate_left 2
        · simp only [List.getElem?_toArray, List.getElem?_cons_zero, List.getElem?_cons_succ]
          rfl
        · kernel_rfl
        · kernel_rfl
        · kernel_rfl
        · exact fun _ _ _ h => h
        · refine Or.inl ⟨by rfl, ?_⟩
          intro w hSw
          (try dsimp only at hSw)
          go_simp
          all_goals with_reducible rfl
        simp only [Act.put, List.setIfInBounds_toArray, List.set_cons_zero, List.set_cons_succ]
        refine wpAnyH_take (i := 11) (oi := ?_) (v := ?_) ?_ ?_ ?_ ?_ ?_ ?_ (by assumption) ?_
        rotate_left 2
        · simp only [List.getElem?_toArray, List.getElem?_cons_zero, List.getElem?_cons_succ]
          rfl
        · kernel_rfl
        · kernel_rfl
        · kernel_rfl
        · exact fun _ _ _ h => h
        · refine Or.inl ⟨by rfl, ?_⟩
          intro w hSw
          (try dsimp only at hSw)
          go_simp
          all_goals with_reducible rfl
        simp only [Act.put, List.setIfInBounds_toArray, List.set_cons_zero, List.set_cons_succ]
        refine wpAnyH_take (i := 12) (oi := ?_) (v := ?_) ?_ ?_ ?_ ?_ ?_ ?_ (by assumption) ?_
        rotate_left 2
        · simp only [List.getElem?_toArray, List.getElem?_cons_zero, List.getElem?_cons_succ]
          rfl
        · kernel_rfl
        · kernel_rfl
        · kernel_rfl
        · exact fun _ _ _ h => h
        · refine Or.inl ⟨by rfl, ?_⟩
          intro w' hSw
          obtain ⟨q2', q3'⟩ := hSw
          go_simp
          all_goals with_reducible rfl
        simp only [Act.put, List.setIfInBounds_toArray, List.set_cons_zero, List.set_cons_succ]
        refine wpAnyH_take (i := 14) (oi := ?_) (v := ?_) ?_ ?_ ?_ ?_ ?_ ?_ (by assumption) ?_
        rotate_left 2
        · simp only [List.getElem?_toArray, List.getElem?_cons_zero, List.getElem?_cons_succ]
          rfl
        · kernel_rfl
        · kernel_rfl
        · kernel_rfl
        · exact fun _ _ _ h => h
        · refine Or.inl ⟨by rfl, ?_⟩
          intro w hSw
          (try dsimp only at hSw)
          go_simp
          all_goals with_reducible rfl
        simp only [Act.put, List.setIfInBounds_toArray, List.set_cons_zero, List.set_cons_succ]
        refine wpAnyH_take (i := 16) (oi := ?_) (v := ?_) ?_ ?_ ?_ ?_ ?_ ?_ (by assumption) ?_
        rotate_left 2
        · simp only [List.getElem?_toArray, List.getElem?_cons_zero, List.getElem?_cons_succ]
          rfl
        · kernel_rfl
        · kernel_rfl
        · kernel_rfl
        · exact fun _ _ _ h => h
        · refine Or.inl ⟨by rfl, ?_⟩
          intro w hSw
          (try dsimp only at hSw)
          go_simp
          all_goals with_reducible rfl
        simp only [Act.put, List.setIfInBounds_toArray, List.set_cons_zero, List.set_cons_succ]
        refine wpAnyH_take (i := 19) (oi := ?_) (v := ?_) ?_ ?_ ?_ ?_ ?_ ?_ (by assumption) ?_
        rotate_left 2
        · simp only [List.getElem?_toArray, List.getElem?_cons_zero, List.getElem?_cons_succ]
          rfl
        · kernel_rfl
        · kernel_rfl
        · kernel_rfl
        · exact fun _ _ _ h => h
        · refine Or.inl ⟨by rfl, ?_⟩
          intro w hSw
          (try dsimp only at hSw)
          go_simp
          all_goals with_reducible rfl
        simp only [Act.put, List.setIfInBounds_toArray, List.set_cons_zero, List.set_cons_succ]
        refine wpAnyH_take (i := 20) (oi := ?_) (v := ?_) ?_ ?_ ?_ ?_ ?_ ?_ (by assumption) ?_
        rotate_left 2
        · simp only [List.getElem?_toArray, List.getElem?_cons_zero, List.getElem?_cons_succ]
          rfl
        · kernel_rfl
        · kernel_rfl
        · kernel_rfl
        · exact fun _ _ _ h => h
        · refine Or.inl ⟨by rfl, ?_⟩
          intro w hSw
          (try dsimp only at hSw)
          go_simp
          all_goals with_reducible rfl
        simp only [Act.put, List.setIfInBounds_toArray, List.set_cons_zero, List.set_cons_succ]
        refine wpAnyH_take (i := 23) (oi := ?_) (v := ?_) ?_ ?_ ?_ ?_ ?_ ?_ (by assumption) ?_
        rotate_left 2
        · simp only [List.getElem?_toArray, List.getElem?_cons_zero, List.getElem?_cons_succ]
          rfl
        · kernel_rfl
        · kernel_rfl
        · kernel_rfl
        · exact fun _ _ _ h => h
        · refine Or.inl ⟨by rfl, ?_⟩
          intro w hSw
          (try dsimp only at hSw)
          go_simp
          all_goals with_reducible rfl
        simp only [Act.put, List.setIfInBounds_toArray, List.set_cons_zero, List.set_cons_succ]
        refine wpAnyH_take (i := 24) (oi := ?_) (v := ?_) ?_ ?_ ?_ ?_ ?_ ?_ (by assumption) ?_
        rotate_left 2
        · simp only [List.getElem?_toArray, List.getElem?_cons_zero, List.getElem?_cons_succ]
          rfl
        · kernel_rfl
        · kernel_rfl
        · kernel_rfl
        · exact fun _ _ _ h => h
        · refine Or.inl ⟨by rfl, ?_⟩
          intro w hSw
          (try dsimp only at hSw)
          go_simp
          all_goals with_reducible rfl
        simp only [Act.put, List.setIfInBounds_toArray, List.set_cons_zero, List.set_cons_succ]
        refine wpAnyH_take (i := 25) (oi := ?_) (v := ?_) ?_ ?_ ?_ ?_ ?_ ?_ (by assumption) ?_
        rotate_left 2
        · simp only [List.getElem?_toArray, List.getElem?_cons_zero, List.getElem?_cons_succ]
          rfl
        · kernel_rfl
        · kernel_rfl
        · kernel_rfl
        · exact fun _ _ _ h => h
        · refine Or.inl ⟨by rfl, ?_⟩
          intro w hSw
          (try dsimp only at hSw)
          go_simp
          all_goals with_reducible rfl
        simp only [Act.put, List.setIfInBounds_toArray, List.set_cons_zero, List.set_cons_succ]
        refine wpAnyH_take (i := 26) (oi := ?_) (v := ?_) ?_ ?_ ?_ ?_ ?_ ?_ (by assumption) ?_
        rotate_left 2
        · simp only [List.getElem?_toArray, List.getElem?_cons_zero, List.getElem?_cons_succ]
          rfl
        · kernel_rfl
        · kernel_rfl
        · kernel_rfl
        · exact fun _ _ _ h => h
        · refine Or.inl ⟨by rfl, ?_⟩
          intro w' hSw
          obtain ⟨q2', q3'⟩ := hSw
          go_simp
          all_goals with_reducible rfl
        simp only [Act.put, List.setIfInBounds_toArray, List.set_cons_zero, List.set_cons_succ]
        refine wpAnyH_ready (rs := [2]) (by kernel_rfl) (by simp) ?_
        refine AllReadyH.cons (o := ?_) ?_ (fun KK hKK => ?_) AllReadyH.nil
        rotate_left
        · simp only [List.getElem?_toArray, List.getElem?_cons_zero, List.getElem?_cons_succ]
          rfl
        go_simp
        refine (HR17.out _).mono ?_; rintro e wD ⟨rfl, rfl⟩
        try go_wp2_with fail
        refine hKK.out _ _ ?_ (fun hh1 => ?_)
        · (try dsimp only)
          exact hHeld
        clear hKK KK
        try simp only [Act.put, List.setIfInBounds_toArray, List.set_cons_zero, List.set_cons_succ]
        refine wpAnyH_ready (rs := [4]) (by kernel_rfl) (by simp) ?_
        refine AllReadyH.cons (o := ?_) ?_ (fun KK hKK => ?_) AllReadyH.nil
        rotate_left
        · simp only [List.getElem?_toArray, List.getElem?_cons_zero, List.getElem?_cons_succ]
          rfl
        go_simp
        refine (HR19.out _).mono ?_; rintro e wD ⟨rfl, rfl⟩
        try go_wp2_with fail
        refine hKK.out _ _ ?_ (fun hh2 => ?_)
        · (try dsimp only)
          exact hHeld
        clear hKK KK
        try simp only [Act.put, List.setIfInBounds_toArray, List.set_cons_zero, List.set_cons_succ]
        refine wpAnyH_take (i := 5) (oi := ?_) (v := ?_) ?_ ?_ ?_ ?_ ?_ ?_ (by assumption) ?_
        rotate_left 2
        · simp only [List.getElem?_toArray, List.getElem?_cons_zero, List.getElem?_cons_succ]
          rfl
        · kernel_rfl
        · kernel_rfl
        · kernel_rfl
        · exact fun _ _ _ h => h
        · refine Or.inl ⟨by rfl, ?_⟩
          intro w hSw
          (try dsimp only at hSw)
          go_simp
          all_goals with_reducible rfl
        simp only [Act.put, List.setIfInBounds_toArray, List.set_cons_zero, List.set_cons_succ]
        refine wpAnyH_take (i := 8) (oi := ?_) (v := ?_) ?_ ?_ ?_ ?_ ?_ ?_ (by assumption) ?_
        rotate_left 2
        · simp only [List.getElem?_toArray, List.getElem?_cons_zero, List.getElem?_cons_succ]
          rfl
        · kernel_rfl
        · kernel_rfl
        · kernel_rfl
        · exact fun _ _ _ h => h
        · refine Or.inl ⟨by rfl, ?_⟩
          intro w hSw
          (try dsimp only at hSw)
          go_simp
          all_goals with_reducible rfl
        simp only [Act.put, List.setIfInBounds_toArray, List.set_cons_zero, List.set_cons_succ]
        refine wpAnyH_take (i := 13) (oi := ?_) (v := ?_) ?_ ?_ ?_ ?_ ?_ ?_ (by assumption) ?_
        rotate_left 2
        · simp only [List.getElem?_toArray, List.getElem?_cons_zero, List.getElem?_cons_succ]
          rfl
        · kernel_rfl
        · kernel_rfl
        · kernel_rfl
        · exact fun _ _ _ h => h
        · refine Or.inl ⟨by rfl, ?_⟩
          intro w hSw
          (try dsimp only at hSw)
          go_simp
          all_goals with_reducible rfl
        simp only [Act.put, List.setIfInBounds_toArray, List.set_cons_zero, List.set_cons_succ]
        refine wpAnyH_ready (rs := [15]) (by kernel_rfl) (by simp) ?_
        refine AllReadyH.cons (o := ?_) ?_ (fun KK hKK => ?_) AllReadyH.nil
        rotate_left
        · simp only [List.getElem?_toArray, List.getElem?_cons_zero, List.getElem?_cons_succ]
          rfl
        go_simp
        refine (HR7.out _).mono ?_; rintro e wD ⟨rfl, rfl⟩
        try go_wp2_with fail
        refine hKK.out _ _ ?_ (fun hh3 => ?_)
        · (try dsimp only)
          exact hHeld
        clear hKK KK
        try simp only [Act.put, List.setIfInBounds_toArray, List.set_cons_zero, List.set_cons_succ]
        refine wpAnyH_ready (rs := [17]) (by kernel_rfl) (by simp) ?_
        refine AllReadyH.cons (o := ?_) ?_ (fun KK hKK => ?_) AllReadyH.nil
        rotate_left
        · simp only [List.getElem?_toArray, List.getElem?_cons_zero, List.getElem?_cons_succ]
          rfl
        go_simp
        refine (HR18.out _).mono ?_; rintro e wD ⟨rfl, rfl⟩
        try go_wp2_with fail
        refine hKK.out _ _ ?_ (fun hh4 => ?_)
        · (try dsimp only)
          exact hHeld
        clear hKK KK
        try simp only [Act.put, List.setIfInBounds_toArray, List.set_cons_zero, List.set_cons_succ]
        refine wpAnyH_take (i := 18) (oi := ?_) (v := ?_) ?_ ?_ ?_ ?_ ?_ ?_ (by assumption) ?_
        rotate_left 2
        · simp only [List.getElem?_toArray, List.getElem?_cons_zero, List.getElem?_cons_succ]
          rfl
        · kernel_rfl
        · kernel_rfl
        · kernel_rfl
        · exact fun _ _ _ h => h
        · refine Or.inl ⟨by rfl, ?_⟩
          intro w hSw
          (try dsimp only at hSw)
          go_simp
          all_goals with_reducible rfl
        simp only [Act.put, List.setIfInBounds_toArray, List.set_cons_zero, List.set_cons_succ]
        refine wpAnyH_take (i := 21) (oi := ?_) (v := ?_) ?_ ?_ ?_ ?_ ?_ ?_ (by assumption) ?_
        rotate_left 2
        · simp only [List.getElem?_toArray, List.getElem?_cons_zero, List.getElem?_cons_succ]
          rfl
        · kernel_rfl
        · kernel_rfl
        · kernel_rfl
        · exact fun _ _ _ h => h
        · refine Or.inl ⟨by rfl, ?_⟩
          intro w hSw
          (try dsimp only at hSw)
          go_simp
          all_goals with_reducible rfl
        simp only [Act.put, List.setIfInBounds_toArray, List.set_cons_zero, List.set_cons_succ]
        refine wpAnyH_take (i := 22) (oi := ?_) (v := ?_) ?_ ?_ ?_ ?_ ?_ ?_ (by assumption) ?_
        rotate_left 2
        · simp only [List.getElem?_toArray, List.getElem?_cons_zero, List.getElem?_cons_succ]
          rfl
        · kernel_rfl
        · kernel_rfl
        · kernel_rfl
        · exact fun _ _ _ h => h
        · refine Or.inl ⟨by rfl, ?_⟩
          intro w hSw
          (try dsimp only at hSw)
          go_simp
          all_goals with_reducible rfl
        simp only [Act.put, List.setIfInBounds_toArray, List.set_cons_zero, List.set_cons_succ]
        refine wpAnyH_take (i := 27) (oi := ?_) (v := ?_) ?_ ?_ ?_ ?_ ?_ ?_ (by assumption) ?_
        rotate_left 2
        · simp only [List.getElem?_toArray, List.getElem?_cons_zero, List.getElem?_cons_succ]
          rfl
        · kernel_rfl
        · kernel_rfl
        · kernel_rfl
        · exact fun _ _ _ h => h
        · refine Or.inl ⟨by rfl, ?_⟩
          intro w hSw
          (try dsimp only at hSw)
          go_simp
          all_goals with_reducible rfl
        simp only [Act.put, List.setIfInBounds_toArray, List.set_cons_zero, List.set_cons_succ]
        refine wpAnyH_take (i := 28) (oi := ?_) (v := ?_) ?_ ?_ ?_ ?_ ?_ ?_ (by assumption) ?_
        rotate_left 2
        · simp only [List.getElem?_toArray, List.getElem?_cons_zero, List.getElem?_cons_succ]
          rfl
        · kernel_rfl
        · kernel_rfl
        · kernel_rfl
        · exact fun _ _ _ h => h
        · refine Or.inl ⟨by rfl, ?_⟩
          intro w hSw
          (try dsimp only at hSw)
          go_simp
          all_goals with_reducible rfl
        simp only [Act.put, List.setIfInBounds_toArray, List.set_cons_zero, List.set_cons_succ]
        refine wpAnyH_take (i := 29) (oi := ?_) (v := ?_) ?_ ?_ ?_ ?_ ?_ ?_ (by assumption) ?_
        rotate_left 2
        · simp only [List.getElem?_toArray, List.getElem?_cons_zero, List.getElem?_cons_succ]
          rfl
        · kernel_rfl
        · kernel_rfl
        · kernel_rfl
        · exact fun _ _ _ h => h
        · refine Or.inl ⟨by rfl, ?_⟩
          intro w hSw
          (try dsimp only at hSw)
          go_simp
          all_goals with_reducible rfl
        simp only [Act.put, List.setIfInBounds_toArray, List.set_cons_zero, List.set_cons_succ]
        refine wpAnyH_ready (rs := [30]) (by kernel_rfl) (by simp) ?_
        refine AllReadyH.cons (o := ?_) ?_ (fun KK hKK => ?_) AllReadyH.nil
        rotate_left
        · simp only [List.getElem?_toArray, List.getElem?_cons_zero, List.getElem?_cons_succ]
          rfl
        go_simp
        refine hKK.out _ _ ?_ (fun hh5 => ?_)
        · (try dsimp only)
          exact ⟨set_farU _ _ hHeld.1 n1, set_farU _ _ hHeld.2 n2⟩
        clear hKK KK
        try simp only [Act.put, List.setIfInBounds_toArray, List.set_cons_zero, List.set_cons_succ]
        refine wpAnyH_done (by kernel_rfl) ?_ _
        go_wp2
        go_roundw
        case rel => exact ⟨k + 1, by omega, by go_num, HNX.out _⟩
        case measure => simp [intOf]; omega
    · obtain rfl : k = 64 := by omega
      rw [show ((64 : Nat) : Int) = 64 from rfl]
      have hwl : (Sh.wK l 64).length = 64 := Sh.wK_len l 64
      have hfull := row64_full _ hwl
      obtain ⟨Sb, hSb⟩ : ∃ Sb, wr.heap.size = Sb := ⟨_, rfl⟩
      have HU0 : Hid (U2 w B h (Sh.wK l 64) Sb (row8 h 0) (wr.alloc (.cells #[.int .u64 0, .int .u64 0, .int .u64 0, .int .u64 0, .int .u64 0, .int .u64 0, .int .u64 0, .int .u64 0] 56))) := by
        have hS : B + 1 + 1 < Sb := hSb ▸ hR.wO.lt
        have o := (hSb ▸ Obj.new wr 56 #[.int .u64 0, .int .u64 0, .int .u64 0, .int .u64 0, .int .u64 0, .int .u64 0, .int .u64 0, .int .u64 0] : Obj (wr.alloc (.cells #[.int .u64 0, .int .u64 0, .int .u64 0, .int .u64 0, .int .u64 0, .int .u64 0, .int .u64 0, .int .u64 0] 56)) Sb 56 #[.int .u64 0, .int .u64 0, .int .u64 0, .int .u64 0, .int .u64 0, .int .u64 0, .int .u64 0, .int .u64 0])
        have k1 := hR.kept ((Below.refl _ wr).alloc (Nat.le_refl _) (.cells #[.int .u64 0, .int .u64 0, .int .u64 0, .int .u64 0, .int .u64 0, .int .u64 0, .int .u64 0, .int .u64 0] 56))
        exact ⟨k1, o.as rfl, hS⟩
      have HSB := Lib.hid hSb
      clear hR hwl hfull hk hlt hSb HCE
      go_wp2
      rw [HSB.out]
      clear HSB HR
      go_loopw [10] (fun i wx => ∃ k : Nat, k ≤ 8 ∧ i = .int .i64 k ∧ U2 w B h (Sh.wK l 64) Sb (row8 h k) wx) (fun i _ => 8 - (intOf i).toNat)
      case atStart => exact ⟨0, by omega, rfl, HU0.out⟩
      case round =>
        clear HU0
        obtain ⟨k, hk, rfl, hR⟩ := hrel
        have HR := Lib.hid hR
        by_cases hlt : k < 8
        · have hki : (k : Int) < 8 := by omega
          have c0 : wr.cell? ⟨B, k, none⟩ = some (.int .u32 ((gt h k : Nat) : Int)) := hR.rd.hO.getK k (by rw [HH.out]; exact hlt)
          have z0 := hR.sO.free k
          have hx := gt_lt HH2.out k
          have e1 : IntKind.u64.wrap ((gt h k : Nat) : Int) = ((gt h k : Nat) : Int) := by rw [IntKind.wrap_u64]; omega
          have hsb := hR.sb
          have ck : ∃ v, wr.cell? ⟨Sb, k, none⟩ = some v := ⟨_, hR.sO.getK k (by rw [row8_len _ _ HH.out (by omega)]; exact hlt)⟩
          obtain ⟨v0, ck⟩ := ck
          have HNX := Lib.hid (hR.set HH.out hlt)
          clear hR
          generalize gt h k = x at *
          go_wp2
          go_roundw
          case rel => exact ⟨k + 1, by omega, by go_num, HNX.out⟩
          case measure => simp [intOf]; omega
        · obtain rfl : k = 8 := by omega
          rw [show ((8 : Nat) : Int) = 8 from rfl]
          have H2 : Hid (U2 w B h (Sh.wK l 64) Sb (Sh.rK h l 0) wr) := by
            have := hR
            rw [row8_full _ HH.out] at this
            exact this
          clear hR HR hk hlt
          go_wp2
          go_loopw [11] (fun i wx => ∃ k : Nat, k ≤ 64 ∧ i = .int .i64 k ∧ U2 w B h (Sh.wK l 64) Sb (Sh.rK h l k) wx) (fun i _ => 64 - (intOf i).toNat)
          case atStart => exact ⟨0, by omega, rfl, H2.out⟩
          case round =>
            clear H2
            obtain ⟨k, hk, rfl, hR⟩ := hrel
            have HR := Lib.hid hR
            by_cases hlt : k < 64
            · have hki : (k : Int) < 64 := by omega
              have hs8 := Sh.rK_len h l HH.out k
              have hslt := Sh.rK_lt h l HH2.out k
              have hwl : (Sh.wK l 64).length = 64 := Sh.wK_len l 64
              have hwlt := Sh.wK_lt l HBY.out 64
              have HSC : Hid (∀ wq, U2 w B h (Sh.wK l 64) Sb (Sh.rK h l k) wq → wq.cell? ⟨Sb, 0, none⟩ = some (.int .u64 ((gt (Sh.rK h l k) 0 : Nat) : Int)) ∧ wq.cell? ⟨Sb, 1, none⟩ = some (.int .u64 ((gt (Sh.rK h l k) 1 : Nat) : Int)) ∧ wq.cell? ⟨Sb, 2, none⟩ = some (.int .u64 ((gt (Sh.rK h l k) 2 : Nat) : Int)) ∧ wq.cell? ⟨Sb, 3, none⟩ = some (.int .u64 ((gt (Sh.rK h l k) 3 : Nat) : Int)) ∧ wq.cell? ⟨Sb, 4, none⟩ = some (.int .u64 ((gt (Sh.rK h l k) 4 : Nat) : Int)) ∧ wq.cell? ⟨Sb, 5, none⟩ = some (.int .u64 ((gt (Sh.rK h l k) 5 : Nat) : Int)) ∧ wq.cell? ⟨Sb, 6, none⟩ = some (.int .u64 ((gt (Sh.rK h l k) 6 : Nat) : Int)) ∧ wq.cell? ⟨Sb, 7, none⟩ = some (.int .u64 ((gt (Sh.rK h l k) 7 : Nat) : Int)) ∧
                  wq.cell? ⟨1, k, none⟩ = some (.int .u32 ((gt Sh.kz k : Nat) : Int)) ∧ wq.cell? ⟨B + 1 + 1, k, none⟩ = some (.int .u64 ((gt (Sh.wK l 64) k : Nat) : Int))) := fun wq q => by
                refine ⟨q.cell hs8 0 (by omega), q.cell hs8 1 (by omega), q.cell hs8 2 (by omega), q.cell hs8 3 (by omega), q.cell hs8 4 (by omega), q.cell hs8 5 (by omega), q.cell hs8 6 (by omega), q.cell hs8 7 (by omega), ?_, ?_⟩
                · exact (HT.out.below (HB.out.symm ▸ q.rd.bel)).k k hlt
                · have := q.rd.wO.getK k (by rw [row64_full _ hwl, hwl]; exact hlt)
                  rw [row64_full _ hwl] at this
                  exact this
              have HNX : Hid (∀ wq, U2 w B h (Sh.wK l 64) Sb (Sh.rK h l k) wq → U2 w B h (Sh.wK l 64) Sb (Sh.rK h l (k + 1)) (wq.setRow Sb #[.int .u64 (((Sh.one (Sh.rK h l k) (Sh.kz.getD k 0) ((Sh.wK l 64).getD k 0) + Sh.two (Sh.rK h l k)) % 4294967296 : Nat) : Int), .int .u64 ((gt (Sh.rK h l k) 0 : Nat) : Int), .int .u64 ((gt (Sh.rK h l k) 1 : Nat) : Int), .int .u64 ((gt (Sh.rK h l k) 2 : Nat) : Int), .int .u64 (((gt (Sh.rK h l k) 3 + Sh.one (Sh.rK h l k) (Sh.kz.getD k 0) ((Sh.wK l 64).getD k 0)) % 4294967296 : Nat) : Int), .int .u64 ((gt (Sh.rK h l k) 4 : Nat) : Int), .int .u64 ((gt (Sh.rK h l k) 5 : Nat) : Int), .int .u64 ((gt (Sh.rK h l k) 6 : Nat) : Int)])) := fun wq q =>
                ⟨q.rd.upd ((Upd.refl Sb _).row _) q.sb, (q.sO.row _).as rfl, q.sb⟩
              have HONE : Hid (Sh.one (Sh.rK h l k) (Sh.kz.getD k 0) ((Sh.wK l 64).getD k 0) = (gt (Sh.rK h l k) 7 + Sh.mix (gt (Sh.rK h l k) 4) 6 11 25 + Sh.ch (gt (Sh.rK h l k) 4) (gt (Sh.rK h l k) 5) (gt (Sh.rK h l k) 6) + gt Sh.kz k + gt (Sh.wK l 64) k) % 4294967296) := rfl
              have HTWO : Hid (Sh.two (Sh.rK h l k) = (Sh.mix (gt (Sh.rK h l k) 0) 2 13 22 + Sh.maj (gt (Sh.rK h l k) 0) (gt (Sh.rK h l k) 1) (gt (Sh.rK h l k) 2)) % 4294967296) := rfl
              have HOB := Lib.hid (fun wq (q : U2 w B h (Sh.wK l 64) Sb (Sh.rK h l k) wq) => q.sO)
              have l0 := gt_lt hslt 0
              have l1 := gt_lt hslt 1
              have l2 := gt_lt hslt 2
              have l3 := gt_lt hslt 3
              have l4 := gt_lt hslt 4
              have l5 := gt_lt hslt 5
              have l6 := gt_lt hslt 6
              have l7 := gt_lt hslt 7
              have lk := gt_lt Sh.kz_lt.2 k
              have lw := gt_lt hwlt k
              have HS8 := Lib.hid hs8
              clear hs8 hslt hwl hwlt hR
              generalize Sh.one (Sh.rK h l k) (Sh.kz.getD k 0) ((Sh.wK l 64).getD k 0) = p5 at *
              generalize Sh.two (Sh.rK h l k) = t2 at *
              generalize hst : Sh.rK h l k = st at *
              generalize Sh.wK l 64 = W64 at *
              have HST := Lib.hid hst
              clear hst
              generalize gt st 0 = a0 at *
              generalize gt st 1 = a1 at *
              generalize gt st 2 = a2 at *
              generalize gt st 3 = a3 at *
              generalize gt st 4 = a4 at *
              generalize gt st 5 = a5 at *
              generalize gt st 6 = a6 at *
              generalize gt st 7 = a7 at *
              generalize gt Sh.kz k = kk at *
              generalize gt W64 k = ww at *
              -- region 17
              obtain ⟨d0, d1, d2, d3, d4, d5, d6, d7, dk, dw⟩ := HSC.out wr HR.out
              go_wp2
              go_quiet (fail)
              rename_i nq
              have HRa := Lib.hid (HR.out.drewN nq)
              clear d0 d1 d2 d3 d4 d5 d6 d7 dk dw HR
              generalize wr.drewN nq = wa at *
              obtain ⟨d0, d1, d2, d3, d4, d5, d6, d7, dk, dw⟩ := HSC.out wa HRa.out
              -- region 18
              have R6 := Lib.hid (fun w => right6_any a4 w l4)
              have R11 := Lib.hid (fun w => right11_any a4 w l4)
              have R25 := Lib.hid (fun w => right25_any a4 w l4)
              have HY : Hid (∃ z1 mx z3 z4 z5 c1 p1 p2 p3 p4, bits .xor .u64 ((Sh.rr a4 6 : Nat) : Int) ((Sh.rr a4 11 : Nat) : Int) = ((z1 : Nat) : Int) ∧ bits .xor .u64 ((z1 : Nat) : Int) ((Sh.rr a4 25 : Nat) : Int) = ((mx : Nat) : Int) ∧ bits .and .u64 (a4 : Int) (a5 : Int) = ((z3 : Nat) : Int) ∧ IntKind.u64.wrap (4294967295 - (a4 : Int)) = ((z4 : Nat) : Int) ∧ bits .and .u64 ((z4 : Nat) : Int) (a6 : Int) = ((z5 : Nat) : Int) ∧ bits .xor .u64 ((z3 : Nat) : Int) ((z5 : Nat) : Int) = ((c1 : Nat) : Int) ∧
                  IntKind.u64.wrap ((a7 : Int) + ((mx : Nat) : Int)) = ((p1 : Nat) : Int) ∧ IntKind.u64.wrap (((p1 : Nat) : Int) + ((c1 : Nat) : Int)) = ((p2 : Nat) : Int) ∧ IntKind.u64.wrap (((p2 : Nat) : Int) + (kk : Int)) = ((p3 : Nat) : Int) ∧ IntKind.u64.wrap (((p3 : Nat) : Int) + (ww : Int)) = ((p4 : Nat) : Int) ∧ p4 % 4294967296 = p5 ∧ p4 < 25769803776) := by
                have m1 := Sh.rr_lt a4 6 l4
                have m2 := Sh.rr_lt a4 11 l4
                have m3 := Sh.rr_lt a4 25 l4
                have m4 := Sh.mix_lt a4 6 11 25 l4
                have m5 := Sh.ch_lt a4 a5 a6 l5 l6
                have hn : 4294967295 - a4 < 4294967296 := by omega
                refine ⟨Sh.rr a4 6 ^^^ Sh.rr a4 11, Sh.mix a4 6 11 25, a4 &&& a5, 4294967295 - a4, (4294967295 - a4) &&& a6, Sh.ch a4 a5 a6, a7 + Sh.mix a4 6 11 25, a7 + Sh.mix a4 6 11 25 + Sh.ch a4 a5 a6, a7 + Sh.mix a4 6 11 25 + Sh.ch a4 a5 a6 + kk, a7 + Sh.mix a4 6 11 25 + Sh.ch a4 a5 a6 + kk + ww, ?_, ?_, ?_, ?_, ?_, ?_, ?_, ?_, ?_, ?_, ?_, ?_⟩
                · exact u64_xor_nat _ _ (up32 m1) (up32 m2)
                · exact u64_xor_nat _ _ (up32 (Sh.xor_lt m1 m2)) (up32 m3)
                · exact u64_and_nat _ _ (up32 l4) (up32 l5)
                · rw [IntKind.wrap_u64]; omega
                · exact u64_and_nat _ _ (up32 hn) (up32 l6)
                · rw [u64_xor_nat _ _ (up32 (Sh.and_lt l5)) (up32 (Sh.and_lt l6)), Sh.ch_ref a4 a5 a6 l4 l6]
                · exact wrap64u _ _ _ rfl (by omega)
                · exact wrap64u _ _ _ rfl (by omega)
                · exact wrap64u _ _ _ rfl (by omega)
                · exact wrap64u _ _ _ rfl (by omega)
                · exact HONE.out.symm
                · omega
              obtain ⟨z1, mx, z3, z4, z5, c1, p1, p2, p3, p4, y1, y2, y3, y4, y5, y6, y7, y8, y9, y10, hp5, hp4⟩ := HY.out
              have lp5 : p5 < 4294967296 := by omega
              have q1 : (p4 : Int) % 4294967296 = (p5 : Int) := by omega
              have q2 : Int.tmod (p4 : Int) 4294967296 = (p5 : Int) := by rw [Int.tmod_eq_emod_of_nonneg (by omega)]; omega
              have q3 : IntKind.u64.wrap (kk : Int) = (kk : Int) := by rw [IntKind.wrap_u64]; omega
              generalize Sh.rr a4 6 = r6 at *
              generalize Sh.rr a4 11 = r11 at *
              generalize Sh.rr a4 25 = r25 at *
              clear HY hp5 HONE
              go_wp2
              go_quiet ((go_at_call 29; first | (with_reducible exact Calls.quiet_of_same (still1 (R6.out _))) | (with_reducible exact Calls.quiet_of_same (still1 (R11.out _))) | (with_reducible exact Calls.quiet_of_same (still1 (R25.out _)))))
              rename_i nq
              have HRb := Lib.hid (HRa.out.drewN nq)
              clear d0 d1 d2 d3 d4 d5 d6 d7 dk dw HRa y1 y2 y3 y4 y5 y6 y7 y8 y9 y10 hp4 q1 q2 q3 R6 R11 R25
              generalize wa.drewN nq = wb at *
              obtain ⟨d0, d1, d2, d3, d4, d5, d6, d7, dk, dw⟩ := HSC.out wb HRb.out
              have R2 := Lib.hid (fun w => right2_any a0 w l0)
              have R13 := Lib.hid (fun w => right13_any a0 w l0)
              have R22 := Lib.hid (fun w => right22_any a0 w l0)
              have HY : Hid (∃ z1 mx z3 z4 z5 z6 mj p1, bits .xor .u64 ((Sh.rr a0 2 : Nat) : Int) ((Sh.rr a0 13 : Nat) : Int) = ((z1 : Nat) : Int) ∧ bits .xor .u64 ((z1 : Nat) : Int) ((Sh.rr a0 22 : Nat) : Int) = ((mx : Nat) : Int) ∧ bits .and .u64 (a0 : Int) (a1 : Int) = ((z3 : Nat) : Int) ∧ bits .and .u64 (a0 : Int) (a2 : Int) = ((z4 : Nat) : Int) ∧ bits .xor .u64 ((z3 : Nat) : Int) ((z4 : Nat) : Int) = ((z5 : Nat) : Int) ∧ bits .and .u64 (a1 : Int) (a2 : Int) = ((z6 : Nat) : Int) ∧ bits .xor .u64 ((z5 : Nat) : Int) ((z6 : Nat) : Int) = ((mj : Nat) : Int) ∧
                  IntKind.u64.wrap (((mx : Nat) : Int) + ((mj : Nat) : Int)) = ((p1 : Nat) : Int) ∧ p1 % 4294967296 = t2 ∧ p1 < 8589934592) := by
                have m1 := Sh.rr_lt a0 2 l0
                have m2 := Sh.rr_lt a0 13 l0
                have m3 := Sh.rr_lt a0 22 l0
                have m4 := Sh.mix_lt a0 2 13 22 l0
                have m5 := Sh.maj_lt a0 a1 a2 l0 l1
                refine ⟨Sh.rr a0 2 ^^^ Sh.rr a0 13, Sh.mix a0 2 13 22, a0 &&& a1, a0 &&& a2, (a0 &&& a1) ^^^ (a0 &&& a2), a1 &&& a2, Sh.maj a0 a1 a2, Sh.mix a0 2 13 22 + Sh.maj a0 a1 a2, ?_, ?_, ?_, ?_, ?_, ?_, ?_, ?_, ?_, ?_⟩
                · exact u64_xor_nat _ _ (up32 m1) (up32 m2)
                · exact u64_xor_nat _ _ (up32 (Sh.xor_lt m1 m2)) (up32 m3)
                · exact u64_and_nat _ _ (up32 l0) (up32 l1)
                · exact u64_and_nat _ _ (up32 l0) (up32 l2)
                · exact u64_xor_nat _ _ (up32 (Sh.and_lt l1)) (up32 (Sh.and_lt l2))
                · exact u64_and_nat _ _ (up32 l1) (up32 l2)
                · rw [u64_xor_nat _ _ (up32 (Sh.xor_lt (Sh.and_lt l1) (Sh.and_lt l2))) (up32 (Sh.and_lt l2)), Sh.maj_ref a0 a1 a2]
                · exact wrap64u _ _ _ rfl (by omega)
                · exact HTWO.out.symm
                · omega
              obtain ⟨z1', mx', z3', z4', z5', z6', mj, p6, y1, y2, y3, y4, y5, y6, y7, y8, ht2, hp6⟩ := HY.out
              have lt2 : t2 < 4294967296 := by omega
              have q1 : (p6 : Int) % 4294967296 = (t2 : Int) := by omega
              have q2 : Int.tmod (p6 : Int) 4294967296 = (t2 : Int) := by rw [Int.tmod_eq_emod_of_nonneg (by omega)]; omega
              generalize Sh.rr a0 2 = r2 at *
              generalize Sh.rr a0 13 = r13 at *
              generalize Sh.rr a0 22 = r22 at *
              clear HY ht2 HTWO
              go_wp2
              go_quiet ((go_at_call 29; first | (with_reducible exact Calls.quiet_of_same (still1 (R2.out _))) | (with_reducible exact Calls.quiet_of_same (still1 (R13.out _))) | (with_reducible exact Calls.quiet_of_same (still1 (R22.out _)))))
              rename_i nq
              have HRc := Lib.hid (HRb.out.drewN nq)
              clear d0 d1 d2 d3 d4 d5 d6 d7 dk dw HRb y1 y2 y3 y4 y5 y6 y7 y8 hp6 q1 q2 R2 R13 R22
              generalize wb.drewN nq = wc at *
              obtain ⟨d0, d1, d2, d3, d4, d5, d6, d7, dk, dw⟩ := HSC.out wc HRc.out
              obtain ⟨p7, hp7⟩ : ∃ p, p5 + t2 = p := ⟨_, rfl⟩
              obtain ⟨v0, hv0⟩ : ∃ p, p7 % 4294967296 = p := ⟨_, rfl⟩
              obtain ⟨p8, hp8⟩ : ∃ p, a3 + p5 = p := ⟨_, rfl⟩
              obtain ⟨v4, hv4⟩ : ∃ p, p8 % 4294967296 = p := ⟨_, rfl⟩
              rw [hp7, hv0, hp8, hv4] at HNX
              have e1 : IntKind.u64.wrap ((p5 : Int) + (t2 : Int)) = (p7 : Int) := wrap64u _ _ _ hp7 (by omega)
              have e1' : (p5 : Int) + (t2 : Int) = (p7 : Int) := by omega
              have e2 : (p7 : Int) % 4294967296 = (v0 : Int) := by omega
              have e3 : Int.tmod (p7 : Int) 4294967296 = (v0 : Int) := by rw [Int.tmod_eq_emod_of_nonneg (by omega)]; omega
              have e4 : IntKind.u64.wrap ((a3 : Int) + (p5 : Int)) = (p8 : Int) := wrap64u _ _ _ hp8 (by omega)
              have e4' : (a3 : Int) + (p5 : Int) = (p8 : Int) := by omega
              have e5 : (p8 : Int) % 4294967296 = (v4 : Int) := by omega
              have e6 : Int.tmod (p8 : Int) 4294967296 = (v4 : Int) := by rw [Int.tmod_eq_emod_of_nonneg (by omega)]; omega
              clear hp7 hv0 hp8 hv4
              go_wp2_with (refine wpList_store8u rfl (.tmp 9) (.tmp 192) rfl Sb _ _ _ _ _ _ _ _ rfl rfl st (HOB.out _ HRc.out) HS8.out ?_)
              go_roundw
              case rel => exact ⟨k + 1, by omega, by go_num, HNX.out _ HRc.out⟩
              case measure => simp [intOf]; omega
            · obtain rfl : k = 64 := by omega
              rw [show ((64 : Nat) : Int) = 64 from rfl]
              have H3 : Hid (U3 w B Sb h (Sh.rK h l 64) 0 wr) := ⟨by rw [sumK_zero _ _ HH.out]; exact hR.rd.hO, hR.rd.rO, hR.sO, hR.sb, hR.rd.bel⟩
              have HF := Lib.hid (sumK_full h l)
              have hs8 := Lib.hid (Sh.rK_len h l HH.out 64)
              have hl8 := Lib.hid (Sh.rK_lt h l HH2.out 64)
              clear hR HR hk hlt
              generalize Sh.rK h l 64 = st at *
              go_wp2
              go_loopw [16] (fun i wx => ∃ k : Nat, k ≤ 8 ∧ i = .int .i64 k ∧ U3 w B Sb h st k wx) (fun i _ => 8 - (intOf i).toNat)
              case atStart => exact ⟨0, by omega, rfl, H3.out⟩
              case round =>
                clear H3
                obtain ⟨k, hk, rfl, hR⟩ := hrel
                have HR := Lib.hid hR
                by_cases hlt : k < 8
                · have hki : (k : Int) < 8 := by omega
                  have g0 : wr.cell? ⟨B, k, none⟩ = some (.int .u32 ((gt h k : Nat) : Int)) := by
                    rw [hR.hO.getK k (by rw [sumK_len]; exact hlt), sumK_get _ _ _ _ hlt, if_neg (by omega)]
                  have g1 : wr.cell? ⟨Sb, k, none⟩ = some (.int .u64 ((gt st k : Nat) : Int)) := hR.sO.getK k (by rw [hs8.out]; exact hlt)
                  have z0 := hR.hO.free k
                  have b0 := gt_lt HH2.out k
                  have b1 := gt_lt hl8.out k
                  have HNX := Lib.hid ((hR.set hlt).drewN 1)
                  clear hR
                  generalize gt h k = x0 at *
                  generalize gt st k = x1 at *
                  obtain ⟨v, hv⟩ : ∃ v, x0 + x1 = v := ⟨_, rfl⟩
                  obtain ⟨u, hu⟩ : ∃ u, v % 4294967296 = u := ⟨_, rfl⟩
                  rw [hv, hu] at HNX
                  have f0 : IntKind.u64.wrap (x0 : Int) = (x0 : Int) := by rw [IntKind.wrap_u64]; omega
                  have f1 : IntKind.u64.wrap ((x0 : Int) + (x1 : Int)) = (v : Int) := wrap64u _ _ _ hv (by omega)
                  have f1' : (x0 : Int) + (x1 : Int) = (v : Int) := by omega
                  have f2 : (v : Int) % 4294967296 = (u : Int) := by omega
                  have f3 : Int.tmod (v : Int) 4294967296 = (u : Int) := by rw [Int.tmod_eq_emod_of_nonneg (by omega)]; omega
                  have f4 : IntKind.u32.wrap (u : Int) = (u : Int) := by rw [IntKind.wrap_u32]; omega
                  have hne : Sb ≠ B := by have := HR.out.sb; omega
                  have HF2 := Lib.hid f2
                  clear hv hu
                  go_wp2
                  refine wp_region_T 12 (fun wq => wq.cell? ⟨B, k, none⟩ = some (.int .u32 (x0 : Int)) ∧ wq.cell? ⟨Sb, k, none⟩ = some (.int .u64 (x1 : Int))) (by kernel_rfl) ⟨g0, g1⟩ (fun hHeld => ?_)
                  refine wpAnyT_take (i := 0) (oi := ?_) (v := ?_) ?_ ?_ ?_ ?_ ?_ ?_ ?_ (by assumption) ?_
                  rotate_left 2
                  · simp only [List.getElem?_toArray, List.getElem?_cons_zero, List.getElem?_cons_succ]
                    rfl
                  · kernel_rfl
                  · kernel_rfl
                  · kernel_rfl
                  · kernel_rfl
                  · exact fun _ _ _ h => h
                  · refine Or.inl ⟨by rfl, ?_⟩
                    intro w hSw
                    (try dsimp only at hSw)
                    go_simp
                    all_goals with_reducible rfl
                  simp only [Act.put, List.setIfInBounds_toArray, List.set_cons_zero, List.set_cons_succ]
                  refine wpAnyT_take (i := 1) (oi := ?_) (v := ?_) ?_ ?_ ?_ ?_ ?_ ?_ ?_ (by assumption) ?_
                  rotate_left 2
                  · simp only [List.getElem?_toArray, List.getElem?_cons_zero, List.getElem?_cons_succ]
                    rfl
                  · kernel_rfl
                  · kernel_rfl
                  · kernel_rfl
                  · kernel_rfl
                  · exact fun _ _ _ h => h
                  · refine Or.inl ⟨by rfl, ?_⟩
                    intro w hSw
                    (try dsimp only at hSw)
                    go_simp
                    all_goals with_reducible rfl
                  simp only [Act.put, List.setIfInBounds_toArray, List.set_cons_zero, List.set_cons_succ]
                  refine wpAnyT_take (i := 2) (oi := ?_) (v := ?_) ?_ ?_ ?_ ?_ ?_ ?_ ?_ (by assumption) ?_
                  rotate_left 2
                  · simp only [List.getElem?_toArray, List.getElem?_cons_zero, List.getElem?_cons_succ]
                    rfl
                  · kernel_rfl
                  · kernel_rfl
                  · kernel_rfl
                  · kernel_rfl
                  · exact fun _ _ _ h => h
                  · refine Or.inl ⟨by rfl, ?_⟩
                    intro w hSw
                    (try dsimp only at hSw)
                    go_simp
                    all_goals with_reducible rfl
                  simp only [Act.put, List.setIfInBounds_toArray, List.set_cons_zero, List.set_cons_succ]
                  refine wpAnyT_take (i := 3) (oi := ?_) (v := ?_) ?_ ?_ ?_ ?_ ?_ ?_ ?_ (by assumption) ?_
                  rotate_left 2
                  · simp only [List.getElem?_toArray, List.getElem?_cons_zero, List.getElem?_cons_succ]
                    rfl
                  · kernel_rfl
                  · kernel_rfl
                  · kernel_rfl
                  · kernel_rfl
                  · exact fun _ _ _ h => h
                  · refine Or.inl ⟨by rfl, ?_⟩
                    intro w' hSw
                    obtain ⟨d0, d1⟩ := hSw
                    go_simp
                    all_goals with_reducible rfl
                  simp only [Act.put, List.setIfInBounds_toArray, List.set_cons_zero, List.set_cons_succ]
                  refine wpAnyT_take (i := 4) (oi := ?_) (v := ?_) ?_ ?_ ?_ ?_ ?_ ?_ ?_ (by assumption) ?_
                  rotate_left 2
                  · simp only [List.getElem?_toArray, List.getElem?_cons_zero, List.getElem?_cons_succ]
                    rfl
                  · kernel_rfl
                  · kernel_rfl
                  · kernel_rfl
                  · kernel_rfl
                  · exact fun _ _ _ h => h
                  · refine Or.inl ⟨by rfl, ?_⟩
                    intro w hSw
                    (try dsimp only at hSw)
                    go_simp
                    all_goals with_reducible rfl
                  simp only [Act.put, List.setIfInBounds_toArray, List.set_cons_zero, List.set_cons_succ]
                  refine wpAnyT_take (i := 5) (oi := ?_) (v := ?_) ?_ ?_ ?_ ?_ ?_ ?_ ?_ (by assumption) ?_
                  rotate_left 2
                  · simp only [List.getElem?_toArray, List.getElem?_cons_zero, List.getElem?_cons_succ]
                    rfl
                  · kernel_rfl
                  · kernel_rfl
                  · kernel_rfl
                  · kernel_rfl
                  · exact fun _ _ _ h => h
                  · refine Or.inl ⟨by rfl, ?_⟩
                    intro w hSw
                    (try dsimp only at hSw)
                    go_simp
                    all_goals with_reducible rfl
                  simp only [Act.put, List.setIfInBounds_toArray, List.set_cons_zero, List.set_cons_succ]
                  refine wpAnyT_take (i := 6) (oi := ?_) (v := ?_) ?_ ?_ ?_ ?_ ?_ ?_ ?_ (by assumption) ?_
                  rotate_left 2
                  · simp only [List.getElem?_toArray, List.getElem?_cons_zero, List.getElem?_cons_succ]
                    rfl
                  · kernel_rfl
                  · kernel_rfl
                  · kernel_rfl
                  · kernel_rfl
                  · exact fun _ _ _ h => h
                  · refine Or.inl ⟨by rfl, ?_⟩
                    intro w hSw
                    (try dsimp only at hSw)
                    go_simp
                    all_goals with_reducible rfl
                  simp only [Act.put, List.setIfInBounds_toArray, List.set_cons_zero, List.set_cons_succ]
                  refine wpAnyT_take (i := 7) (oi := ?_) (v := ?_) ?_ ?_ ?_ ?_ ?_ ?_ ?_ (by assumption) ?_
                  rotate_left 2
                  · simp only [List.getElem?_toArray, List.getElem?_cons_zero, List.getElem?_cons_succ]
                    rfl
                  · kernel_rfl
                  · kernel_rfl
                  · kernel_rfl
                  · kernel_rfl
                  · exact fun _ _ _ h => h
                  · refine Or.inl ⟨by rfl, ?_⟩
                    intro w' hSw
                    obtain ⟨d0, d1⟩ := hSw
                    go_simp
                    all_goals with_reducible rfl
                  simp only [Act.put, List.setIfInBounds_toArray, List.set_cons_zero, List.set_cons_succ]
                  refine wpAnyT_take (i := 8) (oi := ?_) (v := ?_) ?_ ?_ ?_ ?_ ?_ ?_ ?_ (by assumption) ?_
                  rotate_left 2
                  · simp only [List.getElem?_toArray, List.getElem?_cons_zero, List.getElem?_cons_succ]
                    rfl
                  · kernel_rfl
                  · kernel_rfl
                  · kernel_rfl
                  · kernel_rfl
                  · exact fun _ _ _ h => h
                  · refine Or.inl ⟨by rfl, ?_⟩
                    intro w hSw
                    (try dsimp only at hSw)
                    go_simp
                    all_goals with_reducible rfl
                  simp only [Act.put, List.setIfInBounds_toArray, List.set_cons_zero, List.set_cons_succ]
                  refine wpAnyT_take (i := 9) (oi := ?_) (v := ?_) ?_ ?_ ?_ ?_ ?_ ?_ ?_ (by assumption) ?_
                  rotate_left 2
                  · simp only [List.getElem?_toArray, List.getElem?_cons_zero, List.getElem?_cons_succ]
                    rfl
                  · kernel_rfl
                  · kernel_rfl
                  · kernel_rfl
                  · kernel_rfl
                  · exact fun _ _ _ h => h
                  · refine Or.inl ⟨by rfl, ?_⟩
                    intro w hSw
                    (try dsimp only at hSw)
                    go_simp
                    all_goals with_reducible rfl
                  simp only [Act.put, List.setIfInBounds_toArray, List.set_cons_zero, List.set_cons_succ]
                  refine wpAnyT_take (i := 10) (oi := ?_) (v := ?_) ?_ ?_ ?_ ?_ ?_ ?_ ?_ (by assumption) ?_
                  rotate_left 2
                  · simp only [List.getElem?_toArray, List.getElem?_cons_zero, List.getElem?_cons_succ]
                    rfl
                  · kernel_rfl
                  · kernel_rfl
                  · kernel_rfl
                  · kernel_rfl
                  · exact fun _ _ _ h => h
                  · refine Or.inl ⟨by rfl, ?_⟩
                    intro w hSw
                    (try dsimp only at hSw)
                    go_simp
                    all_goals with_reducible rfl
                  simp only [Act.put, List.setIfInBounds_toArray, List.set_cons_zero, List.set_cons_succ]
                  refine wpAnyT_take (i := 11) (oi := ?_) (v := ?_) ?_ ?_ ?_ ?_ ?_ ?_ ?_ (by assumption) ?_
                  rotate_left 2
                  · simp only [List.getElem?_toArray, List.getElem?_cons_zero, List.getElem?_cons_succ]
                    rfl
                  · kernel_rfl
                  · kernel_rfl
                  · kernel_rfl
                  · kernel_rfl
                  · exact fun _ _ _ h => h
                  · refine Or.inl ⟨by rfl, ?_⟩
                    intro w hSw
                    (try dsimp only at hSw)
                    go_simp
                    all_goals with_reducible rfl
                  simp only [Act.put, List.setIfInBounds_toArray, List.set_cons_zero, List.set_cons_succ]
                  refine wpAnyT_last (o := ?_) (by kernel_rfl) ?_ (fun KK hKK => ?_)
                  rotate_left
                  · simp only [List.getElem?_toArray, List.getElem?_cons_zero, List.getElem?_cons_succ]
                    rfl
                  go_simp
                  refine hKK.out _ _ ?_
                  clear hKK KK
                  try simp only [Act.put, List.setIfInBounds_toArray, List.set_cons_zero, List.set_cons_succ]
                  refine wpAnyT_done (by kernel_rfl) ?_ _
                  go_wp2
                  go_roundw
                  case rel => exact ⟨k + 1, by omega, by go_num, by have h := HNX.out; rw [← HF2.out] at h; exact h⟩
                  case measure => simp [intOf]; omega
                · obtain rfl : k = 8 := by omega
                  have HI := Lib.hid (size32x8 (Sh.turn_len h l))
                  have HO : Hid (Obj wr B 40 (cellsK .u32 (Sh.turn h l))) := by have := hR.hO; rw [HF.out] at this; exact this
                  have HZ := Lib.hid hR.rO
                  have HTL := Lib.hid (Sh.turn_len h l)
                  have HBE := Lib.hid hR.bel
                  clear hR HR
                  go_wp2_with (first
                    | (refine wpList_load_row rfl 40 (.tmp 2) rfl _ rfl _ _ _ _ HO.out Tryd.underlying40 rfl HI.out ?_)
                    | (refine wpList_store_row rfl 40 (.tmp 4) (.tmp 209) rfl _ _ rfl rfl _ _ HZ.out HI.out (by rw [cellsK_size, cellsK_size, HTL.out]; simp) (one_cellsK _ _) ?_))
                  exact bodyPost_ret (v := .agg (cellsK .u32 (Sh.turn h l))) (results_cell_row rfl _ _ _ _ _ _ _ rfl (HZ.out.row _) Tryd.underlying40 rfl HI.out) rfl ⟨rfl, by rw [HB.out]; exact row_below HBE.out HZ.out.lt _⟩
end Go.Proofs.YtanigdadhldceaaDoor
