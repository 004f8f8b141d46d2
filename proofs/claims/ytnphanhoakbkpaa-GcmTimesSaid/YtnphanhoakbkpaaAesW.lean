/- Layer 8's blocks, walked. -/
import Derived.Test.YtnphanhoakbkpaaRows
import Derived.Test.YtnphanhoakbkpaaAid
import Derived.Test.YtnphanhoakbkpaaPlainAe
import Derived.Test.YtnphanhoakbkpaaPlainAe2
import Derived.Test.YtnphanhoakbkpaaAesB
import Derived.Test.YtnphanhoakbkpaaAesBox
import Derived.WalkKit
import Derived.Laws.BitsAllLaws
import Derived.Laws.Rows
import Derived.Laws.Tables
import Derived.WalkSpells
import Derived.WalkLawsBesides
import Derived.Deep.QuietTactic
import Derived.BigQuiet
import Derived.Handy
import Derived.Lib.Hide
import Derived.StillTailTactics
import Derived.Deep.RegionHeld3
import Derived.Deep.WholeRow
import Derived.IntWalk
namespace Go.Proofs.Ytnphanhoakbkpaa
open Go.RowKit
set_option linter.unusedVariables false
set_option linter.unusedSimpArgs false

/-- The cells of an array of bytes. -/
def cellsN (l : List Nat) : Array Value := (l.map fun c => Value.int .u8 ((c : Nat) : Int)).toArray
theorem cellsN_size (l : List Nat) : (cellsN l).size = l.length := by simp [cellsN]
theorem cellsN_get (l : List Nat) (i : Nat) (h : i < l.length) : (cellsN l)[i]? = some (.int .u8 ((l.getD i 0 : Nat) : Int)) := by
  simp [cellsN, h, List.getD_eq_getElem?_getD]
theorem cellsN_set (l : List Nat) (i v : Nat) : (cellsN l).setIfInBounds i (.int .u8 ((v : Nat) : Int)) = cellsN (l.set i v) := by
  unfold cellsN; simp [List.map_set]

theorem Obj.getN {w : World} {b : Nat} {t : TypeId} {l : List Nat} (h : Obj w b t (cellsN l)) (i : Nat) (hi : i < l.length) : w.cell? ⟨b, i, none⟩ = some (.int .u8 ((l.getD i 0 : Nat) : Int)) := by rw [h.cell i, cellsN_get l i hi]
theorem Obj.setN {w : World} {b : Nat} {t : TypeId} {l : List Nat} (h : Obj w b t (cellsN l)) (i v : Nat) : Obj (w.setCell ⟨b, i, none⟩ (.int .u8 ((v : Nat) : Int))) b t (cellsN (l.set i v)) := by
  have := h.set i (.int .u8 ((v : Nat) : Int)); rwa [cellsN_set] at this

theorem one_cellsN (l : List Nat) : (cellsN l).all (·.oneCell') = true := by
  unfold cellsN
  rw [Array.all_eq_true_iff_forall_mem]
  intro v hv
  simp at hv
  obtain ⟨c, _, rfl⟩ := hv
  rfl
section
variable {P : Program}
theorem wpList_store_row {ops : Array Oper} {rest : List Oper} {o : Oper} {a : Act} {w : World} {Q : Exit → Act → World → Prop} (hgd : o.guard = none) (ty : TypeId) (x y : Operand) (ho : o.op = .store ty x y)
    (g : Nat) (cells : Array Value) (hx : a.eval x = .pointer (some ⟨g, 0, none⟩)) (hy : a.eval y = .agg cells)
    (t : TypeId) (old : Array Value) (hg : w.heap[g]? = some (.cells old t (0, 0))) (hi : (P.info? ty).map (·.size) = some cells.size)
    (hold : old.size = cells.size) (h1 : cells.all (·.oneCell') = true)
    (h : wpList P ops Q rest (a.put o.dst undef) (w.setRow g cells)) : wpList P ops Q (o :: rest) a w :=
  wpList_plain hgd fun _ hK => wp_store_row ty x y ho g cells hx hy t old hg hi hold h1 (hK _ _ h)
end
theorem Obj.row {w : World} {g : Nat} {t : TypeId} {cs : Array Value} (h : Obj w g t cs) (cs' : Array Value) : Obj (w.setRow g cs') g t cs' := setRow_heap w g cs cs' t (0, 0) h
theorem Upd.row {w w1 : World} {g : Nat} (h : Upd g w w1) (cs : Array Value) : Upd g w (w1.setRow g cs) :=
  h.trans ⟨rfl, rfl, rfl, by simp, fun k _ hne => setRow_other w1 g k cs hne⟩
theorem info16 : (Try.prog.info? 22).map (·.size) = some 16 := by kernel_rfl
theorem info176 : (Try.prog.info? 67).map (·.size) = some 176 := by kernel_rfl
theorem size16 {l : List Nat} (h : l.length = 16) : (Try.prog.info? 22).map (·.size) = some (cellsN l).size := by rw [cellsN_size, h]; exact info16
theorem size176 {l : List Nat} (h : l.length = 176) : (Try.prog.info? 67).map (·.size) = some (cellsN l).size := by rw [cellsN_size, h]; exact info176

set_option maxHeartbeats 400000 in
theorem with_any (b k : List Nat) (r : Nat) (w : World) (hb : b.length = 16) (hk : k.length = 176) (hr : r ≤ 10) (qb : Ae.bytes b) (qk : Ae.bytes k) :
    Calls Try.prog 46 #[.agg (cellsN b), .agg (cellsN k), .int .i64 (r : Int)] w fun e w' => e = .returned (.agg (cellsN (Ae.withK b k r))) ∧ Below w.heap.size w w' := by
  have HB := Lib.hid hb
  have HK := Lib.hid hk
  clear hb hk
  go_enter Try.func46, Try.ntmps46
  go_wp2
  go_loopw [8] (fun i wr => ∃ j : Nat, j ≤ 16 ∧ i = .int .i64 j ∧ Obj wr w.heap.size 22 (cellsN (Ae.upto (fun i => b.getD i 0 ^^^ k.getD (16 * r + i) 0) b j)) ∧ Obj wr (w.heap.size + 1) 67 (cellsN k) ∧ Obj wr (w.heap.size + 1 + 1) 22 (cellsN (List.replicate 16 0)) ∧ Below w.heap.size w wr) (fun i _ => 16 - (intOf i).toNat)
  case atStart =>
    refine ⟨0, by omega, rfl, ?_, ?_, ?_, ?_⟩
    · rw [Ae.upto_zero]; exact ((Obj.new w _ _).alloc _).alloc _
    · exact (new2 w _ _ _).alloc _
    · have h := new2 (w.alloc (.cells (cellsN b) 22)) (.cells (cellsN k) 67) 22 (cellsN (List.replicate 16 0))
      rw [show (w.alloc (.cells (cellsN b) 22)).heap.size = w.heap.size + 1 by simp] at h
      exact h
    · exact (((Below.refl _ _).alloc (Nat.le_refl _) _).alloc (by simp) _).alloc (by simp; omega) _
  case round =>
    obtain ⟨j, hj, rfl, HO, HW, HZ, HL⟩ := hrel
    by_cases hlt : j < 16
    · have f0 : wr.cell? ⟨w.heap.size, j, none⟩ = some (.int .u8 ((b.getD j 0 : Nat) : Int)) := by
        rw [HO.getN j (by rw [Ae.upto_len, HB.out]; exact hlt), Ae.upto_get _ _ _ _ (by rw [HB.out]; exact hlt), if_neg (by omega)]
      obtain ⟨A, hA⟩ : ∃ A, 4 * r = A := ⟨_, rfl⟩
      obtain ⟨q, hq⟩ : ∃ q, j / 4 = q := ⟨_, rfl⟩
      obtain ⟨m, hm⟩ : ∃ m, j % 4 = m := ⟨_, rfl⟩
      obtain ⟨s, hs⟩ : ∃ s, A + q = s := ⟨_, rfl⟩
      have f1 : wr.cell? ⟨w.heap.size + 1, s * 4 + m, none⟩ = some (.int .u8 ((k.getD (s * 4 + m) 0 : Nat) : Int)) := HW.getN _ (by rw [HK.out]; omega)
      have e1 : IntKind.i64.wrap (4 * (r : Int)) = (A : Int) := by rw [IntWalk.i64_in _ (by omega)]; omega
      have e2 : IntKind.i64.wrap ((j : Int) / 4) = (q : Int) := by rw [IntWalk.i64_in _ (by omega)]; omega
      have e3 : IntKind.i64.wrap ((A : Int) + (q : Int)) = (s : Int) := by rw [IntWalk.i64_in _ (by omega)]; omega
      have e4 : (j : Int).tmod 4 = (m : Int) := by rw [Int.tmod_eq_emod_of_nonneg (by omega)]; omega
      have hs44 : (s : Int) < 44 := by omega
      have hm4 : (m : Int) < 4 := by omega
      have z0 := HO.free j
      have hx := Ae.bytes_get qb j
      have hy := Ae.bytes_get qk (s * 4 + m)
      have HS : Hid (b.getD j 0 ^^^ k.getD (16 * r + j) 0 = b.getD j 0 ^^^ k.getD (s * 4 + m) 0) := by unfold Hid; rw [show 16 * r + j = s * 4 + m by omega]
      have HF : Hid ((Ae.upto (fun i => b.getD i 0 ^^^ k.getD (16 * r + i) 0) b j).set j (b.getD j 0 ^^^ k.getD (16 * r + j) 0) = Ae.upto (fun i => b.getD i 0 ^^^ k.getD (16 * r + i) 0) b (j + 1)) := Ae.upto_set (fun i => b.getD i 0 ^^^ k.getD (16 * r + i) 0) b j (by rw [HB.out]; exact hlt)
      rw [HS.out] at HF
      clear hA hq hm hs HS
      generalize b.getD j 0 = x at *
      generalize k.getD (s * 4 + m) 0 = y at *
      have HX := Lib.hid (u8_xor_nat x y hx hy)
      go_wp2
      refine wp_region_still_tail 15 (by kernel_rfl) (by kernel_rfl) ?_
      simp only [List.take_succ_cons, List.take_zero, List.drop_succ_cons, List.drop_zero]
      change wpStill _ _ (World.drew _) (fun a' => wpList _ _ _ _ a' (World.drew _)) _ _
      iterate 15 still_step
      refine wpStill_nil ?_
      clear e1 e2 e3 e4
      go_wp2
      go_roundw
      case rel =>
        rw [HX.out]
        exact ⟨j + 1, by omega, by go_num, ((HO.setN j (x ^^^ y)).drew).as (by rw [HF.out]), ((HW.far (by simp) _).drew), ((HZ.far (by simp; omega) _).drew), ((HL.setCell (by simp) _).drew)⟩
      case measure => simp [intOf]; omega
    · obtain rfl : j = 16 := by omega
      have HF := Lib.hid (show Ae.upto (fun i => b.getD i 0 ^^^ k.getD (16 * r + i) 0) b 16 = Ae.withK b k r by rw [Ae.upto_full _ _ _ (by rw [HB.out]; omega), HB.out]; rfl)
      rw [HF.out] at HO
      have hL : (Ae.withK b k r).length = 16 := Ae.arr_len _
      have HI := Lib.hid (size16 hL)
      have HLL := Lib.hid hL
      clear hL
      go_wp2_with (first
        | (refine wpList_load_row rfl 22 (.tmp 3) rfl _ rfl _ _ _ _ HO Try.underlying22 rfl HI.out ?_)
        | (refine wpList_store_row rfl 22 (.tmp 6) (.tmp 27) rfl _ _ rfl rfl _ _ HZ HI.out (by rw [cellsN_size, cellsN_size, HLL.out]; simp) (one_cellsN _) ?_))
      exact bodyPost_ret (v := .agg (cellsN (Ae.withK b k r))) (results_cell_row rfl _ _ _ _ _ _ _ rfl (HZ.row _) Try.underlying22 rfl HI.out) rfl ⟨rfl, Upd.below HL (by omega) ((Upd.refl _ _).row _)⟩

theorem new3 (w : World) (o p : _root_.Go.Obj) (t : TypeId) (cs : Array Value) : Obj (((w.alloc o).alloc p).alloc (.cells cs t)) (w.heap.size + 1 + 1) t cs := by
  have h := Obj.new ((w.alloc o).alloc p) t cs
  rwa [show ((w.alloc o).alloc p).heap.size = w.heap.size + 1 + 1 by simp] at h

set_option maxHeartbeats 400000 in
theorem shifted_any (b : List Nat) (w : World) (hb : b.length = 16) (qb : Ae.bytes b) :
    Calls Try.prog 48 #[.agg (cellsN b)] w fun e w' => e = .returned (.agg (cellsN (Ae.shifted b))) ∧ Below w.heap.size w w' := by
  have HB := Lib.hid hb
  clear hb
  go_enter Try.func48, Try.ntmps48
  go_wp2
  go_loopw [5] (fun i wr => ∃ j : Nat, j ≤ 16 ∧ i = .int .i64 j ∧ Obj wr w.heap.size 22 (cellsN b) ∧ Obj wr (w.heap.size + 1) 22 (cellsN (List.replicate 16 0)) ∧ Obj wr (w.heap.size + 1 + 1) 22 (cellsN (Ae.upto (fun i => Ae.box (b.getD ((i + 4 * (i % 4)) % 16) 0)) (List.replicate 16 0) j)) ∧ Below w.heap.size w wr) (fun i _ => 16 - (intOf i).toNat)
  case atStart =>
    refine ⟨0, by omega, rfl, ?_, ?_, ?_, ?_⟩
    · exact ((Obj.new w _ _).alloc _).alloc _
    · exact (new2 w (.cells (cellsN b) 22) 22 (cellsN (List.replicate 16 0))).alloc _
    · rw [Ae.upto_zero]; exact new3 w (.cells (cellsN b) 22) (.cells (cellsN (List.replicate 16 0)) 22) 22 (cellsN (List.replicate 16 0))
    · exact (((Below.refl _ _).alloc (Nat.le_refl _) _).alloc (by simp) _).alloc (by simp; omega) _
  case round =>
    obtain ⟨j, hj, rfl, HO, HZ, HU, HL⟩ := hrel
    by_cases hlt : j < 16
    · obtain ⟨p, hp⟩ : ∃ p, (j + 4 * (j % 4)) % 16 = p := ⟨_, rfl⟩
      have e1 : ((j : Int) + 4 * ((j : Int) % 4)) % 16 = (p : Int) := by omega
      have hp16 : p < 16 := by omega
      have f0 : wr.cell? ⟨w.heap.size, p, none⟩ = some (.int .u8 ((b.getD p 0 : Nat) : Int)) := HO.getN p (by rw [HB.out]; exact hp16)
      have hx := Ae.bytes_get qb p
      have HF : Hid ((Ae.upto (fun i => Ae.box (b.getD ((i + 4 * (i % 4)) % 16) 0)) (List.replicate 16 0) j).set j (Ae.box (b.getD p 0)) = Ae.upto (fun i => Ae.box (b.getD ((i + 4 * (i % 4)) % 16) 0)) (List.replicate 16 0) (j + 1)) := by
        have := Ae.upto_set (fun i => Ae.box (b.getD ((i + 4 * (i % 4)) % 16) 0)) (List.replicate 16 0) j (by simpa using hlt)
        rw [hp] at this; exact this
      have HUC : ∃ v, wr.cell? ⟨w.heap.size + 1 + 1, j, none⟩ = some v := ⟨_, HU.getN j (by rw [Ae.upto_len]; simpa using hlt)⟩
      clear hp
      generalize b.getD p 0 = x at *
      go_wp2_with fail
      refine (box_any x _ hx).mono ?_
      rintro e w1 ⟨rfl, hb1⟩
      have HO1 := HO.kept hb1
      have HZ1 := HZ.kept hb1
      have HU1 := HU.kept hb1
      have HL1 := HL.trans (hb1.mono HL.size)
      have z0 := HU1.free j
      obtain ⟨v, hv⟩ : ∃ v, w1.cell? ⟨w.heap.size + 1 + 1, j, none⟩ = some v := ⟨_, HU1.getN j (by rw [Ae.upto_len]; simpa using hlt)⟩
      clear HO HZ HU HL hb1 HUC e1 f0
      go_wp2
      go_roundw
      case rel => exact ⟨j + 1, by omega, by go_num, HO1.far (by simp; omega) _, HZ1.far (by simp) _, (HU1.setN j _).as (by rw [HF.out]), HL1.setCell (by simp; omega) _⟩
      case measure => simp [intOf]; omega
    · obtain rfl : j = 16 := by omega
      have HF := Lib.hid (show Ae.upto (fun i => Ae.box (b.getD ((i + 4 * (i % 4)) % 16) 0)) (List.replicate 16 0) 16 = Ae.shifted b by rw [Ae.upto_full _ _ _ (by simp)]; rfl)
      rw [HF.out] at HU
      have hL : (Ae.shifted b).length = 16 := Ae.arr_len _
      have HI := Lib.hid (size16 hL)
      have HLL := Lib.hid hL
      clear hL
      go_wp2_with (first
        | (refine wpList_load_row rfl 22 (.tmp 3) rfl _ rfl _ _ _ _ HU Try.underlying22 rfl HI.out ?_)
        | (refine wpList_store_row rfl 22 (.tmp 2) (.tmp 20) rfl _ _ rfl rfl _ _ HZ HI.out (by rw [cellsN_size, cellsN_size, HLL.out]; simp) (one_cellsN _) ?_))
      exact bodyPost_ret (v := .agg (cellsN (Ae.shifted b))) (results_cell_row rfl _ _ _ _ _ _ _ rfl (HZ.row _) Try.underlying22 rfl HI.out) rfl ⟨rfl, Upd.below HL (by omega) ((Upd.refl _ _).row _)⟩

theorem al16 : Try.prog.arrayLen 22 = 16 := by kernel_rfl
theorem el16 : Try.prog.underlying 22 = some (.array (Try.prog.arrayLen 22) (Try.prog.elem 22)) := by kernel_rfl
theorem sz16 (w : World) : (sizeOf (Try.prog.elem 22)).run Try.prog w = .ok 1 w := by kernel_rfl
theorem slice4 (g A : Nat) (h : A + 4 ≤ 16) (w : World) :
    (Instr.sliceAt 22 (.pointer (some ⟨g, 0, none⟩)) (some (.int .i64 (A : Int))) (some (.int .i64 ((A : Int) + 4))) none).run Try.prog w = .ok (.slice (some ⟨g, A, none⟩) 4 (16 - A)) w := by
  have h1 : ¬ 16 = A := by omega
  have ha : (⟨g, 0, none⟩ : Addr).add (A * 1) = ⟨g, A, none⟩ := by unfold Addr.add; split <;> simp_all
  have h2 : ((A : Int) + 4).toNat - A = 4 := by omega
  rw [run_sliceAt_array_lh w 22 ⟨g, 0, none⟩ el16 .i64 .i64 (A : Int) ((A : Int) + 4) (by omega) (by omega) (by rw [al16]; omega), sz16, al16]
  simp [Result.andThen, slicedAt, h1, ha, h2]
  have := ha
  rwa [Nat.mul_one] at this

set_option maxHeartbeats 1000000 in
theorem mixed_any (b : List Nat) (w : World) (hb : b.length = 16) (qb : Ae.bytes b) :
    Calls Try.prog 47 #[.agg (cellsN b)] w fun e w' => e = .returned (.agg (cellsN (Ae.mixed b))) ∧ Below w.heap.size w w' := by
  have HB := Lib.hid hb
  clear hb
  go_enter Try.func47, Try.ntmps47
  go_wp2
  go_loopw [7] (fun i wr => ∃ j : Nat, j ≤ 16 ∧ i = .int .i64 j ∧ Obj wr w.heap.size 22 (cellsN b) ∧ Obj wr (w.heap.size + 1) 22 (cellsN (List.replicate 16 0)) ∧ Obj wr (w.heap.size + 1 + 1) 22 (cellsN (Ae.upto (fun i => Ae.mul (b.getD (i / 4 * 4 + i % 4) 0) 2 ^^^ Ae.mul (b.getD (i / 4 * 4 + (i % 4 + 1) % 4) 0) 3 ^^^ b.getD (i / 4 * 4 + (i % 4 + 2) % 4) 0 ^^^ b.getD (i / 4 * 4 + (i % 4 + 3) % 4) 0) (List.replicate 16 0) j)) ∧ Below w.heap.size w wr) (fun i _ => 16 - (intOf i).toNat)
  case atStart =>
    refine ⟨0, by omega, rfl, ?_, ?_, ?_, ?_⟩
    · exact ((Obj.new w _ _).alloc _).alloc _
    · exact (new2 w (.cells (cellsN b) 22) 22 (cellsN (List.replicate 16 0))).alloc _
    · rw [Ae.upto_zero]; exact new3 w (.cells (cellsN b) 22) (.cells (cellsN (List.replicate 16 0)) 22) 22 (cellsN (List.replicate 16 0))
    · exact (((Below.refl _ _).alloc (Nat.le_refl _) _).alloc (by simp) _).alloc (by simp; omega) _
  case round =>
    obtain ⟨j, hj, rfl, HO, HZ, HU, HL⟩ := hrel
    by_cases hlt : j < 16
    · obtain ⟨A, hA⟩ : ∃ A, j / 4 * 4 = A := ⟨_, rfl⟩
      obtain ⟨p, hp⟩ : ∃ p, j % 4 = p := ⟨_, rfl⟩
      have e1 : (j : Int) / 4 * 4 = (A : Int) := by omega
      have e2 : (j : Int) % 4 = (p : Int) := by omega
      have b1 : (A : Int) + 4 ≤ 16 := by omega
      have hp4 : p < 4 := by omega
      have hsl := fun w' => slice4 w.heap.size A (by omega) w'
      clear b1
      obtain ⟨p1, hp1⟩ : ∃ q, (p + 1) % 4 = q := ⟨_, rfl⟩
      obtain ⟨p2, hp2⟩ : ∃ q, (p + 2) % 4 = q := ⟨_, rfl⟩
      obtain ⟨p3, hp3⟩ : ∃ q, (p + 3) % 4 = q := ⟨_, rfl⟩
      have gx := fun i (hi : i < 16) => HO.getN i (by rw [HB.out]; exact hi)
      have f0 : wr.cell? ⟨w.heap.size, A + p, none⟩ = some (.int .u8 ((b.getD (A + p) 0 : Nat) : Int)) := gx _ (by omega)
      have f1 : wr.cell? ⟨w.heap.size, A + p1, none⟩ = some (.int .u8 ((b.getD (A + p1) 0 : Nat) : Int)) := gx _ (by omega)
      have f2 : wr.cell? ⟨w.heap.size, A + p2, none⟩ = some (.int .u8 ((b.getD (A + p2) 0 : Nat) : Int)) := gx _ (by omega)
      have f3 : wr.cell? ⟨w.heap.size, A + p3, none⟩ = some (.int .u8 ((b.getD (A + p3) 0 : Nat) : Int)) := gx _ (by omega)
      have s1 : IntKind.i64.wrap ((p : Int) + 1) = (p : Int) + 1 := IntWalk.i64_in _ (by omega)
      have s2 : IntKind.i64.wrap ((p : Int) + 2) = (p : Int) + 2 := IntWalk.i64_in _ (by omega)
      have s3 : IntKind.i64.wrap ((p : Int) + 3) = (p : Int) + 3 := IntWalk.i64_in _ (by omega)
      have t1 : ((p : Int) + 1).tmod 4 = (p1 : Int) := by rw [Int.tmod_eq_emod_of_nonneg (by omega)]; omega
      have t2 : ((p : Int) + 2).tmod 4 = (p2 : Int) := by rw [Int.tmod_eq_emod_of_nonneg (by omega)]; omega
      have t3 : ((p : Int) + 3).tmod 4 = (p3 : Int) := by rw [Int.tmod_eq_emod_of_nonneg (by omega)]; omega
      have l0 : (p : Int) < 4 := by omega
      have l1 : (p1 : Int) < 4 := by omega
      have l2 : (p2 : Int) < 4 := by omega
      have l3 : (p3 : Int) < 4 := by omega
      have hx := Ae.bytes_get qb (A + p)
      have hx1 := Ae.bytes_get qb (A + p1)
      have hx2 := Ae.bytes_get qb (A + p2)
      have hx3 := Ae.bytes_get qb (A + p3)
      have z0 := HU.free j
      obtain ⟨v, hv⟩ : ∃ v, wr.cell? ⟨w.heap.size + 1 + 1, j, none⟩ = some v := ⟨_, HU.getN j (by rw [Ae.upto_len]; simpa using hlt)⟩
      have HF := Lib.hid (Ae.upto_set (fun i => Ae.mul (b.getD (i / 4 * 4 + i % 4) 0) 2 ^^^ Ae.mul (b.getD (i / 4 * 4 + (i % 4 + 1) % 4) 0) 3 ^^^ b.getD (i / 4 * 4 + (i % 4 + 2) % 4) 0 ^^^ b.getD (i / 4 * 4 + (i % 4 + 3) % 4) 0) (List.replicate 16 0) j (by simpa using hlt))
      have HE : Hid (Ae.mul (b.getD (j / 4 * 4 + j % 4) 0) 2 ^^^ Ae.mul (b.getD (j / 4 * 4 + (j % 4 + 1) % 4) 0) 3 ^^^ b.getD (j / 4 * 4 + (j % 4 + 2) % 4) 0 ^^^ b.getD (j / 4 * 4 + (j % 4 + 3) % 4) 0 = Ae.mul (b.getD (A + p) 0) 2 ^^^ Ae.mul (b.getD (A + p1) 0) 3 ^^^ b.getD (A + p2) 0 ^^^ b.getD (A + p3) 0) := by unfold Hid; rw [hA, hp, hp1, hp2, hp3]
      clear hA hp hp1 hp2 hp3 gx
      have HF2 := Lib.hid (HF.out.symm.trans (congrArg (fun z => (Ae.upto (fun i => Ae.mul (b.getD (i / 4 * 4 + i % 4) 0) 2 ^^^ Ae.mul (b.getD (i / 4 * 4 + (i % 4 + 1) % 4) 0) 3 ^^^ b.getD (i / 4 * 4 + (i % 4 + 2) % 4) 0 ^^^ b.getD (i / 4 * 4 + (i % 4 + 3) % 4) 0) (List.replicate 16 0) j).set j z) HE.out))
      clear HF HE
      generalize b.getD (A + p) 0 = x0 at *
      generalize b.getD (A + p1) 0 = x1 at *
      generalize b.getD (A + p2) 0 = x2 at *
      generalize b.getD (A + p3) 0 = x3 at *
      have m2 := Ae.mul_lt x0 2 hx
      have m3 := Ae.mul_lt x1 3 hx1
      have X1 := Lib.hid (u8_xor_nat _ _ m2 m3)
      have X2 := Lib.hid (u8_xor_nat _ _ (Ae.xor_lt m2 m3) hx2)
      have X3 := Lib.hid (u8_xor_nat _ _ (Ae.xor_lt (Ae.xor_lt m2 m3) hx2) hx3)
      go_wp2
      refine wp_region_still_tail 29 (by kernel_rfl) (by kernel_rfl) ?_
      simp only [List.take_succ_cons, List.take_zero, List.drop_succ_cons, List.drop_zero]
      change wpStill _ _ (World.drew _) (fun a' => wpList _ _ _ _ a' (World.drew _)) _ _
      iterate 5 still_step
      still_call (still1 (mul_any x0 2 _ hx (by decide)))
      iterate 6 still_step
      still_call (still1 (mul_any x1 3 _ hx1 (by decide)))
      iterate 16 still_step
      refine wpStill_nil ?_
      go_wp2
      go_roundw
      case rel =>
        rw [X1.out, X2.out, X3.out]
        exact ⟨j + 1, by omega, by go_num, ((HO.far (by simp; omega) _).drew), ((HZ.far (by simp) _).drew), ((HU.setN j _).drew).as (by rw [HF2.out]), ((HL.setCell (by simp; omega) _).drew)⟩
      case measure => simp [intOf]; omega
    · obtain rfl : j = 16 := by omega
      have HF := Lib.hid (show Ae.upto (fun i => Ae.mul (b.getD (i / 4 * 4 + i % 4) 0) 2 ^^^ Ae.mul (b.getD (i / 4 * 4 + (i % 4 + 1) % 4) 0) 3 ^^^ b.getD (i / 4 * 4 + (i % 4 + 2) % 4) 0 ^^^ b.getD (i / 4 * 4 + (i % 4 + 3) % 4) 0) (List.replicate 16 0) 16 = Ae.mixed b by rw [Ae.upto_full _ _ _ (by simp)]; rfl)
      rw [HF.out] at HU
      have hL : (Ae.mixed b).length = 16 := Ae.arr_len _
      have HI := Lib.hid (size16 hL)
      have HLL := Lib.hid hL
      clear hL
      go_wp2_with (first
        | (refine wpList_load_row rfl 22 (.tmp 3) rfl _ rfl _ _ _ _ HU Try.underlying22 rfl HI.out ?_)
        | (refine wpList_store_row rfl 22 (.tmp 2) (.tmp 50) rfl _ _ rfl rfl _ _ HZ HI.out (by rw [cellsN_size, cellsN_size, HLL.out]; simp) (one_cellsN _) ?_))
      exact bodyPost_ret (v := .agg (cellsN (Ae.mixed b))) (results_cell_row rfl _ _ _ _ _ _ _ rfl (HZ.row _) Try.underlying22 rfl HI.out) rfl ⟨rfl, Upd.below HL (by omega) ((Upd.refl _ _).row _)⟩

end Go.Proofs.Ytnphanhoakbkpaa
