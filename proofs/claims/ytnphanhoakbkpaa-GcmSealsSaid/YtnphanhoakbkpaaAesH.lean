/- The document's Block, walked. -/
import Derived.Test.YtnphanhoakbkpaaRows
import Derived.Test.YtnphanhoakbkpaaAid
import Derived.Test.YtnphanhoakbkpaaPlainAe
import Derived.Test.YtnphanhoakbkpaaPlainAe2
import Derived.Test.YtnphanhoakbkpaaPlainAe7
import Derived.Test.YtnphanhoakbkpaaAesB
import Derived.Test.YtnphanhoakbkpaaAesBox
import Derived.Test.YtnphanhoakbkpaaAesW
import Derived.Test.YtnphanhoakbkpaaAesE
import Derived.Test.YtnphanhoakbkpaaAesK
import Derived.Test.YtnphanhoakbkpaaAesF
import Derived.Test.YtnphanhoakbkpaaAesG
import Derived.WalkKit
import Derived.Laws.BitsAllLaws
import Derived.Laws.Rows
import Derived.Laws.Tables
import Derived.Deep.WholeRow
import Derived.WalkSpells
import Derived.WalkLawsBesides
import Derived.StillTailTactics
import Derived.Handy
import Derived.Lib.Hide
import Derived.IntWalk
namespace Go.Proofs.Ytnphanhoakbkpaa
open Go.RowKit
set_option linter.unusedVariables false
set_option linter.unusedSimpArgs false

theorem new5 (w : World) (o p q r : _root_.Go.Obj) (t : TypeId) (cs : Array Value) : Obj (((((w.alloc o).alloc p).alloc q).alloc r).alloc (.cells cs t)) (w.heap.size + 1 + 1 + 1 + 1) t cs := by
  have h := Obj.new ((((w.alloc o).alloc p).alloc q).alloc r) t cs
  rwa [show ((((w.alloc o).alloc p).alloc q).alloc r).heap.size = w.heap.size + 1 + 1 + 1 + 1 by simp] at h
theorem infoS : (Try.prog.info? 80).map (·.size) = some 16 := by kernel_rfl
theorem sizeS {l : List Nat} (h : l.length = 16) : (Try.prog.info? 80).map (·.size) = some (cellsN l).size := by rw [cellsN_size, h]; exact infoS

set_option maxRecDepth 100000 in
set_option maxHeartbeats 8000000 in
theorem refBlock_any (ws b : List Nat) (w : World) (hw : ws.length = 176) (hb : b.length = 16) (qw : Ae.bytes ws) (qb : Ae.bytes b) :
    Calls Try.prog 42 #[.agg (cellsN ws), .agg (cellsN ((List.range 256).map Ae.box)), .agg (cellsN b)] w fun e w' => e = .returned (.agg (cellsN (Ae.enc ws b))) ∧ Below w.heap.size w w' := by
  have HWL := Lib.hid hw
  have HBL := Lib.hid hb
  clear hw hb
  have HTL : Hid (((List.range 256).map Ae.box).length = 256) := by unfold Hid; simp
  have HTG : Hid (∀ i, i < 256 → ((List.range 256).map Ae.box).getD i 0 = Ae.box i) := fun i hi => by simp [List.getD_eq_getElem?_getD, hi]
  generalize (List.range 256).map Ae.box = T at *
  obtain ⟨Z, hZ⟩ : ∃ Z : List Nat, Z = List.replicate 16 0 := ⟨_, rfl⟩
  have HZE := Lib.hid hZ
  have HZL : Hid (Z.length = 16) := by unfold Hid; rw [hZ]; rfl
  have HZC : Hid ((#[.int .u8 0, .int .u8 0, .int .u8 0, .int .u8 0, .int .u8 0, .int .u8 0, .int .u8 0, .int .u8 0, .int .u8 0, .int .u8 0, .int .u8 0, .int .u8 0, .int .u8 0, .int .u8 0, .int .u8 0, .int .u8 0] : Array Value) = cellsN Z) := by unfold Hid; rw [hZ]; rfl
  clear hZ
  have P0 : Hid (Obj (((((w.alloc (.cells (cellsN ws) 67)).alloc (.cells (cellsN T) 70)).alloc (.cells (cellsN b) 22)).alloc (.cells #[.int .u8 0, .int .u8 0, .int .u8 0, .int .u8 0, .int .u8 0, .int .u8 0, .int .u8 0, .int .u8 0, .int .u8 0, .int .u8 0, .int .u8 0, .int .u8 0, .int .u8 0, .int .u8 0, .int .u8 0, .int .u8 0] 22)).alloc (.cells #[.int .u8 0, .int .u8 0, .int .u8 0, .int .u8 0, .int .u8 0, .int .u8 0, .int .u8 0, .int .u8 0, .int .u8 0, .int .u8 0, .int .u8 0, .int .u8 0, .int .u8 0, .int .u8 0, .int .u8 0, .int .u8 0] 80)) w.heap.size 67 (cellsN ws)) := ((((Obj.new w _ _).alloc _).alloc _).alloc _).alloc _
  have P1 : Hid (Obj (((((w.alloc (.cells (cellsN ws) 67)).alloc (.cells (cellsN T) 70)).alloc (.cells (cellsN b) 22)).alloc (.cells #[.int .u8 0, .int .u8 0, .int .u8 0, .int .u8 0, .int .u8 0, .int .u8 0, .int .u8 0, .int .u8 0, .int .u8 0, .int .u8 0, .int .u8 0, .int .u8 0, .int .u8 0, .int .u8 0, .int .u8 0, .int .u8 0] 22)).alloc (.cells #[.int .u8 0, .int .u8 0, .int .u8 0, .int .u8 0, .int .u8 0, .int .u8 0, .int .u8 0, .int .u8 0, .int .u8 0, .int .u8 0, .int .u8 0, .int .u8 0, .int .u8 0, .int .u8 0, .int .u8 0, .int .u8 0] 80)) (w.heap.size + 1) 70 (cellsN T)) := (((new2 w _ _ _).alloc _).alloc _).alloc _
  have P2 : Hid (Obj (((((w.alloc (.cells (cellsN ws) 67)).alloc (.cells (cellsN T) 70)).alloc (.cells (cellsN b) 22)).alloc (.cells #[.int .u8 0, .int .u8 0, .int .u8 0, .int .u8 0, .int .u8 0, .int .u8 0, .int .u8 0, .int .u8 0, .int .u8 0, .int .u8 0, .int .u8 0, .int .u8 0, .int .u8 0, .int .u8 0, .int .u8 0, .int .u8 0] 22)).alloc (.cells #[.int .u8 0, .int .u8 0, .int .u8 0, .int .u8 0, .int .u8 0, .int .u8 0, .int .u8 0, .int .u8 0, .int .u8 0, .int .u8 0, .int .u8 0, .int .u8 0, .int .u8 0, .int .u8 0, .int .u8 0, .int .u8 0] 80)) (w.heap.size + 1 + 1) 22 (cellsN b)) := ((new3 w _ _ _ _).alloc _).alloc _
  have P3 : Hid (Obj (((((w.alloc (.cells (cellsN ws) 67)).alloc (.cells (cellsN T) 70)).alloc (.cells (cellsN b) 22)).alloc (.cells #[.int .u8 0, .int .u8 0, .int .u8 0, .int .u8 0, .int .u8 0, .int .u8 0, .int .u8 0, .int .u8 0, .int .u8 0, .int .u8 0, .int .u8 0, .int .u8 0, .int .u8 0, .int .u8 0, .int .u8 0, .int .u8 0] 22)).alloc (.cells #[.int .u8 0, .int .u8 0, .int .u8 0, .int .u8 0, .int .u8 0, .int .u8 0, .int .u8 0, .int .u8 0, .int .u8 0, .int .u8 0, .int .u8 0, .int .u8 0, .int .u8 0, .int .u8 0, .int .u8 0, .int .u8 0] 80)) (w.heap.size + 1 + 1 + 1) 22 (cellsN Z)) := by unfold Hid; rw [← HZC.out]; exact (new4 w _ _ _ _ _).alloc _
  have P4 : Hid (Obj (((((w.alloc (.cells (cellsN ws) 67)).alloc (.cells (cellsN T) 70)).alloc (.cells (cellsN b) 22)).alloc (.cells #[.int .u8 0, .int .u8 0, .int .u8 0, .int .u8 0, .int .u8 0, .int .u8 0, .int .u8 0, .int .u8 0, .int .u8 0, .int .u8 0, .int .u8 0, .int .u8 0, .int .u8 0, .int .u8 0, .int .u8 0, .int .u8 0] 22)).alloc (.cells #[.int .u8 0, .int .u8 0, .int .u8 0, .int .u8 0, .int .u8 0, .int .u8 0, .int .u8 0, .int .u8 0, .int .u8 0, .int .u8 0, .int .u8 0, .int .u8 0, .int .u8 0, .int .u8 0, .int .u8 0, .int .u8 0] 80)) (w.heap.size + 1 + 1 + 1 + 1) 80 (cellsN Z)) := by unfold Hid; rw [← HZC.out]; exact new5 w _ _ _ _ _ _
  have PL : Hid (Below w.heap.size w (((((w.alloc (.cells (cellsN ws) 67)).alloc (.cells (cellsN T) 70)).alloc (.cells (cellsN b) 22)).alloc (.cells #[.int .u8 0, .int .u8 0, .int .u8 0, .int .u8 0, .int .u8 0, .int .u8 0, .int .u8 0, .int .u8 0, .int .u8 0, .int .u8 0, .int .u8 0, .int .u8 0, .int .u8 0, .int .u8 0, .int .u8 0, .int .u8 0] 22)).alloc (.cells #[.int .u8 0, .int .u8 0, .int .u8 0, .int .u8 0, .int .u8 0, .int .u8 0, .int .u8 0, .int .u8 0, .int .u8 0, .int .u8 0, .int .u8 0, .int .u8 0, .int .u8 0, .int .u8 0, .int .u8 0, .int .u8 0] 80))) := (((((Below.refl _ w).alloc (Nat.le_refl _) _).alloc (by simp) _).alloc (by simp; omega) _).alloc (by simp; omega) _).alloc (by simp; omega) _
  have H9 := Lib.hid (Ae.stt_zero ws b)
  have HX9 := Lib.hid (show Ae.enc ws b = Ae.stt ws b 10 from rfl)
  go_enter Try.func42, Try.ntmps42
  go_wp2
  go_loopw [8] (fun p wx => ∃ i : Nat, i ≤ 16 ∧ p = .int .i64 i ∧ Obj wx w.heap.size 67 (cellsN ws) ∧ Obj wx (w.heap.size + 1) 70 (cellsN T) ∧ Obj wx (w.heap.size + 1 + 1) 22 (cellsN b) ∧ Obj wx (w.heap.size + 1 + 1 + 1) 22 (cellsN Z) ∧ Obj wx (w.heap.size + 1 + 1 + 1 + 1) 80 (cellsN (Ae.scat (Ae.withK b ws 0) Z i)) ∧ Below w.heap.size w wx) (fun p _ => 16 - (intOf p).toNat)
  case atStart => exact ⟨0, by omega, rfl, P0.out, P1.out, P2.out, P3.out, P4.out, PL.out⟩
  case round =>
    clear P0 P1 P2 P3 P4 PL
    obtain ⟨i, hi, rfl, HW, HT, HB, HZ, HS, HL⟩ := hrel
    by_cases hlt : i < 16
    · obtain ⟨q, hq⟩ : ∃ q, i / 4 = q := ⟨_, rfl⟩
      obtain ⟨m, hm⟩ : ∃ m, i % 4 = m := ⟨_, rfl⟩
      have e1 : IntKind.i64.wrap ((i : Int) / 4) = (q : Int) := by rw [IntWalk.i64_in _ (by omega)]; omega
      have e2 : (i : Int) / 4 = (q : Int) := by omega
      have e0 : IntKind.i64.wrap (q : Int) = (q : Int) := IntWalk.i64_in _ (by omega)
      have e3 : (i : Int).tmod 4 = (m : Int) := by rw [Int.tmod_eq_emod_of_nonneg (by omega)]; omega
      have e4 : (i : Int) % 4 = (m : Int) := by omega
      have gq : (q : Int) < 4 := by omega
      have gm : (m : Int) < 4 := by omega
      have gi : (i : Int) < 16 := by omega
      have gq44 : (q : Int) < 44 := by omega
      have fb : wr.cell? ⟨w.heap.size + 1 + 1, i, none⟩ = some (.int .u8 ((b.getD i 0 : Nat) : Int)) := HB.getN i (by rw [HBL.out]; exact hlt)
      have fw : wr.cell? ⟨w.heap.size, q * 4 + m, none⟩ = some (.int .u8 ((ws.getD (q * 4 + m) 0 : Nat) : Int)) := HW.getN _ (by rw [HWL.out]; omega)
      have z0 := HS.free (m * 4 + q)
      obtain ⟨v, hv⟩ : ∃ v, wr.cell? ⟨w.heap.size + 1 + 1 + 1 + 1, m * 4 + q, none⟩ = some v := ⟨_, HS.getN _ (by rw [Ae.scat_len, HZL.out]; omega)⟩
      have HE : Hid ((Ae.scat (Ae.withK b ws 0) Z i).set (m * 4 + q) (b.getD i 0 ^^^ ws.getD (q * 4 + m) 0) = Ae.scat (Ae.withK b ws 0) Z (i + 1)) := by
        unfold Hid
        rw [Ae.scat, hq, hm, Ae.withK, Ae.arr_get _ _ hlt, show 16 * 0 + i = q * 4 + m by omega]
      have hx := Ae.bytes_get qb i
      have hy := Ae.bytes_get qw (q * 4 + m)
      clear hq hm
      generalize b.getD i 0 = x at *
      generalize ws.getD (q * 4 + m) 0 = y at *
      have HXY := Lib.hid (u8_xor_nat x y hx hy)
      go_wp2
      refine wp_region_still_tail 17 (by kernel_rfl) (by kernel_rfl) ?_
      simp only [List.take_succ_cons, List.take_zero, List.drop_succ_cons, List.drop_zero]
      change wpStill _ _ (World.drew _) (fun a' => wpList _ _ _ _ a' (World.drew _)) _ _
      iterate 17 still_step
      refine wpStill_nil ?_
      clear e1 e2 e3 e4
      go_wp2
      go_roundw
      case rel =>
        rw [HXY.out]
        exact ⟨i + 1, by omega, by go_num, (HW.far (by first | omega | (simp; omega) | simp) _).drew, (HT.far (by first | omega | (simp; omega) | simp) _).drew, (HB.far (by first | omega | (simp; omega) | simp) _).drew, (HZ.far (by first | omega | (simp; omega) | simp) _).drew, ((HS.setN _ _).drew).as (by rw [HE.out]), (HL.setCell (by simp; omega) _).drew⟩
      case measure => simp [intOf]; omega
    · obtain rfl : i = 16 := by omega
      have HF := Lib.hid (Ae.scat_full (Ae.withK b ws 0) Z HZL.out)
      rw [HF.out] at HS
      clear hlt hi HF
      have hcast : ((16 : Nat) : Int) = 16 := rfl
      try rw [hcast]
      clear hcast
      go_wp2
      go_loopw [9] (fun p wx => ∃ r : Nat, 1 ≤ r ∧ r ≤ 11 ∧ p = .int .i64 r ∧ Obj wx w.heap.size 67 (cellsN ws) ∧ Obj wx (w.heap.size + 1) 70 (cellsN T) ∧ Obj wx (w.heap.size + 1 + 1) 22 (cellsN b) ∧ Obj wx (w.heap.size + 1 + 1 + 1) 22 (cellsN Z) ∧ Obj wx (w.heap.size + 1 + 1 + 1 + 1) 80 (cellsN (Ae.tr (Ae.stt ws b (r - 1)))) ∧ Below w.heap.size w wx) (fun p _ => 11 - (intOf p).toNat)
      case atStart => exact ⟨1, by omega, by omega, rfl, HW, HT, HB, HZ, by rw [H9.out]; exact HS, HL⟩
      case round =>
        clear HW HT HB HZ HS HL
        obtain ⟨r, hr1, hr, rfl, HW, HT, HB, HZ, HS, HL⟩ := hrel
        by_cases hrt : ¬ r < 11
        · obtain rfl : r = 11 := by omega
          have HEN := Lib.hid (show Ae.stt ws b (11 - 1) = Ae.enc ws b from rfl)
          rw [HEN.out] at HS
          have HLE := Lib.hid (Ae.enc_len ws b)
          clear hrt hr hr1 H9 HX9 HEN
          obtain ⟨L, hL⟩ : ∃ L, Ae.enc ws b = L := ⟨_, rfl⟩
          have HLL := Lib.hid hL
          rw [hL] at HS HLE
          clear hL
          obtain ⟨G, hG⟩ : ∃ G, wr.heap.size = G := ⟨_, rfl⟩
          have gG : w.heap.size + 1 + 1 + 1 + 1 < G := by rw [← hG]; exact HS.lt
          have HN : Obj (wr.alloc (.cells #[.int .u8 0, .int .u8 0, .int .u8 0, .int .u8 0, .int .u8 0, .int .u8 0, .int .u8 0, .int .u8 0, .int .u8 0, .int .u8 0, .int .u8 0, .int .u8 0, .int .u8 0, .int .u8 0, .int .u8 0, .int .u8 0] 22)) G 22 (cellsN Z) := by rw [← HZC.out, ← hG]; exact Obj.new wr _ _
          have QW := Lib.hid (HW.alloc (.cells #[.int .u8 0, .int .u8 0, .int .u8 0, .int .u8 0, .int .u8 0, .int .u8 0, .int .u8 0, .int .u8 0, .int .u8 0, .int .u8 0, .int .u8 0, .int .u8 0, .int .u8 0, .int .u8 0, .int .u8 0, .int .u8 0] 22))
          have QT := Lib.hid (HT.alloc (.cells #[.int .u8 0, .int .u8 0, .int .u8 0, .int .u8 0, .int .u8 0, .int .u8 0, .int .u8 0, .int .u8 0, .int .u8 0, .int .u8 0, .int .u8 0, .int .u8 0, .int .u8 0, .int .u8 0, .int .u8 0, .int .u8 0] 22))
          have QB := Lib.hid (HB.alloc (.cells #[.int .u8 0, .int .u8 0, .int .u8 0, .int .u8 0, .int .u8 0, .int .u8 0, .int .u8 0, .int .u8 0, .int .u8 0, .int .u8 0, .int .u8 0, .int .u8 0, .int .u8 0, .int .u8 0, .int .u8 0, .int .u8 0] 22))
          have QZ := Lib.hid (HZ.alloc (.cells #[.int .u8 0, .int .u8 0, .int .u8 0, .int .u8 0, .int .u8 0, .int .u8 0, .int .u8 0, .int .u8 0, .int .u8 0, .int .u8 0, .int .u8 0, .int .u8 0, .int .u8 0, .int .u8 0, .int .u8 0, .int .u8 0] 22))
          have QS := Lib.hid (HS.alloc (.cells #[.int .u8 0, .int .u8 0, .int .u8 0, .int .u8 0, .int .u8 0, .int .u8 0, .int .u8 0, .int .u8 0, .int .u8 0, .int .u8 0, .int .u8 0, .int .u8 0, .int .u8 0, .int .u8 0, .int .u8 0, .int .u8 0] 22))
          have QL := Lib.hid (HL.alloc HL.size (.cells #[.int .u8 0, .int .u8 0, .int .u8 0, .int .u8 0, .int .u8 0, .int .u8 0, .int .u8 0, .int .u8 0, .int .u8 0, .int .u8 0, .int .u8 0, .int .u8 0, .int .u8 0, .int .u8 0, .int .u8 0, .int .u8 0] 22))
          have QN := Lib.hid HN
          clear HW HT HB HZ HS HL HN
          have hcast : ((11 : Nat) : Int) = 11 := rfl
          try rw [hcast]
          clear hcast
          go_wp2
          go_loopw [17] (fun p wx => ∃ i : Nat, i ≤ 16 ∧ p = .int .i64 i ∧ Obj wx w.heap.size 67 (cellsN ws) ∧ Obj wx (w.heap.size + 1) 70 (cellsN T) ∧ Obj wx (w.heap.size + 1 + 1) 22 (cellsN b) ∧ Obj wx (w.heap.size + 1 + 1 + 1) 22 (cellsN Z) ∧ Obj wx (w.heap.size + 1 + 1 + 1 + 1) 80 (cellsN (Ae.tr L)) ∧ Obj wx G 22 (cellsN (Ae.upto (fun i => L.getD i 0) Z i)) ∧ Below w.heap.size w wx) (fun p _ => 16 - (intOf p).toNat)
          case atStart => exact ⟨0, by omega, rfl, QW.out, QT.out, QB.out, QZ.out, QS.out, by rw [Ae.upto_zero]; exact QN.out, QL.out⟩
          case round =>
            clear QW QT QB QZ QS QN QL hG
            obtain ⟨i, hi, rfl, HW, HT, HB, HZ, HS, HN, HL⟩ := hrel
            by_cases hlt : i < 16
            · obtain ⟨q, hq⟩ : ∃ q, i / 4 = q := ⟨_, rfl⟩
              obtain ⟨m, hm⟩ : ∃ m, i % 4 = m := ⟨_, rfl⟩
              have e1 : IntKind.i64.wrap ((i : Int) / 4) = (q : Int) := by rw [IntWalk.i64_in _ (by omega)]; omega
              have e2 : (i : Int) / 4 = (q : Int) := by omega
              have e0 : IntKind.i64.wrap (q : Int) = (q : Int) := IntWalk.i64_in _ (by omega)
              have e3 : (i : Int).tmod 4 = (m : Int) := by rw [Int.tmod_eq_emod_of_nonneg (by omega)]; omega
              have e4 : (i : Int) % 4 = (m : Int) := by omega
              have gq : (q : Int) < 4 := by omega
              have gm : (m : Int) < 4 := by omega
              have gi : (i : Int) < 16 := by omega
              have fs : wr.cell? ⟨w.heap.size + 1 + 1 + 1 + 1, m * 4 + q, none⟩ = some (.int .u8 ((L.getD i 0 : Nat) : Int)) := by
                rw [HS.getN _ (by rw [Ae.tr_len]; omega), ← hm, ← hq, Ae.tr_at L i hlt]
              have z0 := HN.free i
              obtain ⟨v, hv⟩ : ∃ v, wr.cell? ⟨G, i, none⟩ = some v := ⟨_, HN.getN _ (by rw [Ae.upto_len, HZL.out]; exact hlt)⟩
              have HE := Lib.hid (Ae.upto_set (fun i => L.getD i 0) Z i (by rw [HZL.out]; exact hlt))
              clear hq hm
              generalize L.getD i 0 = x at *
              go_wp2
              go_roundw
              case rel => exact ⟨i + 1, by omega, by go_num, HW.far (by first | omega | (simp; omega) | simp) _, HT.far (by first | omega | (simp; omega) | simp) _, HB.far (by first | omega | (simp; omega) | simp) _, HZ.far (by first | omega | (simp; omega) | simp) _, HS.far (by first | omega | (simp; omega) | simp) _, (HN.setN _ _).as (by rw [HE.out]), HL.setCell (by simp; omega) _⟩
              case measure => simp [intOf]; omega
            · obtain rfl : i = 16 := by omega
              have HF := Lib.hid (Ae.upto_same L HLE.out)
              rw [← HZE.out] at HF
              rw [HF.out] at HN
              have HI := Lib.hid (size16 HLE.out)
              have HSZ : Hid ((cellsN Z).size = (cellsN L).size) := by unfold Hid; rw [cellsN_size, cellsN_size, HZL.out, HLE.out]
              clear hlt hi HF
              have hcast : ((16 : Nat) : Int) = 16 := rfl
              try rw [hcast]
              clear hcast
              go_wp2_with (first
                | (refine wpList_load_row rfl 22 (.tmp 16) rfl _ rfl _ _ _ _ HN Try.underlying22 rfl HI.out ?_)
                | (refine wpList_store_row rfl 22 (.tmp 6) (.tmp 209) rfl _ _ rfl rfl _ _ HZ HI.out HSZ.out (one_cellsN _) ?_))
              exact bodyPost_ret (v := .agg (cellsN L)) (results_cell_row rfl _ _ _ _ _ _ _ rfl (HZ.row _) Try.underlying22 rfl HI.out) rfl ⟨by rw [HLL.out], Upd.below HL (by omega) ((Upd.refl _ _).row _)⟩
        · have hrt := Decidable.not_not.1 hrt
          have gr : (r : Int) ≤ 10 := by omega
          have HLn := Lib.hid (Ae.stt_len ws b (r - 1))
          have qL := Ae.stt_bytes qb qw (r - 1)
          have HIN := Lib.hid (fun h => Ae.stt_in ws b r hr1 h)
          have HOU : Hid (¬ r < 10 → Ae.stt ws b r = Ae.withK (Ae.shifted (Ae.stt ws b (r - 1))) ws r) := fun h => by
            obtain rfl : r = 10 := by omega
            exact Ae.stt_out ws b
          generalize Ae.stt ws b (r - 1) = L at *
          obtain ⟨G, hG⟩ : ∃ G, wr.heap.size = G := ⟨_, rfl⟩
          have gG : w.heap.size + 1 + 1 + 1 + 1 < G := by rw [← hG]; exact HS.lt
          have HN : Obj (wr.alloc (.cells #[.int .u8 0, .int .u8 0, .int .u8 0, .int .u8 0, .int .u8 0, .int .u8 0, .int .u8 0, .int .u8 0, .int .u8 0, .int .u8 0, .int .u8 0, .int .u8 0, .int .u8 0, .int .u8 0, .int .u8 0, .int .u8 0] 80)) G 80 (cellsN Z) := by rw [← HZC.out, ← hG]; exact Obj.new wr _ _
          have HW1 := HW.alloc (.cells #[.int .u8 0, .int .u8 0, .int .u8 0, .int .u8 0, .int .u8 0, .int .u8 0, .int .u8 0, .int .u8 0, .int .u8 0, .int .u8 0, .int .u8 0, .int .u8 0, .int .u8 0, .int .u8 0, .int .u8 0, .int .u8 0] 80)
          have HT1 := HT.alloc (.cells #[.int .u8 0, .int .u8 0, .int .u8 0, .int .u8 0, .int .u8 0, .int .u8 0, .int .u8 0, .int .u8 0, .int .u8 0, .int .u8 0, .int .u8 0, .int .u8 0, .int .u8 0, .int .u8 0, .int .u8 0, .int .u8 0] 80)
          have HB1 := HB.alloc (.cells #[.int .u8 0, .int .u8 0, .int .u8 0, .int .u8 0, .int .u8 0, .int .u8 0, .int .u8 0, .int .u8 0, .int .u8 0, .int .u8 0, .int .u8 0, .int .u8 0, .int .u8 0, .int .u8 0, .int .u8 0, .int .u8 0] 80)
          have HZ1 := HZ.alloc (.cells #[.int .u8 0, .int .u8 0, .int .u8 0, .int .u8 0, .int .u8 0, .int .u8 0, .int .u8 0, .int .u8 0, .int .u8 0, .int .u8 0, .int .u8 0, .int .u8 0, .int .u8 0, .int .u8 0, .int .u8 0, .int .u8 0] 80)
          have HS1 := HS.alloc (.cells #[.int .u8 0, .int .u8 0, .int .u8 0, .int .u8 0, .int .u8 0, .int .u8 0, .int .u8 0, .int .u8 0, .int .u8 0, .int .u8 0, .int .u8 0, .int .u8 0, .int .u8 0, .int .u8 0, .int .u8 0, .int .u8 0] 80)
          have HL1 := HL.alloc HL.size (.cells #[.int .u8 0, .int .u8 0, .int .u8 0, .int .u8 0, .int .u8 0, .int .u8 0, .int .u8 0, .int .u8 0, .int .u8 0, .int .u8 0, .int .u8 0, .int .u8 0, .int .u8 0, .int .u8 0, .int .u8 0, .int .u8 0] 80)
          clear HW HT HB HZ HS HL
          have QW := Lib.hid HW1
          have QT := Lib.hid HT1
          have QB := Lib.hid HB1
          have QZ := Lib.hid HZ1
          have QS := Lib.hid HS1
          have QN := Lib.hid HN
          have QL := Lib.hid HL1
          clear HW1 HT1 HB1 HZ1 HS1 HL1 HN
          go_wp2
          go_loopw [11] (fun p wx => ∃ i : Nat, i ≤ 4 ∧ p = .int .i64 i ∧ Obj wx w.heap.size 67 (cellsN ws) ∧ Obj wx (w.heap.size + 1) 70 (cellsN T) ∧ Obj wx (w.heap.size + 1 + 1) 22 (cellsN b) ∧ Obj wx (w.heap.size + 1 + 1 + 1) 22 (cellsN Z) ∧ Obj wx (w.heap.size + 1 + 1 + 1 + 1) 80 (cellsN (Ae.tr L)) ∧ Obj wx G 80 (cellsN (Ae.upto (Ae.subF L) Z (4 * i))) ∧ Below w.heap.size w wx) (fun p _ => 4 - (intOf p).toNat)
          case atStart => exact ⟨0, by omega, rfl, QW.out, QT.out, QB.out, QZ.out, QS.out, by rw [Nat.mul_zero, Ae.upto_zero]; exact QN.out, QL.out⟩
          case round =>
            clear QW QT QB QZ QS QN QL hG
            obtain ⟨i, hi, rfl, HW, HT, HB, HZ, HS, HN, HL⟩ := hrel
            by_cases hit : i < 4
            · have gi : (i : Int) < 4 := by omega
              go_wp2
              go_loopw [12] (fun p wx => ∃ c : Nat, c ≤ 4 ∧ p = .int .i64 c ∧ Obj wx w.heap.size 67 (cellsN ws) ∧ Obj wx (w.heap.size + 1) 70 (cellsN T) ∧ Obj wx (w.heap.size + 1 + 1) 22 (cellsN b) ∧ Obj wx (w.heap.size + 1 + 1 + 1) 22 (cellsN Z) ∧ Obj wx (w.heap.size + 1 + 1 + 1 + 1) 80 (cellsN (Ae.tr L)) ∧ Obj wx G 80 (cellsN (Ae.upto (Ae.subF L) Z (4 * i + c))) ∧ Below w.heap.size w wx) (fun p _ => 4 - (intOf p).toNat)
              case atStart => exact ⟨0, by omega, rfl, HW, HT, HB, HZ, HS, HN, HL⟩
              case round =>
                clear HW HT HB HZ HS HN HL
                obtain ⟨c, hc, rfl, HW, HT, HB, HZ, HS, HN, HL⟩ := hrel
                by_cases hlt : c < 4
                · obtain ⟨D, hD⟩ : ∃ D, c + i = D := ⟨_, rfl⟩
                  obtain ⟨K, hK⟩ : ∃ K, D % 4 = K := ⟨_, rfl⟩
                  have e1 : IntKind.i64.wrap ((c : Int) + (i : Int)) = (D : Int) := by rw [IntWalk.i64_in _ (by omega)]; omega
                  have e2 : (D : Int).tmod 4 = (K : Int) := by rw [Int.tmod_eq_emod_of_nonneg (by omega)]; omega
                  have e3 : (D : Int) % 4 = (K : Int) := by omega
                  have gc : (c : Int) < 4 := by omega
                  have gK : (K : Int) < 4 := by omega
                  have fs : wr.cell? ⟨w.heap.size + 1 + 1 + 1 + 1, i * 4 + K, none⟩ = some (.int .u8 (((Ae.tr L).getD (i * 4 + K) 0 : Nat) : Int)) := HS.getN _ (by rw [Ae.tr_len]; omega)
                  have hx := Ae.bytes_get (Ae.tr_bytes qL) (i * 4 + K)
                  have z0 := HN.free (i * 4 + c)
                  obtain ⟨v, hv⟩ : ∃ v, wr.cell? ⟨G, i * 4 + c, none⟩ = some v := ⟨_, HN.getN _ (by rw [Ae.upto_len, HZL.out]; omega)⟩
                  have HE : Hid ((Ae.upto (Ae.subF L) Z (4 * i + c)).set (i * 4 + c) (Ae.box ((Ae.tr L).getD (i * 4 + K) 0)) = Ae.upto (Ae.subF L) Z (4 * i + (c + 1))) := by
                    have h := Ae.upto_set (Ae.subF L) Z (4 * i + c) (by rw [HZL.out]; omega)
                    unfold Ae.subF at h
                    rw [show (4 * i + c) / 4 = i by omega, show (4 * i + c) % 4 = c by omega, hD, hK] at h
                    unfold Hid Ae.subF
                    rw [show i * 4 + c = 4 * i + c by omega]
                    exact h
                  clear hD hK
                  generalize (Ae.tr L).getD (i * 4 + K) 0 = x at *
                  have gx : (x : Int) < 256 := by omega
                  have ft : wr.cell? ⟨w.heap.size + 1, x, none⟩ = some (.int .u8 ((Ae.box x : Nat) : Int)) := by rw [HT.getN _ (by rw [HTL.out]; exact hx), HTG.out _ hx]
                  generalize Ae.box x = bx at *
                  go_wp2
                  refine wp_region_still_tail 14 (by kernel_rfl) (by kernel_rfl) ?_
                  simp only [List.take_succ_cons, List.take_zero, List.drop_succ_cons, List.drop_zero]
                  change wpStill _ _ (World.drew _) (fun a' => wpList _ _ _ _ a' (World.drew _)) _ _
                  iterate 14 still_step
                  refine wpStill_nil ?_
                  clear e1 e2 e3
                  go_wp2
                  go_roundw
                  case rel => exact ⟨c + 1, by omega, by go_num, (HW.far (by first | omega | (simp; omega) | simp) _).drew, (HT.far (by first | omega | (simp; omega) | simp) _).drew, (HB.far (by first | omega | (simp; omega) | simp) _).drew, (HZ.far (by first | omega | (simp; omega) | simp) _).drew, (HS.far (by first | omega | (simp; omega) | simp) _).drew, ((HN.setN _ _).drew).as (by rw [HE.out]), (HL.setCell (by simp; omega) _).drew⟩
                  case measure => simp [intOf]; omega
                · obtain rfl : c = 4 := by omega
                  clear hlt hc
                  have hcast : ((4 : Nat) : Int) = 4 := rfl
                  try rw [hcast]
                  clear hcast
                  go_wp2
                  go_roundw
                  case rel => exact ⟨i + 1, by omega, by go_num, HW, HT, HB, HZ, HS, HN, HL⟩
                  case measure => simp [intOf]; omega
            · obtain rfl : i = 4 := by omega
              have HF := Lib.hid (Ae.subF_full L)
              rw [← HZE.out] at HF
              rw [HF.out] at HN
              have qB := Ae.shifted_bytes qL
              clear hit hi HF
              have hcast : ((4 : Nat) : Int) = 4 := rfl
              try rw [hcast]
              clear hcast
              have HOU2 := HOU
              generalize Ae.shifted L = B at *
              by_cases hr10 : r < 10
              · obtain ⟨H, hH⟩ : ∃ H, wr.heap.size = H := ⟨_, rfl⟩
                have gH : G < H := by rw [← hH]; exact HN.lt
                have HHH := Lib.hid hH
                have hr10i : (r : Int) < 10 := by omega
                have HIB := Lib.hid (sizeS (Ae.tr_len B))
                have HM0 : Obj (wr.alloc (.cells #[.int .u8 0, .int .u8 0, .int .u8 0, .int .u8 0, .int .u8 0, .int .u8 0, .int .u8 0, .int .u8 0, .int .u8 0, .int .u8 0, .int .u8 0, .int .u8 0, .int .u8 0, .int .u8 0, .int .u8 0, .int .u8 0] 80)) H 80 (cellsN Z) := by rw [← HZC.out, ← HHH.out]; exact Obj.new wr _ _
                have HSZ : Hid ((cellsN Z).size = (cellsN (Ae.tr B)).size) := by unfold Hid; rw [cellsN_size, cellsN_size, HZL.out, Ae.tr_len]
                have HMP := Lib.hid HM0
                clear HM0
                go_wp2_with (first
                  | (refine wpList_load_row rfl 80 (.tmp 10) rfl _ rfl _ _ _ _ HN Try.underlying80 rfl HIB.out ?_)
                  | (refine wpList_store_row rfl 80 (.tmp 13) (.tmp 67) rfl _ _ rfl rfl _ _ HMP.out HIB.out HSZ.out (one_cellsN _) ?_))
                have U := (Upd.refl H (wr.alloc (.cells #[.int .u8 0, .int .u8 0, .int .u8 0, .int .u8 0, .int .u8 0, .int .u8 0, .int .u8 0, .int .u8 0, .int .u8 0, .int .u8 0, .int .u8 0, .int .u8 0, .int .u8 0, .int .u8 0, .int .u8 0, .int .u8 0] 80))).row (cellsN (Ae.tr B))
                have HM := HMP.out.row (cellsN (Ae.tr B))
                have HW2 := Obj.upd (HW.alloc (.cells #[.int .u8 0, .int .u8 0, .int .u8 0, .int .u8 0, .int .u8 0, .int .u8 0, .int .u8 0, .int .u8 0, .int .u8 0, .int .u8 0, .int .u8 0, .int .u8 0, .int .u8 0, .int .u8 0, .int .u8 0, .int .u8 0] 80)) U (by omega)
                have HT2 := Obj.upd (HT.alloc (.cells #[.int .u8 0, .int .u8 0, .int .u8 0, .int .u8 0, .int .u8 0, .int .u8 0, .int .u8 0, .int .u8 0, .int .u8 0, .int .u8 0, .int .u8 0, .int .u8 0, .int .u8 0, .int .u8 0, .int .u8 0, .int .u8 0] 80)) U (by omega)
                have HB2 := Obj.upd (HB.alloc (.cells #[.int .u8 0, .int .u8 0, .int .u8 0, .int .u8 0, .int .u8 0, .int .u8 0, .int .u8 0, .int .u8 0, .int .u8 0, .int .u8 0, .int .u8 0, .int .u8 0, .int .u8 0, .int .u8 0, .int .u8 0, .int .u8 0] 80)) U (by omega)
                have HZ2 := Obj.upd (HZ.alloc (.cells #[.int .u8 0, .int .u8 0, .int .u8 0, .int .u8 0, .int .u8 0, .int .u8 0, .int .u8 0, .int .u8 0, .int .u8 0, .int .u8 0, .int .u8 0, .int .u8 0, .int .u8 0, .int .u8 0, .int .u8 0, .int .u8 0] 80)) U (by omega)
                have HS2 := Obj.upd (HS.alloc (.cells #[.int .u8 0, .int .u8 0, .int .u8 0, .int .u8 0, .int .u8 0, .int .u8 0, .int .u8 0, .int .u8 0, .int .u8 0, .int .u8 0, .int .u8 0, .int .u8 0, .int .u8 0, .int .u8 0, .int .u8 0, .int .u8 0] 80)) U (by omega)
                have HN2 := Obj.upd (HN.alloc (.cells #[.int .u8 0, .int .u8 0, .int .u8 0, .int .u8 0, .int .u8 0, .int .u8 0, .int .u8 0, .int .u8 0, .int .u8 0, .int .u8 0, .int .u8 0, .int .u8 0, .int .u8 0, .int .u8 0, .int .u8 0, .int .u8 0] 80)) U (by omega)
                have HL2 := Upd.below (HL.alloc HL.size (.cells #[.int .u8 0, .int .u8 0, .int .u8 0, .int .u8 0, .int .u8 0, .int .u8 0, .int .u8 0, .int .u8 0, .int .u8 0, .int .u8 0, .int .u8 0, .int .u8 0, .int .u8 0, .int .u8 0, .int .u8 0, .int .u8 0] 80)) (by omega) U
                clear HMP U HSZ HW HT HB HZ HS HN HL hH
                generalize (wr.alloc (.cells #[.int .u8 0, .int .u8 0, .int .u8 0, .int .u8 0, .int .u8 0, .int .u8 0, .int .u8 0, .int .u8 0, .int .u8 0, .int .u8 0, .int .u8 0, .int .u8 0, .int .u8 0, .int .u8 0, .int .u8 0, .int .u8 0] 80)).setRow H (cellsN (Ae.tr B)) = wz at *
                clear HHH
                go_loopw [14] (fun p wx => ∃ c : Nat, c ≤ 4 ∧ p = .int .i64 c ∧ Obj wx w.heap.size 67 (cellsN ws) ∧ Obj wx (w.heap.size + 1) 70 (cellsN T) ∧ Obj wx (w.heap.size + 1 + 1) 22 (cellsN b) ∧ Obj wx (w.heap.size + 1 + 1 + 1) 22 (cellsN Z) ∧ Obj wx (w.heap.size + 1 + 1 + 1 + 1) 80 (cellsN (Ae.tr L)) ∧ Obj wx G 80 (cellsN (Ae.cols (Ae.tr B) c)) ∧ Obj wx H 80 (cellsN (Ae.tr B)) ∧ Below w.heap.size w wx) (fun p _ => 4 - (intOf p).toNat)
                case atStart => exact ⟨0, by omega, rfl, HW2, HT2, HB2, HZ2, HS2, HN2, HM, HL2⟩
                case round =>
                  clear HW2 HT2 HB2 HZ2 HS2 HN2 HM HL2
                  obtain ⟨c, hc, rfl, HW, HT, HB, HZ, HS, HN, HM, HL⟩ := hrel
                  by_cases hlt : c < 4
                  · have gc : (c : Int) < 4 := by omega
                    have HC0 := Lib.hid (show c < (Ae.tr B).length by rw [Ae.tr_len]; omega)
                    have hx0 := Ae.bytes_get (Ae.tr_bytes qB) (c)
                    have HC1 := Lib.hid (show 4 + c < (Ae.tr B).length by rw [Ae.tr_len]; omega)
                    have hx1 := Ae.bytes_get (Ae.tr_bytes qB) (4 + c)
                    have HC2 := Lib.hid (show 8 + c < (Ae.tr B).length by rw [Ae.tr_len]; omega)
                    have hx2 := Ae.bytes_get (Ae.tr_bytes qB) (8 + c)
                    have HC3 := Lib.hid (show 12 + c < (Ae.tr B).length by rw [Ae.tr_len]; omega)
                    have hx3 := Ae.bytes_get (Ae.tr_bytes qB) (12 + c)
                    obtain ⟨y0, hy0⟩ : ∃ y, Ae.cv0 (Ae.tr B) c = y := ⟨_, rfl⟩
                    obtain ⟨y1, hy1⟩ : ∃ y, Ae.cv1 (Ae.tr B) c = y := ⟨_, rfl⟩
                    obtain ⟨y2, hy2⟩ : ∃ y, Ae.cv2 (Ae.tr B) c = y := ⟨_, rfl⟩
                    obtain ⟨y3, hy3⟩ : ∃ y, Ae.cv3 (Ae.tr B) c = y := ⟨_, rfl⟩
                    have HE : Hid (((((Ae.cols (Ae.tr B) c).set c y0).set (4 + c) y1).set (8 + c) y2).set (12 + c) y3 = Ae.cols (Ae.tr B) (c + 1)) := by unfold Hid; rw [Ae.cols, hy0, hy1, hy2, hy3]
                    unfold Ae.cv0 at hy0
                    unfold Ae.cv1 at hy1
                    unfold Ae.cv2 at hy2
                    unfold Ae.cv3 at hy3
                    obtain ⟨x0, hX0⟩ : ∃ x, (Ae.tr B).getD (c) 0 = x := ⟨_, rfl⟩
                    rw [hX0] at hx0 hy0 hy1 hy2 hy3
                    have HX0 := Lib.hid hX0
                    clear hX0
                    obtain ⟨x1, hX1⟩ : ∃ x, (Ae.tr B).getD (4 + c) 0 = x := ⟨_, rfl⟩
                    rw [hX1] at hx1 hy0 hy1 hy2 hy3
                    have HX1 := Lib.hid hX1
                    clear hX1
                    obtain ⟨x2, hX2⟩ : ∃ x, (Ae.tr B).getD (8 + c) 0 = x := ⟨_, rfl⟩
                    rw [hX2] at hx2 hy0 hy1 hy2 hy3
                    have HX2 := Lib.hid hX2
                    clear hX2
                    obtain ⟨x3, hX3⟩ : ∃ x, (Ae.tr B).getD (12 + c) 0 = x := ⟨_, rfl⟩
                    rw [hX3] at hx3 hy0 hy1 hy2 hy3
                    have HX3 := Lib.hid hX3
                    clear hX3
                    have XA0 := Lib.hid (u8_xor_nat (Ae.mul x0 2) (Ae.mul x1 3) (Ae.mul_lt x0 2 hx0) (Ae.mul_lt x1 3 hx1))
                    have XB0 := Lib.hid (u8_xor_nat (Ae.mul x0 2 ^^^ Ae.mul x1 3) (x2) (Ae.xor_lt (Ae.mul_lt x0 2 hx0) (Ae.mul_lt x1 3 hx1)) hx2)
                    have XC0 := Lib.hid (u8_xor_nat (Ae.mul x0 2 ^^^ Ae.mul x1 3 ^^^ x2) (x3) (Ae.xor_lt (Ae.xor_lt (Ae.mul_lt x0 2 hx0) (Ae.mul_lt x1 3 hx1)) hx2) hx3)
                    have XD0 := Lib.hid hy0
                    have XA1 := Lib.hid (u8_xor_nat (x0) (Ae.mul x1 2) hx0 (Ae.mul_lt x1 2 hx1))
                    have XB1 := Lib.hid (u8_xor_nat (x0 ^^^ Ae.mul x1 2) (Ae.mul x2 3) (Ae.xor_lt hx0 (Ae.mul_lt x1 2 hx1)) (Ae.mul_lt x2 3 hx2))
                    have XC1 := Lib.hid (u8_xor_nat (x0 ^^^ Ae.mul x1 2 ^^^ Ae.mul x2 3) (x3) (Ae.xor_lt (Ae.xor_lt hx0 (Ae.mul_lt x1 2 hx1)) (Ae.mul_lt x2 3 hx2)) hx3)
                    have XD1 := Lib.hid hy1
                    have XA2 := Lib.hid (u8_xor_nat (x0) (x1) hx0 hx1)
                    have XB2 := Lib.hid (u8_xor_nat (x0 ^^^ x1) (Ae.mul x2 2) (Ae.xor_lt hx0 hx1) (Ae.mul_lt x2 2 hx2))
                    have XC2 := Lib.hid (u8_xor_nat (x0 ^^^ x1 ^^^ Ae.mul x2 2) (Ae.mul x3 3) (Ae.xor_lt (Ae.xor_lt hx0 hx1) (Ae.mul_lt x2 2 hx2)) (Ae.mul_lt x3 3 hx3))
                    have XD2 := Lib.hid hy2
                    have XA3 := Lib.hid (u8_xor_nat (Ae.mul x0 3) (x1) (Ae.mul_lt x0 3 hx0) hx1)
                    have XB3 := Lib.hid (u8_xor_nat (Ae.mul x0 3 ^^^ x1) (x2) (Ae.xor_lt (Ae.mul_lt x0 3 hx0) hx1) hx2)
                    have XC3 := Lib.hid (u8_xor_nat (Ae.mul x0 3 ^^^ x1 ^^^ x2) (Ae.mul x3 2) (Ae.xor_lt (Ae.xor_lt (Ae.mul_lt x0 3 hx0) hx1) hx2) (Ae.mul_lt x3 2 hx3))
                    have XD3 := Lib.hid hy3
                    clear hy0 hy1 hy2 hy3
                    have fm0 : wr.cell? ⟨H, c, none⟩ = some (.int .u8 ((x0 : Nat) : Int)) := by rw [← HX0.out]; exact HM.getN _ HC0.out
                    have fm1 : wr.cell? ⟨H, 4 + c, none⟩ = some (.int .u8 ((x1 : Nat) : Int)) := by rw [← HX1.out]; exact HM.getN _ HC1.out
                    have fm2 : wr.cell? ⟨H, 8 + c, none⟩ = some (.int .u8 ((x2 : Nat) : Int)) := by rw [← HX2.out]; exact HM.getN _ HC2.out
                    have fm3 : wr.cell? ⟨H, 12 + c, none⟩ = some (.int .u8 ((x3 : Nat) : Int)) := by rw [← HX3.out]; exact HM.getN _ HC3.out
                    have z := HN.free (c)
                    obtain ⟨v, hv⟩ : ∃ v, wr.cell? ⟨G, c, none⟩ = some v := ⟨_, HN.getN _ (by (try simp only [List.length_set]); rw [Ae.cols_len]; exact HC0.out)⟩
                    go_wp2
                    refine wp_region_still_tail 24 (by kernel_rfl) (by kernel_rfl) ?_
                    simp only [List.take_succ_cons, List.take_zero, List.drop_succ_cons, List.drop_zero]
                    change wpStill _ _ (World.drew _) (fun a' => wpList _ _ _ _ a' (World.drew _)) _ _
                    iterate 5 still_step
                    still_call (still1 (refTimes_any x0 2 _ hx0 (by decide)))
                    iterate 4 still_step
                    still_call (still1 (refTimes_any x1 3 _ hx1 (by decide)))
                    iterate 13 still_step
                    refine wpStill_nil ?_
                    rw [XA0.out, XB0.out, XC0.out, XD0.out]
                    go_wp2
                    clear fm0 fm1 fm2 fm3 z hv
                    have HW1 := (HW.far (p := ⟨G, c, none⟩) (by first | omega | (simp; omega) | simp) (.int .u8 ((y0 : Nat) : Int))).drew
                    have HT1 := (HT.far (p := ⟨G, c, none⟩) (by first | omega | (simp; omega) | simp) (.int .u8 ((y0 : Nat) : Int))).drew
                    have HB1 := (HB.far (p := ⟨G, c, none⟩) (by first | omega | (simp; omega) | simp) (.int .u8 ((y0 : Nat) : Int))).drew
                    have HZ1 := (HZ.far (p := ⟨G, c, none⟩) (by first | omega | (simp; omega) | simp) (.int .u8 ((y0 : Nat) : Int))).drew
                    have HS1 := (HS.far (p := ⟨G, c, none⟩) (by first | omega | (simp; omega) | simp) (.int .u8 ((y0 : Nat) : Int))).drew
                    have HM1 := (HM.far (p := ⟨G, c, none⟩) (by first | omega | (simp; omega) | simp) (.int .u8 ((y0 : Nat) : Int))).drew
                    have HN1 := (HN.setN (c) y0).drew
                    have HL1 := (HL.setCell (p := ⟨G, c, none⟩) (by simp; omega) (.int .u8 ((y0 : Nat) : Int))).drew
                    clear HW HT HB HZ HS HM HN HL
                    generalize (wr.setCell ⟨G, c, none⟩ (.int .u8 ((y0 : Nat) : Int))).drew = w1 at *
                    have fm0 : w1.cell? ⟨H, c, none⟩ = some (.int .u8 ((x0 : Nat) : Int)) := by rw [← HX0.out]; exact HM1.getN _ HC0.out
                    have fm1 : w1.cell? ⟨H, 4 + c, none⟩ = some (.int .u8 ((x1 : Nat) : Int)) := by rw [← HX1.out]; exact HM1.getN _ HC1.out
                    have fm2 : w1.cell? ⟨H, 8 + c, none⟩ = some (.int .u8 ((x2 : Nat) : Int)) := by rw [← HX2.out]; exact HM1.getN _ HC2.out
                    have fm3 : w1.cell? ⟨H, 12 + c, none⟩ = some (.int .u8 ((x3 : Nat) : Int)) := by rw [← HX3.out]; exact HM1.getN _ HC3.out
                    have z := HN1.free (4 + c)
                    obtain ⟨v, hv⟩ : ∃ v, w1.cell? ⟨G, 4 + c, none⟩ = some v := ⟨_, HN1.getN _ (by (try simp only [List.length_set]); rw [Ae.cols_len]; exact HC1.out)⟩
                    refine wp_region_still_tail 24 (by kernel_rfl) (by kernel_rfl) ?_
                    simp only [List.take_succ_cons, List.take_zero, List.drop_succ_cons, List.drop_zero]
                    change wpStill _ _ (World.drew _) (fun a' => wpList _ _ _ _ a' (World.drew _)) _ _
                    iterate 9 still_step
                    still_call (still1 (refTimes_any x1 2 _ hx1 (by decide)))
                    iterate 5 still_step
                    still_call (still1 (refTimes_any x2 3 _ hx2 (by decide)))
                    iterate 8 still_step
                    refine wpStill_nil ?_
                    rw [XA1.out, XB1.out, XC1.out, XD1.out]
                    go_wp2
                    clear fm0 fm1 fm2 fm3 z hv
                    have HW2 := (HW1.far (p := ⟨G, 4 + c, none⟩) (by first | omega | (simp; omega) | simp) (.int .u8 ((y1 : Nat) : Int))).drew
                    have HT2 := (HT1.far (p := ⟨G, 4 + c, none⟩) (by first | omega | (simp; omega) | simp) (.int .u8 ((y1 : Nat) : Int))).drew
                    have HB2 := (HB1.far (p := ⟨G, 4 + c, none⟩) (by first | omega | (simp; omega) | simp) (.int .u8 ((y1 : Nat) : Int))).drew
                    have HZ2 := (HZ1.far (p := ⟨G, 4 + c, none⟩) (by first | omega | (simp; omega) | simp) (.int .u8 ((y1 : Nat) : Int))).drew
                    have HS2 := (HS1.far (p := ⟨G, 4 + c, none⟩) (by first | omega | (simp; omega) | simp) (.int .u8 ((y1 : Nat) : Int))).drew
                    have HM2 := (HM1.far (p := ⟨G, 4 + c, none⟩) (by first | omega | (simp; omega) | simp) (.int .u8 ((y1 : Nat) : Int))).drew
                    have HN2 := (HN1.setN (4 + c) y1).drew
                    have HL2 := (HL1.setCell (p := ⟨G, 4 + c, none⟩) (by simp; omega) (.int .u8 ((y1 : Nat) : Int))).drew
                    clear HW1 HT1 HB1 HZ1 HS1 HM1 HN1 HL1
                    generalize (w1.setCell ⟨G, 4 + c, none⟩ (.int .u8 ((y1 : Nat) : Int))).drew = w2 at *
                    have fm0 : w2.cell? ⟨H, c, none⟩ = some (.int .u8 ((x0 : Nat) : Int)) := by rw [← HX0.out]; exact HM2.getN _ HC0.out
                    have fm1 : w2.cell? ⟨H, 4 + c, none⟩ = some (.int .u8 ((x1 : Nat) : Int)) := by rw [← HX1.out]; exact HM2.getN _ HC1.out
                    have fm2 : w2.cell? ⟨H, 8 + c, none⟩ = some (.int .u8 ((x2 : Nat) : Int)) := by rw [← HX2.out]; exact HM2.getN _ HC2.out
                    have fm3 : w2.cell? ⟨H, 12 + c, none⟩ = some (.int .u8 ((x3 : Nat) : Int)) := by rw [← HX3.out]; exact HM2.getN _ HC3.out
                    have z := HN2.free (8 + c)
                    obtain ⟨v, hv⟩ : ∃ v, w2.cell? ⟨G, 8 + c, none⟩ = some v := ⟨_, HN2.getN _ (by (try simp only [List.length_set]); rw [Ae.cols_len]; exact HC2.out)⟩
                    refine wp_region_still_tail 24 (by kernel_rfl) (by kernel_rfl) ?_
                    simp only [List.take_succ_cons, List.take_zero, List.drop_succ_cons, List.drop_zero]
                    change wpStill _ _ (World.drew _) (fun a' => wpList _ _ _ _ a' (World.drew _)) _ _
                    iterate 14 still_step
                    still_call (still1 (refTimes_any x2 2 _ hx2 (by decide)))
                    iterate 5 still_step
                    still_call (still1 (refTimes_any x3 3 _ hx3 (by decide)))
                    iterate 3 still_step
                    refine wpStill_nil ?_
                    rw [XA2.out, XB2.out, XC2.out, XD2.out]
                    go_wp2
                    clear fm0 fm1 fm2 fm3 z hv
                    have HW3 := (HW2.far (p := ⟨G, 8 + c, none⟩) (by first | omega | (simp; omega) | simp) (.int .u8 ((y2 : Nat) : Int))).drew
                    have HT3 := (HT2.far (p := ⟨G, 8 + c, none⟩) (by first | omega | (simp; omega) | simp) (.int .u8 ((y2 : Nat) : Int))).drew
                    have HB3 := (HB2.far (p := ⟨G, 8 + c, none⟩) (by first | omega | (simp; omega) | simp) (.int .u8 ((y2 : Nat) : Int))).drew
                    have HZ3 := (HZ2.far (p := ⟨G, 8 + c, none⟩) (by first | omega | (simp; omega) | simp) (.int .u8 ((y2 : Nat) : Int))).drew
                    have HS3 := (HS2.far (p := ⟨G, 8 + c, none⟩) (by first | omega | (simp; omega) | simp) (.int .u8 ((y2 : Nat) : Int))).drew
                    have HM3 := (HM2.far (p := ⟨G, 8 + c, none⟩) (by first | omega | (simp; omega) | simp) (.int .u8 ((y2 : Nat) : Int))).drew
                    have HN3 := (HN2.setN (8 + c) y2).drew
                    have HL3 := (HL2.setCell (p := ⟨G, 8 + c, none⟩) (by simp; omega) (.int .u8 ((y2 : Nat) : Int))).drew
                    clear HW2 HT2 HB2 HZ2 HS2 HM2 HN2 HL2
                    generalize (w2.setCell ⟨G, 8 + c, none⟩ (.int .u8 ((y2 : Nat) : Int))).drew = w3 at *
                    have fm0 : w3.cell? ⟨H, c, none⟩ = some (.int .u8 ((x0 : Nat) : Int)) := by rw [← HX0.out]; exact HM3.getN _ HC0.out
                    have fm1 : w3.cell? ⟨H, 4 + c, none⟩ = some (.int .u8 ((x1 : Nat) : Int)) := by rw [← HX1.out]; exact HM3.getN _ HC1.out
                    have fm2 : w3.cell? ⟨H, 8 + c, none⟩ = some (.int .u8 ((x2 : Nat) : Int)) := by rw [← HX2.out]; exact HM3.getN _ HC2.out
                    have fm3 : w3.cell? ⟨H, 12 + c, none⟩ = some (.int .u8 ((x3 : Nat) : Int)) := by rw [← HX3.out]; exact HM3.getN _ HC3.out
                    have z := HN3.free (12 + c)
                    obtain ⟨v, hv⟩ : ∃ v, w3.cell? ⟨G, 12 + c, none⟩ = some v := ⟨_, HN3.getN _ (by (try simp only [List.length_set]); rw [Ae.cols_len]; exact HC3.out)⟩
                    refine wp_region_still_tail 24 (by kernel_rfl) (by kernel_rfl) ?_
                    simp only [List.take_succ_cons, List.take_zero, List.drop_succ_cons, List.drop_zero]
                    change wpStill _ _ (World.drew _) (fun a' => wpList _ _ _ _ a' (World.drew _)) _ _
                    iterate 5 still_step
                    still_call (still1 (refTimes_any x0 3 _ hx0 (by decide)))
                    iterate 14 still_step
                    still_call (still1 (refTimes_any x3 2 _ hx3 (by decide)))
                    iterate 3 still_step
                    refine wpStill_nil ?_
                    rw [XA3.out, XB3.out, XC3.out, XD3.out]
                    go_wp2
                    clear fm0 fm1 fm2 fm3 z hv
                    go_roundw
                    case rel => exact ⟨c + 1, by omega, by go_num, (HW3.far (by first | omega | (simp; omega) | simp) _).drew, (HT3.far (by first | omega | (simp; omega) | simp) _).drew, (HB3.far (by first | omega | (simp; omega) | simp) _).drew, (HZ3.far (by first | omega | (simp; omega) | simp) _).drew, (HS3.far (by first | omega | (simp; omega) | simp) _).drew, ((HN3.setN _ _).drew).as (by rw [HE.out]), (HM3.far (by first | omega | (simp; omega) | simp) _).drew, (HL3.setCell (by simp; omega) _).drew⟩
                    case measure => simp [intOf]; omega
                  · obtain rfl : c = 4 := by omega
                    rw [Ae.cols_full] at HN
                    clear hlt hc HM
                    have hcast : ((4 : Nat) : Int) = 4 := rfl
                    try rw [hcast]
                    clear hcast
                    have HBB := Lib.hid (show (Ae.mixed B).length = 16 from Ae.arr_len _)
                    have qBB : Ae.bytes (Ae.mixed B) := Ae.mixed_bytes qB
                    have HST : Hid (Ae.stt ws b r = Ae.withK (Ae.mixed B) ws r) := HIN.out hr10
                    generalize Ae.mixed B = BB at *
                    go_wp2
                    go_loopw [15] (fun p wx => ∃ i : Nat, i ≤ 16 ∧ p = .int .i64 i ∧ Obj wx w.heap.size 67 (cellsN ws) ∧ Obj wx (w.heap.size + 1) 70 (cellsN T) ∧ Obj wx (w.heap.size + 1 + 1) 22 (cellsN b) ∧ Obj wx (w.heap.size + 1 + 1 + 1) 22 (cellsN Z) ∧ Obj wx (w.heap.size + 1 + 1 + 1 + 1) 80 (cellsN (Ae.scat (Ae.withK BB ws r) (Ae.tr L) i)) ∧ Obj wx G 80 (cellsN (Ae.tr BB)) ∧ Below w.heap.size w wx) (fun p _ => 16 - (intOf p).toNat)
                    case atStart => exact ⟨0, by omega, rfl, HW, HT, HB, HZ, HS, HN, HL⟩
                    case round =>
                      clear HW HT HB HZ HS HN HL
                      obtain ⟨i, hi, rfl, HW, HT, HB, HZ, HS, HN, HL⟩ := hrel
                      by_cases hlt : i < 16
                      · obtain ⟨q, hq⟩ : ∃ q, i / 4 = q := ⟨_, rfl⟩
                        obtain ⟨m, hm⟩ : ∃ m, i % 4 = m := ⟨_, rfl⟩
                        have e1 : IntKind.i64.wrap ((i : Int) / 4) = (q : Int) := by rw [IntWalk.i64_in _ (by omega)]; omega
                        have e2 : (i : Int) / 4 = (q : Int) := by omega
                        have e0 : IntKind.i64.wrap (q : Int) = (q : Int) := IntWalk.i64_in _ (by omega)
                        have e3 : (i : Int).tmod 4 = (m : Int) := by rw [Int.tmod_eq_emod_of_nonneg (by omega)]; omega
                        have e4 : (i : Int) % 4 = (m : Int) := by omega
                        have gq : (q : Int) < 4 := by omega
                        have gm : (m : Int) < 4 := by omega
                        have gi : (i : Int) < 16 := by omega
                        obtain ⟨A, hA⟩ : ∃ A, 4 * r = A := ⟨_, rfl⟩
                        obtain ⟨s, hs⟩ : ∃ s, A + q = s := ⟨_, rfl⟩
                        have e5 : IntKind.i64.wrap (4 * (r : Int)) = (A : Int) := by rw [IntWalk.i64_in _ (by omega)]; omega
                        have e6 : IntKind.i64.wrap ((A : Int) + (q : Int)) = (s : Int) := by rw [IntWalk.i64_in _ (by omega)]; omega
                        have gs : (s : Int) < 44 := by omega
                        have fn : wr.cell? ⟨G, m * 4 + q, none⟩ = some (.int .u8 ((BB.getD i 0 : Nat) : Int)) := by
                          rw [HN.getN _ (by rw [Ae.tr_len]; omega), ← hm, ← hq, Ae.tr_at BB i hlt]
                        have fw : wr.cell? ⟨w.heap.size, s * 4 + m, none⟩ = some (.int .u8 ((ws.getD (s * 4 + m) 0 : Nat) : Int)) := HW.getN _ (by rw [HWL.out]; omega)
                        have z0 := HS.free (m * 4 + q)
                        obtain ⟨v, hv⟩ : ∃ v, wr.cell? ⟨w.heap.size + 1 + 1 + 1 + 1, m * 4 + q, none⟩ = some v := ⟨_, HS.getN _ (by rw [Ae.scat_len, Ae.tr_len]; omega)⟩
                        have HE : Hid ((Ae.scat (Ae.withK BB ws r) (Ae.tr L) i).set (m * 4 + q) (BB.getD i 0 ^^^ ws.getD (s * 4 + m) 0) = Ae.scat (Ae.withK BB ws r) (Ae.tr L) (i + 1)) := by
                          unfold Hid
                          rw [Ae.scat, hq, hm, Ae.withK, Ae.arr_get _ _ hlt, show 16 * r + i = s * 4 + m by omega]
                        have hx := Ae.bytes_get qBB i
                        have hy := Ae.bytes_get qw (s * 4 + m)
                        clear hq hm hA hs
                        generalize BB.getD i 0 = x at *
                        generalize ws.getD (s * 4 + m) 0 = y at *
                        have HXY := Lib.hid (u8_xor_nat x y hx hy)
                        go_wp2
                        refine wp_region_still_tail 24 (by kernel_rfl) (by kernel_rfl) ?_
                        simp only [List.take_succ_cons, List.take_zero, List.drop_succ_cons, List.drop_zero]
                        change wpStill _ _ (World.drew _) (fun a' => wpList _ _ _ _ a' (World.drew _)) _ _
                        iterate 24 still_step
                        refine wpStill_nil ?_
                        clear e1 e2 e3 e4 e5 e6
                        go_wp2
                        go_roundw
                        case rel =>
                          rw [HXY.out]
                          exact ⟨i + 1, by omega, by go_num, (HW.far (by first | omega | (simp; omega) | simp) _).drew, (HT.far (by first | omega | (simp; omega) | simp) _).drew, (HB.far (by first | omega | (simp; omega) | simp) _).drew, (HZ.far (by first | omega | (simp; omega) | simp) _).drew, ((HS.setN _ _).drew).as (by rw [HE.out]), (HN.far (by first | omega | (simp; omega) | simp) _).drew, (HL.setCell (by simp; omega) _).drew⟩
                        case measure => simp [intOf]; omega
                      · obtain rfl : i = 16 := by omega
                        have HF := Lib.hid (Ae.scat_full (Ae.withK BB ws r) (Ae.tr L) (Ae.tr_len _))
                        rw [HF.out, ← HST.out] at HS
                        clear hlt hi HF
                        have hcast : ((16 : Nat) : Int) = 16 := rfl
                        try rw [hcast]
                        clear hcast
                        go_wp2
                        go_roundw
                        case rel => exact ⟨r + 1, by omega, by omega, by go_num, HW, HT, HB, HZ, HS, HL⟩
                        case measure => simp [intOf]; omega
              · have hr10i : ¬ (r : Int) < 10 := by omega
                clear hr10i
                have hr10i : ¬ (r : Int) < 10 := by omega
                have qBB : Ae.bytes (B) := qB
                have HST : Hid (Ae.stt ws b r = Ae.withK (B) ws r) := HOU.out hr10
                generalize B = BB at *
                go_wp2
                go_loopw [15] (fun p wx => ∃ i : Nat, i ≤ 16 ∧ p = .int .i64 i ∧ Obj wx w.heap.size 67 (cellsN ws) ∧ Obj wx (w.heap.size + 1) 70 (cellsN T) ∧ Obj wx (w.heap.size + 1 + 1) 22 (cellsN b) ∧ Obj wx (w.heap.size + 1 + 1 + 1) 22 (cellsN Z) ∧ Obj wx (w.heap.size + 1 + 1 + 1 + 1) 80 (cellsN (Ae.scat (Ae.withK BB ws r) (Ae.tr L) i)) ∧ Obj wx G 80 (cellsN (Ae.tr BB)) ∧ Below w.heap.size w wx) (fun p _ => 16 - (intOf p).toNat)
                case atStart => exact ⟨0, by omega, rfl, HW, HT, HB, HZ, HS, HN, HL⟩
                case round =>
                  clear HW HT HB HZ HS HN HL
                  obtain ⟨i, hi, rfl, HW, HT, HB, HZ, HS, HN, HL⟩ := hrel
                  by_cases hlt : i < 16
                  · obtain ⟨q, hq⟩ : ∃ q, i / 4 = q := ⟨_, rfl⟩
                    obtain ⟨m, hm⟩ : ∃ m, i % 4 = m := ⟨_, rfl⟩
                    have e1 : IntKind.i64.wrap ((i : Int) / 4) = (q : Int) := by rw [IntWalk.i64_in _ (by omega)]; omega
                    have e2 : (i : Int) / 4 = (q : Int) := by omega
                    have e0 : IntKind.i64.wrap (q : Int) = (q : Int) := IntWalk.i64_in _ (by omega)
                    have e3 : (i : Int).tmod 4 = (m : Int) := by rw [Int.tmod_eq_emod_of_nonneg (by omega)]; omega
                    have e4 : (i : Int) % 4 = (m : Int) := by omega
                    have gq : (q : Int) < 4 := by omega
                    have gm : (m : Int) < 4 := by omega
                    have gi : (i : Int) < 16 := by omega
                    obtain ⟨A, hA⟩ : ∃ A, 4 * r = A := ⟨_, rfl⟩
                    obtain ⟨s, hs⟩ : ∃ s, A + q = s := ⟨_, rfl⟩
                    have e5 : IntKind.i64.wrap (4 * (r : Int)) = (A : Int) := by rw [IntWalk.i64_in _ (by omega)]; omega
                    have e6 : IntKind.i64.wrap ((A : Int) + (q : Int)) = (s : Int) := by rw [IntWalk.i64_in _ (by omega)]; omega
                    have gs : (s : Int) < 44 := by omega
                    have fn : wr.cell? ⟨G, m * 4 + q, none⟩ = some (.int .u8 ((BB.getD i 0 : Nat) : Int)) := by
                      rw [HN.getN _ (by rw [Ae.tr_len]; omega), ← hm, ← hq, Ae.tr_at BB i hlt]
                    have fw : wr.cell? ⟨w.heap.size, s * 4 + m, none⟩ = some (.int .u8 ((ws.getD (s * 4 + m) 0 : Nat) : Int)) := HW.getN _ (by rw [HWL.out]; omega)
                    have z0 := HS.free (m * 4 + q)
                    obtain ⟨v, hv⟩ : ∃ v, wr.cell? ⟨w.heap.size + 1 + 1 + 1 + 1, m * 4 + q, none⟩ = some v := ⟨_, HS.getN _ (by rw [Ae.scat_len, Ae.tr_len]; omega)⟩
                    have HE : Hid ((Ae.scat (Ae.withK BB ws r) (Ae.tr L) i).set (m * 4 + q) (BB.getD i 0 ^^^ ws.getD (s * 4 + m) 0) = Ae.scat (Ae.withK BB ws r) (Ae.tr L) (i + 1)) := by
                      unfold Hid
                      rw [Ae.scat, hq, hm, Ae.withK, Ae.arr_get _ _ hlt, show 16 * r + i = s * 4 + m by omega]
                    have hx := Ae.bytes_get qBB i
                    have hy := Ae.bytes_get qw (s * 4 + m)
                    clear hq hm hA hs
                    generalize BB.getD i 0 = x at *
                    generalize ws.getD (s * 4 + m) 0 = y at *
                    have HXY := Lib.hid (u8_xor_nat x y hx hy)
                    go_wp2
                    refine wp_region_still_tail 24 (by kernel_rfl) (by kernel_rfl) ?_
                    simp only [List.take_succ_cons, List.take_zero, List.drop_succ_cons, List.drop_zero]
                    change wpStill _ _ (World.drew _) (fun a' => wpList _ _ _ _ a' (World.drew _)) _ _
                    iterate 24 still_step
                    refine wpStill_nil ?_
                    clear e1 e2 e3 e4 e5 e6
                    go_wp2
                    go_roundw
                    case rel =>
                      rw [HXY.out]
                      exact ⟨i + 1, by omega, by go_num, (HW.far (by first | omega | (simp; omega) | simp) _).drew, (HT.far (by first | omega | (simp; omega) | simp) _).drew, (HB.far (by first | omega | (simp; omega) | simp) _).drew, (HZ.far (by first | omega | (simp; omega) | simp) _).drew, ((HS.setN _ _).drew).as (by rw [HE.out]), (HN.far (by first | omega | (simp; omega) | simp) _).drew, (HL.setCell (by simp; omega) _).drew⟩
                    case measure => simp [intOf]; omega
                  · obtain rfl : i = 16 := by omega
                    have HF := Lib.hid (Ae.scat_full (Ae.withK BB ws r) (Ae.tr L) (Ae.tr_len _))
                    rw [HF.out, ← HST.out] at HS
                    clear hlt hi HF
                    have hcast : ((16 : Nat) : Int) = 16 := rfl
                    try rw [hcast]
                    clear hcast
                    go_wp2
                    go_roundw
                    case rel => exact ⟨r + 1, by omega, by omega, by go_num, HW, HT, HB, HZ, HS, HL⟩
                    case measure => simp [intOf]; omega

end Go.Proofs.Ytnphanhoakbkpaa
