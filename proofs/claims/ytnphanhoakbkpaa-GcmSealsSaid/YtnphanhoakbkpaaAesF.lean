/- The document's table, walked. -/
import Derived.Test.YtnphanhoakbkpaaRows
import Derived.Test.YtnphanhoakbkpaaAid
import Derived.Test.YtnphanhoakbkpaaPlainAe
import Derived.Test.YtnphanhoakbkpaaPlainAe2
import Derived.Test.YtnphanhoakbkpaaPlainAe4
import Derived.Test.YtnphanhoakbkpaaPlainAe5
import Derived.Test.YtnphanhoakbkpaaAesB
import Derived.Test.YtnphanhoakbkpaaAesBox
import Derived.Test.YtnphanhoakbkpaaAesW
import Derived.WalkKit
import Derived.Laws.BitsAllLaws
import Derived.Laws.Rows
import Derived.Laws.Tables
import Derived.Deep.WholeRow
import Derived.WalkSpells
import Derived.WalkLawsBesides
import Derived.Handy
import Derived.Lib.Hide
namespace Go.Proofs.Ytnphanhoakbkpaa
open Go.RowKit
set_option linter.unusedVariables false
set_option linter.unusedSimpArgs false

def z256 : List Nat := List.replicate 256 0
theorem z256_len : z256.length = 256 := by kernel_rfl
theorem z256_tq : z256 = (Ae.tq 0).2.2 := rfl
theorem zero256 : (Try.prog.info? 70).map (fun i => (i.zero, i.size)) = some (some (.agg (cellsN z256)), 256) := by kernel_rfl

theorem info256 : (Try.prog.info? 70).map (·.size) = some 256 := by kernel_rfl
theorem size256 {l : List Nat} (h : l.length = 256) : (Try.prog.info? 70).map (·.size) = some (cellsN l).size := by rw [cellsN_size, h]; exact info256

set_option maxRecDepth 100000 in
set_option maxHeartbeats 1000000 in
theorem table_any (w : World) :
    Calls Try.prog 40 #[] w fun e w' => e = .returned (.agg (cellsN ((List.range 256).map Ae.box))) ∧ Below w.heap.size w w' := by
  have hz := (zero_of_info zero256).1
  have O0 : Obj (((w.alloc (.cells (cellsN z256) 70)).alloc (.cells (cellsN z256) 70)).alloc (.cells (cellsN z256) 70)) w.heap.size 70 (cellsN z256) := ((Obj.new w _ _).alloc _).alloc _
  have O1 : Obj (((w.alloc (.cells (cellsN z256) 70)).alloc (.cells (cellsN z256) 70)).alloc (.cells (cellsN z256) 70)) (w.heap.size + 1) 70 (cellsN z256) := (new2 w _ _ _).alloc _
  have O2 : Obj (((w.alloc (.cells (cellsN z256) 70)).alloc (.cells (cellsN z256) 70)).alloc (.cells (cellsN z256) 70)) (w.heap.size + 1 + 1) 70 (cellsN z256) := new3 w _ _ _ _
  have L0 : Below w.heap.size w (((w.alloc (.cells (cellsN z256) 70)).alloc (.cells (cellsN z256) 70)).alloc (.cells (cellsN z256) 70)) := (((Below.refl _ w).alloc (Nat.le_refl _) _).alloc (by simp) _).alloc (by simp; omega) _
  have P0 := Lib.hid O0
  have P1 := Lib.hid O1
  have P2 := Lib.hid O2
  have PL := Lib.hid L0
  clear O0 O1 O2 L0
  go_enter Try.func40, Try.ntmps40
  go_wp2
  go_loopw [3, 4, 5] (fun p q i wr => ∃ k : Nat, k ≤ 255 ∧ i = .int .i64 k ∧ p = .int .u8 (((Ae.tq k).1 : Nat) : Int) ∧ q = .int .u8 (((Ae.tq k).2.1 : Nat) : Int) ∧ Obj wr w.heap.size 70 (cellsN z256) ∧ Obj wr (w.heap.size + 1) 70 (cellsN z256) ∧ Obj wr (w.heap.size + 1 + 1) 70 (cellsN (Ae.tq k).2.2) ∧ Below w.heap.size w wr) (fun _ _ i _ => 255 - (intOf i).toNat)
  case atStart => exact ⟨0, by omega, rfl, rfl, rfl, P0.out, P1.out, P2.out, PL.out⟩
  case round =>
    clear P0 P1 P2 PL
    obtain ⟨k, hk, rfl, rfl, rfl, H0, H1, H2, HL⟩ := hrel
    by_cases hlt : k < 255
    · obtain ⟨b1, b2⟩ := Ae.tq_lt k
      obtain ⟨n1, n2⟩ := Ae.tq_lt (k + 1)
      have HLN := Lib.hid (Ae.tq_len k)
      have HS := Lib.hid (show Ae.tq (k + 1) = Ae.tqS (Ae.tq k) from rfl)
      rw [HS.out] at n1 n2
      generalize Ae.tq k = s at *
      obtain ⟨p, q, l⟩ := s
      dsimp only [Ae.tqS] at b1 b2 n1 n2 HLN H2 HS ⊢
      have z0 := H2.free (Ae.mul p 3)
      obtain ⟨v, hv⟩ : ∃ v, wr.cell? ⟨w.heap.size + 1 + 1, Ae.mul p 3, none⟩ = some v := ⟨_, H2.getN _ (by rw [HLN.out]; exact n1)⟩
      have hi : (Ae.mul p 3 : Int) < 256 := by omega
      go_wp2_with fail
      refine (refTimes_any p 3 _ b1 (by decide)).mono ?_
      rintro e wn ⟨rfl, rfl⟩
      go_wp2_with fail
      refine (refTimes_any q 246 _ b2 (by decide)).mono ?_
      rintro e wn ⟨rfl, rfl⟩
      go_wp2
      go_roundw
      case rel => exact ⟨k + 1, by omega, by go_num, by rw [HS.out] <;> rfl, by rw [HS.out] <;> rfl, H0.far (by simp; omega) _, H1.far (by simp) _, (H2.setN _ _).as (by rw [HS.out] <;> rfl), HL.setCell (by simp; omega) _⟩
      case measure => simp [intOf]; omega
    · obtain rfl : k = 255 := by omega
      rw [Ae.tq_inv] at H2
      have HIL : Hid (((List.range 256).map Ae.inv).length = 256) := by unfold Hid; simp
      have HIG : Hid (∀ i, i < 256 → ((List.range 256).map Ae.inv).getD i 0 = Ae.inv i) := fun i hi => by simp [List.getD_eq_getElem?_getD, hi]
      have HZ := Lib.hid z256_len
      generalize (List.range 256).map Ae.inv = V at *
      generalize Ae.tq 255 = s at *
      clear hlt hk hz
      go_wp2
      go_loopw [6] (fun i wr => ∃ k : Nat, k ≤ 256 ∧ i = .int .i64 k ∧ Obj wr w.heap.size 70 (cellsN z256) ∧ Obj wr (w.heap.size + 1) 70 (cellsN (Ae.upto Ae.box z256 k)) ∧ Obj wr (w.heap.size + 1 + 1) 70 (cellsN V) ∧ Below w.heap.size w wr) (fun i _ => 256 - (intOf i).toNat)
      case atStart => exact ⟨0, by omega, rfl, H0, (by rw [Ae.upto_zero]; exact H1), H2, HL⟩
      case round =>
        clear H0 H1 H2 HL
        obtain ⟨k, hk, rfl, H0, H1, H2, HL⟩ := hrel
        by_cases hlt : k < 256
        · have hki : (k : Int) < 256 := by omega
          have HX := Ae.inv_lt k hlt
          have f0 : wr.cell? ⟨w.heap.size + 1 + 1, k, none⟩ = some (.int .u8 ((Ae.inv k : Nat) : Int)) := by rw [H2.getN k (by rw [HIL.out]; exact hlt), HIG.out k hlt]
          have HBX := Lib.hid (show Ae.box k = Ae.boxL (Ae.inv k) 4 from rfl)
          have z0 := H1.free k
          obtain ⟨v, hv⟩ : ∃ v, wr.cell? ⟨w.heap.size + 1, k, none⟩ = some v := ⟨_, H1.getN _ (by rw [Ae.upto_len, HZ.out]; exact hlt)⟩
          have HUS := Lib.hid (Ae.upto_set Ae.box z256 k (by rw [HZ.out]; exact hlt))
          generalize Ae.inv k = X at *
          have HX0 := Lib.hid (i64_xor X 99 (by omega) (by decide))
          have HR0 := Lib.hid (Ae.rot_zero X HX)
          go_wp2
          go_loop [7, 8, 9] (fun x o i => ∃ n : Nat, n ≤ 4 ∧ i = .int .i64 n ∧ x = .int .i64 ((Ae.rot X n : Nat) : Int) ∧ o = .int .i64 ((Ae.boxL X n : Nat) : Int)) (fun _ _ i => 4 - (intOf i).toNat)
          case atStart => exact ⟨0, by omega, rfl, by rw [HR0.out], val_i64 HX0.out⟩
          case round =>
            obtain ⟨n, hn, rfl, rfl, rfl⟩ := hrel
            have hb := boxL_lt X HX n hn
            have hr := Ae.rot_small n (by omega) X HX
            by_cases hln : n < 4
            · have HN := Ae.rot_next n hln X HX
              have hr2 := Ae.rot_small (n + 1) (by omega) X HX
              have HB := Lib.hid (show Ae.boxL X (n + 1) = Ae.boxL X n ^^^ Ae.rot X (n + 1) from rfl)
              have HX2 := Lib.hid (i64_xor (Ae.boxL X n) (Ae.rot X (n + 1)) (by omega) (by omega))
              obtain ⟨r2, he⟩ : ∃ r, Ae.rot X (n + 1) = r := ⟨_, rfl⟩
              rw [he] at HN hr2 HB HX2
              have HRR := Lib.hid he
              clear he
              have hN2 : (Ae.rot X n : Int) * 2 % 256 + (Ae.rot X n : Int) / 128 = (r2 : Int) := by omega
              clear HN
              generalize Ae.rot X n = r1 at *
              go_wp2
              go_round
              case rel => exact ⟨n + 1, by omega, by go_num, by rw [HRR.out], by rw [HB.out]; exact val_i64 HX2.out⟩
              case measure => simp [intOf]; omega
            · obtain rfl : n = 4 := by omega
              rw [← HBX.out] at hb ⊢
              clear hln hn
              go_wp2
              go_roundw
              case rel => exact ⟨k + 1, by omega, by go_num, H0.far (by simp) _, (H1.setN _ _).as (by rw [HUS.out]), H2.far (by simp) _, HL.setCell (by simp) _⟩
              case measure => simp [intOf]; omega
        · obtain rfl : k = 256 := by omega
          have HFE := Lib.hid (show Ae.upto Ae.box z256 256 = (List.range 256).map Ae.box by rw [Ae.upto_full _ _ _ (by rw [HZ.out]; omega), HZ.out])
          rw [HFE.out] at H1
          have HLE : Hid (((List.range 256).map Ae.box).length = 256) := by unfold Hid; simp
          generalize hR : (List.range 256).map Ae.box = R at *
          have HRE := Lib.hid hR
          have HI := Lib.hid (size256 HLE.out)
          have HSZ : Hid ((cellsN z256).size = (cellsN R).size) := by unfold Hid; rw [cellsN_size, cellsN_size, HZ.out, HLE.out]
          clear hlt hk hR
          go_wp2_with (first
            | (refine wpList_load_row rfl 70 (.tmp 1) rfl _ rfl _ _ _ _ H1 Try.underlying70 rfl HI.out ?_)
            | (refine wpList_store_row rfl 70 (.tmp 0) (.tmp 48) rfl _ _ rfl rfl _ _ H0 HI.out HSZ.out (one_cellsN _) ?_))
          rw [HRE.out]
          exact bodyPost_ret (v := .agg (cellsN R)) (results_cell_row rfl _ _ _ _ _ _ _ rfl (H0.row _) Try.underlying70 rfl HI.out) rfl ⟨rfl, Upd.below HL (by omega) ((Upd.refl _ _).row _)⟩

end Go.Proofs.Ytnphanhoakbkpaa
