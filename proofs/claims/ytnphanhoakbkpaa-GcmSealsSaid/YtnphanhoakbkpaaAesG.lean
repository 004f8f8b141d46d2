/- The document's round keys, walked (under way: the two inner stores are left). -/
import Derived.Test.YtnphanhoakbkpaaRows
import Derived.Test.YtnphanhoakbkpaaAid
import Derived.Test.YtnphanhoakbkpaaPlainAe
import Derived.Test.YtnphanhoakbkpaaPlainAe2
import Derived.Test.YtnphanhoakbkpaaPlainAe6
import Derived.Test.YtnphanhoakbkpaaAesB
import Derived.Test.YtnphanhoakbkpaaAesBox
import Derived.Test.YtnphanhoakbkpaaAesW
import Derived.Test.YtnphanhoakbkpaaAesE
import Derived.Test.YtnphanhoakbkpaaAesK
import Derived.Test.YtnphanhoakbkpaaAesF
import Derived.WalkKit
import Derived.Laws.BitsAllLaws
import Derived.Laws.Rows
import Derived.Laws.Tables
import Derived.Deep.WholeRow
import Derived.WalkSpells
import Derived.WalkLawsBesides
import Derived.StillTailTactics
import Derived.Handy
import Derived.Lib.Hide
import Derived.IntWalk
namespace Go.Proofs.Ytnphanhoakbkpaa
open Go.RowKit
set_option linter.unusedVariables false
set_option linter.unusedSimpArgs false

theorem new4 (w : World) (o p q : _root_.Go.Obj) (t : TypeId) (cs : Array Value) : Obj ((((w.alloc o).alloc p).alloc q).alloc (.cells cs t)) (w.heap.size + 1 + 1 + 1) t cs := by
  have h := Obj.new (((w.alloc o).alloc p).alloc q) t cs
  rwa [show (((w.alloc o).alloc p).alloc q).heap.size = w.heap.size + 1 + 1 + 1 by simp] at h

set_option maxRecDepth 100000 in
set_option maxHeartbeats 1000000 in
theorem refKeys_any (key : List Nat) (w : World) (hk : key.length = 16) (qk : Ae.bytes key) :
    Calls Try.prog 41 #[.agg (cellsN key), .agg (cellsN ((List.range 256).map Ae.box))] w fun e w' => e = .returned (.agg (cellsN (Ae.sched key))) ∧ Below w.heap.size w w' := by
  have HK := Lib.hid hk
  clear hk
  have HTL : Hid (((List.range 256).map Ae.box).length = 256) := by unfold Hid; simp
  have HTG : Hid (∀ i, i < 256 → ((List.range 256).map Ae.box).getD i 0 = Ae.box i) := fun i hi => by simp [List.getD_eq_getElem?_getD, hi]
  generalize (List.range 256).map Ae.box = T at *
  have hz := (zero_of_info zero176).1
  have P0 : Hid (Obj ((((w.alloc (.cells (cellsN key) 22)).alloc (.cells (cellsN T) 70)).alloc (.cells (cellsN z176) 67)).alloc (.cells (cellsN z176) 67)) w.heap.size 22 (cellsN key)) := (((Obj.new w _ _).alloc _).alloc _).alloc _
  have P1 : Hid (Obj ((((w.alloc (.cells (cellsN key) 22)).alloc (.cells (cellsN T) 70)).alloc (.cells (cellsN z176) 67)).alloc (.cells (cellsN z176) 67)) (w.heap.size + 1) 70 (cellsN T)) := ((new2 w _ _ _).alloc _).alloc _
  have P2 : Hid (Obj ((((w.alloc (.cells (cellsN key) 22)).alloc (.cells (cellsN T) 70)).alloc (.cells (cellsN z176) 67)).alloc (.cells (cellsN z176) 67)) (w.heap.size + 1 + 1) 67 (cellsN z176)) := (new3 w _ _ _ _).alloc _
  have P3 : Hid (Obj ((((w.alloc (.cells (cellsN key) 22)).alloc (.cells (cellsN T) 70)).alloc (.cells (cellsN z176) 67)).alloc (.cells (cellsN z176) 67)) (w.heap.size + 1 + 1 + 1) 67 (cellsN z176)) := new4 w _ _ _ _ _
  have PL : Hid (Below w.heap.size w ((((w.alloc (.cells (cellsN key) 22)).alloc (.cells (cellsN T) 70)).alloc (.cells (cellsN z176) 67)).alloc (.cells (cellsN z176) 67))) := ((((Below.refl _ w).alloc (Nat.le_refl _) _).alloc (by simp) _).alloc (by simp; omega) _).alloc (by simp; omega) _
  go_enter Try.func41, Try.ntmps41
  go_wp2
  go_loopw [6, 7] (fun p i wr => ∃ j : Nat, j ≤ 44 ∧ i = .int .i64 j ∧ p = .int .u8 ((Ae.pwr ((j - 1) / 4) : Nat) : Int) ∧ Obj wr w.heap.size 22 (cellsN key) ∧ Obj wr (w.heap.size + 1) 70 (cellsN T) ∧ Obj wr (w.heap.size + 1 + 1) 67 (cellsN z176) ∧ Obj wr (w.heap.size + 1 + 1 + 1) 67 (cellsN (Ae.rowW (Ae.ks key j) [] 0)) ∧ Below w.heap.size w wr) (fun _ i _ => 44 - (intOf i).toNat)
  case atStart => exact ⟨0, by omega, rfl, rfl, P0.out, P1.out, P2.out, (by have h := P3.out; rw [z176_row] at h ⊢; exact h), PL.out⟩
  case round =>
    clear P0 P1 P2 P3 PL
    obtain ⟨j, hj, rfl, rfl, HO, HT, HZ, HW, HL⟩ := hrel
    by_cases hlt : j < 44
    · have HL0 := Lib.hid (Ae.ks_len key j)
      have qL := Ae.ks_bytes qk j
      have HWN := Lib.hid (Ae.word_len key (Ae.ks key j) j)
      have HWR := Lib.hid (Ae.rowW_none (Ae.ks key j) (Ae.word key (Ae.ks key j) j))
      have HWF := Lib.hid (Ae.rowW_full key j)
      have HWA := Lib.hid (fun (h : j < 4) k hk => Ae.word_low key (Ae.ks key j) j k h hk)
      have HWT := Lib.hid (fun (h : 4 ≤ j) k hk => Ae.word_tmp key (Ae.ks key j) j h k hk)
      have HTV := Lib.hid (fun (h : 4 ≤ j) k hk => Ae.tmpW_get (Ae.ks key j) j k h hk)
      have HPW := Lib.hid (fun (h : j % 4 = 0) (h0 : 0 < j) => show Ae.mul (Ae.pwr ((j - 1) / 4)) 2 = Ae.pwr ((j + 1 - 1) / 4) by rw [show (j + 1 - 1) / 4 = (j - 1) / 4 + 1 by omega]; rfl)
      have HPE := Lib.hid (fun (h : ¬ (j % 4 = 0 ∧ 0 < j)) => show Ae.pwr ((j - 1) / 4) = Ae.pwr ((j + 1 - 1) / 4) by rw [show (j - 1) / 4 = (j + 1 - 1) / 4 by omega])
      have HPT := Lib.hid (fun (h : j % 4 = 0) (h0 : 4 ≤ j) => show Ae.pwr ((j - 1) / 4) = Ae.pwr (j / 4 - 1) by rw [show (j - 1) / 4 = j / 4 - 1 by omega])
      have qp := Ae.pwr_lt ((j - 1) / 4)
      have gj : (j : Int) < 44 := by omega
      generalize Ae.word key (Ae.ks key j) j = W at *
      generalize Ae.pwr ((j - 1) / 4) = pw at *
      go_wp2
      go_loopw [8] (fun q wx => ∃ k : Nat, k ≤ 4 ∧ q = .int .i64 k ∧ Obj wx w.heap.size 22 (cellsN key) ∧ Obj wx (w.heap.size + 1) 70 (cellsN T) ∧ Obj wx (w.heap.size + 1 + 1) 67 (cellsN z176) ∧ Obj wx (w.heap.size + 1 + 1 + 1) 67 (cellsN (Ae.rowW (Ae.ks key j) W k)) ∧ Below w.heap.size w wx) (fun q _ => 4 - (intOf q).toNat)
      case atStart => exact ⟨0, by omega, rfl, HO, HT, HZ, by rw [HWR.out]; exact HW, HL⟩
      case round =>
        clear HO HT HZ HW HL
        obtain ⟨k, hk, rfl, HO, HT, HZ, HW, HL⟩ := hrel
        by_cases hk4 : k < 4
        · have gk : (k : Int) < 4 := by omega
          have z0 := HW.free (j * 4 + k)
          have hRL : Hid ((Ae.rowW (Ae.ks key j) W k).length = 176) := Ae.rowW_len _ _ _ (by rw [HL0.out]; omega) (by rw [HWN.out]; omega)
          obtain ⟨v, hv⟩ : ∃ v, wr.cell? ⟨w.heap.size + 1 + 1 + 1, j * 4 + k, none⟩ = some v := ⟨_, HW.getN _ (by rw [hRL.out]; omega)⟩
          have HE : Hid ((Ae.rowW (Ae.ks key j) W k).set (j * 4 + k) (W.getD k 0) = Ae.rowW (Ae.ks key j) W (k + 1)) := by
            unfold Hid
            rw [show j * 4 + k = (Ae.ks key j).length + k by rw [HL0.out]; omega]
            exact Ae.rowW_set _ _ _ (by rw [HL0.out]; omega) (by rw [HWN.out]; exact hk4)
          by_cases h4 : j < 4
          · have HV := Lib.hid (HWA.out h4 k hk4)
            obtain ⟨Q, hQ⟩ : ∃ Q, 4 * j = Q := ⟨_, rfl⟩
            obtain ⟨A, hA⟩ : ∃ A, Q + k = A := ⟨_, rfl⟩
            have e1 : IntKind.i64.wrap (4 * (j : Int)) = (Q : Int) := by rw [IntWalk.i64_in _ (by omega)]; omega
            have e2 : IntKind.i64.wrap ((Q : Int) + (k : Int)) = (A : Int) := by rw [IntWalk.i64_in _ (by omega)]; omega
            have gA : (A : Int) < 16 := by omega
            have g4 : (j : Int) < 4 := by omega
            have fx : wr.cell? ⟨w.heap.size, A, none⟩ = some (.int .u8 ((W.getD k 0 : Nat) : Int)) := by
              rw [HO.getN _ (by rw [HK.out]; omega), HV.out, ← hA, ← hQ]
            clear hQ hA HV
            generalize W.getD k 0 = x at *
            go_wp2
            refine wp_region_still_tail 10 (by kernel_rfl) (by kernel_rfl) ?_
            simp only [List.take_succ_cons, List.take_zero, List.drop_succ_cons, List.drop_zero]
            change wpStill _ _ (World.drew _) (fun a' => wpList _ _ _ _ a' (World.drew _)) _ _
            iterate 10 still_step
            refine wpStill_nil ?_
            clear e1 e2
            go_wp2
            go_roundw
            case rel =>
              exact ⟨k + 1, by omega, by go_num, (HO.far (by first | omega | (simp; omega) | simp) _).drew, (HT.far (by first | omega | (simp; omega) | simp) _).drew, (HZ.far (by first | omega | (simp; omega) | simp) _).drew, ((HW.setN _ _).drew).as (by rw [HE.out]), (HL.setCell (by simp; omega) _).drew⟩
            case measure => simp [intOf]; omega
          · have h4' : 4 ≤ j := by omega
            have h4i : ¬ (j : Int) < 4 := by omega
            obtain ⟨J, hJ⟩ : ∃ J, j - 1 = J := ⟨_, rfl⟩
            obtain ⟨M, hM⟩ : ∃ M, j - 4 = M := ⟨_, rfl⟩
            have e1 : IntKind.i64.wrap ((j : Int) - 1) = (J : Int) := by rw [IntWalk.i64_in _ (by omega)]; omega
            have e2 : IntKind.i64.wrap ((j : Int) - 4) = (M : Int) := by rw [IntWalk.i64_in _ (by omega)]; omega
            have gM : (M : Int) < 44 := by omega
            have gJ : (J : Int) < 44 := by omega
            have fW : ∀ i, i < 4 * j → wr.cell? ⟨w.heap.size + 1 + 1 + 1, i, none⟩ = some (.int .u8 (((Ae.ks key j).getD i 0 : Nat) : Int)) := fun i hi => by
              rw [HW.getN i (by rw [hRL.out]; omega), Ae.rowW_low _ _ _ _ (by rw [HL0.out]; exact hi)]
            have fM : wr.cell? ⟨w.heap.size + 1 + 1 + 1, M * 4 + k, none⟩ = some (.int .u8 (((Ae.ks key j).getD (4 * j - 16 + k) 0 : Nat) : Int)) := by rw [fW _ (by omega), show M * 4 + k = 4 * j - 16 + k by omega]
            have fJ : wr.cell? ⟨w.heap.size + 1 + 1 + 1, J * 4 + k, none⟩ = some (.int .u8 (((Ae.ks key j).getD (4 * j - 4 + k) 0 : Nat) : Int)) := by rw [fW _ (by omega), show J * 4 + k = 4 * j - 4 + k by omega]
            obtain ⟨K, hK⟩ : ∃ K, (k + 1) % 4 = K := ⟨_, rfl⟩
            have e3 : ((k : Int) + 1) % 4 = (K : Int) := by omega
            have gK : (K : Int) < 4 := by omega
            have fK : wr.cell? ⟨w.heap.size + 1 + 1 + 1, J * 4 + K, none⟩ = some (.int .u8 (((Ae.ks key j).getD (4 * j - 4 + K) 0 : Nat) : Int)) := by rw [fW _ (by omega), show J * 4 + K = 4 * j - 4 + K by omega]
            have HV := Lib.hid (HWT.out h4' k hk4)
            have HY := HTV.out h4' k hk4
            rw [hK] at HY
            have hx := Ae.bytes_get qL (4 * j - 16 + k)
            have hy := Ae.bytes_get qL (4 * j - 4 + k)
            have hz1 := Ae.bytes_get qL (4 * j - 4 + K)
            rw [HV.out] at HE
            clear fW HV
            generalize (Ae.ks key j).getD (4 * j - 16 + k) 0 = x at *
            generalize (Ae.ks key j).getD (4 * j - 4 + k) 0 = y at *
            generalize (Ae.ks key j).getD (4 * j - 4 + K) 0 = z at *
            by_cases hm : j % 4 = 0
            · have hmi : ((j : Int) % 4 == 0) = true := by rw [show (j : Int) % 4 = 0 by omega]; rfl
              have gz : (z : Int) < 256 := by omega
              have fT : wr.cell? ⟨w.heap.size + 1, z, none⟩ = some (.int .u8 ((Ae.box z : Nat) : Int)) := by
                rw [HT.getN _ (by rw [HTL.out]; exact hz1), HTG.out _ hz1]
              have qb := Ae.box_lt z hz1
              have HPT' := Lib.hid (HPT.out hm h4')
              rw [if_pos hm] at HY
              by_cases h0 : k = 0
              · have g0 : ((k : Int) == 0) = true := by simp; omega
                rw [if_pos h0, ← HPT'.out] at HY
                have HY' := Lib.hid HY
                rw [HY'.out] at HE
                have HP1 := Lib.hid (u8_xor_nat (Ae.box z) pw qb qp)
                clear h0
                have HXY := Lib.hid (u8_xor_nat x (Ae.box z ^^^ pw) hx (Ae.xor_lt qb qp))
                clear HY
                generalize Ae.box z = bz at *
                go_wp2
                rw [HP1.out]
                refine wp_region_still_tail 12 (by kernel_rfl) (by kernel_rfl) ?_
                simp only [List.take_succ_cons, List.take_zero, List.drop_succ_cons, List.drop_zero]
                change wpStill _ _ (World.drew _) (fun a' => wpList _ _ _ _ a' (World.drew _)) _ _
                iterate 12 still_step
                refine wpStill_nil ?_
                clear e1 e2
                go_wp2
                go_roundw
                case rel =>
                  rw [HXY.out]
                  exact ⟨k + 1, by omega, by go_num, (HO.far (by first | omega | (simp; omega) | simp) _).drew, (HT.far (by first | omega | (simp; omega) | simp) _).drew, (HZ.far (by first | omega | (simp; omega) | simp) _).drew, ((HW.setN _ _).drew).as (by rw [HE.out]), (HL.setCell (by simp; omega) _).drew⟩
                case measure => simp [intOf]; omega
              · rw [if_neg h0] at HY
                have HY' := Lib.hid HY
                rw [HY'.out] at HE
                have g0 : ((k : Int) == 0) = false := by simp; omega
                have HXY := Lib.hid (u8_xor_nat x (Ae.box z) hx qb)
                clear HY h0
                generalize Ae.box z = bz at *
                go_wp2
                refine wp_region_still_tail 12 (by kernel_rfl) (by kernel_rfl) ?_
                simp only [List.take_succ_cons, List.take_zero, List.drop_succ_cons, List.drop_zero]
                change wpStill _ _ (World.drew _) (fun a' => wpList _ _ _ _ a' (World.drew _)) _ _
                iterate 12 still_step
                refine wpStill_nil ?_
                clear e1 e2
                go_wp2
                go_roundw
                case rel =>
                  rw [HXY.out]
                  exact ⟨k + 1, by omega, by go_num, (HO.far (by first | omega | (simp; omega) | simp) _).drew, (HT.far (by first | omega | (simp; omega) | simp) _).drew, (HZ.far (by first | omega | (simp; omega) | simp) _).drew, ((HW.setN _ _).drew).as (by rw [HE.out]), (HL.setCell (by simp; omega) _).drew⟩
                case measure => simp [intOf]; omega
            · have hmi : ((j : Int) % 4 == 0) = false := by have : (j : Int) % 4 ≠ 0 := by omega
                                                            simp [this]
              rw [if_neg hm] at HY
              have HY' := Lib.hid HY
              rw [HY'.out] at HE
              have HXY := Lib.hid (u8_xor_nat x y hx hy)
              clear HY hm
              go_wp2
              refine wp_region_still_tail 12 (by kernel_rfl) (by kernel_rfl) ?_
              simp only [List.take_succ_cons, List.take_zero, List.drop_succ_cons, List.drop_zero]
              change wpStill _ _ (World.drew _) (fun a' => wpList _ _ _ _ a' (World.drew _)) _ _
              iterate 12 still_step
              refine wpStill_nil ?_
              clear e1 e2
              go_wp2
              go_roundw
              case rel =>
                rw [HXY.out]
                exact ⟨k + 1, by omega, by go_num, (HO.far (by first | omega | (simp; omega) | simp) _).drew, (HT.far (by first | omega | (simp; omega) | simp) _).drew, (HZ.far (by first | omega | (simp; omega) | simp) _).drew, ((HW.setN _ _).drew).as (by rw [HE.out]), (HL.setCell (by simp; omega) _).drew⟩
              case measure => simp [intOf]; omega
        · obtain rfl : k = 4 := by omega
          rw [HWF.out] at HW
          clear hk4
          by_cases h0 : 0 < j
          · have h0i : (0 : Int) < (j : Int) := by omega
            by_cases hm : j % 4 = 0
            · have hmi : ((j : Int) % 4 == 0) = true := by rw [show (j : Int) % 4 = 0 by omega]; rfl
              have HP' := Lib.hid (HPW.out hm h0)
              go_wp2_with fail
              refine (refTimes_any pw 2 _ qp (by decide)).mono ?_
              rintro e yn ⟨rfl, rfl⟩
              rw [HP'.out]
              go_wp2
              go_roundw
              case rel => exact ⟨j + 1, by omega, by go_num, rfl, HO, HT, HZ, HW, HL⟩
              case measure => simp [intOf]; omega
            · have hmi : ((j : Int) % 4 == 0) = false := by have : (j : Int) % 4 ≠ 0 := by omega
                                                            simp [this]
              have HP' := Lib.hid (HPE.out (fun h => hm h.1))
              clear hm
              go_wp2
              go_roundw
              case rel => exact ⟨j + 1, by omega, by go_num, by rw [HP'.out], HO, HT, HZ, HW, HL⟩
              case measure => simp [intOf]; omega
          · obtain rfl : j = 0 := by omega
            have HP' := Lib.hid (HPE.out (fun h => h0 h.2))
            clear h0
            go_wp2
            go_roundw
            case rel => exact ⟨0 + 1, by omega, by go_num, by rw [HP'.out], HO, HT, HZ, HW, HL⟩
            case measure => simp [intOf]
    · obtain rfl : j = 44 := by omega
      have HF := Lib.hid (Ae.rowW_end key)
      rw [HF.out] at HW
      have HI := Lib.hid (size176 (Ae.sched_len key))
      have HSZ : Hid ((cellsN z176).size = (cellsN (Ae.sched key)).size) := by unfold Hid; rw [cellsN_size, cellsN_size, Ae.sched_len, z176_len]
      clear hlt hj hz
      go_wp2_with (first
        | (refine wpList_load_row rfl 67 (.tmp 5) rfl _ rfl _ _ _ _ HW Try.underlying67 rfl HI.out ?_)
        | (refine wpList_store_row rfl 67 (.tmp 4) (.tmp 75) rfl _ _ rfl rfl _ _ HZ HI.out HSZ.out (one_cellsN _) ?_))
      exact bodyPost_ret (v := .agg (cellsN (Ae.sched key))) (results_cell_row rfl _ _ _ _ _ _ _ rfl (HZ.row _) Try.underlying67 rfl HI.out) rfl ⟨rfl, Upd.below HL (by omega) ((Upd.refl _ _).row _)⟩

end Go.Proofs.Ytnphanhoakbkpaa
