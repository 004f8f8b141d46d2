/- Layer 8's round keys, walked. -/
import Derived.Test.YtnphanhoakbkpaaRows
import Derived.Test.YtnphanhoakbkpaaAid
import Derived.Test.YtnphanhoakbkpaaPlainAe
import Derived.Test.YtnphanhoakbkpaaPlainAe2
import Derived.Test.YtnphanhoakbkpaaHeldT
import Derived.Test.YtnphanhoakbkpaaAesB
import Derived.Test.YtnphanhoakbkpaaAesBox
import Derived.Test.YtnphanhoakbkpaaAesW
import Derived.Test.YtnphanhoakbkpaaAesE
import Derived.WalkKit
import Derived.Laws.BitsAllLaws
import Derived.Laws.Rows
import Derived.Laws.Tables
import Derived.Laws.CopyOwn
import Derived.WalkSpells
import Derived.WalkLawsBesides
import Derived.Deep.QuietTactic
import Derived.BigQuiet
import Derived.Handy
import Derived.Lib.Hide
import Derived.StillTailTactics
import Derived.Deep.RegionHeld3
import Derived.Deep.WholeRow
import Derived.IntWalk
namespace Go.Proofs.Ytnphanhoakbkpaa
open Go.RowKit
set_option linter.unusedVariables false
set_option linter.unusedSimpArgs false

def z176 : List Nat := List.replicate 176 0
theorem z176_len : z176.length = 176 := by kernel_rfl
theorem z176_row : z176 = Ae.rowW [] [] 0 := by kernel_rfl
theorem zero176 : (Try.prog.info? 67).map (fun i => (i.zero, i.size)) = some (some (.agg (cellsN z176)), 176) := by kernel_rfl
theorem al4 : Try.prog.arrayLen 66 = 4 := by kernel_rfl
theorem el4 : Try.prog.underlying 66 = some (.array (Try.prog.arrayLen 66) (Try.prog.elem 66)) := by kernel_rfl
theorem sz4 (w : World) : (sizeOf (Try.prog.elem 66)).run Try.prog w = .ok 1 w := by kernel_rfl
theorem slice4all (g o : Nat) (w : World) :
    (Instr.sliceAt 66 (.pointer (some ⟨g, o, none⟩)) none none none).run Try.prog w = .ok (.slice (some ⟨g, o, none⟩) 4 4) w := by
  rw [run_sliceAt_array_all w 66 ⟨g, o, none⟩ el4, sz4, al4]
  simp [Result.andThen, slicedAt, Addr.add]
theorem slice16l (g A : Nat) (h : A < 16) (w : World) :
    (Instr.sliceAt 22 (.pointer (some ⟨g, 0, none⟩)) (some (.int .i64 (A : Int))) none none).run Try.prog w = .ok (.slice (some ⟨g, A, none⟩) (16 - A) (16 - A)) w := by
  have h1 : ¬ 16 = A := by omega
  have ha : (⟨g, 0, none⟩ : Addr).add (A * 1) = ⟨g, A, none⟩ := by unfold Addr.add; split <;> simp_all
  rw [run_sliceAt_array_l w 22 ⟨g, 0, none⟩ el16 .i64 (A : Int) (by omega) (by rw [al16]; omega), sz16, al16]
  simp [Result.andThen, slicedAt, h1]
  have := ha
  rwa [Nat.mul_one] at this

def u8v (c : Nat) : Value := .int .u8 ((c : Nat) : Int)
theorem cellsN_list (l : List Nat) : (cellsN l).toList = l.map u8v := rfl
theorem copy_row (A W : List Nat) (n : Nat) (hn : A.length = n) (hW : W.length = 4) (hA : A.length + 4 ≤ 176) :
    ((cellsN (Ae.rowW A [] 0)).toList.take n ++ (W.map u8v ++ (cellsN (Ae.rowW A [] 0)).toList.drop (n + (W.map u8v).length))).toArray = cellsN (Ae.rowW A W 4) := by
  subst hn
  apply Array.ext'
  rw [cellsN_list, cellsN_list, ← List.map_take, ← List.map_drop, List.length_map, hW]
  simp only [Ae.rowW, List.take_nil, List.nil_append, List.take_left', List.map_append]
  rw [List.drop_append, List.drop_of_length_le (by omega), List.nil_append, List.take_of_length_le (show W.length ≤ 4 by omega), List.drop_replicate]
  congr 3
  congr 1
  omega
theorem info4 : (Try.prog.info? 66).map (·.size) = some 4 := by kernel_rfl
theorem hsz8 : (Try.prog.info? 5).map (·.size) = some 1 := by kernel_rfl

set_option maxRecDepth 100000 in
set_option maxHeartbeats 1000000 in
theorem keys_any (key : List Nat) (w : World) (hk : key.length = 16) (qk : Ae.bytes key) :
    Calls Try.prog 36 #[.agg (cellsN key)] w fun e w' => e = .returned (.agg (cellsN (Ae.sched key))) ∧ Below w.heap.size w w' := by
  have HK := Lib.hid hk
  clear hk
  have hz := (zero_of_info zero176).1
  have O0 : Obj (((w.alloc (.cells (cellsN key) 22)).alloc (.cells (cellsN z176) 67)).alloc (.cells (cellsN z176) 67)) w.heap.size 22 (cellsN key) := ((Obj.new w _ _).alloc _).alloc _
  have O1 : Obj (((w.alloc (.cells (cellsN key) 22)).alloc (.cells (cellsN z176) 67)).alloc (.cells (cellsN z176) 67)) (w.heap.size + 1) 67 (cellsN z176) := (new2 w _ _ _).alloc _
  have O2 : Obj (((w.alloc (.cells (cellsN key) 22)).alloc (.cells (cellsN z176) 67)).alloc (.cells (cellsN z176) 67)) (w.heap.size + 1 + 1) 67 (cellsN z176) := new3 w _ _ _ _
  have L0 : Below w.heap.size w (((w.alloc (.cells (cellsN key) 22)).alloc (.cells (cellsN z176) 67)).alloc (.cells (cellsN z176) 67)) := (((Below.refl _ w).alloc (Nat.le_refl _) _).alloc (by simp) _).alloc (by simp; omega) _
  have P0 := Lib.hid O0
  have P1 := Lib.hid O1
  have P2 := Lib.hid O2
  have PL := Lib.hid L0
  clear O0 O1 O2 L0
  go_enter Try.func36, Try.ntmps36
  go_wp2
  go_loopw [4, 8] (fun p i wr => ∃ j : Nat, j ≤ 44 ∧ i = .int .i64 j ∧ p = .int .u8 ((Ae.pwr ((j - 1) / 4) : Nat) : Int) ∧ Obj wr w.heap.size 22 (cellsN key) ∧ Obj wr (w.heap.size + 1) 67 (cellsN z176) ∧ Obj wr (w.heap.size + 1 + 1) 67 (cellsN (Ae.rowW (Ae.ks key j) [] 0)) ∧ Below w.heap.size w wr) (fun _ i _ => 44 - (intOf i).toNat)
  case atStart => exact ⟨0, by omega, rfl, rfl, P0.out, P1.out, (by have h := P2.out; rw [z176_row] at h ⊢; exact h), PL.out⟩
  case round =>
    clear P0 P1 P2 PL
    obtain ⟨j, hj, rfl, rfl, HO, HZ, HW, HL⟩ := hrel
    by_cases hlt : j < 44
    · by_cases h4 : j < 4
      · obtain ⟨A, hA⟩ : ∃ A, 4 * j = A := ⟨_, rfl⟩
        have e1 : IntKind.i64.wrap (4 * (j : Int)) = (A : Int) := by rw [IntWalk.i64_in _ (by omega)]; omega
        have hj44 : (j : Int) < 44 := by omega
        have hs1 := fun o w' => slice4all (w.heap.size + 1 + 1) o w'
        have hs2 := fun w' => slice16l w.heap.size A (by omega) w'
        go_wp2
        refine wp_region_still_tail 6 (by kernel_rfl) (by kernel_rfl) ?_
        simp only [List.take_succ_cons, List.take_zero, List.drop_succ_cons, List.drop_zero]
        change wpStill _ _ (World.drew _) (fun a' => wpList _ _ _ _ a' (World.drew _)) _ _
        iterate 6 still_step
        refine wpStill_nil ?_
        clear e1 hs1 hs2
        have HL0 := Lib.hid (Ae.ks_len key j)
        have HLW := Lib.hid (Ae.word_len key (Ae.ks key j) j)
        refine wpList_copy_own rfl (.tmp 15) (.tmp 18) 23 23 rfl 5 Try.underlying23 hsz8 (w.heap.size + 1 + 1) (j * 4) 4 4 ⟨w.heap.size, A, none⟩ (16 - A) (16 - A) rfl rfl
          _ 67 HW.drew ((Ae.word key (Ae.ks key j) j).map u8v) ?_ ?_ ?_ ?_ ?_
        · rw [List.length_map, HLW.out]; exact (Nat.min_eq_right (by omega)).symm
        · intro i v hv
          rw [List.getElem?_map, Option.map_eq_some_iff] at hv
          obtain ⟨c, hc, rfl⟩ := hv
          have hi : i < 4 := by have := (List.getElem?_eq_some_iff.1 hc).1; rw [HLW.out] at this; exact this
          have hcv : (Ae.word key (Ae.ks key j) j).getD i 0 = c := by rw [List.getD_eq_getElem?_getD, hc]; rfl
          rw [Ae.word_low _ _ _ _ h4 hi, hA] at hcv
          rw [Addr.add_mid, Obj.getN HO.drew _ (by rw [HK.out]; omega), hcv]
          rfl
        · rw [List.length_map, HLW.out, cellsN_size, Ae.rowW_len _ _ _ (by rw [HL0.out]; omega) (by simp)]; omega
        · intro v hv
          obtain ⟨c, _, rfl⟩ := List.mem_map.1 hv
          rfl
        have HE := Lib.hid (copy_row (Ae.ks key j) (Ae.word key (Ae.ks key j) j) (j * 4) (by rw [HL0.out]; omega) HLW.out (by rw [HL0.out]; omega))
        rw [HE.out]
        have U := (Upd.refl (w.heap.size + 1 + 1) wr.drew).row (cellsN (Ae.rowW (Ae.ks key j) (Ae.word key (Ae.ks key j) j) 4))
        have HW2 := HW.drew.row (cellsN (Ae.rowW (Ae.ks key j) (Ae.word key (Ae.ks key j) j) 4))
        have HO2 := Obj.upd HO.drew U (by omega)
        have HZ2 := Obj.upd HZ.drew U (by omega)
        have HL2 := Upd.below HL.drew (by omega) U
        have HW3 := HW2.as (cs' := cellsN (Ae.rowW (Ae.ks key (j + 1)) [] 0)) (by rw [Ae.rowW_full])
        have HP := Lib.hid (show Ae.pwr ((j - 1) / 4) = Ae.pwr ((j + 1 - 1) / 4) by rw [show (j - 1) / 4 = (j + 1 - 1) / 4 by omega])
        clear U HO HZ HW HL HW2
        go_wp2
        go_roundw
        case rel => exact ⟨j + 1, by omega, by go_num, by rw [HP.out], HO2, HZ2, HW3, HL2⟩
        case measure => simp [intOf]; omega
      · have h4' : 4 ≤ j := by omega
        have h4i : ¬ (j : Int) < 4 := by omega
        have hd4 : decide ((j : Int) < 4) = false := by simp; omega
        obtain ⟨J, hJ⟩ : ∃ J, j - 1 = J := ⟨_, rfl⟩
        have e1 : (j : Int) - 1 = (J : Int) := by omega
        have hJ44 : (J : Int) < 44 := by omega
        have HL0 := Lib.hid (Ae.ks_len key j)
        have qL := Ae.ks_bytes qk j
        have hbz := HL.size
        have hWl : ∀ i, i < 4 * j → wr.cell? ⟨w.heap.size + 1 + 1, i, none⟩ = some (.int .u8 (((Ae.ks key j).getD i 0 : Nat) : Int)) := fun i hi => by
          rw [HW.getN i (by rw [Ae.rowW_len _ _ _ (by rw [HL0.out]; omega) (by simp)]; omega), Ae.rowW_low _ _ _ _ (by rw [HL0.out]; exact hi)]
        have f0 : wr.cell? ⟨w.heap.size + 1 + 1, J * 4, none⟩ = some (.int .u8 (((Ae.ks key j).getD (4 * j - 4) 0 : Nat) : Int)) := by rw [hWl _ (by omega), show J * 4 = 4 * j - 4 by omega]
        have f1 : wr.cell? ⟨w.heap.size + 1 + 1, J * 4 + 1, none⟩ = some (.int .u8 (((Ae.ks key j).getD (4 * j - 3) 0 : Nat) : Int)) := by rw [hWl _ (by omega), show J * 4 + 1 = 4 * j - 3 by omega]
        have f2 : wr.cell? ⟨w.heap.size + 1 + 1, J * 4 + 2, none⟩ = some (.int .u8 (((Ae.ks key j).getD (4 * j - 2) 0 : Nat) : Int)) := by rw [hWl _ (by omega), show J * 4 + 2 = 4 * j - 2 by omega]
        have f3 : wr.cell? ⟨w.heap.size + 1 + 1, J * 4 + 3, none⟩ = some (.int .u8 (((Ae.ks key j).getD (4 * j - 1) 0 : Nat) : Int)) := by rw [hWl _ (by omega), show J * 4 + 3 = 4 * j - 1 by omega]
        have HTM := Lib.hid (show Ae.tmpW (Ae.ks key j) j = if j % 4 = 0 then [Ae.box ((Ae.ks key j).getD (4 * j - 3) 0) ^^^ Ae.pwr (j / 4 - 1), Ae.box ((Ae.ks key j).getD (4 * j - 2) 0), Ae.box ((Ae.ks key j).getD (4 * j - 1) 0), Ae.box ((Ae.ks key j).getD (4 * j - 4) 0)] else [(Ae.ks key j).getD (4 * j - 4) 0, (Ae.ks key j).getD (4 * j - 3) 0, (Ae.ks key j).getD (4 * j - 2) 0, (Ae.ks key j).getD (4 * j - 1) 0] from rfl)
        have qa := Ae.bytes_get qL (4 * j - 4)
        have qb := Ae.bytes_get qL (4 * j - 3)
        have qc := Ae.bytes_get qL (4 * j - 2)
        have qd := Ae.bytes_get qL (4 * j - 1)
        clear hWl hJ hz
        generalize (Ae.ks key j).getD (4 * j - 4) 0 = a at *
        generalize (Ae.ks key j).getD (4 * j - 3) 0 = b at *
        generalize (Ae.ks key j).getD (4 * j - 2) 0 = c at *
        generalize (Ae.ks key j).getD (4 * j - 1) 0 = d at *
        have HTB : Obj (wr.alloc (.cells #[.int .u8 ((a : Nat) : Int), .int .u8 ((b : Nat) : Int), .int .u8 ((c : Nat) : Int), .int .u8 ((d : Nat) : Int)] 66)) wr.heap.size 66 (cellsN [a, b, c, d]) := Obj.new wr _ _
        have B0 : Below wr.heap.size wr (wr.alloc (.cells #[.int .u8 ((a : Nat) : Int), .int .u8 ((b : Nat) : Int), .int .u8 ((c : Nat) : Int), .int .u8 ((d : Nat) : Int)] 66)) := (Below.refl _ _).alloc (Nat.le_refl _) _
        have HO1 := HO.kept B0
        have HZ1 := HZ.kept B0
        have HW1 := HW.kept B0
        have HL1 := HL.trans (B0.mono HL.size)
        have hWB : w.heap.size + 1 + 1 < wr.heap.size := Obj.lt HW
        clear HO HZ HW HL B0
        by_cases hm : j % 4 = 0
        · have hmi : ((j : Int) % 4 == 0) = true := by rw [show (j : Int) % 4 = 0 by omega]; rfl
          have HT : Hid (Ae.tmpW (Ae.ks key j) j = [Ae.box b ^^^ Ae.pwr (j / 4 - 1), Ae.box c, Ae.box d, Ae.box a]) := by unfold Hid; rw [HTM.out, if_pos hm]
          have HPE := Lib.hid (show Ae.pwr ((j - 1) / 4) = Ae.pwr (j / 4 - 1) by rw [show (j - 1) / 4 = j / 4 - 1 by omega])
          have HPN := Lib.hid (show Ae.mul (Ae.pwr (j / 4 - 1)) 2 = Ae.pwr ((j + 1 - 1) / 4) by rw [show (j + 1 - 1) / 4 = (j / 4 - 1) + 1 by omega]; rfl)
          rw [HPE.out]
          have qp := Ae.pwr_lt (j / 4 - 1)
          generalize Ae.pwr (j / 4 - 1) = pw at *
          have qbb := Ae.box_lt b qb
          have HX := Lib.hid (u8_xor_nat (Ae.box b) pw qbb qp)
          clear hm HTM
          go_wp2
          generalize wr.heap.size = tb at *
          generalize wr.alloc _ = w2 at *
          have HO9 := HO1.drew
          have HZ9 := HZ1.drew
          have HW9 := HW1.drew
          have HL9 := HL1.drew
          clear HO1 HZ1 HW1 HL1 f0 f1 f2 f3
          refine wp_region_T 15 (fun w' => Obj w' tb 66 (cellsN [a, b, c, d])) (by kernel_rfl) HTB.drew (fun hHeld => ?_)
          refine wpAnyT_take (i := 0) (oi := ?_) (v := ?_) ?_ ?_ ?_ ?_ ?_ ?_ ?_ (by assumption) ?_
          rotate_left 2
          · simp only [List.getElem?_toArray, List.getElem?_cons_zero, List.getElem?_cons_succ]
            rfl
          · kernel_rfl
          · kernel_rfl
          · kernel_rfl
          · kernel_rfl
          · exact fun _ _ _ h => h
          · refine Or.inl ⟨by rfl, ?_⟩
            intro w hSw
            (try dsimp only at hSw)
            go_simp
            all_goals with_reducible rfl
          simp only [Act.put, List.setIfInBounds_toArray, List.set_cons_zero, List.set_cons_succ]
          refine wpAnyT_take (i := 1) (oi := ?_) (v := ?_) ?_ ?_ ?_ ?_ ?_ ?_ ?_ (by assumption) ?_
          rotate_left 2
          · simp only [List.getElem?_toArray, List.getElem?_cons_zero, List.getElem?_cons_succ]
            rfl
          · kernel_rfl
          · kernel_rfl
          · kernel_rfl
          · kernel_rfl
          · exact fun _ _ _ h => h
          · refine Or.inl ⟨by rfl, ?_⟩
            intro w' hSw
            have q : w'.cell? ⟨tb, 1, none⟩ = some (.int .u8 ((b : Nat) : Int)) := Obj.cell hSw 1
            go_simp
            all_goals with_reducible rfl
          simp only [Act.put, List.setIfInBounds_toArray, List.set_cons_zero, List.set_cons_succ]
          refine wpAnyT_take (i := 3) (oi := ?_) (v := ?_) ?_ ?_ ?_ ?_ ?_ ?_ ?_ (by assumption) ?_
          rotate_left 2
          · simp only [List.getElem?_toArray, List.getElem?_cons_zero, List.getElem?_cons_succ]
            rfl
          · kernel_rfl
          · kernel_rfl
          · kernel_rfl
          · kernel_rfl
          · exact fun _ _ _ h => h
          · refine Or.inl ⟨by rfl, ?_⟩
            intro w hSw
            (try dsimp only at hSw)
            go_simp
            all_goals with_reducible rfl
          simp only [Act.put, List.setIfInBounds_toArray, List.set_cons_zero, List.set_cons_succ]
          refine wpAnyT_take (i := 5) (oi := ?_) (v := ?_) ?_ ?_ ?_ ?_ ?_ ?_ ?_ (by assumption) ?_
          rotate_left 2
          · simp only [List.getElem?_toArray, List.getElem?_cons_zero, List.getElem?_cons_succ]
            rfl
          · kernel_rfl
          · kernel_rfl
          · kernel_rfl
          · kernel_rfl
          · exact fun _ _ _ h => h
          · refine Or.inl ⟨by rfl, ?_⟩
            intro w hSw
            (try dsimp only at hSw)
            go_simp
            all_goals with_reducible rfl
          simp only [Act.put, List.setIfInBounds_toArray, List.set_cons_zero, List.set_cons_succ]
          refine wpAnyT_take (i := 6) (oi := ?_) (v := ?_) ?_ ?_ ?_ ?_ ?_ ?_ ?_ (by assumption) ?_
          rotate_left 2
          · simp only [List.getElem?_toArray, List.getElem?_cons_zero, List.getElem?_cons_succ]
            rfl
          · kernel_rfl
          · kernel_rfl
          · kernel_rfl
          · kernel_rfl
          · exact fun _ _ _ h => h
          · refine Or.inl ⟨by rfl, ?_⟩
            intro w' hSw
            have q : w'.cell? ⟨tb, 2, none⟩ = some (.int .u8 ((c : Nat) : Int)) := Obj.cell hSw 2
            go_simp
            all_goals with_reducible rfl
          simp only [Act.put, List.setIfInBounds_toArray, List.set_cons_zero, List.set_cons_succ]
          refine wpAnyT_take (i := 8) (oi := ?_) (v := ?_) ?_ ?_ ?_ ?_ ?_ ?_ ?_ (by assumption) ?_
          rotate_left 2
          · simp only [List.getElem?_toArray, List.getElem?_cons_zero, List.getElem?_cons_succ]
            rfl
          · kernel_rfl
          · kernel_rfl
          · kernel_rfl
          · kernel_rfl
          · exact fun _ _ _ h => h
          · refine Or.inl ⟨by rfl, ?_⟩
            intro w hSw
            (try dsimp only at hSw)
            go_simp
            all_goals with_reducible rfl
          simp only [Act.put, List.setIfInBounds_toArray, List.set_cons_zero, List.set_cons_succ]
          refine wpAnyT_take (i := 9) (oi := ?_) (v := ?_) ?_ ?_ ?_ ?_ ?_ ?_ ?_ (by assumption) ?_
          rotate_left 2
          · simp only [List.getElem?_toArray, List.getElem?_cons_zero, List.getElem?_cons_succ]
            rfl
          · kernel_rfl
          · kernel_rfl
          · kernel_rfl
          · kernel_rfl
          · exact fun _ _ _ h => h
          · refine Or.inl ⟨by rfl, ?_⟩
            intro w' hSw
            have q : w'.cell? ⟨tb, 3, none⟩ = some (.int .u8 ((d : Nat) : Int)) := Obj.cell hSw 3
            go_simp
            all_goals with_reducible rfl
          simp only [Act.put, List.setIfInBounds_toArray, List.set_cons_zero, List.set_cons_succ]
          refine wpAnyT_take (i := 11) (oi := ?_) (v := ?_) ?_ ?_ ?_ ?_ ?_ ?_ ?_ (by assumption) ?_
          rotate_left 2
          · simp only [List.getElem?_toArray, List.getElem?_cons_zero, List.getElem?_cons_succ]
            rfl
          · kernel_rfl
          · kernel_rfl
          · kernel_rfl
          · kernel_rfl
          · exact fun _ _ _ h => h
          · refine Or.inl ⟨by rfl, ?_⟩
            intro w hSw
            (try dsimp only at hSw)
            go_simp
            all_goals with_reducible rfl
          simp only [Act.put, List.setIfInBounds_toArray, List.set_cons_zero, List.set_cons_succ]
          refine wpAnyT_take (i := 12) (oi := ?_) (v := ?_) ?_ ?_ ?_ ?_ ?_ ?_ ?_ (by assumption) ?_
          rotate_left 2
          · simp only [List.getElem?_toArray, List.getElem?_cons_zero, List.getElem?_cons_succ]
            rfl
          · kernel_rfl
          · kernel_rfl
          · kernel_rfl
          · kernel_rfl
          · exact fun _ _ _ h => h
          · refine Or.inl ⟨by rfl, ?_⟩
            intro w' hSw
            have q : w'.cell? ⟨tb, 0, none⟩ = some (.int .u8 ((a : Nat) : Int)) := Obj.cell hSw 0
            go_simp
            all_goals with_reducible rfl
          simp only [Act.put, List.setIfInBounds_toArray, List.set_cons_zero, List.set_cons_succ]
          refine wpAnyT_one (i := 2) (o := ?_) (by kernel_rfl) ?_ (fun KK hKK => ?_)
          rotate_left
          · simp only [List.getElem?_toArray, List.getElem?_cons_zero, List.getElem?_cons_succ]
            rfl
          go_simp
          go_at_call 44; refine (box_any b _ qb).mono ?_; rintro e y10 ⟨rfl, hb10⟩; have HS10 : Obj y10 tb 66 (cellsN [a, b, c, d]) := Obj.kept (by assumption : Obj _ tb 66 (cellsN [a, b, c, d])) hb10; have HO10 := HO9.kept hb10; have HZ10 := HZ9.kept hb10; have HW10 := HW9.kept hb10; have HL10 := HL9.trans (hb10.mono HL9.size)
          try go_wp2_with fail
          refine hKK.out _ _ ?_ (fun h10 => ?_)
          · (try dsimp only)
            assumption
          clear hKK KK
          try simp only [Act.put, List.setIfInBounds_toArray, List.set_cons_zero, List.set_cons_succ]
          refine wpAnyT_take (i := 4) (oi := ?_) (v := ?_) ?_ ?_ ?_ ?_ ?_ ?_ ?_ (by assumption) ?_
          rotate_left 2
          · simp only [List.getElem?_toArray, List.getElem?_cons_zero, List.getElem?_cons_succ]
            rfl
          · kernel_rfl
          · kernel_rfl
          · kernel_rfl
          · kernel_rfl
          · exact fun _ _ _ h => h
          · refine Or.inl ⟨by rfl, ?_⟩
            intro w hSw
            (try dsimp only at hSw)
            go_simp
            all_goals with_reducible rfl
          simp only [Act.put, List.setIfInBounds_toArray, List.set_cons_zero, List.set_cons_succ]
          refine wpAnyT_one (i := 7) (o := ?_) (by kernel_rfl) ?_ (fun KK hKK => ?_)
          rotate_left
          · simp only [List.getElem?_toArray, List.getElem?_cons_zero, List.getElem?_cons_succ]
            rfl
          go_simp
          go_at_call 44; refine (box_any c _ qc).mono ?_; rintro e y11 ⟨rfl, hb11⟩; have HS11 : Obj y11 tb 66 (cellsN [a, b, c, d]) := Obj.kept (by assumption : Obj _ tb 66 (cellsN [a, b, c, d])) hb11; have HO11 := HO10.kept hb11; have HZ11 := HZ10.kept hb11; have HW11 := HW10.kept hb11; have HL11 := HL10.trans (hb11.mono HL10.size)
          try go_wp2_with fail
          refine hKK.out _ _ ?_ (fun h11 => ?_)
          · (try dsimp only)
            assumption
          clear hKK KK
          try simp only [Act.put, List.setIfInBounds_toArray, List.set_cons_zero, List.set_cons_succ]
          refine wpAnyT_one (i := 10) (o := ?_) (by kernel_rfl) ?_ (fun KK hKK => ?_)
          rotate_left
          · simp only [List.getElem?_toArray, List.getElem?_cons_zero, List.getElem?_cons_succ]
            rfl
          go_simp
          go_at_call 44; refine (box_any d _ qd).mono ?_; rintro e y12 ⟨rfl, hb12⟩; have HS12 : Obj y12 tb 66 (cellsN [a, b, c, d]) := Obj.kept (by assumption : Obj _ tb 66 (cellsN [a, b, c, d])) hb12; have HO12 := HO11.kept hb12; have HZ12 := HZ11.kept hb12; have HW12 := HW11.kept hb12; have HL12 := HL11.trans (hb12.mono HL11.size)
          try go_wp2_with fail
          refine hKK.out _ _ ?_ (fun h12 => ?_)
          · (try dsimp only)
            assumption
          clear hKK KK
          try simp only [Act.put, List.setIfInBounds_toArray, List.set_cons_zero, List.set_cons_succ]
          refine wpAnyT_one (i := 13) (o := ?_) (by kernel_rfl) ?_ (fun KK hKK => ?_)
          rotate_left
          · simp only [List.getElem?_toArray, List.getElem?_cons_zero, List.getElem?_cons_succ]
            rfl
          go_simp
          go_at_call 44; refine (box_any a _ qa).mono ?_; rintro e y13 ⟨rfl, hb13⟩; have HS13 : Obj y13 tb 66 (cellsN [a, b, c, d]) := Obj.kept (by assumption : Obj _ tb 66 (cellsN [a, b, c, d])) hb13; have HO13 := HO12.kept hb13; have HZ13 := HZ12.kept hb13; have HW13 := HW12.kept hb13; have HL13 := HL12.trans (hb13.mono HL12.size)
          try go_wp2_with fail
          refine hKK.out _ _ ?_ (fun h13 => ?_)
          · (try dsimp only)
            assumption
          clear hKK KK
          try simp only [Act.put, List.setIfInBounds_toArray, List.set_cons_zero, List.set_cons_succ]
          refine wpAnyT_take (i := 14) (oi := ?_) (v := ?_) ?_ ?_ ?_ ?_ ?_ ?_ ?_ (by assumption) ?_
          rotate_left 2
          · simp only [List.getElem?_toArray, List.getElem?_cons_zero, List.getElem?_cons_succ]
            rfl
          · kernel_rfl
          · kernel_rfl
          · kernel_rfl
          · kernel_rfl
          · exact fun _ _ _ h => h
          · refine Or.inl ⟨by rfl, ?_⟩
            intro w hSw
            (try dsimp only at hSw)
            go_simp
            all_goals with_reducible rfl
          simp only [Act.put, List.setIfInBounds_toArray, List.set_cons_zero, List.set_cons_succ]
          refine wpAnyT_last (o := ?_) (by kernel_rfl) ?_ (fun KK hKK => ?_)
          rotate_left
          · simp only [List.getElem?_toArray, List.getElem?_cons_zero, List.getElem?_cons_succ]
            rfl
          rw [if_pos (by rfl)]
          refine wp_store_row 66 (.tmp 6) (.tmp 41) rfl tb _ rfl rfl 66 (cellsN [a, b, c, d]) HS13 info4 (by simp [cellsN]) (by simp [Value.oneCell']) ?_
          refine hKK.out _ _ ?_
          clear hKK KK
          try simp only [Act.put, List.setIfInBounds_toArray, List.set_cons_zero, List.set_cons_succ]
          refine wpAnyT_done (by kernel_rfl) ?_ _
          rw [HX.out]
          have HTB2 : Obj (y13.setRow tb #[.int .u8 ((Ae.box b ^^^ pw : Nat) : Int), .int .u8 ((Ae.box c : Nat) : Int), .int .u8 ((Ae.box d : Nat) : Int), .int .u8 ((Ae.box a : Nat) : Int)]) tb 66 (cellsN [Ae.box b ^^^ pw, Ae.box c, Ae.box d, Ae.box a]) := HS13.row _
          have U := (Upd.refl tb y13).row #[.int .u8 ((Ae.box b ^^^ pw : Nat) : Int), .int .u8 ((Ae.box c : Nat) : Int), .int .u8 ((Ae.box d : Nat) : Int), .int .u8 ((Ae.box a : Nat) : Int)]
          have HO1 := Obj.upd HO13 U (by omega)
          have HZ1 := Obj.upd HZ13 U (by omega)
          have HW1 := Obj.upd HW13 U (by omega)
          have HL1 := Upd.below HL13 (by omega) U
          clear HO9 HO10 HO11 HO12 HO13 HZ9 HZ10 HZ11 HZ12 HZ13 HW9 HW10 HW11 HW12 HW13 HL9 HL10 HL11 HL12 HL13 HS10 HS11 HS12 HS13 hb10 hb11 hb12 hb13 h10 h11 h12 h13 hHeld HTB U
          rw [← HT.out] at HTB2
          go_wp2_with fail
          refine (mul_any pw 2 _ qp (by decide)).mono ?_
          rintro e yn ⟨rfl, rfl⟩
          rw [HPN.out]
          have qT := Ae.tmpW_bytes j qL
          have HTL := Lib.hid (Ae.tmpW_len (Ae.ks key j) j)
          have HWT := Lib.hid (fun k hk => Ae.word_tmp key (Ae.ks key j) j h4' k hk)
          have HWN := Lib.hid (Ae.word_len key (Ae.ks key j) j)
          have HWR := Lib.hid (Ae.rowW_none (Ae.ks key j) (Ae.word key (Ae.ks key j) j))
          have HWF := Lib.hid (Ae.rowW_full key j)
          generalize Ae.word key (Ae.ks key j) j = W at *
          generalize Ae.tmpW (Ae.ks key j) j = V at *
          go_wp2
          skip
          go_loopw [44] (fun q wx => ∃ k : Nat, k ≤ 4 ∧ q = .int .i64 k ∧ Obj wx w.heap.size 22 (cellsN key) ∧ Obj wx (w.heap.size + 1) 67 (cellsN z176) ∧ Obj wx (w.heap.size + 1 + 1) 67 (cellsN (Ae.rowW (Ae.ks key j) W k)) ∧ Obj wx tb 66 (cellsN V) ∧ Below w.heap.size w wx) (fun q _ => 4 - (intOf q).toNat)
          case atStart => exact ⟨0, by omega, rfl, HO1, HZ1, by rw [HWR.out]; exact HW1, HTB2, HL1⟩
          case round =>
            clear HO1 HZ1 HW1 HL1 HTB2
            obtain ⟨k, hk, rfl, HO, HZ, HW, HV, HL⟩ := hrel
            by_cases hk4 : k < 4
            · obtain ⟨M, hM⟩ : ∃ M, j - 4 = M := ⟨_, rfl⟩
              have g1 : IntKind.i64.wrap ((j : Int) - 4) = (M : Int) := by rw [IntWalk.i64_in _ (by omega)]; omega
              have gM : (M : Int) < 44 := by omega
              have gj : (j : Int) < 44 := by omega
              have gk : (k : Int) < 4 := by omega
              have fx : wr.cell? ⟨w.heap.size + 1 + 1, M * 4 + k, none⟩ = some (.int .u8 (((Ae.ks key j).getD (4 * j - 16 + k) 0 : Nat) : Int)) := by
                rw [HW.getN _ (by rw [Ae.rowW_len _ _ _ (by rw [HL0.out]; omega) (by rw [HWN.out]; omega)]; omega), Ae.rowW_low _ _ _ _ (by rw [HL0.out]; omega), show M * 4 + k = 4 * j - 16 + k by omega]
              have fy : wr.cell? ⟨tb, k, none⟩ = some (.int .u8 ((V.getD k 0 : Nat) : Int)) := HV.getN k (by rw [HTL.out]; exact hk4)
              have z0 := HW.free (j * 4 + k)
              obtain ⟨v, hv⟩ : ∃ v, wr.cell? ⟨w.heap.size + 1 + 1, j * 4 + k, none⟩ = some v := ⟨_, HW.getN _ (by rw [Ae.rowW_len _ _ _ (by rw [HL0.out]; omega) (by rw [HWN.out]; omega)]; omega)⟩
              have hx := Ae.bytes_get qL (4 * j - 16 + k)
              have hy := Ae.bytes_get qT k
              have HE : Hid ((Ae.rowW (Ae.ks key j) W k).set (j * 4 + k) ((Ae.ks key j).getD (4 * j - 16 + k) 0 ^^^ V.getD k 0) = Ae.rowW (Ae.ks key j) W (k + 1)) := by
                unfold Hid
                rw [← HWT.out k hk4, show j * 4 + k = (Ae.ks key j).length + k by rw [HL0.out]; omega]
                exact Ae.rowW_set _ _ _ (by rw [HL0.out]; omega) (by rw [HWN.out]; exact hk4)
              clear hM
              generalize (Ae.ks key j).getD (4 * j - 16 + k) 0 = x at *
              generalize V.getD k 0 = y at *
              have HXY := Lib.hid (u8_xor_nat x y hx hy)
              go_wp2
              refine wp_region_still_tail 14 (by kernel_rfl) (by kernel_rfl) ?_
              simp only [List.take_succ_cons, List.take_zero, List.drop_succ_cons, List.drop_zero]
              change wpStill _ _ (World.drew _) (fun a' => wpList _ _ _ _ a' (World.drew _)) _ _
              iterate 14 still_step
              refine wpStill_nil ?_
              clear g1
              go_wp2
              go_roundw
              case rel =>
                rw [HXY.out]
                exact ⟨k + 1, by omega, by go_num, (HO.far (by simp; omega) _).drew, (HZ.far (by simp) _).drew, ((HW.setN _ _).drew).as (by rw [HE.out]), (HV.far (by simp; omega) _).drew, (HL.setCell (by simp; omega) _).drew⟩
              case measure => simp [intOf]; omega
            · obtain rfl : k = 4 := by omega
              rw [HWF.out] at HW
              clear hk4
              go_wp2
              go_roundw
              case rel => exact ⟨j + 1, by omega, by go_num, rfl, HO, HZ, HW, HL⟩
              case measure => simp [intOf]; omega
        · have hmi : ((j : Int) % 4 == 0) = false := by have : (j : Int) % 4 ≠ 0 := by omega
                                                        simp [this]
          have HT : Hid (Ae.tmpW (Ae.ks key j) j = [a, b, c, d]) := by unfold Hid; rw [HTM.out, if_neg hm]
          have HPE := Lib.hid (show Ae.pwr ((j - 1) / 4) = Ae.pwr ((j + 1 - 1) / 4) by rw [show (j - 1) / 4 = (j + 1 - 1) / 4 by omega])
          generalize Ae.pwr ((j - 1) / 4) = pw at *
          clear hm HTM
          go_wp2
          generalize wr.heap.size = tb at *
          generalize wr.alloc _ = w2 at *
          rw [← HT.out] at HTB
          have qT := Ae.tmpW_bytes j qL
          have HTL := Lib.hid (Ae.tmpW_len (Ae.ks key j) j)
          have HWT := Lib.hid (fun k hk => Ae.word_tmp key (Ae.ks key j) j h4' k hk)
          have HWN := Lib.hid (Ae.word_len key (Ae.ks key j) j)
          have HWR := Lib.hid (Ae.rowW_none (Ae.ks key j) (Ae.word key (Ae.ks key j) j))
          have HWF := Lib.hid (Ae.rowW_full key j)
          generalize Ae.word key (Ae.ks key j) j = W at *
          generalize Ae.tmpW (Ae.ks key j) j = V at *
          go_wp2
          skip
          go_loopw [44] (fun q wx => ∃ k : Nat, k ≤ 4 ∧ q = .int .i64 k ∧ Obj wx w.heap.size 22 (cellsN key) ∧ Obj wx (w.heap.size + 1) 67 (cellsN z176) ∧ Obj wx (w.heap.size + 1 + 1) 67 (cellsN (Ae.rowW (Ae.ks key j) W k)) ∧ Obj wx tb 66 (cellsN V) ∧ Below w.heap.size w wx) (fun q _ => 4 - (intOf q).toNat)
          case atStart => exact ⟨0, by omega, rfl, HO1, HZ1, by rw [HWR.out]; exact HW1, HTB, HL1⟩
          case round =>
            clear HO1 HZ1 HW1 HL1 HTB
            obtain ⟨k, hk, rfl, HO, HZ, HW, HV, HL⟩ := hrel
            by_cases hk4 : k < 4
            · obtain ⟨M, hM⟩ : ∃ M, j - 4 = M := ⟨_, rfl⟩
              have g1 : IntKind.i64.wrap ((j : Int) - 4) = (M : Int) := by rw [IntWalk.i64_in _ (by omega)]; omega
              have gM : (M : Int) < 44 := by omega
              have gj : (j : Int) < 44 := by omega
              have gk : (k : Int) < 4 := by omega
              have fx : wr.cell? ⟨w.heap.size + 1 + 1, M * 4 + k, none⟩ = some (.int .u8 (((Ae.ks key j).getD (4 * j - 16 + k) 0 : Nat) : Int)) := by
                rw [HW.getN _ (by rw [Ae.rowW_len _ _ _ (by rw [HL0.out]; omega) (by rw [HWN.out]; omega)]; omega), Ae.rowW_low _ _ _ _ (by rw [HL0.out]; omega), show M * 4 + k = 4 * j - 16 + k by omega]
              have fy : wr.cell? ⟨tb, k, none⟩ = some (.int .u8 ((V.getD k 0 : Nat) : Int)) := HV.getN k (by rw [HTL.out]; exact hk4)
              have z0 := HW.free (j * 4 + k)
              obtain ⟨v, hv⟩ : ∃ v, wr.cell? ⟨w.heap.size + 1 + 1, j * 4 + k, none⟩ = some v := ⟨_, HW.getN _ (by rw [Ae.rowW_len _ _ _ (by rw [HL0.out]; omega) (by rw [HWN.out]; omega)]; omega)⟩
              have hx := Ae.bytes_get qL (4 * j - 16 + k)
              have hy := Ae.bytes_get qT k
              have HE : Hid ((Ae.rowW (Ae.ks key j) W k).set (j * 4 + k) ((Ae.ks key j).getD (4 * j - 16 + k) 0 ^^^ V.getD k 0) = Ae.rowW (Ae.ks key j) W (k + 1)) := by
                unfold Hid
                rw [← HWT.out k hk4, show j * 4 + k = (Ae.ks key j).length + k by rw [HL0.out]; omega]
                exact Ae.rowW_set _ _ _ (by rw [HL0.out]; omega) (by rw [HWN.out]; exact hk4)
              clear hM
              generalize (Ae.ks key j).getD (4 * j - 16 + k) 0 = x at *
              generalize V.getD k 0 = y at *
              have HXY := Lib.hid (u8_xor_nat x y hx hy)
              go_wp2
              refine wp_region_still_tail 14 (by kernel_rfl) (by kernel_rfl) ?_
              simp only [List.take_succ_cons, List.take_zero, List.drop_succ_cons, List.drop_zero]
              change wpStill _ _ (World.drew _) (fun a' => wpList _ _ _ _ a' (World.drew _)) _ _
              iterate 14 still_step
              refine wpStill_nil ?_
              clear g1
              go_wp2
              go_roundw
              case rel =>
                rw [HXY.out]
                exact ⟨k + 1, by omega, by go_num, (HO.far (by simp; omega) _).drew, (HZ.far (by simp) _).drew, ((HW.setN _ _).drew).as (by rw [HE.out]), (HV.far (by simp; omega) _).drew, (HL.setCell (by simp; omega) _).drew⟩
              case measure => simp [intOf]; omega
            · obtain rfl : k = 4 := by omega
              rw [HWF.out] at HW
              clear hk4
              go_wp2
              go_roundw
              case rel => exact ⟨j + 1, by omega, by go_num, by rw [HPE.out], HO, HZ, HW, HL⟩
              case measure => simp [intOf]; omega
    · obtain rfl : j = 44 := by omega
      have HF := Lib.hid (Ae.rowW_end key)
      rw [HF.out] at HW
      have HI := Lib.hid (size176 (Ae.sched_len key))
      have HSZ : Hid ((cellsN z176).size = (cellsN (Ae.sched key)).size) := by unfold Hid; rw [cellsN_size, cellsN_size, Ae.sched_len, z176_len]
      clear hlt hj hz
      go_wp2_with (first
        | (refine wpList_load_row rfl 67 (.tmp 3) rfl _ rfl _ _ _ _ HW Try.underlying67 rfl HI.out ?_)
        | (refine wpList_store_row rfl 67 (.tmp 2) (.tmp 63) rfl _ _ rfl rfl _ _ HZ HI.out HSZ.out (one_cellsN _) ?_))
      exact bodyPost_ret (v := .agg (cellsN (Ae.sched key))) (results_cell_row rfl _ _ _ _ _ _ _ rfl (HZ.row _) Try.underlying67 rfl HI.out) rfl ⟨rfl, Upd.below HL (by omega) ((Upd.refl _ _).row _)⟩

end Go.Proofs.Ytnphanhoakbkpaa
