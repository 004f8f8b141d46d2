/- AesBlocks and AesStreams, walked. -/
import Derived.Test.YtbkobmfakkbfcaaRows
import Derived.Test.YtbkobmfakkbfcaaAid
import Derived.Test.YtbkobmfakkbfcaaPlainAe
import Derived.Test.YtbkobmfakkbfcaaPlainAe2
import Derived.Test.YtbkobmfakkbfcaaHeldT
import Derived.Test.YtbkobmfakkbfcaaAesB
import Derived.Test.YtbkobmfakkbfcaaAesBox
import Derived.Test.YtbkobmfakkbfcaaAesW
import Derived.Test.YtbkobmfakkbfcaaAesE
import Derived.Test.YtbkobmfakkbfcaaAesK
import Derived.Test.YtbkobmfakkbfcaaAesS
import Derived.Test.YtbkobmfakkbfcaaAesT
import Derived.Test.YtbkobmfakkbfcaaAesA
import Derived.Test.YtbkobmfakkbfcaaAesL
import Derived.Test.YtbkobmfakkbfcaaAesM
import Derived.Test.YtbkobmfakkbfcaaAesF
import Derived.Test.YtbkobmfakkbfcaaAesG
import Derived.Test.YtbkobmfakkbfcaaAesI
import Derived.Test.YtbkobmfakkbfcaaAesJ
import Derived.ChangeKeysEq
import Derived.Stop.BytesEq
import Derived.WalkKit
import Derived.Laws.BitsAllLaws
import Derived.Laws.Rows
import Derived.Laws.Tables
import Derived.Laws.AppendOwn
import Derived.Lib.SliceRun
import Derived.WalkSpells
import Derived.WalkLawsBesides
import Derived.Deep.QuietTactic
import Derived.BigQuiet
import Derived.Handy
import Derived.Lib.Hide
import Derived.StillTailTactics
import Derived.Deep.RegionHeld3
import Derived.Deep.WholeRow
import Derived.IntWalk
namespace Go.Proofs.Ytbkobmfakkbfcaa
open Go.RowKit
set_option linter.unusedVariables false
set_option linter.unusedSimpArgs false

theorem agg4 (w : World) : (isAgg 27).run Try.prog w = .ok true w := by kernel_rfl
theorem sizeOf4 (w : World) : (sizeOf 27).run Try.prog w = .ok 4 w := by kernel_rfl
theorem infoFour : ∃ i, Try.prog.info? 27 = some i := by
  have h : (Try.prog.info? 27).isSome = true := by kernel_rfl
  exact Option.isSome_iff_exists.1 h
theorem cellsFour : Try.prog.cellsOf 27 = 4 := by kernel_rfl
theorem part4 (S : List Nat) (a : Nat) (w : World) : (part 27 (cellsN S) a).run Try.prog w = .ok (.agg (cellsN ((S.drop a).take 4))) w := by
  unfold part
  simp only [Sem.run_bind, agg4, Result.andThen_ok, if_true, sizeOf4, Sem.run_pure]
  congr 2
  apply Array.ext'
  unfold cellsN
  simp [List.map_take, List.map_drop]
theorem eqFour {R : List Nat} (h : R.length = 4) (q : Ae.bytes R) (w : World) : (Op.equalIn 9999 27 (.agg (cellsN R)) (.agg (cellsN R))).run Try.prog w = .ok true w := by
  rw [cellsN_u8 q, run_equalIn_bytes w 9997 27 5 4 Try.underlying27 Try.underlying5 (fun w => by kernel_rfl) _ _ (by simpa using h) (by simpa using h)]
  simp
theorem eq176 {S : List Nat} (h : S.length = 176) (q : Ae.bytes S) (w : World) :
    (binOp .eql 28 (.agg (cellsN S)) (.agg (cellsN S))).run Try.prog w = .ok (.bool true) w := by
  obtain ⟨i, hi⟩ := infoFour
  rw [run_eql_struct, run_equalIn_array w 9999 _ _ Try.underlying28 hi, cellsFour]
  have hl : ∀ j ∈ List.range 44, j < 44 := fun j hj => List.mem_range.1 hj
  generalize List.range 44 = l at hl ⊢
  have e : (Op.eqItems 9999 27 4 (cellsN S) (cellsN S) l).run Try.prog w = .ok true w := by
    induction l with
    | nil => simp [Op.eqItems]
    | cons j l ih =>
      have hj := hl j (by simp)
      have q4 : Ae.bytes ((S.drop (j * 4)).take 4) := fun c hc => q c (List.mem_of_mem_drop (List.mem_of_mem_take hc))
      have l4 : ((S.drop (j * 4)).take 4).length = 4 := by rw [List.length_take, List.length_drop]; omega
      simp only [Op.eqItems, Sem.run_bind, part4, Result.andThen_ok, eqFour l4 q4, Bool.not_true, Bool.false_eq_true, if_false]
      exact ih fun k hk => hl k (by simp [hk])
  rw [e]
  rfl

set_option maxRecDepth 100000 in
set_option maxHeartbeats 1000000 in
theorem aesBlocks_walk (k b : List Nat) (w : World) (hk : k.length = 16) (qk : Ae.bytes k) (hb : b.length = 16) (qb : Ae.bytes b) :
    Calls Try.prog 4 #[.agg (cellsN k), .agg (cellsN b)] w fun e w' => e = .returned (.bool true) ∧ Below w.heap.size w w' := by
  have HIK := Lib.hid (size16 hk)
  have HIB := Lib.hid (size16 hb)
  have HK := Lib.hid hk
  have HB := Lib.hid hb
  obtain ⟨T, hT⟩ : ∃ T, (List.range 256).map Ae.box = T := ⟨_, rfl⟩
  have HTB := Lib.hid (fun w => table_any w)
  have HKY := Lib.hid (fun w => refKeys_any k w HK.out qk)
  rw [hT] at HTB HKY
  clear hT
  have HKA := Lib.hid (fun w => keys_any k w HK.out qk)
  have HEA := Lib.hid (fun w => encipher_any k b w HK.out HB.out qk qb)
  have HER := Lib.hid (fun w => refEncipher_any k b w HK.out HB.out qk qb)
  have q1 := fun w' => eq176 (Ae.sched_len k) (Ae.sched_bytes qk) w'
  have q2 : ∀ w', (binOp .eql 26 (.agg (cellsN (Ae.enc (Ae.sched k) b))) (.agg (cellsN (Ae.enc (Ae.sched k) b)))).run Try.prog w' = .ok (.bool true) w' := fun w' => by
    rw [eq16 (Ae.enc_len _ _) (Ae.enc_len _ _) (Ae.enc_bytes qb (Ae.sched_bytes qk)) (Ae.enc_bytes qb (Ae.sched_bytes qk))]
    simp
  generalize Ae.enc (Ae.sched k) b = E at *
  generalize Ae.sched k = S at *
  have O0 : Obj ((w.alloc (.cells (cellsN k) 26)).alloc (.cells (cellsN b) 26)) w.heap.size 26 (cellsN k) := (Obj.new w _ _).alloc _
  have O1 : Obj ((w.alloc (.cells (cellsN k) 26)).alloc (.cells (cellsN b) 26)) (w.heap.size + 1) 26 (cellsN b) := new2 w _ _ _
  have L0 : Below w.heap.size w ((w.alloc (.cells (cellsN k) 26)).alloc (.cells (cellsN b) 26)) := ((Below.refl _ w).alloc (Nat.le_refl _) _).alloc (by simp) _
  have P0 := Lib.hid O0
  have P1 := Lib.hid O1
  have PL := Lib.hid L0
  clear hk hb O0 O1 L0
  go_enter Try.func4, Try.ntmps4
  go_wp2_with fail
  refine (alive_true _).mono ?_
  rintro e w1 ⟨rfl, hb1⟩
  have HO : Obj w1 w.heap.size 26 (cellsN k) ∧ Obj w1 (w.heap.size + 1) 26 (cellsN b) := ⟨P0.out.kept hb1, P1.out.kept hb1⟩
  have HL := PL.out.trans (hb1.mono PL.out.size)
  clear P0 P1 PL hb1
  go_wp2_with fail
  have HO3 : Obj w1.drew w.heap.size 26 (cellsN k) ∧ Obj w1.drew (w.heap.size + 1) 26 (cellsN b) := ⟨HO.1.drew, HO.2.drew⟩
  have HL3 := HL.drew
  refine wp_region_held_drew (S := (fun w' => Obj w' w.heap.size 26 (cellsN k) ∧ Obj w' (w.heap.size + 1) 26 (cellsN b))) (by kernel_rfl) HO3 (fun hHeld => ?_)
  refine wpAnyH_take (i := 0) (oi := ?_) (v := ?_) ?_ ?_ ?_ ?_ ?_ ?_ (by assumption) ?_
  rotate_left 2
  · simp only [List.getElem?_toArray, List.getElem?_cons_zero, List.getElem?_cons_succ]
    rfl
  · kernel_rfl
  · kernel_rfl
  · kernel_rfl
  · exact fun _ _ _ h => h
  · refine yieldsIf_load_row (g := w.heap.size) (t := 26) (cs := cellsN k) (ty := 26) (x := (.tmp 2)) ?_ ?_ ?_ ?_ Try.underlying26 rfl HIK.out
    · rfl
    · rfl
    · rfl
    · exact fun w hSw => hSw.1
  simp only [Act.put, List.setIfInBounds_toArray, List.set_cons_zero, List.set_cons_succ]
  refine wpAnyH_take (i := 2) (oi := ?_) (v := ?_) ?_ ?_ ?_ ?_ ?_ ?_ (by assumption) ?_
  rotate_left 2
  · simp only [List.getElem?_toArray, List.getElem?_cons_zero, List.getElem?_cons_succ]
    rfl
  · kernel_rfl
  · kernel_rfl
  · kernel_rfl
  · exact fun _ _ _ h => h
  · refine yieldsIf_load_row (g := w.heap.size) (t := 26) (cs := cellsN k) (ty := 26) (x := (.tmp 2)) ?_ ?_ ?_ ?_ Try.underlying26 rfl HIK.out
    · rfl
    · rfl
    · rfl
    · exact fun w hSw => hSw.1
  simp only [Act.put, List.setIfInBounds_toArray, List.set_cons_zero, List.set_cons_succ]
  refine wpAnyH_ready (rs := [1]) (by kernel_rfl) (by simp) ?_
  refine AllReadyH.cons (o := ?_) ?_ (fun KK hKK => ?_) AllReadyH.nil
  rotate_left
  · simp only [List.getElem?_toArray, List.getElem?_cons_zero, List.getElem?_cons_succ]
    rfl
  go_simp
  go_at_call 15
  refine (HKA.out _).mono ?_
  rintro e y4 ⟨rfl, B4⟩
  have HO4 : Obj y4 w.heap.size 26 (cellsN k) ∧ Obj y4 (w.heap.size + 1) 26 (cellsN b) := ⟨HO3.1.kept B4, HO3.2.kept B4⟩
  have HL4 := HL3.trans (B4.mono HL3.size)
  try go_wp2_with fail
  refine hKK.out _ _ ?_ (fun h4 => ?_)
  · (try dsimp only)
    assumption
  clear hKK KK
  try simp only [Act.put, List.setIfInBounds_toArray, List.set_cons_zero, List.set_cons_succ]
  refine wpAnyH_ready (rs := [3]) (by kernel_rfl) (by simp) ?_
  refine AllReadyH.cons (o := ?_) ?_ (fun KK hKK => ?_) AllReadyH.nil
  rotate_left
  · simp only [List.getElem?_toArray, List.getElem?_cons_zero, List.getElem?_cons_succ]
    rfl
  go_simp
  go_at_call 17
  refine (HTB.out _).mono ?_
  rintro e y5 ⟨rfl, B5⟩
  have HO5 : Obj y5 w.heap.size 26 (cellsN k) ∧ Obj y5 (w.heap.size + 1) 26 (cellsN b) := ⟨HO4.1.kept B5, HO4.2.kept B5⟩
  have HL5 := HL4.trans (B5.mono HL4.size)
  try go_wp2_with fail
  refine hKK.out _ _ ?_ (fun h5 => ?_)
  · (try dsimp only)
    assumption
  clear hKK KK
  try simp only [Act.put, List.setIfInBounds_toArray, List.set_cons_zero, List.set_cons_succ]
  refine wpAnyH_ready (rs := [4]) (by kernel_rfl) (by simp) ?_
  refine AllReadyH.cons (o := ?_) ?_ (fun KK hKK => ?_) AllReadyH.nil
  rotate_left
  · simp only [List.getElem?_toArray, List.getElem?_cons_zero, List.getElem?_cons_succ]
    rfl
  go_simp
  go_at_call 16
  refine (HKY.out _).mono ?_
  rintro e y6 ⟨rfl, B6⟩
  have HO6 : Obj y6 w.heap.size 26 (cellsN k) ∧ Obj y6 (w.heap.size + 1) 26 (cellsN b) := ⟨HO5.1.kept B6, HO5.2.kept B6⟩
  have HL6 := HL5.trans (B6.mono HL5.size)
  try go_wp2_with fail
  refine hKK.out _ _ ?_ (fun h6 => ?_)
  · (try dsimp only)
    assumption
  clear hKK KK
  try simp only [Act.put, List.setIfInBounds_toArray, List.set_cons_zero, List.set_cons_succ]
  refine wpAnyH_take (i := 5) (oi := ?_) (v := ?_) ?_ ?_ ?_ ?_ ?_ ?_ (by assumption) ?_
  rotate_left 2
  · simp only [List.getElem?_toArray, List.getElem?_cons_zero, List.getElem?_cons_succ]
    rfl
  · kernel_rfl
  · kernel_rfl
  · kernel_rfl
  · exact fun _ _ _ h => h
  · refine Or.inl ⟨by rfl, ?_⟩
    intro w hSw
    (try dsimp only at hSw)
    go_simp
    all_goals with_reducible rfl
  simp only [Act.put, List.setIfInBounds_toArray, List.set_cons_zero, List.set_cons_succ]
  refine wpAnyH_take (i := 6) (oi := ?_) (v := ?_) ?_ ?_ ?_ ?_ ?_ ?_ (by assumption) ?_
  rotate_left 2
  · simp only [List.getElem?_toArray, List.getElem?_cons_zero, List.getElem?_cons_succ]
    rfl
  · kernel_rfl
  · kernel_rfl
  · kernel_rfl
  · exact fun _ _ _ h => h
  · refine Or.inl ⟨by rfl, ?_⟩
    intro w hSw
    (try dsimp only at hSw)
    go_simp
    all_goals with_reducible rfl
  simp only [Act.put, List.setIfInBounds_toArray, List.set_cons_zero, List.set_cons_succ]
  refine wpAnyH_take (i := 7) (oi := ?_) (v := ?_) ?_ ?_ ?_ ?_ ?_ ?_ (by assumption) ?_
  rotate_left 2
  · simp only [List.getElem?_toArray, List.getElem?_cons_zero, List.getElem?_cons_succ]
    rfl
  · kernel_rfl
  · kernel_rfl
  · kernel_rfl
  · exact fun _ _ _ h => h
  · refine yieldsIf_load_row (g := w.heap.size) (t := 26) (cs := cellsN k) (ty := 26) (x := (.tmp 2)) ?_ ?_ ?_ ?_ Try.underlying26 rfl HIK.out
    · rfl
    · rfl
    · rfl
    · exact fun w hSw => hSw.1
  simp only [Act.put, List.setIfInBounds_toArray, List.set_cons_zero, List.set_cons_succ]
  refine wpAnyH_take (i := 8) (oi := ?_) (v := ?_) ?_ ?_ ?_ ?_ ?_ ?_ (by assumption) ?_
  rotate_left 2
  · simp only [List.getElem?_toArray, List.getElem?_cons_zero, List.getElem?_cons_succ]
    rfl
  · kernel_rfl
  · kernel_rfl
  · kernel_rfl
  · exact fun _ _ _ h => h
  · refine yieldsIf_load_row (g := (w.heap.size + 1)) (t := 26) (cs := cellsN b) (ty := 26) (x := (.tmp 3)) ?_ ?_ ?_ ?_ Try.underlying26 rfl HIB.out
    · rfl
    · rfl
    · rfl
    · exact fun w hSw => hSw.2
  simp only [Act.put, List.setIfInBounds_toArray, List.set_cons_zero, List.set_cons_succ]
  refine wpAnyH_take (i := 10) (oi := ?_) (v := ?_) ?_ ?_ ?_ ?_ ?_ ?_ (by assumption) ?_
  rotate_left 2
  · simp only [List.getElem?_toArray, List.getElem?_cons_zero, List.getElem?_cons_succ]
    rfl
  · kernel_rfl
  · kernel_rfl
  · kernel_rfl
  · exact fun _ _ _ h => h
  · refine yieldsIf_load_row (g := w.heap.size) (t := 26) (cs := cellsN k) (ty := 26) (x := (.tmp 2)) ?_ ?_ ?_ ?_ Try.underlying26 rfl HIK.out
    · rfl
    · rfl
    · rfl
    · exact fun w hSw => hSw.1
  simp only [Act.put, List.setIfInBounds_toArray, List.set_cons_zero, List.set_cons_succ]
  refine wpAnyH_take (i := 11) (oi := ?_) (v := ?_) ?_ ?_ ?_ ?_ ?_ ?_ (by assumption) ?_
  rotate_left 2
  · simp only [List.getElem?_toArray, List.getElem?_cons_zero, List.getElem?_cons_succ]
    rfl
  · kernel_rfl
  · kernel_rfl
  · kernel_rfl
  · exact fun _ _ _ h => h
  · refine yieldsIf_load_row (g := (w.heap.size + 1)) (t := 26) (cs := cellsN b) (ty := 26) (x := (.tmp 3)) ?_ ?_ ?_ ?_ Try.underlying26 rfl HIB.out
    · rfl
    · rfl
    · rfl
    · exact fun w hSw => hSw.2
  simp only [Act.put, List.setIfInBounds_toArray, List.set_cons_zero, List.set_cons_succ]
  refine wpAnyH_ready (rs := [9]) (by kernel_rfl) (by simp) ?_
  refine AllReadyH.cons (o := ?_) ?_ (fun KK hKK => ?_) AllReadyH.nil
  rotate_left
  · simp only [List.getElem?_toArray, List.getElem?_cons_zero, List.getElem?_cons_succ]
    rfl
  go_simp
  go_at_call 18
  refine (HEA.out _).mono ?_
  rintro e y7 ⟨rfl, B7⟩
  have HO7 : Obj y7 w.heap.size 26 (cellsN k) ∧ Obj y7 (w.heap.size + 1) 26 (cellsN b) := ⟨HO6.1.kept B7, HO6.2.kept B7⟩
  have HL7 := HL6.trans (B7.mono HL6.size)
  try go_wp2_with fail
  refine hKK.out _ _ ?_ (fun h7 => ?_)
  · (try dsimp only)
    assumption
  clear hKK KK
  try simp only [Act.put, List.setIfInBounds_toArray, List.set_cons_zero, List.set_cons_succ]
  refine wpAnyH_ready (rs := [12]) (by kernel_rfl) (by simp) ?_
  refine AllReadyH.cons (o := ?_) ?_ (fun KK hKK => ?_) AllReadyH.nil
  rotate_left
  · simp only [List.getElem?_toArray, List.getElem?_cons_zero, List.getElem?_cons_succ]
    rfl
  go_simp
  go_at_call 19
  refine (HER.out _).mono ?_
  rintro e y9 ⟨rfl, B9⟩
  have HO9 : Obj y9 w.heap.size 26 (cellsN k) ∧ Obj y9 (w.heap.size + 1) 26 (cellsN b) := ⟨HO7.1.kept B9, HO7.2.kept B9⟩
  have HL9 := HL7.trans (B9.mono HL7.size)
  try go_wp2_with fail
  refine hKK.out _ _ ?_ (fun h9 => ?_)
  · (try dsimp only)
    assumption
  clear hKK KK
  try simp only [Act.put, List.setIfInBounds_toArray, List.set_cons_zero, List.set_cons_succ]
  refine wpAnyH_take (i := 13) (oi := ?_) (v := ?_) ?_ ?_ ?_ ?_ ?_ ?_ (by assumption) ?_
  rotate_left 2
  · simp only [List.getElem?_toArray, List.getElem?_cons_zero, List.getElem?_cons_succ]
    rfl
  · kernel_rfl
  · kernel_rfl
  · kernel_rfl
  · exact fun _ _ _ h => h
  · refine Or.inl ⟨by rfl, ?_⟩
    intro w hSw
    (try dsimp only at hSw)
    go_simp
    all_goals with_reducible rfl
  simp only [Act.put, List.setIfInBounds_toArray, List.set_cons_zero, List.set_cons_succ]
  refine wpAnyH_take (i := 14) (oi := ?_) (v := ?_) ?_ ?_ ?_ ?_ ?_ ?_ (by assumption) ?_
  rotate_left 2
  · simp only [List.getElem?_toArray, List.getElem?_cons_zero, List.getElem?_cons_succ]
    rfl
  · kernel_rfl
  · kernel_rfl
  · kernel_rfl
  · exact fun _ _ _ h => h
  · refine Or.inl ⟨by rfl, ?_⟩
    intro w hSw
    (try dsimp only at hSw)
    go_simp
    all_goals with_reducible rfl
  simp only [Act.put, List.setIfInBounds_toArray, List.set_cons_zero, List.set_cons_succ]
  refine wpAnyH_take (i := 15) (oi := ?_) (v := ?_) ?_ ?_ ?_ ?_ ?_ ?_ (by assumption) ?_
  rotate_left 2
  · simp only [List.getElem?_toArray, List.getElem?_cons_zero, List.getElem?_cons_succ]
    rfl
  · kernel_rfl
  · kernel_rfl
  · kernel_rfl
  · exact fun _ _ _ h => h
  · refine Or.inl ⟨by rfl, ?_⟩
    intro w hSw
    (try dsimp only at hSw)
    go_simp
    all_goals with_reducible rfl
  simp only [Act.put, List.setIfInBounds_toArray, List.set_cons_zero, List.set_cons_succ]
  refine wpAnyH_done (by kernel_rfl) ?_ _
  go_wp2
  go_ret
  exact ⟨rfl, HL9⟩

set_option maxRecDepth 100000 in
set_option maxHeartbeats 1000000 in
theorem aesStreams_small (k f : List Nat) (A : Option Addr) (n c : Nat) (text : List Nat) (w : World) (hk : k.length = 16) (hf : f.length = 16) (ht : text.length = n) (qk : Ae.bytes k) (qf : Ae.bytes f) (qt : Ae.bytes text) (hr : Rd w A text) (hc : n ≤ c) (h3 : n ≤ 300) :
    Calls Try.prog 5 #[.agg (cellsN k), .agg (cellsN f), .slice A n c] w fun e w' => e = .returned (.bool true) ∧ Below w.heap.size w w' := by
  have HIK := Lib.hid (size16 hk)
  have HIF := Lib.hid (size16 hf)
  have HK := Lib.hid hk
  have HF := Lib.hid hf
  have HN := Lib.hid ht
  have HR := Lib.hid hr
  have h3i : decide (300 < (n : Int)) = false := by simp; omega
  have O0 : Obj ((w.alloc (.cells (cellsN k) 26)).alloc (.cells (cellsN f) 26)) w.heap.size 26 (cellsN k) := (Obj.new w _ _).alloc _
  have O1 : Obj ((w.alloc (.cells (cellsN k) 26)).alloc (.cells (cellsN f) 26)) (w.heap.size + 1) 26 (cellsN f) := new2 w _ _ _
  have L0 : Below w.heap.size w ((w.alloc (.cells (cellsN k) 26)).alloc (.cells (cellsN f) 26)) := ((Below.refl _ w).alloc (Nat.le_refl _) _).alloc (by simp) _
  have P0 := Lib.hid O0
  have P1 := Lib.hid O1
  have PL := Lib.hid L0
  have hst : ∀ (W : World) (h1 : Rd W A text),
      Calls Try.prog 21 #[.agg (cellsN k), .agg (cellsN f), .slice A n c] W fun e w' => ∃ A' c', e = .returned (.slice A' n c') ∧ Rd w' A' (Ae.stream (Ae.sched k) f text) ∧ Below W.heap.size W w' := by
    intro W h1
    rw [← HN.out]
    exact (stream_any k f A c text W HK.out HF.out qk qf h1 qt (by rw [HN.out]; omega)).mono fun e w' ⟨v, he, hv, hb⟩ => by
      obtain ⟨A', c', rfl, _, h4, h5⟩ := own_rd hv
      exact ⟨A', c', he, h5, hb⟩
  have hrt : ∀ (W : World) (h1 : Rd W A text),
      Calls Try.prog 22 #[.agg (cellsN k), .agg (cellsN f), .slice A n c] W fun e w' => ∃ A' c', e = .returned (.slice A' n c') ∧ Rd w' A' (Ae.stream (Ae.sched k) f text) ∧ Below W.heap.size W w' := by
    intro W h1
    rw [← HN.out]
    exact (refStream_any k f A c text W HK.out HF.out qk qf h1 qt (by rw [HN.out]; omega)).mono fun e w' ⟨v, he, hv, hb⟩ => by
      obtain ⟨A', c', rfl, _, h4, h5⟩ := own_rd hv
      exact ⟨A', c', he, h5, hb⟩
  have hsm : ∀ (B D : Option Addr) (d d' : Nat) (W : World) (h1 : Rd W B (Ae.stream (Ae.sched k) f text)) (h2 : Rd W D (Ae.stream (Ae.sched k) f text)),
      Calls Try.prog 20 #[.slice B n d, .slice D n d'] W fun e w' => e = .returned (.bool true) ∧ Below W.heap.size W w' := by
    intro B D d d' W h1 h2
    have hl := Ae.stream_len (Ae.sched k) f text
    have h := same_true B D d d' (Ae.stream (Ae.sched k) f text) W h1 h2 (by rw [hl, HN.out]; omega)
    rw [hl, HN.out] at h
    exact h.mono fun e w' ⟨he, q, hq⟩ => ⟨he, below_drewN' hq⟩
  have HST := Lib.hid hst
  have HRT := Lib.hid hrt
  have HSM := Lib.hid hsm
  clear hst hsm hrt hk hf ht hr h3 O0 O1 L0
  generalize Ae.stream (Ae.sched k) f text = C at *
  go_enter Try.func5, Try.ntmps5
  go_wp2_with fail
  refine (alive_true _).mono ?_
  rintro e w1 ⟨rfl, hb1⟩
  have HO : Obj w1 w.heap.size 26 (cellsN k) ∧ Obj w1 (w.heap.size + 1) 26 (cellsN f) := ⟨P0.out.kept hb1, P1.out.kept hb1⟩
  have HL := PL.out.trans (hb1.mono PL.out.size)
  have HR1 := HR.out.below HL
  clear P0 P1 PL hb1
  go_wp2_with fail
  have HO3 : Obj w1.drew w.heap.size 26 (cellsN k) ∧ Obj w1.drew (w.heap.size + 1) 26 (cellsN f) := ⟨HO.1.drew, HO.2.drew⟩
  have HL3 := HL.drew
  have HR3 : Rd w1.drew A text := HR1
  refine wp_region_held_drew (S := (fun w' => Obj w' w.heap.size 26 (cellsN k) ∧ Obj w' (w.heap.size + 1) 26 (cellsN f))) (by kernel_rfl) HO3 (fun hHeld => ?_)
  refine wpAnyH_take (i := 0) (oi := ?_) (v := ?_) ?_ ?_ ?_ ?_ ?_ ?_ (by assumption) ?_
  rotate_left 2
  · simp only [List.getElem?_toArray, List.getElem?_cons_zero, List.getElem?_cons_succ]
    rfl
  · kernel_rfl
  · kernel_rfl
  · kernel_rfl
  · exact fun _ _ _ h => h
  · refine Or.inl ⟨by rfl, ?_⟩
    intro w hSw
    (try dsimp only at hSw)
    go_simp
    all_goals with_reducible rfl
  simp only [Act.put, List.setIfInBounds_toArray, List.set_cons_zero, List.set_cons_succ]
  refine wpAnyH_take (i := 1) (oi := ?_) (v := ?_) ?_ ?_ ?_ ?_ ?_ ?_ (by assumption) ?_
  rotate_left 2
  · simp only [List.getElem?_toArray, List.getElem?_cons_zero, List.getElem?_cons_succ]
    rfl
  · kernel_rfl
  · kernel_rfl
  · kernel_rfl
  · exact fun _ _ _ h => h
  · refine Or.inl ⟨by rfl, ?_⟩
    intro w hSw
    (try dsimp only at hSw)
    go_simp
    all_goals with_reducible rfl
  simp only [Act.put, List.setIfInBounds_toArray, List.set_cons_zero, List.set_cons_succ]
  refine wpAnyH_take (i := 2) (oi := ?_) (v := ?_) ?_ ?_ ?_ ?_ ?_ ?_ (by assumption) ?_
  rotate_left 2
  · simp only [List.getElem?_toArray, List.getElem?_cons_zero, List.getElem?_cons_succ]
    rfl
  · kernel_rfl
  · kernel_rfl
  · kernel_rfl
  · exact fun _ _ _ h => h
  · refine Or.inl ⟨by rfl, ?_⟩
    intro w hSw
    (try dsimp only at hSw)
    go_simp
    all_goals with_reducible rfl
  simp only [Act.put, List.setIfInBounds_toArray, List.set_cons_zero, List.set_cons_succ]
  refine wpAnyH_take (i := 3) (oi := ?_) (v := ?_) ?_ ?_ ?_ ?_ ?_ ?_ (by assumption) ?_
  rotate_left 2
  · simp only [List.getElem?_toArray, List.getElem?_cons_zero, List.getElem?_cons_succ]
    rfl
  · kernel_rfl
  · kernel_rfl
  · kernel_rfl
  · exact fun _ _ _ h => h
  · refine Or.inl ⟨by rfl, ?_⟩
    intro w hSw
    (try dsimp only at hSw)
    go_simp
    all_goals with_reducible rfl
  simp only [Act.put, List.setIfInBounds_toArray, List.set_cons_zero, List.set_cons_succ]
  refine wpAnyH_take (i := 4) (oi := ?_) (v := ?_) ?_ ?_ ?_ ?_ ?_ ?_ (by assumption) ?_
  rotate_left 2
  · simp only [List.getElem?_toArray, List.getElem?_cons_zero, List.getElem?_cons_succ]
    rfl
  · kernel_rfl
  · kernel_rfl
  · kernel_rfl
  · exact fun _ _ _ h => h
  · refine yieldsIf_load_row (g := w.heap.size) (t := 26) (cs := cellsN k) (ty := 26) (x := (.tmp 3)) ?_ ?_ ?_ ?_ Try.underlying26 rfl HIK.out
    · rfl
    · rfl
    · rfl
    · exact fun w hSw => hSw.1
  simp only [Act.put, List.setIfInBounds_toArray, List.set_cons_zero, List.set_cons_succ]
  refine wpAnyH_take (i := 5) (oi := ?_) (v := ?_) ?_ ?_ ?_ ?_ ?_ ?_ (by assumption) ?_
  rotate_left 2
  · simp only [List.getElem?_toArray, List.getElem?_cons_zero, List.getElem?_cons_succ]
    rfl
  · kernel_rfl
  · kernel_rfl
  · kernel_rfl
  · exact fun _ _ _ h => h
  · refine yieldsIf_load_row (g := (w.heap.size + 1)) (t := 26) (cs := cellsN f) (ty := 26) (x := (.tmp 4)) ?_ ?_ ?_ ?_ Try.underlying26 rfl HIF.out
    · rfl
    · rfl
    · rfl
    · exact fun w hSw => hSw.2
  simp only [Act.put, List.setIfInBounds_toArray, List.set_cons_zero, List.set_cons_succ]
  refine wpAnyH_take (i := 6) (oi := ?_) (v := ?_) ?_ ?_ ?_ ?_ ?_ ?_ (by assumption) ?_
  rotate_left 2
  · simp only [List.getElem?_toArray, List.getElem?_cons_zero, List.getElem?_cons_succ]
    rfl
  · kernel_rfl
  · kernel_rfl
  · kernel_rfl
  · exact fun _ _ _ h => h
  · refine Or.inl ⟨by rfl, ?_⟩
    intro w hSw
    (try dsimp only at hSw)
    go_simp
    all_goals with_reducible rfl
  simp only [Act.put, List.setIfInBounds_toArray, List.set_cons_zero, List.set_cons_succ]
  refine wpAnyH_take (i := 8) (oi := ?_) (v := ?_) ?_ ?_ ?_ ?_ ?_ ?_ (by assumption) ?_
  rotate_left 2
  · simp only [List.getElem?_toArray, List.getElem?_cons_zero, List.getElem?_cons_succ]
    rfl
  · kernel_rfl
  · kernel_rfl
  · kernel_rfl
  · exact fun _ _ _ h => h
  · refine yieldsIf_load_row (g := w.heap.size) (t := 26) (cs := cellsN k) (ty := 26) (x := (.tmp 3)) ?_ ?_ ?_ ?_ Try.underlying26 rfl HIK.out
    · rfl
    · rfl
    · rfl
    · exact fun w hSw => hSw.1
  simp only [Act.put, List.setIfInBounds_toArray, List.set_cons_zero, List.set_cons_succ]
  refine wpAnyH_take (i := 9) (oi := ?_) (v := ?_) ?_ ?_ ?_ ?_ ?_ ?_ (by assumption) ?_
  rotate_left 2
  · simp only [List.getElem?_toArray, List.getElem?_cons_zero, List.getElem?_cons_succ]
    rfl
  · kernel_rfl
  · kernel_rfl
  · kernel_rfl
  · exact fun _ _ _ h => h
  · refine yieldsIf_load_row (g := (w.heap.size + 1)) (t := 26) (cs := cellsN f) (ty := 26) (x := (.tmp 4)) ?_ ?_ ?_ ?_ Try.underlying26 rfl HIF.out
    · rfl
    · rfl
    · rfl
    · exact fun w hSw => hSw.2
  simp only [Act.put, List.setIfInBounds_toArray, List.set_cons_zero, List.set_cons_succ]
  refine wpAnyH_take (i := 10) (oi := ?_) (v := ?_) ?_ ?_ ?_ ?_ ?_ ?_ (by assumption) ?_
  rotate_left 2
  · simp only [List.getElem?_toArray, List.getElem?_cons_zero, List.getElem?_cons_succ]
    rfl
  · kernel_rfl
  · kernel_rfl
  · kernel_rfl
  · exact fun _ _ _ h => h
  · refine Or.inl ⟨by rfl, ?_⟩
    intro w hSw
    (try dsimp only at hSw)
    go_simp
    all_goals with_reducible rfl
  simp only [Act.put, List.setIfInBounds_toArray, List.set_cons_zero, List.set_cons_succ]
  refine wpAnyH_ready (rs := [7]) (by kernel_rfl) (by simp) ?_
  refine AllReadyH.cons (o := ?_) ?_ (fun KK hKK => ?_) AllReadyH.nil
  rotate_left
  · simp only [List.getElem?_toArray, List.getElem?_cons_zero, List.getElem?_cons_succ]
    rfl
  go_simp
  go_at_call 21
  refine (HST.out _ HR3).mono ?_
  rintro e y4 ⟨A4, c4, rfl, HD4, B4⟩
  have HO4 : Obj y4 w.heap.size 26 (cellsN k) ∧ Obj y4 (w.heap.size + 1) 26 (cellsN f) := ⟨HO3.1.kept B4, HO3.2.kept B4⟩
  have HL4 := HL3.trans (B4.mono HL3.size)
  have HR4 := HR3.below B4
  try go_wp2_with fail
  refine hKK.out _ _ ?_ (fun h4 => ?_)
  · (try dsimp only)
    assumption
  clear hKK KK
  try simp only [Act.put, List.setIfInBounds_toArray, List.set_cons_zero, List.set_cons_succ]
  refine wpAnyH_ready (rs := [11]) (by kernel_rfl) (by simp) ?_
  refine AllReadyH.cons (o := ?_) ?_ (fun KK hKK => ?_) AllReadyH.nil
  rotate_left
  · simp only [List.getElem?_toArray, List.getElem?_cons_zero, List.getElem?_cons_succ]
    rfl
  go_simp
  go_at_call 22
  refine (HRT.out _ HR4).mono ?_
  rintro e y5 ⟨A5, c5, rfl, HE5, B5⟩
  have HD5 := HD4.below B5
  have HO5 : Obj y5 w.heap.size 26 (cellsN k) ∧ Obj y5 (w.heap.size + 1) 26 (cellsN f) := ⟨HO4.1.kept B5, HO4.2.kept B5⟩
  have HL5 := HL4.trans (B5.mono HL4.size)
  try go_wp2_with fail
  refine hKK.out _ _ ?_ (fun h5 => ?_)
  · (try dsimp only)
    assumption
  clear hKK KK
  try simp only [Act.put, List.setIfInBounds_toArray, List.set_cons_zero, List.set_cons_succ]
  refine wpAnyH_ready (rs := [12]) (by kernel_rfl) (by simp) ?_
  refine AllReadyH.cons (o := ?_) ?_ (fun KK hKK => ?_) AllReadyH.nil
  rotate_left
  · simp only [List.getElem?_toArray, List.getElem?_cons_zero, List.getElem?_cons_succ]
    rfl
  go_simp
  go_at_call 20
  refine (HSM.out A4 A5 c4 c5 _ HD5 HE5).mono ?_
  rintro e y9 ⟨rfl, B9⟩
  have HO9 : Obj y9 w.heap.size 26 (cellsN k) ∧ Obj y9 (w.heap.size + 1) 26 (cellsN f) := ⟨HO5.1.kept B9, HO5.2.kept B9⟩
  have HL9 := HL5.trans (B9.mono HL5.size)
  try go_wp2_with fail
  refine hKK.out _ _ ?_ (fun h9 => ?_)
  · (try dsimp only)
    assumption
  clear hKK KK
  try simp only [Act.put, List.setIfInBounds_toArray, List.set_cons_zero, List.set_cons_succ]
  refine wpAnyH_take (i := 13) (oi := ?_) (v := ?_) ?_ ?_ ?_ ?_ ?_ ?_ (by assumption) ?_
  rotate_left 2
  · simp only [List.getElem?_toArray, List.getElem?_cons_zero, List.getElem?_cons_succ]
    rfl
  · kernel_rfl
  · kernel_rfl
  · kernel_rfl
  · exact fun _ _ _ h => h
  · refine Or.inl ⟨by rfl, ?_⟩
    intro w hSw
    (try dsimp only at hSw)
    go_simp
    all_goals with_reducible rfl
  simp only [Act.put, List.setIfInBounds_toArray, List.set_cons_zero, List.set_cons_succ]
  refine wpAnyH_take (i := 14) (oi := ?_) (v := ?_) ?_ ?_ ?_ ?_ ?_ ?_ (by assumption) ?_
  rotate_left 2
  · simp only [List.getElem?_toArray, List.getElem?_cons_zero, List.getElem?_cons_succ]
    rfl
  · kernel_rfl
  · kernel_rfl
  · kernel_rfl
  · exact fun _ _ _ h => h
  · refine Or.inl ⟨by rfl, ?_⟩
    intro w hSw
    (try dsimp only at hSw)
    go_simp
    all_goals with_reducible rfl
  simp only [Act.put, List.setIfInBounds_toArray, List.set_cons_zero, List.set_cons_succ]
  refine wpAnyH_done (by kernel_rfl) ?_ _
  go_wp2
  go_ret
  exact ⟨rfl, HL9⟩

set_option maxRecDepth 100000 in
set_option maxHeartbeats 1000000 in
theorem aesStreams_walk (k f : List Nat) (A : Option Addr) (n c : Nat) (z : List Int) (w : World) (hk : k.length = 16) (qk : Ae.bytes k) (hf : f.length = 16) (qf : Ae.bytes f) (hz : Ints .u8 w A n z) (hx : n ≤ c ∧ c ≤ maxLen) :
    Calls Try.prog 5 #[.agg (cellsN k), .agg (cellsN f), .slice A n c] w fun e w' => e = .returned (.bool true) ∧ Below w.heap.size w w' := by
  obtain ⟨text, ht, qt, hr⟩ := hz.rd
  by_cases hs : n ≤ 300
  · exact aesStreams_small k f A n c text w hk hf ht qk qf qt hr hx.1 hs
  · have hbig : decide (300 < (n : Int)) = true := by simp; omega
    have L0 : Below w.heap.size w ((w.alloc (.cells (cellsN k) 26)).alloc (.cells (cellsN f) 26)) := ((Below.refl _ w).alloc (Nat.le_refl _) _).alloc (by simp) _
    have PL := Lib.hid L0
    clear hs hk hf qk qf hz ht qt hr L0 hx
    go_enter Try.func5, Try.ntmps5
    go_wp2_with fail
    refine (alive_true _).mono ?_
    rintro e w1 ⟨rfl, hb1⟩
    have HA := PL.out.trans (hb1.mono PL.out.size)
    clear hb1 PL
    go_wp2_with fail
    refine wp_region_held_drew (S := (fun _ => True)) (by kernel_rfl) trivial (fun hHeld => ?_)
    refine wpAnyH_take (i := 0) (oi := ?_) (v := ?_) ?_ ?_ ?_ ?_ ?_ ?_ (by assumption) ?_
    rotate_left 2
    · simp only [List.getElem?_toArray, List.getElem?_cons_zero, List.getElem?_cons_succ]
      rfl
    · kernel_rfl
    · kernel_rfl
    · kernel_rfl
    · exact fun _ _ _ h => h
    · refine Or.inl ⟨by rfl, ?_⟩
      intro w hSw
      (try dsimp only at hSw)
      go_simp
      all_goals with_reducible rfl
    simp only [Act.put, List.setIfInBounds_toArray, List.set_cons_zero, List.set_cons_succ]
    refine wpAnyH_take (i := 1) (oi := ?_) (v := ?_) ?_ ?_ ?_ ?_ ?_ ?_ (by assumption) ?_
    rotate_left 2
    · simp only [List.getElem?_toArray, List.getElem?_cons_zero, List.getElem?_cons_succ]
      rfl
    · kernel_rfl
    · kernel_rfl
    · kernel_rfl
    · exact fun _ _ _ h => h
    · refine Or.inl ⟨by rfl, ?_⟩
      intro w hSw
      (try dsimp only at hSw)
      go_simp
      all_goals with_reducible rfl
    simp only [Act.put, List.setIfInBounds_toArray, List.set_cons_zero, List.set_cons_succ]
    refine wpAnyH_take (i := 2) (oi := ?_) (v := ?_) ?_ ?_ ?_ ?_ ?_ ?_ (by assumption) ?_
    rotate_left 2
    · simp only [List.getElem?_toArray, List.getElem?_cons_zero, List.getElem?_cons_succ]
      rfl
    · kernel_rfl
    · kernel_rfl
    · kernel_rfl
    · exact fun _ _ _ h => h
    · refine Or.inl ⟨by rfl, ?_⟩
      intro w hSw
      (try dsimp only at hSw)
      go_simp
      all_goals with_reducible rfl
    simp only [Act.put, List.setIfInBounds_toArray, List.set_cons_zero, List.set_cons_succ]
    refine wpAnyH_take (i := 3) (oi := ?_) (v := ?_) ?_ ?_ ?_ ?_ ?_ ?_ (by assumption) ?_
    rotate_left 2
    · simp only [List.getElem?_toArray, List.getElem?_cons_zero, List.getElem?_cons_succ]
      rfl
    · kernel_rfl
    · kernel_rfl
    · kernel_rfl
    · exact fun _ _ _ h => h
    · refine Or.inl ⟨by rfl, ?_⟩
      intro w hSw
      (try dsimp only at hSw)
      go_simp
      all_goals with_reducible rfl
    simp only [Act.put, List.setIfInBounds_toArray, List.set_cons_zero, List.set_cons_succ]
    refine wpAnyH_take (i := 4) (oi := ?_) (v := undef) ?_ ?_ ?_ ?_ ?_ ?_ (by assumption) ?_
    rotate_left 1
    · simp only [List.getElem?_toArray, List.getElem?_cons_zero, List.getElem?_cons_succ]
      rfl
    · kernel_rfl
    · kernel_rfl
    · kernel_rfl
    · exact fun _ _ _ h => h
    · exact Or.inr ⟨by rfl, rfl⟩
    simp only [Act.put, List.setIfInBounds_toArray, List.set_cons_zero, List.set_cons_succ]
    refine wpAnyH_take (i := 5) (oi := ?_) (v := undef) ?_ ?_ ?_ ?_ ?_ ?_ (by assumption) ?_
    rotate_left 1
    · simp only [List.getElem?_toArray, List.getElem?_cons_zero, List.getElem?_cons_succ]
      rfl
    · kernel_rfl
    · kernel_rfl
    · kernel_rfl
    · exact fun _ _ _ h => h
    · exact Or.inr ⟨by rfl, rfl⟩
    simp only [Act.put, List.setIfInBounds_toArray, List.set_cons_zero, List.set_cons_succ]
    refine wpAnyH_take (i := 6) (oi := ?_) (v := undef) ?_ ?_ ?_ ?_ ?_ ?_ (by assumption) ?_
    rotate_left 1
    · simp only [List.getElem?_toArray, List.getElem?_cons_zero, List.getElem?_cons_succ]
      rfl
    · kernel_rfl
    · kernel_rfl
    · kernel_rfl
    · exact fun _ _ _ h => h
    · exact Or.inr ⟨by rfl, rfl⟩
    simp only [Act.put, List.setIfInBounds_toArray, List.set_cons_zero, List.set_cons_succ]
    refine wpAnyH_take (i := 7) (oi := ?_) (v := undef) ?_ ?_ ?_ ?_ ?_ ?_ (by assumption) ?_
    rotate_left 1
    · simp only [List.getElem?_toArray, List.getElem?_cons_zero, List.getElem?_cons_succ]
      rfl
    · kernel_rfl
    · kernel_rfl
    · kernel_rfl
    · exact fun _ _ _ h => h
    · exact Or.inr ⟨by rfl, rfl⟩
    simp only [Act.put, List.setIfInBounds_toArray, List.set_cons_zero, List.set_cons_succ]
    refine wpAnyH_take (i := 8) (oi := ?_) (v := undef) ?_ ?_ ?_ ?_ ?_ ?_ (by assumption) ?_
    rotate_left 1
    · simp only [List.getElem?_toArray, List.getElem?_cons_zero, List.getElem?_cons_succ]
      rfl
    · kernel_rfl
    · kernel_rfl
    · kernel_rfl
    · exact fun _ _ _ h => h
    · exact Or.inr ⟨by rfl, rfl⟩
    simp only [Act.put, List.setIfInBounds_toArray, List.set_cons_zero, List.set_cons_succ]
    refine wpAnyH_take (i := 9) (oi := ?_) (v := undef) ?_ ?_ ?_ ?_ ?_ ?_ (by assumption) ?_
    rotate_left 1
    · simp only [List.getElem?_toArray, List.getElem?_cons_zero, List.getElem?_cons_succ]
      rfl
    · kernel_rfl
    · kernel_rfl
    · kernel_rfl
    · exact fun _ _ _ h => h
    · exact Or.inr ⟨by rfl, rfl⟩
    simp only [Act.put, List.setIfInBounds_toArray, List.set_cons_zero, List.set_cons_succ]
    refine wpAnyH_take (i := 10) (oi := ?_) (v := undef) ?_ ?_ ?_ ?_ ?_ ?_ (by assumption) ?_
    rotate_left 1
    · simp only [List.getElem?_toArray, List.getElem?_cons_zero, List.getElem?_cons_succ]
      rfl
    · kernel_rfl
    · kernel_rfl
    · kernel_rfl
    · exact fun _ _ _ h => h
    · exact Or.inr ⟨by rfl, rfl⟩
    simp only [Act.put, List.setIfInBounds_toArray, List.set_cons_zero, List.set_cons_succ]
    refine wpAnyH_take (i := 11) (oi := ?_) (v := undef) ?_ ?_ ?_ ?_ ?_ ?_ (by assumption) ?_
    rotate_left 1
    · simp only [List.getElem?_toArray, List.getElem?_cons_zero, List.getElem?_cons_succ]
      rfl
    · kernel_rfl
    · kernel_rfl
    · kernel_rfl
    · exact fun _ _ _ h => h
    · exact Or.inr ⟨by rfl, rfl⟩
    simp only [Act.put, List.setIfInBounds_toArray, List.set_cons_zero, List.set_cons_succ]
    refine wpAnyH_take (i := 12) (oi := ?_) (v := undef) ?_ ?_ ?_ ?_ ?_ ?_ (by assumption) ?_
    rotate_left 1
    · simp only [List.getElem?_toArray, List.getElem?_cons_zero, List.getElem?_cons_succ]
      rfl
    · kernel_rfl
    · kernel_rfl
    · kernel_rfl
    · exact fun _ _ _ h => h
    · exact Or.inr ⟨by rfl, rfl⟩
    simp only [Act.put, List.setIfInBounds_toArray, List.set_cons_zero, List.set_cons_succ]
    refine wpAnyH_take (i := 13) (oi := ?_) (v := ?_) ?_ ?_ ?_ ?_ ?_ ?_ (by assumption) ?_
    rotate_left 2
    · simp only [List.getElem?_toArray, List.getElem?_cons_zero, List.getElem?_cons_succ]
      rfl
    · kernel_rfl
    · kernel_rfl
    · kernel_rfl
    · exact fun _ _ _ h => h
    · refine Or.inl ⟨by rfl, ?_⟩
      intro w hSw
      (try dsimp only at hSw)
      go_simp
      all_goals with_reducible rfl
    simp only [Act.put, List.setIfInBounds_toArray, List.set_cons_zero, List.set_cons_succ]
    refine wpAnyH_take (i := 14) (oi := ?_) (v := ?_) ?_ ?_ ?_ ?_ ?_ ?_ (by assumption) ?_
    rotate_left 2
    · simp only [List.getElem?_toArray, List.getElem?_cons_zero, List.getElem?_cons_succ]
      rfl
    · kernel_rfl
    · kernel_rfl
    · kernel_rfl
    · exact fun _ _ _ h => h
    · refine Or.inl ⟨by rfl, ?_⟩
      intro w hSw
      (try dsimp only at hSw)
      go_simp
      all_goals with_reducible rfl
    simp only [Act.put, List.setIfInBounds_toArray, List.set_cons_zero, List.set_cons_succ]
    refine wpAnyH_done (by kernel_rfl) ?_ _
    go_wp2
    go_ret
    exact ⟨rfl, HA.drew⟩

end Go.Proofs.Ytbkobmfakkbfcaa
