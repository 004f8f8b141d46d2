/- Layer 8's cipher, walked. -/
import Derived.Test.YtnphanhoakbkpaaRows
import Derived.Test.YtnphanhoakbkpaaAid
import Derived.Test.YtnphanhoakbkpaaPlainAe
import Derived.Test.YtnphanhoakbkpaaPlainAe2
import Derived.Test.YtnphanhoakbkpaaAesB
import Derived.Test.YtnphanhoakbkpaaAesBox
import Derived.Test.YtnphanhoakbkpaaAesW
import Derived.WalkKit
import Derived.Laws.BitsAllLaws
import Derived.Laws.Rows
import Derived.Laws.Tables
import Derived.WalkSpells
import Derived.WalkLawsBesides
import Derived.Deep.QuietTactic
import Derived.BigQuiet
import Derived.Handy
import Derived.Lib.Hide
import Derived.StillTailTactics
import Derived.Deep.RegionHeld3
import Derived.Deep.RegionWith
import Derived.Deep.WholeRow
import Derived.IntWalk
namespace Go.Proofs.Ytnphanhoakbkpaa
open Go.RowKit
set_option linter.unusedVariables false
set_option linter.unusedSimpArgs false

section
variable {P : Program}
/-- A whole row that lies there in every world that meets S. -/
theorem yieldsIf_load_row {ops : Array Oper} {S : World → Prop} {op : Oper} {a : Act} {ty : TypeId} {x : Operand} {g : Nat} {t : TypeId} {cs : Array Value} (hw : Region.wanted op (yielded ops a.tmps) = true) (ho : op.op = .load ty x)
    (hx : a.eval x = .pointer (some ⟨g, 0, none⟩)) {d : TypeDesc} (hS : ∀ w, S w → Obj w g t cs)
    (hu : P.underlying ty = some d) (hd : (match d with | .struct _ | .array _ _ => true | _ => false) = true) (hi : (P.info? ty).map (·.size) = some cs.size) : YieldsIf P ops S op (.agg cs) a :=
  .inl ⟨hw, fun w hw' => by
    unfold execOp
    simp only [ho, hx, Instr.loadAt, Instr.sureAddr, Sem.run_bind, Sem.run_pure, Result.andThen_ok, run_loadVar_row w g t ty cs (0, 0) d (hS w hw') hu hd hi]⟩
end
theorem shifted_len (b : List Nat) : (Ae.shifted b).length = 16 := Ae.arr_len _
theorem mixed_len (b : List Nat) : (Ae.mixed b).length = 16 := Ae.arr_len _
theorem withK_len (b w : List Nat) (r : Nat) : (Ae.withK b w r).length = 16 := Ae.arr_len _
theorem rnds_len (w b : List Nat) : ∀ n, (Ae.rnds w b n).length = 16
  | 0 => Ae.arr_len _
  | n + 1 => Ae.arr_len _

set_option maxHeartbeats 1000000 in
theorem enciphered_any (k b : List Nat) (w : World) (hk : k.length = 176) (hb : b.length = 16) (qk : Ae.bytes k) (qb : Ae.bytes b) :
    Calls Try.prog 39 #[.agg (cellsN k), .agg (cellsN b)] w fun e w' => e = .returned (.agg (cellsN (Ae.enc k b))) ∧ Below w.heap.size w w' := by
  have HB := Lib.hid hb
  have HK := Lib.hid hk
  clear hb hk
  have O0 : Obj (((w.alloc (.cells (cellsN k) 67)).alloc (.cells (cellsN b) 22)).alloc (.cells #[.int .u8 0, .int .u8 0, .int .u8 0, .int .u8 0, .int .u8 0, .int .u8 0, .int .u8 0, .int .u8 0, .int .u8 0, .int .u8 0, .int .u8 0, .int .u8 0, .int .u8 0, .int .u8 0, .int .u8 0, .int .u8 0] 22)) w.heap.size 67 (cellsN k) := ((Obj.new w _ _).alloc _).alloc _
  have O1 : Obj (((w.alloc (.cells (cellsN k) 67)).alloc (.cells (cellsN b) 22)).alloc (.cells #[.int .u8 0, .int .u8 0, .int .u8 0, .int .u8 0, .int .u8 0, .int .u8 0, .int .u8 0, .int .u8 0, .int .u8 0, .int .u8 0, .int .u8 0, .int .u8 0, .int .u8 0, .int .u8 0, .int .u8 0, .int .u8 0] 22)) (w.heap.size + 1) 22 (cellsN b) := (new2 w _ _ _).alloc _
  have O2 : Obj (((w.alloc (.cells (cellsN k) 67)).alloc (.cells (cellsN b) 22)).alloc (.cells #[.int .u8 0, .int .u8 0, .int .u8 0, .int .u8 0, .int .u8 0, .int .u8 0, .int .u8 0, .int .u8 0, .int .u8 0, .int .u8 0, .int .u8 0, .int .u8 0, .int .u8 0, .int .u8 0, .int .u8 0, .int .u8 0] 22)) (w.heap.size + 1 + 1) 22 (cellsN (List.replicate 16 0)) := new3 w _ _ _ _
  have L0 : Below w.heap.size w (((w.alloc (.cells (cellsN k) 67)).alloc (.cells (cellsN b) 22)).alloc (.cells #[.int .u8 0, .int .u8 0, .int .u8 0, .int .u8 0, .int .u8 0, .int .u8 0, .int .u8 0, .int .u8 0, .int .u8 0, .int .u8 0, .int .u8 0, .int .u8 0, .int .u8 0, .int .u8 0, .int .u8 0, .int .u8 0] 22)) := (((Below.refl _ w).alloc (Nat.le_refl _) _).alloc (by simp) _).alloc (by simp; omega) _
  have P0 := Lib.hid O0
  have P1 := Lib.hid O1
  have P2 := Lib.hid O2
  have PL := Lib.hid L0
  have HK176 := Lib.hid (size176 HK.out)
  have HI16 := Lib.hid (size16 HB.out)
  have HIW := Lib.hid (size16 (withK_len b k 0))
  have HSB : Hid ((cellsN b).size = (cellsN (Ae.withK b k 0)).size) := by unfold Hid; rw [cellsN_size, cellsN_size, HB.out]; exact (Ae.arr_len _).symm
  have HFF := Lib.hid (show Ae.rnds k b 0 = Ae.withK b k 0 from rfl)
  have HEE := Lib.hid (show Ae.enc k b = Ae.withK (Ae.shifted (Ae.rnds k b 9)) k 10 from rfl)
  have HNN := Lib.hid (fun n => show Ae.rnds k b (n + 1) = Ae.withK (Ae.mixed (Ae.shifted (Ae.rnds k b n))) k (n + 1) from rfl)
  clear O0 O1 O2 L0
  go_enter Try.func39, Try.ntmps39
  go_wp2_with (first
    | (refine wpList_load_row rfl 22 (.tmp 3) rfl _ rfl _ _ _ _ P1.out Try.underlying22 rfl HI16.out ?_)
    | (refine wpList_load_row rfl 67 (.tmp 2) rfl _ rfl _ _ _ _ P0.out Try.underlying67 rfl HK176.out ?_))
  refine (with_any b k 0 _ HB.out HK.out (by omega) qb qk).mono ?_
  rintro e w1 ⟨rfl, hb1⟩
  have HW1 := P0.out.kept hb1
  have HO1 := P1.out.kept hb1
  have HZ1 := P2.out.kept hb1
  have HL1 := PL.out.trans (hb1.mono PL.out.size)
  have hbz := hb1.size
  simp at hbz
  clear P0 P1 P2 PL hb1
  go_wp2_with (refine wpList_store_row rfl 22 (.tmp 3) (.tmp 8) rfl _ _ rfl rfl _ _ HO1 HIW.out HSB.out (one_cellsN _) ?_)
  go_loopw [5] (fun i wr => ∃ n : Nat, n ≤ 9 ∧ i = .int .i64 (n + 1 : Nat) ∧ Obj wr w.heap.size 67 (cellsN k) ∧ Obj wr (w.heap.size + 1) 22 (cellsN (Ae.rnds k b n)) ∧ Obj wr (w.heap.size + 1 + 1) 22 (cellsN (List.replicate 16 0)) ∧ Below w.heap.size w wr) (fun i _ => 10 - (intOf i).toNat)
  case atStart =>
    have U := (Upd.refl (w.heap.size + 1) w1).row (cellsN (Ae.withK b k 0))
    exact ⟨0, by omega, rfl, Obj.upd HW1 U (by omega), (by rw [HFF.out]; exact HO1.row _), Obj.upd HZ1 U (by omega), Upd.below HL1 (by omega) U⟩
  case round =>
    clear HW1 HO1 HZ1 HL1 hbz
    obtain ⟨n, hn, rfl, HW, HO, HZ, HL⟩ := hrel
    have hc : ((n + 1 : Nat) : Int) = (n : Int) + 1 := by omega
    have HC := Lib.hid hc
    rw [HC.out]
    clear hc
    have HL0 := Lib.hid (rnds_len k b n)
    have HI0 := Lib.hid (size16 (rnds_len k b n))
    have q0 := Ae.rnds_bytes qb qk n
    have q1 := Ae.shifted_bytes q0
    have q2 := Ae.mixed_bytes q1
    by_cases hlt : n < 9
    · have HI1 := Lib.hid (size16 (withK_len (Ae.mixed (Ae.shifted (Ae.rnds k b n))) k (n + 1)))
      have HSZ : Hid ((cellsN (Ae.rnds k b n)).size = (cellsN (Ae.withK (Ae.mixed (Ae.shifted (Ae.rnds k b n))) k (n + 1))).size) := by unfold Hid; rw [cellsN_size, cellsN_size, rnds_len]; exact (Ae.arr_len _).symm
      go_wp2_with fail
      refine wp_region_held_drew (S := fun w' => Obj w' w.heap.size 67 (cellsN k)) (by kernel_rfl) HW.drew (fun hHeld => ?_)
      refine wpAnyH_take (i := 3) (oi := ?_) (v := ?_) ?_ ?_ ?_ ?_ ?_ ?_ (by assumption) ?_
      rotate_left 2
      · simp only [List.getElem?_toArray, List.getElem?_cons_zero, List.getElem?_cons_succ]
        rfl
      · kernel_rfl
      · kernel_rfl
      · kernel_rfl
      · exact fun _ _ _ h => h
      · refine yieldsIf_load_row (g := w.heap.size) (t := 67) (cs := cellsN k) (ty := 67) (x := (.tmp 2)) ?_ ?_ ?_ ?_ Try.underlying67 rfl HK176.out
        · rfl
        · rfl
        · rfl
        · exact fun w hSw => hSw
      simp only [Act.put, List.setIfInBounds_toArray, List.set_cons_zero, List.set_cons_succ]
      refine wpAnyH_take (i := 4) (oi := ?_) (v := ?_) ?_ ?_ ?_ ?_ ?_ ?_ (by assumption) ?_
      rotate_left 2
      · simp only [List.getElem?_toArray, List.getElem?_cons_zero, List.getElem?_cons_succ]
        rfl
      · kernel_rfl
      · kernel_rfl
      · kernel_rfl
      · exact fun _ _ _ h => h
      · refine Or.inl ⟨by rfl, ?_⟩
        intro w hSw
        (try dsimp only at hSw)
        go_simp
        all_goals with_reducible rfl
      simp only [Act.put, List.setIfInBounds_toArray, List.set_cons_zero, List.set_cons_succ]
      refine wpAnyH_ready (rs := [0]) (by kernel_rfl) (by simp) ?_
      refine AllReadyH.cons (o := ?_) ?_ (fun KK hKK => ?_) AllReadyH.nil
      rotate_left
      · simp only [List.getElem?_toArray, List.getElem?_cons_zero, List.getElem?_cons_succ]
        rfl
      rw [if_pos (by rfl)]
      refine wp_load_row 22 (.tmp 3) rfl _ rfl _ _ _ _ HO.drew Try.underlying22 rfl HI0.out ?_
      refine hKK.out _ _ ?_ (fun h1 => ?_)
      · (try dsimp only)
        assumption
      clear hKK KK
      try simp only [Act.put, List.setIfInBounds_toArray, List.set_cons_zero, List.set_cons_succ]
      refine wpAnyH_ready (rs := [1]) (by kernel_rfl) (by simp) ?_
      refine AllReadyH.cons (o := ?_) ?_ (fun KK hKK => ?_) AllReadyH.nil
      rotate_left
      · simp only [List.getElem?_toArray, List.getElem?_cons_zero, List.getElem?_cons_succ]
        rfl
      go_simp
      go_at_call 48; refine (shifted_any (Ae.rnds k b n) _ HL0.out q0).mono ?_; rintro e w3 ⟨rfl, hb3⟩; have HS3 : Obj w3 w.heap.size 67 (cellsN k) := HW.drew.kept hb3
      try go_wp2_with fail
      refine hKK.out _ _ ?_ (fun h2 => ?_)
      · (try dsimp only)
        assumption
      clear hKK KK
      try simp only [Act.put, List.setIfInBounds_toArray, List.set_cons_zero, List.set_cons_succ]
      refine wpAnyH_ready (rs := [2]) (by kernel_rfl) (by simp) ?_
      refine AllReadyH.cons (o := ?_) ?_ (fun KK hKK => ?_) AllReadyH.nil
      rotate_left
      · simp only [List.getElem?_toArray, List.getElem?_cons_zero, List.getElem?_cons_succ]
        rfl
      go_simp
      go_at_call 47; refine (mixed_any (Ae.shifted (Ae.rnds k b n)) _ (shifted_len _) q1).mono ?_; rintro e w4 ⟨rfl, hb4⟩; have HS4 : Obj w4 w.heap.size 67 (cellsN k) := HS3.kept hb4
      try go_wp2_with fail
      refine hKK.out _ _ ?_ (fun h3 => ?_)
      · (try dsimp only)
        assumption
      clear hKK KK
      try simp only [Act.put, List.setIfInBounds_toArray, List.set_cons_zero, List.set_cons_succ]
      refine wpAnyH_ready (rs := [5]) (by kernel_rfl) (by simp) ?_
      refine AllReadyH.cons (o := ?_) ?_ (fun KK hKK => ?_) AllReadyH.nil
      rotate_left
      · simp only [List.getElem?_toArray, List.getElem?_cons_zero, List.getElem?_cons_succ]
        rfl
      go_simp
      go_at_call 46; refine (with_any (Ae.mixed (Ae.shifted (Ae.rnds k b n))) k (n + 1) _ (mixed_len _) HK.out (by omega) q2 qk).mono ?_; rintro e w5 ⟨rfl, hb5⟩; have HS5 : Obj w5 w.heap.size 67 (cellsN k) := HS4.kept hb5; have HO5 := ((HO.drew.kept hb3).kept hb4).kept hb5; have HZ5 := ((HZ.drew.kept hb3).kept hb4).kept hb5; have HL5 := ((HL.drew.trans (hb3.mono HL.drew.size)).trans (hb4.mono (HL.drew.trans (hb3.mono HL.drew.size)).size)); have HL6 := HL5.trans (hb5.mono HL5.size)
      try go_wp2_with fail
      refine hKK.out _ _ ?_ (fun h4 => ?_)
      · (try dsimp only)
        assumption
      clear hKK KK
      try simp only [Act.put, List.setIfInBounds_toArray, List.set_cons_zero, List.set_cons_succ]
      refine wpAnyH_ready (rs := [6]) (by kernel_rfl) (by simp) ?_
      refine AllReadyH.cons (o := ?_) ?_ (fun KK hKK => ?_) AllReadyH.nil
      rotate_left
      · simp only [List.getElem?_toArray, List.getElem?_cons_zero, List.getElem?_cons_succ]
        rfl
      rw [if_pos (by rfl)]
      refine wp_store_row 22 (.tmp 3) (.tmp 18) rfl _ _ rfl rfl _ _ HO5 HI1.out HSZ.out (one_cellsN _) ?_
      refine hKK.out _ _ ?_ (fun h5 => ?_)
      · (try dsimp only)
        exact Obj.upd HS5 ((Upd.refl _ _).row _) (by omega)
      clear hKK KK
      try simp only [Act.put, List.setIfInBounds_toArray, List.set_cons_zero, List.set_cons_succ]
      refine wpAnyH_done (by kernel_rfl) ?_ _
      go_wp2
      go_roundw
      case rel => exact ⟨n + 1, by omega, by go_num, h5, (by rw [HNN.out]; exact HO5.row _), Obj.upd HZ5 ((Upd.refl _ _).row _) (by omega), Upd.below HL6 (by omega) ((Upd.refl _ _).row _)⟩
      case measure => simp [intOf]; omega
    · obtain rfl : n = 9 := by omega
      have HI1 := Lib.hid (size16 (withK_len (Ae.shifted (Ae.rnds k b 9)) k 10))
      have HSZ : Hid ((cellsN (List.replicate 16 0)).size = (cellsN (Ae.withK (Ae.shifted (Ae.rnds k b 9)) k 10)).size) := by unfold Hid; rw [cellsN_size, cellsN_size]; exact (Ae.arr_len _).symm
      go_wp2_with fail
      refine wp_region_held_drew (S := fun w' => Obj w' w.heap.size 67 (cellsN k)) (by kernel_rfl) HW.drew (fun hHeld => ?_)
      refine wpAnyH_take (i := 2) (oi := ?_) (v := ?_) ?_ ?_ ?_ ?_ ?_ ?_ (by assumption) ?_
      rotate_left 2
      · simp only [List.getElem?_toArray, List.getElem?_cons_zero, List.getElem?_cons_succ]
        rfl
      · kernel_rfl
      · kernel_rfl
      · kernel_rfl
      · exact fun _ _ _ h => h
      · refine yieldsIf_load_row (g := w.heap.size) (t := 67) (cs := cellsN k) (ty := 67) (x := (.tmp 2)) ?_ ?_ ?_ ?_ Try.underlying67 rfl HK176.out
        · rfl
        · rfl
        · rfl
        · exact fun w hSw => hSw
      simp only [Act.put, List.setIfInBounds_toArray, List.set_cons_zero, List.set_cons_succ]
      refine wpAnyH_ready (rs := [0]) (by kernel_rfl) (by simp) ?_
      refine AllReadyH.cons (o := ?_) ?_ (fun KK hKK => ?_) AllReadyH.nil
      rotate_left
      · simp only [List.getElem?_toArray, List.getElem?_cons_zero, List.getElem?_cons_succ]
        rfl
      rw [if_pos (by rfl)]
      refine wp_load_row 22 (.tmp 3) rfl _ rfl _ _ _ _ HO.drew Try.underlying22 rfl HI0.out ?_
      refine hKK.out _ _ ?_ (fun h1 => ?_)
      · (try dsimp only)
        assumption
      clear hKK KK
      try simp only [Act.put, List.setIfInBounds_toArray, List.set_cons_zero, List.set_cons_succ]
      refine wpAnyH_ready (rs := [1]) (by kernel_rfl) (by simp) ?_
      refine AllReadyH.cons (o := ?_) ?_ (fun KK hKK => ?_) AllReadyH.nil
      rotate_left
      · simp only [List.getElem?_toArray, List.getElem?_cons_zero, List.getElem?_cons_succ]
        rfl
      go_simp
      go_at_call 48; refine (shifted_any (Ae.rnds k b 9) _ HL0.out q0).mono ?_; rintro e w3 ⟨rfl, hb3⟩; have HS3 : Obj w3 w.heap.size 67 (cellsN k) := HW.drew.kept hb3
      try go_wp2_with fail
      refine hKK.out _ _ ?_ (fun h2 => ?_)
      · (try dsimp only)
        assumption
      clear hKK KK
      try simp only [Act.put, List.setIfInBounds_toArray, List.set_cons_zero, List.set_cons_succ]
      refine wpAnyH_ready (rs := [3]) (by kernel_rfl) (by simp) ?_
      refine AllReadyH.cons (o := ?_) ?_ (fun KK hKK => ?_) AllReadyH.nil
      rotate_left
      · simp only [List.getElem?_toArray, List.getElem?_cons_zero, List.getElem?_cons_succ]
        rfl
      go_simp
      go_at_call 46; refine (with_any (Ae.shifted (Ae.rnds k b 9)) k 10 _ (shifted_len _) HK.out (by omega) q1 qk).mono ?_; rintro e w5 ⟨rfl, hb5⟩; have HS5 : Obj w5 w.heap.size 67 (cellsN k) := HS3.kept hb5; have HZ5 := (HZ.drew.kept hb3).kept hb5; have HL5 := (HL.drew.trans (hb3.mono HL.drew.size)); have HL6 := HL5.trans (hb5.mono HL5.size)
      try go_wp2_with fail
      refine hKK.out _ _ ?_ (fun h4 => ?_)
      · (try dsimp only)
        assumption
      clear hKK KK
      try simp only [Act.put, List.setIfInBounds_toArray, List.set_cons_zero, List.set_cons_succ]
      refine wpAnyH_ready (rs := [4]) (by kernel_rfl) (by simp) ?_
      refine AllReadyH.cons (o := ?_) ?_ (fun KK hKK => ?_) AllReadyH.nil
      rotate_left
      · simp only [List.getElem?_toArray, List.getElem?_cons_zero, List.getElem?_cons_succ]
        rfl
      rw [if_pos (by rfl)]
      refine wp_store_row 22 (.tmp 4) (.tmp 22) rfl _ _ rfl rfl _ _ HZ5 HI1.out HSZ.out (one_cellsN _) ?_
      refine hKK.out _ _ ?_ (fun h5 => ?_)
      · (try dsimp only)
        exact Obj.upd HS5 ((Upd.refl _ _).row _) (by omega)
      clear hKK KK
      try simp only [Act.put, List.setIfInBounds_toArray, List.set_cons_zero, List.set_cons_succ]
      refine wpAnyH_done (by kernel_rfl) ?_ _
      go_wp2
      rw [HEE.out]
      exact bodyPost_ret (v := .agg (cellsN (Ae.withK (Ae.shifted (Ae.rnds k b 9)) k 10))) (results_cell_row rfl _ _ _ _ _ _ _ rfl (HZ5.row _) Try.underlying22 rfl HI1.out) rfl ⟨rfl, Upd.below HL6 (by omega) ((Upd.refl _ _).row _)⟩

end Go.Proofs.Ytnphanhoakbkpaa
