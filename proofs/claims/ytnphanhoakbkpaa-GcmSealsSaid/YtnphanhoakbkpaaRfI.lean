/- The document's Encipher and Stream, walked. -/
import Derived.Test.YtnphanhoakbkpaaRows
import Derived.Test.YtnphanhoakbkpaaAid
import Derived.Test.YtnphanhoakbkpaaPlainAe
import Derived.Test.YtnphanhoakbkpaaPlainAe2
import Derived.Test.YtnphanhoakbkpaaPlainAe7
import Derived.Test.YtnphanhoakbkpaaHeldT
import Derived.Test.YtnphanhoakbkpaaAesB
import Derived.Test.YtnphanhoakbkpaaAesBox
import Derived.Test.YtnphanhoakbkpaaAesW
import Derived.Test.YtnphanhoakbkpaaAesE
import Derived.Test.YtnphanhoakbkpaaAesK
import Derived.Test.YtnphanhoakbkpaaAesS
import Derived.Test.YtnphanhoakbkpaaAesT
import Derived.Test.YtnphanhoakbkpaaBl
import Derived.Test.YtnphanhoakbkpaaAesF
import Derived.Test.YtnphanhoakbkpaaAesG
import Derived.Test.YtnphanhoakbkpaaAesH
import Derived.WalkKit
import Derived.Laws.BitsAllLaws
import Derived.Laws.Rows
import Derived.Laws.Tables
import Derived.Laws.AppendOwn
import Derived.Lib.SliceRun
import Derived.WalkSpells
import Derived.WalkLawsBesides
import Derived.Deep.QuietTactic
import Derived.BigQuiet
import Derived.Handy
import Derived.Lib.Hide
import Derived.StillTailTactics
import Derived.Deep.RegionHeld3
import Derived.Deep.WholeRow
import Derived.IntWalk
namespace Go.Proofs.Ytnphanhoakbkpaa
open Go.RowKit
set_option linter.unusedVariables false
set_option linter.unusedSimpArgs false

theorem Obj.grown {w w' : World} {b : Nat} {t : TypeId} {cs : Array Value} {row : Option Nat} (h : Obj w b t cs) (hg : w.grownBy w' row) (hr : some b ≠ row) : Obj w' b t cs := (hg.block b h.lt hr).trans h
/-- An object of one type is no row of another. -/
theorem Obj.not_row {w : World} {b : Nat} {t e : TypeId} {cs : Array Value} (h : Obj w b t cs) (hte : t ≠ e) {base size k : Nat} {v : Value} {xs : List Value} (hr : w.ownsRow base e size v k xs) : some b ≠ v.ownBlock := by
  rcases hr.2 with ⟨rfl, _⟩ | ⟨g, cap, cur, rfl, _, hgb, _⟩
  · simp [Value.ownBlock]
  · intro e'
    obtain rfl : b = g := by simpa [Value.ownBlock] using e'
    rw [h] at hgb
    cases hgb
    exact hte rfl

def tabN : List Nat := (List.range 256).map Ae.box
theorem tabN_len : tabN.length = 256 := by simp [tabN]

set_option maxRecDepth 100000 in
set_option maxHeartbeats 1000000 in
theorem refEncipher_any (key b : List Nat) (w : World) (hk : key.length = 16) (hb : b.length = 16) (qk : Ae.bytes key) (qb : Ae.bytes b) :
    Calls Try.prog 32 #[.agg (cellsN key), .agg (cellsN b)] w fun e w' => e = .returned (.agg (cellsN (Ae.enc (Ae.sched key) b))) ∧ Below w.heap.size w w' := by
  have HB := Lib.hid hb
  have HK := Lib.hid hk
  clear hb hk
  obtain ⟨T, hT⟩ : ∃ T, (List.range 256).map Ae.box = T := ⟨_, rfl⟩
  have HTB := Lib.hid (fun w => table_any w)
  have HKY := Lib.hid (fun w => refKeys_any key w HK.out qk)
  have HBL := Lib.hid (fun w => refBlock_any (Ae.sched key) b w (Ae.sched_len key) HB.out (Ae.sched_bytes qk) qb)
  have HTL : Hid (T.length = 256) := by unfold Hid; rw [← hT]; simp
  rw [hT] at HTB HKY HBL
  clear hT
  have hz := (zero_of_info zero256).1
  have HZL := Lib.hid z256_len
  generalize z256 = Z at *
  have P0 : Hid (Obj (((w.alloc (.cells (cellsN key) 22)).alloc (.cells (cellsN b) 22)).alloc (.cells #[.int .u8 0, .int .u8 0, .int .u8 0, .int .u8 0, .int .u8 0, .int .u8 0, .int .u8 0, .int .u8 0, .int .u8 0, .int .u8 0, .int .u8 0, .int .u8 0, .int .u8 0, .int .u8 0, .int .u8 0, .int .u8 0] 22)) w.heap.size 22 (cellsN key)) := ((Obj.new w _ _).alloc _).alloc _
  have P1 : Hid (Obj (((w.alloc (.cells (cellsN key) 22)).alloc (.cells (cellsN b) 22)).alloc (.cells #[.int .u8 0, .int .u8 0, .int .u8 0, .int .u8 0, .int .u8 0, .int .u8 0, .int .u8 0, .int .u8 0, .int .u8 0, .int .u8 0, .int .u8 0, .int .u8 0, .int .u8 0, .int .u8 0, .int .u8 0, .int .u8 0] 22)) (w.heap.size + 1) 22 (cellsN b)) := (new2 w _ _ _).alloc _
  have P2 : Hid (Obj (((w.alloc (.cells (cellsN key) 22)).alloc (.cells (cellsN b) 22)).alloc (.cells #[.int .u8 0, .int .u8 0, .int .u8 0, .int .u8 0, .int .u8 0, .int .u8 0, .int .u8 0, .int .u8 0, .int .u8 0, .int .u8 0, .int .u8 0, .int .u8 0, .int .u8 0, .int .u8 0, .int .u8 0, .int .u8 0] 22)) (w.heap.size + 1 + 1) 22 (cellsN (List.replicate 16 0))) := new3 w _ _ _ _
  have PL : Hid (Below w.heap.size w (((w.alloc (.cells (cellsN key) 22)).alloc (.cells (cellsN b) 22)).alloc (.cells #[.int .u8 0, .int .u8 0, .int .u8 0, .int .u8 0, .int .u8 0, .int .u8 0, .int .u8 0, .int .u8 0, .int .u8 0, .int .u8 0, .int .u8 0, .int .u8 0, .int .u8 0, .int .u8 0, .int .u8 0, .int .u8 0] 22))) := (((Below.refl _ w).alloc (Nat.le_refl _) _).alloc (by simp) _).alloc (by simp; omega) _
  have HIK := Lib.hid (size16 HK.out)
  have HIB := Lib.hid (size16 HB.out)
  have HIT := Lib.hid (size256 HTL.out)
  have HI1 := Lib.hid (size16 (Ae.enc_len (Ae.sched key) b))
  have HSZ : Hid ((cellsN (List.replicate 16 0)).size = (cellsN (Ae.enc (Ae.sched key) b)).size) := by unfold Hid; rw [cellsN_size, cellsN_size, Ae.enc_len]; simp
  have HZT : Hid ((cellsN Z).size = (cellsN T).size) := by unfold Hid; rw [cellsN_size, cellsN_size, HZL.out, HTL.out]
  go_enter Try.func32, Try.ntmps32
  go_wp2_with fail
  refine (HTB.out _).mono ?_
  rintro e w1 ⟨rfl, hb1⟩
  have O0 := P0.out.kept hb1
  have O1 := P1.out.kept hb1
  have O2 := P2.out.kept hb1
  have L0 := PL.out.trans (hb1.mono PL.out.size)
  have ON := Lib.hid (Obj.new w1 70 (cellsN Z))
  clear P0 P1 P2 PL hb1
  go_wp2_with (refine wpList_store_row rfl 70 (.tmp 5) (.tmp 6) rfl _ _ rfl rfl _ _ ON.out HIT.out HZT.out (one_cellsN _) ?_)
  have U2 := (Upd.refl w1.heap.size (w1.alloc (.cells (cellsN Z) 70))).row (cellsN T)
  have l2 := O2.lt
  have Q0 := (O0.alloc (.cells (cellsN Z) 70)).upd U2 (by omega)
  have Q1 := (O1.alloc (.cells (cellsN Z) 70)).upd U2 (by omega)
  have Q2 := (O2.alloc (.cells (cellsN Z) 70)).upd U2 (by omega)
  have QT := ON.out.row (cellsN T)
  have QL := Upd.below (L0.alloc L0.size (.cells (cellsN Z) 70)) L0.size U2
  clear ON U2 O0 O1 O2 L0
  obtain ⟨gt, hgt⟩ : ∃ g, w1.heap.size = g := ⟨_, rfl⟩
  rw [hgt] at l2 Q0 Q1 Q2 QT QL ⊢
  generalize (w1.alloc (.cells (cellsN Z) 70)).setRow gt (cellsN T) = W at *
  clear hgt
  refine wp_region_held_drew (S := (fun w' => Obj w' w.heap.size 22 (cellsN key) ∧ Obj w' (w.heap.size + 1) 22 (cellsN b) ∧ Obj w' gt 70 (cellsN T))) (by kernel_rfl) ⟨Q0.drew, Q1.drew, QT.drew⟩ (fun hHeld => ?_)
  refine wpAnyH_take (i := 0) (oi := ?_) (v := ?_) ?_ ?_ ?_ ?_ ?_ ?_ (by assumption) ?_
  rotate_left 2
  · simp only [List.getElem?_toArray, List.getElem?_cons_zero, List.getElem?_cons_succ]
    rfl
  · kernel_rfl
  · kernel_rfl
  · kernel_rfl
  · exact fun _ _ _ h => h
  · refine yieldsIf_load_row (g := w.heap.size) (t := 22) (cs := cellsN key) (ty := 22) (x := (.tmp 2)) ?_ ?_ ?_ ?_ Try.underlying22 rfl HIK.out
    · rfl
    · rfl
    · rfl
    · exact fun w hSw => hSw.1
  simp only [Act.put, List.setIfInBounds_toArray, List.set_cons_zero, List.set_cons_succ]
  refine wpAnyH_take (i := 1) (oi := ?_) (v := ?_) ?_ ?_ ?_ ?_ ?_ ?_ (by assumption) ?_
  rotate_left 2
  · simp only [List.getElem?_toArray, List.getElem?_cons_zero, List.getElem?_cons_succ]
    rfl
  · kernel_rfl
  · kernel_rfl
  · kernel_rfl
  · exact fun _ _ _ h => h
  · refine yieldsIf_load_row (g := gt) (t := 70) (cs := cellsN T) (ty := 70) (x := (.tmp 5)) ?_ ?_ ?_ ?_ Try.underlying70 rfl HIT.out
    · rfl
    · rfl
    · rfl
    · exact fun w hSw => hSw.2.2
  simp only [Act.put, List.setIfInBounds_toArray, List.set_cons_zero, List.set_cons_succ]
  refine wpAnyH_take (i := 3) (oi := ?_) (v := ?_) ?_ ?_ ?_ ?_ ?_ ?_ (by assumption) ?_
  rotate_left 2
  · simp only [List.getElem?_toArray, List.getElem?_cons_zero, List.getElem?_cons_succ]
    rfl
  · kernel_rfl
  · kernel_rfl
  · kernel_rfl
  · exact fun _ _ _ h => h
  · refine yieldsIf_load_row (g := gt) (t := 70) (cs := cellsN T) (ty := 70) (x := (.tmp 5)) ?_ ?_ ?_ ?_ Try.underlying70 rfl HIT.out
    · rfl
    · rfl
    · rfl
    · exact fun w hSw => hSw.2.2
  simp only [Act.put, List.setIfInBounds_toArray, List.set_cons_zero, List.set_cons_succ]
  refine wpAnyH_take (i := 4) (oi := ?_) (v := ?_) ?_ ?_ ?_ ?_ ?_ ?_ (by assumption) ?_
  rotate_left 2
  · simp only [List.getElem?_toArray, List.getElem?_cons_zero, List.getElem?_cons_succ]
    rfl
  · kernel_rfl
  · kernel_rfl
  · kernel_rfl
  · exact fun _ _ _ h => h
  · refine yieldsIf_load_row (g := (w.heap.size + 1)) (t := 22) (cs := cellsN b) (ty := 22) (x := (.tmp 3)) ?_ ?_ ?_ ?_ Try.underlying22 rfl HIB.out
    · rfl
    · rfl
    · rfl
    · exact fun w hSw => hSw.2.1
  simp only [Act.put, List.setIfInBounds_toArray, List.set_cons_zero, List.set_cons_succ]
  refine wpAnyH_ready (rs := [2]) (by kernel_rfl) (by simp) ?_
  refine AllReadyH.cons (o := ?_) ?_ (fun KK hKK => ?_) AllReadyH.nil
  rotate_left
  · simp only [List.getElem?_toArray, List.getElem?_cons_zero, List.getElem?_cons_succ]
    rfl
  go_simp
  go_at_call 41; refine (HKY.out _).mono ?_; rintro e w3 ⟨rfl, hb3⟩
  try go_wp2_with fail
  refine hKK.out _ _ ?_ (fun h2 => ?_)
  · (try dsimp only)
    exact ⟨Q0.drew.kept hb3, Q1.drew.kept hb3, QT.drew.kept hb3⟩
  clear hKK KK
  try simp only [Act.put, List.setIfInBounds_toArray, List.set_cons_zero, List.set_cons_succ]
  have HZ3 := Q2.drew.kept hb3
  have HL3 := QL.drew.trans (hb3.mono QL.drew.size)
  refine wpAnyH_ready (rs := [5]) (by kernel_rfl) (by simp) ?_
  refine AllReadyH.cons (o := ?_) ?_ (fun KK hKK => ?_) AllReadyH.nil
  rotate_left
  · simp only [List.getElem?_toArray, List.getElem?_cons_zero, List.getElem?_cons_succ]
    rfl
  go_simp
  go_at_call 42; refine (HBL.out _).mono ?_; rintro e w5 ⟨rfl, hb5⟩
  try go_wp2_with fail
  refine hKK.out _ _ ?_ (fun h4 => ?_)
  · (try dsimp only)
    exact ⟨h2.1.kept hb5, h2.2.1.kept hb5, h2.2.2.kept hb5⟩
  clear hKK KK
  try simp only [Act.put, List.setIfInBounds_toArray, List.set_cons_zero, List.set_cons_succ]
  have HZ5 := HZ3.kept hb5
  have HL5 := HL3.trans (hb5.mono HL3.size)
  refine wpAnyH_ready (rs := [6]) (by kernel_rfl) (by simp) ?_
  refine AllReadyH.cons (o := ?_) ?_ (fun KK hKK => ?_) AllReadyH.nil
  rotate_left
  · simp only [List.getElem?_toArray, List.getElem?_cons_zero, List.getElem?_cons_succ]
    rfl
  rw [if_pos (by rfl)]
  refine wp_store_row 22 (.tmp 4) (.tmp 12) rfl _ _ rfl rfl _ _ HZ5 HI1.out HSZ.out (one_cellsN _) ?_
  refine hKK.out _ _ ?_ (fun h5 => ?_)
  · (try dsimp only)
    exact ⟨Obj.upd h4.1 ((Upd.refl _ _).row _) (by omega), Obj.upd h4.2.1 ((Upd.refl _ _).row _) (by omega), Obj.upd h4.2.2 ((Upd.refl _ _).row _) (by omega)⟩
  clear hKK KK
  try simp only [Act.put, List.setIfInBounds_toArray, List.set_cons_zero, List.set_cons_succ]
  refine wpAnyH_done (by kernel_rfl) ?_ _
  go_wp2
  exact bodyPost_ret (v := .agg (cellsN (Ae.enc (Ae.sched key) b))) (results_cell_row rfl _ _ _ _ _ _ _ rfl (HZ5.row _) Try.underlying22 rfl HI1.out) rfl ⟨rfl, Upd.below HL5 (by omega) ((Upd.refl _ _).row _)⟩

end Go.Proofs.Ytnphanhoakbkpaa
