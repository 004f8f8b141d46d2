/- Layer 8's laws, walked: the document's example. -/
import Derived.Test.YtbkobmfakkbfcaaRows
import Derived.Test.YtbkobmfakkbfcaaAid
import Derived.Test.YtbkobmfakkbfcaaPlainAe
import Derived.Test.YtbkobmfakkbfcaaPlainAe2
import Derived.Test.YtbkobmfakkbfcaaHeldT
import Derived.Test.YtbkobmfakkbfcaaAesB
import Derived.Test.YtbkobmfakkbfcaaAesBox
import Derived.Test.YtbkobmfakkbfcaaAesW
import Derived.Test.YtbkobmfakkbfcaaAesE
import Derived.Test.YtbkobmfakkbfcaaAesK
import Derived.Test.YtbkobmfakkbfcaaAesS
import Derived.Test.YtbkobmfakkbfcaaAesT
import Derived.WalkKit
import Derived.Laws.BitsAllLaws
import Derived.Laws.Rows
import Derived.Laws.Tables
import Derived.Laws.AppendOwn
import Derived.Lib.SliceRun
import Derived.WalkSpells
import Derived.WalkLawsBesides
import Derived.Deep.QuietTactic
import Derived.BigQuiet
import Derived.Handy
import Derived.Lib.Hide
import Derived.StillTailTactics
import Derived.Deep.RegionHeld3
import Derived.Deep.WholeRow
import Derived.Deep.Cut
import Derived.IntWalk
import Derived.Lib.SlBytesConst
namespace Go.Proofs.Ytbkobmfakkbfcaa
open Go.RowKit
set_option linter.unusedVariables false
set_option linter.unusedSimpArgs false

section
variable {P : Program}
/-- A whole row, behind a guard that holds. -/
theorem wpList_load_roww {ops : Array Oper} {rest : List Oper} {o : Oper} {a : Act} {w : World} {Q : Exit → Act → World → Prop} (hw : Region.wanted o (yielded ops a.tmps) = true) (ty : TypeId) (x : Operand) (ho : o.op = .load ty x)
    (g : Nat) (hx : a.eval x = .pointer (some ⟨g, 0, none⟩)) (t : TypeId) (cs : Array Value) (fr : Nat × Nat) (d : TypeDesc) (hg : w.heap[g]? = some (.cells cs t fr))
    (hu : P.underlying ty = some d) (hd : (match d with | .struct _ | .array _ _ => true | _ => false) = true) (hi : (P.info? ty).map (·.size) = some cs.size)
    (h : wpList P ops Q rest (a.put o.dst (.agg cs)) w) : wpList P ops Q (o :: rest) a w :=
  wpList_step fun K hK => by rw [if_pos hw]; exact wp_load_row ty x ho g hx t cs fr d hg hu hd hi (hK _ _ h)
end
def key0 : List Nat := (List.range 16).map fun i => i
def text0 : List Nat := (List.range 16).map fun i => 17 * i
theorem key0_bytes : Ae.bytes key0 := by unfold Ae.bytes key0; decide
theorem text0_bytes : Ae.bytes text0 := by unfold Ae.bytes text0; decide
theorem key0_len : key0.length = 16 := rfl
theorem text0_len : text0.length = 16 := rfl
theorem ex_box : Ae.box 83 = 237 := by decide +kernel
theorem ex_mul : Ae.mul 87 131 = 193 := by decide +kernel
theorem ex_e0 : (Ae.enc (Ae.sched key0) text0).getD 0 0 = 105 := by decide +kernel
theorem ex_e15 : (Ae.enc (Ae.sched key0) text0).getD 15 0 = 90 := by decide +kernel
theorem ex_k : (Ae.sched key0).getD 16 0 = 214 := by decide +kernel

set_option maxRecDepth 100000 in
set_option maxHeartbeats 1000000 in
theorem alive_true (w : World) : Calls Try.prog 10 #[] w fun e w' => e = .returned (.bool true) ∧ Below w.heap.size w w' := by
  have O0 : Obj ((w.alloc (.cells #[.int .u8 0, .int .u8 0, .int .u8 0, .int .u8 0, .int .u8 0, .int .u8 0, .int .u8 0, .int .u8 0, .int .u8 0, .int .u8 0, .int .u8 0, .int .u8 0, .int .u8 0, .int .u8 0, .int .u8 0, .int .u8 0] 26)).alloc (.cells #[.int .u8 0, .int .u8 0, .int .u8 0, .int .u8 0, .int .u8 0, .int .u8 0, .int .u8 0, .int .u8 0, .int .u8 0, .int .u8 0, .int .u8 0, .int .u8 0, .int .u8 0, .int .u8 0, .int .u8 0, .int .u8 0] 26)) w.heap.size 26 (cellsN (List.replicate 16 0)) := (Obj.new w _ _).alloc _
  have O1 : Obj ((w.alloc (.cells #[.int .u8 0, .int .u8 0, .int .u8 0, .int .u8 0, .int .u8 0, .int .u8 0, .int .u8 0, .int .u8 0, .int .u8 0, .int .u8 0, .int .u8 0, .int .u8 0, .int .u8 0, .int .u8 0, .int .u8 0, .int .u8 0] 26)).alloc (.cells #[.int .u8 0, .int .u8 0, .int .u8 0, .int .u8 0, .int .u8 0, .int .u8 0, .int .u8 0, .int .u8 0, .int .u8 0, .int .u8 0, .int .u8 0, .int .u8 0, .int .u8 0, .int .u8 0, .int .u8 0, .int .u8 0] 26)) (w.heap.size + 1) 26 (cellsN (List.replicate 16 0)) := new2 w _ _ _
  have L0 : Below w.heap.size w ((w.alloc (.cells #[.int .u8 0, .int .u8 0, .int .u8 0, .int .u8 0, .int .u8 0, .int .u8 0, .int .u8 0, .int .u8 0, .int .u8 0, .int .u8 0, .int .u8 0, .int .u8 0, .int .u8 0, .int .u8 0, .int .u8 0, .int .u8 0] 26)).alloc (.cells #[.int .u8 0, .int .u8 0, .int .u8 0, .int .u8 0, .int .u8 0, .int .u8 0, .int .u8 0, .int .u8 0, .int .u8 0, .int .u8 0, .int .u8 0, .int .u8 0, .int .u8 0, .int .u8 0, .int .u8 0, .int .u8 0] 26)) := ((Below.refl _ w).alloc (Nat.le_refl _) _).alloc (by simp) _
  have P0 := Lib.hid O0
  have P1 := Lib.hid O1
  have PL := Lib.hid L0
  have HIK := Lib.hid (size16 key0_len)
  have HIT := Lib.hid (size16 text0_len)
  have HKL := Lib.hid key0_len
  have HTL := Lib.hid text0_len
  have X1 := Lib.hid ex_e0
  have X2 := Lib.hid ex_e15
  have X3 := Lib.hid ex_k
  have HLE := Lib.hid (Ae.enc_len (Ae.sched key0) text0)
  have HIE := Lib.hid (size16 HLE.out)
  have HLS := Lib.hid (Ae.sched_len key0)
  have HIS := Lib.hid (size176 HLS.out)
  have HSE : Hid ((#[.int .u8 0, .int .u8 0, .int .u8 0, .int .u8 0, .int .u8 0, .int .u8 0, .int .u8 0, .int .u8 0, .int .u8 0, .int .u8 0, .int .u8 0, .int .u8 0, .int .u8 0, .int .u8 0, .int .u8 0, .int .u8 0] : Array Value).size = (cellsN (Ae.enc (Ae.sched key0) text0)).size) := by unfold Hid; rw [cellsN_size, HLE.out]; rfl
  have HSS : Hid ((cellsN z176).size = (cellsN (Ae.sched key0)).size) := by unfold Hid; rw [cellsN_size, cellsN_size, z176_len, HLS.out]
  have hz := (zero_of_info zero176).1
  clear O0 O1 L0
  go_enter Try.func10, Try.ntmps10
  go_wp2
  go_loopw [3] (fun i wr => ∃ j : Nat, j ≤ 16 ∧ i = .int .i64 j ∧ Obj wr w.heap.size 26 (cellsN (Ae.upto (fun i => i) (List.replicate 16 0) j)) ∧ Obj wr (w.heap.size + 1) 26 (cellsN (Ae.upto (fun i => 17 * i) (List.replicate 16 0) j)) ∧ Below w.heap.size w wr) (fun i _ => 16 - (intOf i).toNat)
  case atStart => exact ⟨0, by omega, rfl, (by rw [Ae.upto_zero]; exact P0.out), (by rw [Ae.upto_zero]; exact P1.out), PL.out⟩
  case round =>
    clear P0 P1 PL
    obtain ⟨j, hj, rfl, HO, HT, HL⟩ := hrel
    by_cases hlt : j < 16
    · have z0 := HO.free j
      have z1 := HT.free j
      obtain ⟨v0, hv0⟩ : ∃ v, wr.cell? ⟨w.heap.size, j, none⟩ = some v := ⟨_, HO.getN j (by rw [Ae.upto_len]; simpa using hlt)⟩
      obtain ⟨v1, hv1⟩ : ∃ v, wr.cell? ⟨w.heap.size + 1, j, none⟩ = some v := ⟨_, HT.getN j (by rw [Ae.upto_len]; simpa using hlt)⟩
      have HF0 := Lib.hid (Ae.upto_set (fun i => i) (List.replicate 16 0) j (by simpa using hlt))
      have HF1 := Lib.hid (Ae.upto_set (fun i => 17 * i) (List.replicate 16 0) j (by simpa using hlt))
      have hji : (j : Int) < 16 := by omega
      go_wp2
      go_roundw
      case rel =>
        have e : ((17 * j : Nat) : Int) = 17 * (j : Int) := by omega
        have h0 := (HO.setN j j).far (p := ⟨w.heap.size + 1, j, none⟩) (by simp) (.int .u8 (17 * (j : Int)))
        have h1 := (HT.far (p := ⟨w.heap.size, j, none⟩) (by simp) (.int .u8 (j : Int))).setN j (17 * j)
        rw [e] at h1
        exact ⟨j + 1, by omega, by go_num, h0.as (by rw [HF0.out]), h1.as (by rw [HF1.out]), (HL.setCell (by simp) _).setCell (by simp) _⟩
      case measure => simp [intOf]; omega
    · obtain rfl : j = 16 := by omega
      have HA := Lib.hid (show Ae.upto (fun i => i) (List.replicate 16 0) 16 = key0 by rw [Ae.upto_full _ _ _ (by simp)]; rfl)
      have HB := Lib.hid (show Ae.upto (fun i => 17 * i) (List.replicate 16 0) 16 = text0 by rw [Ae.upto_full _ _ _ (by simp)]; rfl)
      rw [HA.out] at HO
      rw [HB.out] at HT
      have qk := key0_bytes
      have qt := text0_bytes
      clear hj hlt
      generalize key0 = K at *
      generalize text0 = T at *
      go_wp2_with (first
        | (refine wpList_load_row rfl 26 (.tmp 1) rfl _ rfl _ _ _ _ HO Try.underlying26 rfl HIK.out ?_)
        | (refine wpList_load_row rfl 26 (.tmp 2) rfl _ rfl _ _ _ _ HT Try.underlying26 rfl HIT.out ?_))
      refine (encipher_any K T _ HKL.out HTL.out qk qt).mono ?_
      rintro e w1 ⟨rfl, hb1⟩
      have HO1 := HO.kept hb1
      have HT1 := HT.kept hb1
      have HL1 := HL.trans (hb1.mono HL.size)
      have ON : Obj (w1.alloc (.cells #[.int .u8 0, .int .u8 0, .int .u8 0, .int .u8 0, .int .u8 0, .int .u8 0, .int .u8 0, .int .u8 0, .int .u8 0, .int .u8 0, .int .u8 0, .int .u8 0, .int .u8 0, .int .u8 0, .int .u8 0, .int .u8 0] 26)) w1.heap.size 26 #[.int .u8 0, .int .u8 0, .int .u8 0, .int .u8 0, .int .u8 0, .int .u8 0, .int .u8 0, .int .u8 0, .int .u8 0, .int .u8 0, .int .u8 0, .int .u8 0, .int .u8 0, .int .u8 0, .int .u8 0, .int .u8 0] := Obj.new w1 _ _
      have HON := Lib.hid ON
      have l1 := HT1.lt
      have B1 : Below w1.heap.size w1 (w1.alloc (.cells #[.int .u8 0, .int .u8 0, .int .u8 0, .int .u8 0, .int .u8 0, .int .u8 0, .int .u8 0, .int .u8 0, .int .u8 0, .int .u8 0, .int .u8 0, .int .u8 0, .int .u8 0, .int .u8 0, .int .u8 0, .int .u8 0] 26)) := (Below.refl _ _).alloc (Nat.le_refl _) _
      have HO2 := HO1.kept B1
      have HT2 := HT1.kept B1
      have HL2 := HL1.trans (B1.mono HL1.size)
      clear HO HT HL hb1 ON HO1 HT1 HL1 B1
      generalize Ae.enc (Ae.sched K) T = E at *
      have U := (Upd.refl w1.heap.size (w1.alloc (.cells #[.int .u8 0, .int .u8 0, .int .u8 0, .int .u8 0, .int .u8 0, .int .u8 0, .int .u8 0, .int .u8 0, .int .u8 0, .int .u8 0, .int .u8 0, .int .u8 0, .int .u8 0, .int .u8 0, .int .u8 0, .int .u8 0] 26))).row (cellsN E)
      have HO3 := HO2.upd U (by omega)
      have HT3 := HT2.upd U (by omega)
      have HE3 := HON.out.row (cellsN E)
      have HL3 := Upd.below HL2 (by omega) U
      have l3 : w1.heap.size < ((w1.alloc (.cells #[.int .u8 0, .int .u8 0, .int .u8 0, .int .u8 0, .int .u8 0, .int .u8 0, .int .u8 0, .int .u8 0, .int .u8 0, .int .u8 0, .int .u8 0, .int .u8 0, .int .u8 0, .int .u8 0, .int .u8 0, .int .u8 0] 26)).setRow w1.heap.size (cellsN E)).heap.size := by simp
      clear HO2 HT2 HL2 U
      go_wp2_with (first
        | (refine wpList_store_row rfl 26 (.tmp 4) (.tmp 21) rfl _ _ rfl rfl _ _ HON.out HIE.out HSE.out (one_cellsN _) ?_)
        | (refine wpList_load_row rfl 26 (.tmp 1) rfl _ rfl _ _ _ _ HO3 Try.underlying26 rfl HIK.out ?_))
      generalize (w1.alloc (.cells #[.int .u8 0, .int .u8 0, .int .u8 0, .int .u8 0, .int .u8 0, .int .u8 0, .int .u8 0, .int .u8 0, .int .u8 0, .int .u8 0, .int .u8 0, .int .u8 0, .int .u8 0, .int .u8 0, .int .u8 0, .int .u8 0] 26)).setRow w1.heap.size (cellsN E) = w2 at *
      generalize w1.heap.size = cb at *
      clear HON
      refine (keys_any K _ HKL.out qk).mono ?_
      rintro e w4 ⟨rfl, hb4⟩
      have HO4 := HO3.kept hb4
      have HT4 := HT3.kept hb4
      have HE4 := HE3.kept hb4
      have HL4 := HL3.trans (hb4.mono HL3.size)
      have l4 := HE4.lt
      have HON := Lib.hid (Obj.new w4 28 (cellsN z176))
      have B4 : Below w4.heap.size w4 (w4.alloc (.cells (cellsN z176) 28)) := (Below.refl _ _).alloc (Nat.le_refl _) _
      have HO5 := HO4.kept B4
      have HT5 := HT4.kept B4
      have HE5 := HE4.kept B4
      have HL5 := HL4.trans (B4.mono HL4.size)
      generalize Ae.sched K = S at *
      have U := (Upd.refl w4.heap.size (w4.alloc (.cells (cellsN z176) 28))).row (cellsN S)
      have HO6 := HO5.upd U (by omega)
      have HT6 := HT5.upd U (by omega)
      have HE6 := HE5.upd U (by omega)
      have HS6 := HON.out.row (cellsN S)
      have HL6 := Upd.below HL5 (by omega) U
      clear HO3 HT3 HE3 HL3 HO4 HT4 HE4 HL4 HO5 HT5 HE5 HL5 U B4 hb4 l3
      go_wp2_with (refine wpList_store_row rfl 28 (.tmp 5) (.tmp 23) rfl _ _ rfl rfl _ _ HON.out HIS.out HSS.out (one_cellsN _) ?_)
      generalize (w4.alloc (.cells (cellsN z176) 28)).setRow w4.heap.size (cellsN S) = w5 at *
      generalize w4.heap.size = kb at *
      clear HON
      refine (box_any 83 _ (by decide)).mono ?_
      rintro e w6 ⟨rfl, hb6⟩
      rw [ex_box]
      have HO7 := HO6.kept hb6
      have HT7 := HT6.kept hb6
      have HL7 := HL6.trans (hb6.mono HL6.size)
      have f0 : w6.cell? ⟨cb, 0, none⟩ = some (.int .u8 105) := by rw [(HE6.kept hb6).getN 0 (by rw [HLE.out]; decide), X1.out]; rfl
      have f1 : w6.cell? ⟨cb, 15, none⟩ = some (.int .u8 90) := by rw [(HE6.kept hb6).getN 15 (by rw [HLE.out]; decide), X2.out]; rfl
      have f2 : w6.cell? ⟨kb, 16, none⟩ = some (.int .u8 214) := by rw [(HS6.kept hb6).getN 16 (by rw [HLS.out]; decide), X3.out]; rfl
      clear HO6 HT6 HE6 HS6 HL6 hb6
      go_wp2_with fail
      refine (mul_any 87 131 _ (by decide) (by decide)).mono ?_
      rintro e wn ⟨rfl, rfl⟩
      rw [ex_mul]
      have kc := fun (w : World) (C : Array Value) (n c : Nat) => Lib.run_convert_bytes_const (P := Try.prog) w 35 5 C n c Try.underlying35 Try.underlying5
      go_wp2_with (first
        | (refine wpList_load_roww (by rfl) 26 (.tmp 1) rfl _ rfl _ _ _ _ HO7 Try.underlying26 rfl HIK.out ?_)
        | (refine wpList_load_roww (by rfl) 26 (.tmp 2) rfl _ rfl _ _ _ _ HT7 Try.underlying26 rfl HIT.out ?_))
      have hrd : Rd (w6.alloc (.cells #[.int .u8 97] 5 (1, 2))) (some ⟨w6.heap.size, 0, none⟩) [97] := fun _ => ⟨_, 0, rfl, by simp, fun j hj => by
        obtain rfl : j = 0 := by simp at hj; omega
        rw [cell_of_row _ _ _ _ _ _ (heap_alloc_new w6 _)]
        rfl⟩
      have HL8 := HL7.alloc HL7.size (.cells #[.int .u8 97] 5 (1, 2))
      clear kc hz
      refine (stream_any K T (some ⟨w6.heap.size, 0, none⟩) 1 [97] _ HKL.out HTL.out qk qt hrd (by intro c hc; simp at hc; omega) (by simp)).mono ?_
      rintro e w8 ⟨v, rfl, hv, hb8⟩
      obtain ⟨A', c', rfl, hl', hc', _⟩ := own_rd hv
      have HL9 := Lib.hid (HL8.trans (hb8.mono HL8.size))
      clear hv hl' hb8 HL8 hrd HL7 HO7 HT7
      go_wp2
      go_ret
      exact ⟨rfl, HL9.out⟩

end Go.Proofs.Ytbkobmfakkbfcaa
