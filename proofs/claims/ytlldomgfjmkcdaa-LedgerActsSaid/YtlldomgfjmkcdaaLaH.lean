/- Layer 15's document, walked: Lost. -/
import Derived.Test.YtlldomgfjmkcdaaRows
import Derived.Test.YtlldomgfjmkcdaaAid
import Derived.Test.YtlldomgfjmkcdaaHeldT
import Derived.Test.YtlldomgfjmkcdaaLgW
import Derived.Test.YtlldomgfjmkcdaaLgT
import Derived.Test.YtlldomgfjmkcdaaLgD
import Derived.Test.YtlldomgfjmkcdaaLgL
import Derived.Test.YtlldomgfjmkcdaaLaD
import Derived.Test.YtlldomgfjmkcdaaLaE
import Derived.Test.YtlldomgfjmkcdaaLaF
import Derived.Lib.AppendZeros
import Derived.BigQuiet
import Derived.Deep.QuietTactic
import Derived.Deep.CutBlock
import Derived.Deep.DeepCutAuto
import Derived.Lib.Hide
namespace Go.Proofs.Ytlldomgfjmkcdaa
open Go Go.RowKit
set_option linter.unusedVariables false
set_option linter.unusedSimpArgs false

set_option maxRecDepth 100000 in
set_option maxHeartbeats 4000000 in
theorem rlost_any (D nx ak nw d : Nat) (v : Value) (y : List PS) (w : World) (h : DS w D v y nx ak) (hy : y.length ≤ 1000) (hp : ∀ p ∈ y, p.num ≤ 1000000 ∧ p.tm ≤ 18446744073709551615) (hd : d ≤ 18446744073709551615) :
    Calls Try.prog 22 #[.pointer (some ⟨D, 0, none⟩), .int .u64 (nw : Int), .int .u64 (d : Int)] w fun e w' => ∃ gv v', e = .returned gv ∧ RPart w w' D gv v' y (lostP ak d nw) nx ak := by
  have HH := Lib.hid h
  have HP := Lib.hid hp
  have HDD := Lib.hid hd
  have hDw := h.obj.lt
  obtain ⟨A1, c1, rfl, _, _, _, _, _⟩ := ownS_rb h.own
  obtain ⟨m, hm⟩ : ∃ m, y.length = m := ⟨_, rfl⟩
  rw [hm] at HH hy
  have HM := Lib.hid hm
  have HDW := Lib.hid hDw
  have HST := Lib.hid (TwI.start (lostP ak d nw) h (Below.refl _ w))
  rw [hm] at HST
  clear h hp hd hm
  go_enter Try.func22, Try.ntmps22
  go_wp2
  go_loopw [7, 8, 9, 10] (fun gv lv i _ wr => ∃ j : Nat, j ≤ m ∧ i = .int .i64 (j : Int) ∧ TwI w D (.slice A1 m c1) nx ak y (lostP ak d nw) j gv lv wr) (fun _ _ i _ _ => m - (intOf i).toNat)
  case atStart => exact ⟨0, by omega, rfl, HST.out⟩
  case round =>
    obtain ⟨j, hj, rfl, hI⟩ := hrel
    have o0 : wr.cell? ⟨D, 0, none⟩ = some (.slice A1 m c1) := by rw [hI.obj.cell]; rfl
    by_cases hlt : j < m
    · have hji : (j : Int) < (m : Int) := by omega
      have hjl : j < y.length := by rw [HM.out]; exact hlt
      obtain ⟨g, rfl, f0, f1, f2, f3, f4⟩ := hI.reads HH.out hjl
      obtain ⟨hpn, hpt⟩ := HP.out _ (getD_memS hjl)
      obtain ⟨G1, cG, rfl, _, _, _, _, _⟩ := ownS_rb hI.tw.own1
      obtain ⟨G2, cL, rfl, _, _, _, _, _⟩ := ownS_rb hI.tw.own2
      have hyl : y.length ≤ 1000 := by rw [HM.out]; exact hy
      have HYES : Hid (lostP ak d nw (y.getD j default) = true → ∀ V, Below wr.heap.size wr V → ∃ A3 c3 W3, (Builtin.append_ #[25, 25] 25 #[.slice G1 ((y.take j).filter (lostP ak d nw)).length cG, .slice (some ⟨V.heap.size, 0, none⟩) 1 1]).run Try.prog (V.alloc (.cells (pc (y.getD j default)).toArray 32)) = .ok (.slice A3 (((y.take j).filter (lostP ak d nw)).length + 1) c3) W3 ∧ TwI w D (.slice (some ⟨g, 0, none⟩) m c1) nx ak y (lostP ak d nw) (j + 1) (.slice A3 (((y.take j).filter (lostP ak d nw)).length + 1) c3) (.slice G2 ((y.take j).filter (fun p => !lostP ak d nw p)).length cL) W3) := fun hB V hV => (hI.kept hV).app1 HDW.out hjl hyl hB
      have HNO : Hid (lostP ak d nw (y.getD j default) = false → ∀ V, Below wr.heap.size wr V → ∃ A3 c3 W3, (Builtin.append_ #[25, 25] 25 #[.slice G2 ((y.take j).filter (fun p => !lostP ak d nw p)).length cL, .slice (some ⟨V.heap.size, 0, none⟩) 1 1]).run Try.prog (V.alloc (.cells (pc (y.getD j default)).toArray 32)) = .ok (.slice A3 (((y.take j).filter (fun p => !lostP ak d nw p)).length + 1) c3) W3 ∧ TwI w D (.slice (some ⟨g, 0, none⟩) m c1) nx ak y (lostP ak d nw) (j + 1) (.slice G1 ((y.take j).filter (lostP ak d nw)).length cG) (.slice A3 (((y.take j).filter (fun p => !lostP ak d nw p)).length + 1) c3) W3) := fun hB V hV => (hI.kept hV).app2 HDW.out hjl hyl hB
      have a2 : (wr.alloc (.cells (pc (y.getD j default)).toArray 32)).cell? ⟨D, 2, none⟩ = some (.int .i64 (ak : Int)) := by rw [((hI.obj).alloc _).cell]; rfl
      have hDr : D < wr.heap.size := hI.obj.lt
      clear hI
      generalize y.getD j default = p at *
      obtain ⟨num, tm, sz, ask, fa, fn, fc⟩ := p
      dsimp only at f0 f1 f2 f3 f4 hpn hpt
      generalize ((y.take j).filter (lostP ak d nw)).length = q1 at *
      generalize ((y.take j).filter (fun p => !lostP ak d nw p)).length = q2 at *
      obtain ⟨W1, hW1⟩ : ∃ W1, wr.alloc (.cells #[.int .i64 (num : Int), .int .u64 (tm : Int), .int .i64 (sz : Int), .bool ask, .slice fa fn fc] 32) = W1 := ⟨_, rfl⟩
      have hb1 : Below wr.heap.size wr W1 := hW1 ▸ (Below.refl _ wr).alloc (Nat.le_refl _) _
      obtain ⟨S, hS⟩ : ∃ S, wr.heap.size = S := ⟨_, rfl⟩
      have o1 : Obj W1 S 32 #[.int .i64 (num : Int), .int .u64 (tm : Int), .int .i64 (sz : Int), .bool ask, .slice fa fn fc] := hS ▸ hW1 ▸ Obj.new wr _ _
      change (wr.alloc (.cells #[.int .i64 (num : Int), .int .u64 (tm : Int), .int .i64 (sz : Int), .bool ask, .slice fa fn fc] 32)).cell? ⟨D, 2, none⟩ = _ at a2
      rw [hW1] at a2
      have s0 : W1.cell? ⟨S, 0, none⟩ = some (.int .i64 (num : Int)) := by rw [o1.cell]; rfl
      have s1 : W1.cell? ⟨S, 1, none⟩ = some (.int .u64 (tm : Int)) := by rw [o1.cell]; rfl
      have s2 : W1.cell? ⟨S, 2, none⟩ = some (.int .i64 (sz : Int)) := by rw [o1.cell]; rfl
      have s3 : W1.cell? ⟨S, 3, none⟩ = some (.bool ask) := by rw [o1.cell]; rfl
      have s4 : W1.cell? ⟨S, 4, none⟩ = some (.slice fa fn fc) := by rw [o1.cell]; rfl
      have HT := Lib.hid (fun w => rtadd_any tm d w hpt HDD.out)
      obtain ⟨t, ht⟩ : ∃ t, tadd tm d = t := ⟨_, rfl⟩
      rw [ht] at HT
      have HTT := Lib.hid ht
      have HB1 := Lib.hid hb1
      have HW1 := Lib.hid hW1
      have HS := Lib.hid hS
      have HO1 := Lib.hid o1
      have e1 : IntKind.i64.wrap ((num : Int) + 1) = (num : Int) + 1 := by rw [IntKind.wrap_i64]; omega
      have e4 : IntKind.i64.wrap ((num : Int) + 4) = (num : Int) + 4 := by rw [IntKind.wrap_i64]; omega
      clear hb1 hW1 hS o1 hpt ht
      have hnn : (Go.Proofs.Ytlldomgfjmkcdaa.lostP ak d nw ⟨num, tm, sz, ask, fa, fn, fc⟩) = (decide (num + 1 < ak) && (decide (num + 4 ≤ ak) || decide (t ≤ nw))) := by unfold lostP; rw [HTT.out]
      have HNN := Lib.hid hnn
      clear hnn
      go_upto_region 6 with fail
      rw [HW1.out, HS.out]
      clear f0 f1 f2 f3 f4 HW1
      by_cases c1' : num + 1 < ak
      · by_cases c2' : num + 4 ≤ ak
        · skip
          have D1 : decide (num + 1 < ak) = true := decide_eq_true (by omega)
          have d1 : decide ((num : Int) + 1 < (ak : Int)) = true := decide_eq_true (by omega)
          have D2 : decide (num + 4 ≤ ak) = true := decide_eq_true (by omega)
          have d2 : decide ((num : Int) + 4 ≤ (ak : Int)) = true := decide_eq_true (by omega)
          have HBB : Hid (lostP ak d nw ⟨num, tm, sz, ask, fa, fn, fc⟩ = true) := by unfold Hid; rw [HNN.out]; simp [*]
          go_quiet (fail)
          rename_i nq
          obtain ⟨A3, c3, W3, hr3, hT3⟩ := HYES.out HBB.out (W1.drewN nq) (below_drewN HB1.out nq)
          have HR3 := Lib.hid hr3
          have HT3 := Lib.hid hT3
          clear hr3 hT3
          go_wp2_with (at_builtin; refine Lib.wpList_append_run _ rfl (.tmp 53) (.tmp 55) _ _ rfl _ _ rfl rfl _ _ HR3.out ?_)
          go_roundw
          case rel => exact ⟨j + 1, by omega, by go_num, HT3.out⟩
          case measure => simp [intOf]; omega
        · by_cases c3' : t ≤ nw
          · skip
            have D1 : decide (num + 1 < ak) = true := decide_eq_true (by omega)
            have d1 : decide ((num : Int) + 1 < (ak : Int)) = true := decide_eq_true (by omega)
            have D2 : decide (num + 4 ≤ ak) = false := decide_eq_false (by omega)
            have d2 : decide ((num : Int) + 4 ≤ (ak : Int)) = false := decide_eq_false (by omega)
            have D3 : decide (t ≤ nw) = true := decide_eq_true (by omega)
            have d3 : decide ((t : Int) ≤ (nw : Int)) = true := decide_eq_true (by omega)
            have HBB : Hid (lostP ak d nw ⟨num, tm, sz, ask, fa, fn, fc⟩ = true) := by unfold Hid; rw [HNN.out]; simp [*]
            go_quiet ((go_at_call 38; exact quiet1 (HT.out _)))
            rename_i nq
            obtain ⟨A3, c3, W3, hr3, hT3⟩ := HYES.out HBB.out (W1.drewN nq) (below_drewN HB1.out nq)
            have HR3 := Lib.hid hr3
            have HT3 := Lib.hid hT3
            clear hr3 hT3
            go_wp2_with (at_builtin; refine Lib.wpList_append_run _ rfl (.tmp 53) (.tmp 55) _ _ rfl _ _ rfl rfl _ _ HR3.out ?_)
            go_roundw
            case rel => exact ⟨j + 1, by omega, by go_num, HT3.out⟩
            case measure => simp [intOf]; omega
          · skip
            have D1 : decide (num + 1 < ak) = true := decide_eq_true (by omega)
            have d1 : decide ((num : Int) + 1 < (ak : Int)) = true := decide_eq_true (by omega)
            have D2 : decide (num + 4 ≤ ak) = false := decide_eq_false (by omega)
            have d2 : decide ((num : Int) + 4 ≤ (ak : Int)) = false := decide_eq_false (by omega)
            have D3 : decide (t ≤ nw) = false := decide_eq_false (by omega)
            have d3 : decide ((t : Int) ≤ (nw : Int)) = false := decide_eq_false (by omega)
            have HBB : Hid (lostP ak d nw ⟨num, tm, sz, ask, fa, fn, fc⟩ = false) := by unfold Hid; rw [HNN.out]; simp [*]
            go_quiet ((go_at_call 38; exact quiet1 (HT.out _)))
            rename_i nq
            obtain ⟨A3, c3, W3, hr3, hT3⟩ := HNO.out HBB.out (W1.drewN nq) (below_drewN HB1.out nq)
            have HR3 := Lib.hid hr3
            have HT3 := Lib.hid hT3
            clear hr3 hT3
            go_wp2_with (at_builtin; refine Lib.wpList_append_run _ rfl (.tmp 57) (.tmp 59) _ _ rfl _ _ rfl rfl _ _ HR3.out ?_)
            go_roundw
            case rel => exact ⟨j + 1, by omega, by go_num, HT3.out⟩
            case measure => simp [intOf]; omega
      · skip
        have D1 : decide (num + 1 < ak) = false := decide_eq_false (by omega)
        have d1 : decide ((num : Int) + 1 < (ak : Int)) = false := decide_eq_false (by omega)
        have HBB : Hid (lostP ak d nw ⟨num, tm, sz, ask, fa, fn, fc⟩ = false) := by unfold Hid; rw [HNN.out]; simp [*]
        go_quiet (fail)
        rename_i nq
        obtain ⟨A3, c3, W3, hr3, hT3⟩ := HNO.out HBB.out (W1.drewN nq) (below_drewN HB1.out nq)
        have HR3 := Lib.hid hr3
        have HT3 := Lib.hid hT3
        clear hr3 hT3
        go_wp2_with (at_builtin; refine Lib.wpList_append_run _ rfl (.tmp 57) (.tmp 59) _ _ rfl _ _ rfl rfl _ _ HR3.out ?_)
        go_roundw
        case rel => exact ⟨j + 1, by omega, by go_num, HT3.out⟩
        case measure => simp [intOf]; omega
    · obtain rfl : m = j := by omega
      have z0 := hI.obj.free 0
      have HFI : Hid (RPart w (wr.setCell ⟨D, 0, none⟩ u8) D u7 u8 y (lostP ak d nw) nx ak) := rpart_fin HDW.out (Nat.le_of_eq HM.out) hI.tw hI.obj
      obtain ⟨G1, cG, rfl, _, _, _, _, _⟩ := ownS_rb hI.tw.own1
      obtain ⟨G2, cL, rfl, _, _, _, _, _⟩ := ownS_rb hI.tw.own2
      clear hI
      go_wp2
      go_ret

      exact ⟨_, rfl, _, HFI.out⟩
end Go.Proofs.Ytlldomgfjmkcdaa
