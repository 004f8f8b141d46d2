/- Layer 15's document, walked: Ack. -/
import Derived.Test.YtlldomgfjmkcdaaRows
import Derived.Test.YtlldomgfjmkcdaaAid
import Derived.Test.YtlldomgfjmkcdaaHeldT
import Derived.Test.YtlldomgfjmkcdaaLgW
import Derived.Test.YtlldomgfjmkcdaaLgD
import Derived.Test.YtlldomgfjmkcdaaLgN
import Derived.Test.YtlldomgfjmkcdaaLgO
import Derived.Test.YtlldomgfjmkcdaaLgQ
import Derived.Test.YtlldomgfjmkcdaaLaD
import Derived.Test.YtlldomgfjmkcdaaLaE
import Derived.Test.YtlldomgfjmkcdaaLaF
import Derived.Lib.AppendZeros
import Derived.BigQuiet
import Derived.Deep.QuietTactic
import Derived.Deep.CutBlock
import Derived.Deep.DeepCutAuto
import Derived.Lib.Hide
namespace Go.Proofs.Ytlldomgfjmkcdaa
open Go Go.RowKit
set_option linter.unusedVariables false
set_option linter.unusedSimpArgs false

def RAck (w : World) (D : Nat) (y : List PS) (nx ak : Nat) (l : List (Nat × Nat)) (e : Ending) (w' : World) : Prop :=
  if l.any (badR nx) = true then e = .returned (.tuple #[.slice none 0 0, .int .i64 3]) ∧ Below w.heap.size w w' else ∃ gv v', e = .returned (.tuple #[gv, .int .i64 0]) ∧ RPart w w' D gv v' y (inRs l) nx (ackM ak (y.filter (inRs l)))
theorem RAck.bad {w w' : World} {D nx ak : Nat} {y : List PS} {l : List (Nat × Nat)} (h : l.any (badR nx) = true) (hb : Below w.heap.size w w') : RAck w D y nx ak l (.returned (.tuple #[.slice none 0 0, .int .i64 3])) w' := by
  unfold RAck; rw [if_pos h]; exact ⟨rfl, hb⟩
theorem RAck.ok {w w' : World} {D nx ak : Nat} {y : List PS} {l : List (Nat × Nat)} {gv v' : Value} (h : l.any (badR nx) = false) (hR : RPart w w' D gv v' y (inRs l) nx (ackM ak (y.filter (inRs l)))) : RAck w D y nx ak l (.returned (.tuple #[gv, .int .i64 0])) w' := by
  unfold RAck; rw [if_neg (by rw [h]; simp)]; exact ⟨gv, v', rfl, hR⟩
theorem rngAt {w W : World} {D : Nat} {A : Option Addr} {l : List (Nat × Nat)} (h : RbR w A l) (hu : Upd D w W) (hne : ∀ b o, 0 < l.length → A = some ⟨b, o, none⟩ → b ≠ D) : RbR W A l := fun hp => by
  obtain ⟨b, o, e, h1, h2⟩ := h hp
  have := hne b o hp e
  exact ⟨b, o, e, Nat.lt_of_lt_of_le h1 hu.size, fun i hi => ⟨(World.cell?_of_block (a := ⟨b, o + i * 2, none⟩) (hu.block b h1 this)).trans (h2 i hi).1, (World.cell?_of_block (a := ⟨b, o + i * 2 + 1, none⟩) (hu.block b h1 this)).trans (h2 i hi).2⟩⟩

set_option maxRecDepth 100000 in
set_option maxHeartbeats 4000000 in
theorem rack_any (D nx ak : Nat) (v : Value) (y : List PS) (A : Option Addr) (n c : Nat) (l : List (Nat × Nat)) (w : World) (h : DS w D v y nx ak) (hy : y.length ≤ 1000) (hnx : nx ≤ 1000000) (hp : ∀ p ∈ y, p.num + 1 ≤ 1000000) (hl : l.length = n) (hln : n ≤ 1000000) (hR : RbR w A l) (hne : ∀ b o, 0 < l.length → A = some ⟨b, o, none⟩ → b ≠ D) (hb : ∀ r ∈ l, r.1 ≤ 18446744073709551615 ∧ r.2 ≤ 18446744073709551615) :
    Calls Try.prog 20 #[.pointer (some ⟨D, 0, none⟩), .slice A n c] w (RAck w D y nx ak l) := by
  have HH := Lib.hid h
  have HLN := Lib.hid hl
  have HR := Lib.hid hR
  have HNE := Lib.hid hne
  have HB := Lib.hid hb
  have HP := Lib.hid hp
  have hDw := h.obj.lt
  have d1 : w.cell? ⟨D, 1, none⟩ = some (.int .i64 (nx : Int)) := by rw [h.obj.cell]; rfl
  obtain ⟨A1, c1, rfl, _, _, _, _, _⟩ := ownS_rb h.own
  obtain ⟨m, hm⟩ : ∃ m, y.length = m := ⟨_, rfl⟩
  rw [hm] at HH hy
  have HM := Lib.hid hm
  have HDW := Lib.hid hDw
  have HIN : Hid (∀ (num : Nat) W, num ≤ 1000000 → Upd D w W → Calls Try.prog 36 #[.slice A n c, .int .u64 (num : Int)] W fun e w' => e = .returned (.bool (l.any (inR num))) ∧ W = w') := fun num W hn hu => rin_any num A n c l W hn hl hln (rngAt hR hu hne) hb
  clear h hl hR hne hb hp hm
  go_enter Try.func20, Try.ntmps20
  go_wp2
  go_loopw [6] (fun i wr => ∃ k q : Nat, k ≤ n ∧ i = .int .i64 (k : Int) ∧ (l.take k).any (badR nx) = false ∧ wr = w.drewN q) (fun i _ => n - (intOf i).toNat)
  case atStart => exact ⟨0, 0, by omega, rfl, rfl, rfl⟩
  case round =>
    obtain ⟨k, q, hk, rfl, hf, rfl⟩ := hrel
    have HF := Lib.hid hf
    clear hf
    by_cases hlt : k < n
    · have hki : (k : Int) < (n : Int) := by omega
      have hkl : k < l.length := by rw [HLN.out]; exact hlt
      obtain ⟨g, o, rfl, hg, hcell⟩ := HR.out (by omega)
      obtain ⟨f0, f1⟩ := hcell k hkl
      have hmem : l.getD k (0, 0) ∈ l := by rw [List.getD_eq_getElem?_getD, List.getElem?_eq_getElem hkl]; exact List.getElem_mem _
      have htk : l.take (k + 1) = l.take k ++ [l.getD k (0, 0)] := by rw [List.take_succ_eq_append_getElem hkl, List.getD_eq_getElem?_getD, List.getElem?_eq_getElem hkl]; rfl
      have HAN : Hid (badR nx (l.getD k (0, 0)) = true → l.any (badR nx) = true) := fun h => List.any_eq_true.2 ⟨_, hmem, h⟩
      have HNN : Hid (badR nx (l.getD k (0, 0)) = false → (l.take (k + 1)).any (badR nx) = false) := fun h => by rw [htk, List.any_append, HF.out, List.any_cons, h]; rfl
      generalize l.getD k (0, 0) = r at *
      obtain ⟨lo, hi⟩ := r
      dsimp only at f0 f1
      have e0 : IntKind.u64.wrap (nx : Int) = (nx : Int) := by rw [IntKind.wrap_u64]; omega
      clear hmem htk hcell hg
      by_cases c2 : lo ≤ hi
      · have d2 : decide ((lo : Int) ≤ (hi : Int)) = true := by simp; omega
        have D2 : decide (lo ≤ hi) = true := by simp; omega
        by_cases c3 : nx ≤ hi
        · have d3 : decide ((nx : Int) ≤ (hi : Int)) = true := by simp; omega
          have D3 : decide (nx ≤ hi) = true := by simp; omega
          have HQ := Lib.hid (HAN.out (by unfold badR; simp [c2, c3]))
          clear c2 c3 HAN HNN
          go_wp2
          go_quiet (fail)
          go_wp2
          go_ret2
          exact RAck.bad HQ.out (below_drewN (below_drewN (Below.refl _ w) _) _)
        · have d3 : decide ((nx : Int) ≤ (hi : Int)) = false := by simp; omega
          have D3 : decide (nx ≤ hi) = false := by simp; omega
          have HQ := Lib.hid (HNN.out (by unfold badR; simp [c2, c3]))
          clear c2 c3 HAN HNN
          go_wp2
          go_quiet (fail)
          go_wp2
          go_roundw
          case rel => exact ⟨k + 1, _, by omega, by go_num, HQ.out, rfl⟩
          case measure => simp [intOf]; omega
      · have d2 : decide ((lo : Int) ≤ (hi : Int)) = false := by simp; omega
        have D2 : decide (lo ≤ hi) = false := by simp; omega
        have HQ := Lib.hid (HNN.out (by unfold badR; simp [c2]))
        clear c2 HAN HNN
        go_wp2
        go_quiet (fail)
        go_wp2
        go_roundw
        case rel => exact ⟨k + 1, _, by omega, by go_num, HQ.out, rfl⟩
        case measure => simp [intOf]; omega
    · obtain rfl : k = n := by omega
      have HOK : Hid (l.any (badR nx) = false) := by have := HF.out; rwa [List.take_of_length_le (by rw [HLN.out]; exact Nat.le_refl _)] at this
      have HIA : Hid (∀ p, inRs l p = l.any (inR p.num)) := fun p => rfl
      clear HF d1 hlt
      go_wp2
      go_loopw [7, 8, 9, 10] (fun gv lv i _ wr => ∃ j : Nat, j ≤ m ∧ i = .int .i64 (j : Int) ∧ TwI w D (.slice A1 m c1) nx (ackM ak ((y.take j).filter (inRs l))) y (inRs l) j gv lv wr) (fun _ _ i _ _ => m - (intOf i).toNat)
      case atStart => exact ⟨0, by omega, rfl, TwI.start _ HH.out (below_drewN (Below.refl _ w) _)⟩
      case round =>
        obtain ⟨j, hj, rfl, hI⟩ := hrel
        have HI := Lib.hid hI
        have o0 : wr.cell? ⟨D, 0, none⟩ = some (.slice A1 m c1) := by rw [hI.obj.cell]; rfl
        by_cases hlt : j < m
        · have hji : (j : Int) < (m : Int) := by omega
          have hjl : j < y.length := by rw [HM.out]; exact hlt
          obtain ⟨g, rfl, f0, f1, f2, f3, f4⟩ := hI.reads HH.out hjl
          have hpn := HP.out _ (getD_memS hjl)
          have e0 : IntKind.u64.wrap ((y.getD j default).num : Int) = ((y.getD j default).num : Int) := by rw [IntKind.wrap_u64]; omega
          have HIN2 := Lib.hid (HIN.out (y.getD j default).num wr (by omega) hI.tw.upd)
          obtain ⟨G1, cG, rfl, _, _, _, _, _⟩ := ownS_rb hI.tw.own1
          obtain ⟨G2, cL, rfl, _, _, _, _, _⟩ := ownS_rb hI.tw.own2
          have hyl : y.length ≤ 1000 := by rw [HM.out]; exact hy
          obtain ⟨B, hB⟩ : ∃ B, inRs l (y.getD j default) = B := ⟨_, rfl⟩
          have hB' : l.any (inR (y.getD j default).num) = B := hB
          rw [hB'] at HIN2
          have hfn := filter_next (inRs l) y j hjl
          rw [hB] at hfn
          cases B with
          | false =>
            obtain ⟨A3, c3, W3, hr3, hT3⟩ := hI.app2 HDW.out hjl hyl hB
            rw [if_neg (by simp), List.append_nil] at hfn
            have HR3 := Lib.hid hr3
            have HAK : Hid (ackM ak ((y.take (j + 1)).filter (inRs l)) = ackM ak ((y.take j).filter (inRs l))) := by unfold Hid; rw [hfn]
            have HT3 := Lib.hid hT3
            clear hr3 hT3 hfn hI hB hB' HI
            generalize y.getD j default = p at *
            obtain ⟨num, tm, sz, ask, fa, fn, fc⟩ := p
            dsimp only at f0 f1 f2 f3 f4 hpn e0 HIN2
            generalize ((y.take j).filter (inRs l)).length = q1 at *
            generalize ((y.take j).filter (fun p => !inRs l p)).length = q2 at *
            go_wp2_with fail
            refine HIN2.out.mono ?_
            rintro e w' ⟨rfl, rfl⟩
            clear HIN2
            go_wp2_with (at_builtin; refine Lib.wpList_append_run _ rfl (.tmp 83) (.tmp 91) _ _ rfl _ _ rfl rfl _ _ HR3.out ?_)
            go_roundw
            case rel => exact ⟨j + 1, by omega, by go_num, by rw [HAK.out]; exact HT3.out⟩
            case measure => simp [intOf]; omega
          | true =>
            obtain ⟨A3, c3, W3, hr3, hT3⟩ := hI.app1 HDW.out hjl hyl hB
            rw [if_pos rfl] at hfn
            have HR3 := Lib.hid hr3
            have hak : ackM ak ((y.take (j + 1)).filter (inRs l)) = max (ackM ak ((y.take j).filter (inRs l))) ((y.getD j default).num + 1) := by rw [hfn]; unfold ackM; rw [List.foldl_append]; rfl
            have HAK := Lib.hid hak
            have HT3 := Lib.hid hT3
            have a2 : W3.cell? ⟨D, 2, none⟩ = some (.int .i64 ((ackM ak ((y.take j).filter (inRs l)) : Nat) : Int)) := by rw [hT3.obj.cell]; rfl
            have z2 := hT3.obj.free 2
            clear hr3 hT3 hfn hI hB hB' HI hak
            generalize y.getD j default = p at *
            obtain ⟨num, tm, sz, ask, fa, fn, fc⟩ := p
            dsimp only at f0 f1 f2 f3 f4 hpn e0 HIN2
            dsimp only at HAK
            generalize ackM ak ((y.take j).filter (inRs l)) = a at *
            generalize ((y.take j).filter (inRs l)).length = q1 at *
            generalize ((y.take j).filter (fun p => !inRs l p)).length = q2 at *
            have e1 : IntKind.i64.wrap ((num : Int) + 1) = (num : Int) + 1 := by rw [IntKind.wrap_i64]; omega
            by_cases hge : a ≤ num
            · have hgei : (a : Int) ≤ (num : Int) := by omega
              have ht4 := HT3.out.setA HDW.out (num + 1)
              rw [show ((num + 1 : Nat) : Int) = (num : Int) + 1 from rfl] at ht4
              have HT4 := Lib.hid ht4
              have HMX : Hid (max a (num + 1) = num + 1) := Nat.max_eq_right (by omega)
              clear ht4 HT3
              go_wp2_with fail
              refine HIN2.out.mono ?_
              rintro e w' ⟨rfl, rfl⟩
              clear HIN2
              go_wp2_with (at_builtin; refine Lib.wpList_append_run _ rfl (.tmp 62) (.tmp 70) _ _ rfl _ _ rfl rfl _ _ HR3.out ?_)
              go_roundw
              case rel => exact ⟨j + 1, by omega, by go_num, by rw [HAK.out, HMX.out]; exact HT4.out⟩
              case measure => simp [intOf]; omega
            · have hgei : ¬ (a : Int) ≤ (num : Int) := by omega
              have HMX : Hid (max a (num + 1) = a) := Nat.max_eq_left (by omega)
              go_wp2_with fail
              refine HIN2.out.mono ?_
              rintro e w' ⟨rfl, rfl⟩
              clear HIN2
              go_wp2_with (at_builtin; refine Lib.wpList_append_run _ rfl (.tmp 62) (.tmp 70) _ _ rfl _ _ rfl rfl _ _ HR3.out ?_)
              go_roundw
              case rel => exact ⟨j + 1, by omega, by go_num, by rw [HAK.out, HMX.out]; exact HT3.out⟩
              case measure => simp [intOf]; omega
        · obtain rfl : m = j := by omega
          have z0 := hI.obj.free 0
          have HFI : Hid (RPart w (wr.setCell ⟨D, 0, none⟩ u8) D u7 u8 y (inRs l) nx (ackM ak (y.filter (inRs l)))) := by
            have := rpart_fin HDW.out (Nat.le_of_eq HM.out) hI.tw hI.obj
            rw [List.take_of_length_le (Nat.le_of_eq HM.out)] at this
            exact this
          obtain ⟨G1, cG, rfl, _, _, _, _, _⟩ := ownS_rb hI.tw.own1
          obtain ⟨G2, cL, rfl, _, _, _, _, _⟩ := ownS_rb hI.tw.own2
          clear hI HI
          go_wp2
          go_ret2
          exact RAck.ok HOK.out HFI.out
end Go.Proofs.Ytlldomgfjmkcdaa
