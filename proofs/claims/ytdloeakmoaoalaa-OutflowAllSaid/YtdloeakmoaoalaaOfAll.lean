/- Layer 17's outflow: OutflowAll, walked. -/
import Derived.Test.YtdloeakmoaoalaaRows
import Derived.Test.YtdloeakmoaoalaaAid
import Derived.Test.YtdloeakmoaoalaaPlainOf
import Derived.Test.YtdloeakmoaoalaaPlainOf6
import Derived.Test.YtdloeakmoaoalaaOfW
import Derived.Test.YtdloeakmoaoalaaOfA
import Derived.Test.YtdloeakmoaoalaaOfM
import Derived.Test.YtdloeakmoaoalaaOfN
import Derived.Test.YtdloeakmoaoalaaOfR
import Derived.Test.YtdloeakmoaoalaaOfU
import Derived.Test.YtdloeakmoaoalaaOfV
import Derived.Test.YtdloeakmoaoalaaOfJ
import Derived.WalkKit
import Derived.OwnWalk
import Derived.Laws.Rows
import Derived.Laws.Tables
import Derived.WalkSpells
import Derived.WalkLawsBesides
import Derived.BigQuiet
import Derived.Handy
import Derived.Lib.Walk
import Derived.Lib.Hide
import Derived.IntWalk
import Derived.OpenShut
namespace Go.Proofs.Ytdloeakmoaoalaa
open Go.RowKit
set_option linter.unusedVariables false
set_option linter.unusedSimpArgs false

theorem Ints_rb17 {w : World} {A : Option Addr} {n : Nat} {z : List Int} (h : Ints .u8 w A n z) : ∃ t : List Nat, t.length = n ∧ (∀ x ∈ t, x < 256) ∧ Rb w A t := by
  obtain ⟨h1, h2, h3⟩ := h
  refine ⟨z.map Int.toNat, by rw [List.length_map]; exact h1, fun c hc => ?_, fun hp => ?_⟩
  · obtain ⟨x, hx, rfl⟩ := List.mem_map.1 hc
    have := bounds_u8 (h2 x hx); omega
  · rw [List.length_map, h1] at hp
    obtain ⟨b, off, e, hlt, hc⟩ := h3 hp
    refine ⟨b, off, e, hlt, fun j hj => ?_⟩
    rw [List.length_map, h1] at hj
    have hzl : j < z.length := by rw [h1]; exact hj
    rw [hc j hj]
    have hb := bounds_u8 (h2 z[j] (List.getElem_mem hzl))
    unfold b8
    rw [List.getD_eq_getElem?_getD, List.getD_eq_getElem?_getD, List.getElem?_map, List.getElem?_eq_getElem hzl]
    simp only [Option.getD_some, Option.map_some]
    congr 2
    omega
set_option maxRecDepth 100000 in
set_option maxHeartbeats 16000000 in
theorem outflowAll_walk (A0 : Option Addr) (n0 c0 : Nat) (z0 : List Int) (A1 : Option Addr) (n1 c1 : Nat) (z1 : List Int) (A2 : Option Addr) (n2 c2 : Nat) (l2 : List Bool) (w : World)
    (w0 : Ints .u8 w A0 n0 z0) (x0 : n0 ≤ c0 ∧ c0 ≤ maxLen) (w1 : Ints .u8 w A1 n1 z1) (x1 : n1 ≤ c1 ∧ c1 ≤ maxLen) (w2 : Bools w A2 n2 l2) (x2 : n2 ≤ c2 ∧ c2 ≤ maxLen) :
    Calls Try.prog 7 #[.slice A0 n0 c0, .slice A1 n1 c1, .slice A2 n2 c2] w fun e w' => e = .returned (.bool true) ∧ Below w.heap.size w w' := by
  obtain ⟨t, htn, htb, htr⟩ := Ints_rb17 w0
  obtain ⟨sz, hsn, hsb, hsr⟩ := Ints_rb17 w1
  have HAL := Lib.hid (fun wr => alive_any wr)
  have hc0 : n0 ≤ c0 ∧ c0 ≤ 9223372036854775807 := ⟨x0.1, by have := x0.2; simp only [maxLen] at this; omega⟩
  have hc1 : n1 ≤ c1 ∧ c1 ≤ 9223372036854775807 := ⟨x1.1, by have := x1.2; simp only [maxLen] at this; omega⟩
  have hc2 : n2 ≤ c2 ∧ c2 ≤ 9223372036854775807 := ⟨x2.1, by have := x2.2; simp only [maxLen] at this; omega⟩
  have hcm := x0.2
  have hlc := x0.1
  have hls := w2.2
  clear w0 w1 w2 x0 x1 x2
  by_cases hbad : 300 < n0 ∨ n1 = 0 ∨ 60 < n1 ∨ 60 < n2
  · clear htn htb htr hsn hsb hsr hls hcm hlc
    have go : ∀ (p1 p2 p3 p4 : Bool), p1 = decide ((300 : Int) < (n0 : Int)) → p2 = decide (n1 = 0) → p3 = decide ((60 : Int) < (n1 : Int)) → p4 = decide ((60 : Int) < (n2 : Int)) → (p1 || p2 || p3 || p4) = true →
        Calls Try.prog 7 #[.slice A0 n0 c0, .slice A1 n1 c1, .slice A2 n2 c2] w fun e w' => e = .returned (.bool true) ∧ Below w.heap.size w w' := by
      intro p1 p2 p3 p4 e1 e2 e3 e4 hp
      have e1' := e1.symm
      have e3' := e3.symm
      have e4' := e4.symm
      have q2 : ((n1 : Int) == 0) = p2 := by rw [e2, Bool.eq_iff_iff]; simp
      have q2' : (n1 == 0) = p2 := by rw [e2, Bool.eq_iff_iff]; simp
      clear e1 e2 e3 e4 hbad
      cases p1 <;> cases p2 <;> cases p3 <;> cases p4 <;> first
        | (exfalso; revert hp; decide)
        | (clear hp
           go_enter Try.func7, Try.ntmps7
           go_wp2_with fail
           refine (HAL.out _).mono ?_
           rintro e wA ⟨rfl, hL⟩
           have HL := Lib.hid hL
           clear hL
           go_wp2
           go_ret
           exact ⟨rfl, HL.out⟩)
    refine go _ _ _ _ rfl rfl rfl rfl ?_
    simp
    omega
  have hn0 : n0 ≤ 300 := by omega
  have hn1 : 0 < n1 := by omega
  have hn1' : n1 ≤ 60 := by omega
  have hn2 : n2 ≤ 60 := by omega
  have hd1 : decide ((300 : Int) < (n0 : Int)) = false := by simp; omega
  have hd2 : ((n1 : Int) == 0) = false := by simp; omega
  have hd2' : (n1 == 0) = false := by simp; omega
  have hd3 : decide ((60 : Int) < (n1 : Int)) = false := by simp; omega
  have hd4 : decide ((60 : Int) < (n2 : Int)) = false := by simp; omega
  have HSZ : Hid (∀ wr k, k < n1 → Below w.heap.size w wr → ∃ b o, A1 = some ⟨b, o, none⟩ ∧ ∃ s, s < 256 ∧ wr.cell? ⟨b, o + k, none⟩ = some (.int .u8 ((s : Nat) : Int))) := fun wr k hk hb => by
    obtain ⟨b, o, e, hB, hc⟩ := hsr (by omega)
    refine ⟨b, o, e, sz.getD k 0, ?_, (hb.cell (p := ⟨b, _, none⟩) hB).trans (hc k (by omega))⟩
    rw [List.getD_eq_getElem?_getD, List.getElem?_eq_getElem (by omega)]
    exact hsb _ (List.getElem_mem _)
  have HLS : Hid (∀ wr j, j < n2 → Below w.heap.size w wr → ∃ b o, A2 = some ⟨b, o, none⟩ ∧ ∃ q : Bool, wr.cell? ⟨b, o + j, none⟩ = some (.bool q)) := fun wr j hj hb => by
    obtain ⟨b, o, e, hB, hc⟩ := hls (by omega)
    exact ⟨b, o, e, _, (hb.cell (p := ⟨b, _, none⟩) hB).trans (hc j hj)⟩
  have HTN := Lib.hid htn
  have HTB := Lib.hid htb
  have HTR := Lib.hid (fun wr (h : Below w.heap.size w wr) => htr.below h)
  have HCM := Lib.hid hcm
  have HST := Lib.hid (Of.All.start t (by omega))
  have HW : Hid (∀ wr a b mb x y, JnE w a b mb x y wr → Calls Try.prog 13 #[.pointer (some ⟨a, 0, none⟩), .slice A0 n0 c0] wr fun e w' => e = .returned (.int .i64 ((Of.write x t).1 : Nat)) ∧ JnE w a b mb (Of.write x t).2 y w') := fun wr a b mb x y h => by
    have := h.write A0 c0 t (htr.below h.bel) (by omega) hcm (by omega)
    rw [htn] at this
    exact this
  clear htn htb htr hsn hsb hsr hls hcm hlc hbad
  go_enter Try.func7, Try.ntmps7
  go_wp2_with fail
  refine (HAL.out _).mono ?_
  rintro e wA ⟨rfl, hL⟩
  have HL := Lib.hid hL
  clear hL
  go_wp2_with fail
  refine (new_own 300 wA).mono ?_
  rintro e wB ⟨a, rfl, ha, hB, hb⟩
  have HB : Hid (Bf wB a a a ⟨[], [], false, 0, 300⟩ ∧ w.heap.size ≤ a ∧ a < wB.heap.size ∧ Below w.heap.size w wB) := ⟨hB, by have := HL.out.size; omega, hB.lt.1, HL.out.trans (hb.mono HL.out.size)⟩
  clear ha hB hb HL
  go_wp2_with fail
  refine (Rm.OwnS.new 300 (by omega) HB.out.2.2.2).mono ?_
  rintro e wC ⟨b, rfl, hb1, mb, hb2, hS, hbl⟩
  have HJ : Hid (JnE w a b mb ⟨[], [], false, 0, 300⟩ (Rs.new 300) wC) := by
    have h1 := HB.out.2.2.1
    have h2 := hbl.size
    exact ⟨a, a, HB.out.1.kept hbl, Of.Ok.new 300, hS, HB.out.2.1, HB.out.2.1, HB.out.2.1, by omega, by omega, ⟨by omega, by omega⟩, ⟨by omega, by omega⟩, ⟨by omega, by omega⟩⟩
  clear hb1 hb2 hS hbl HB
  go_wp2_with fail
  refine (HW.out _ _ _ _ _ _ HJ.out).mono ?_
  rintro e wD ⟨rfl, hJ⟩
  rw [HST.out.1, HTN.out]
  have HJ2 := Lib.hid hJ
  clear hJ HJ HW
  go_wp2_with fail
  refine (HJ2.out.finish).mono ?_
  rintro e wE ⟨rfl, hJ⟩
  rw [HST.out.2.1]
  have HJ3 := Lib.hid hJ
  have HAL0 := Lib.hid HST.out.2.2
  clear hJ HJ2 HST
  generalize (Of.finish (Of.write ⟨[], [], false, 0, 300⟩ t).2).2 = x00 at *
  go_wp2
  go_loopw [9] (fun i wr => ∃ (j : Nat) (x : Of.B) (y : Rs.S), i = .int .i64 j ∧ Of.All t x y ∧ j + Of.left x ≤ 301 + min j 60 ∧ JnE w a b mb x y wr) (fun i _ => 1000 - (intOf i).toNat)
  case atStart => exact ⟨0, x00, _, rfl, HAL0.out.1, by have := HAL0.out.2; omega, HJ3.out⟩
  case round =>
    clear HJ3 HAL0
    obtain ⟨j, x, y, rfl, hA, hj, hJ⟩ := hrel
    have HA := Lib.hid hA
    have HJ := Lib.hid hJ
    have hj7 : j ≤ 361 := by omega
    have hji : (j : Int) < 700 := by omega
    cases hd : Of.done x with
    | true =>
      obtain ⟨f1, f2, f3⟩ := hA.fin_ hd
      have m1 : Rs.many y (1000 : Int) = t.length := f1.many 1000 (by have := hA.len; omega)
      have b1 := f1.bytes
      have HRD : Hid (Rs.done (Rs.read y 1000).2 = true) := by
        unfold Hid Rs.read Rs.done Rs.readK
        rw [m1]
        simp only [f2, f3, f1.rd]
        simp
      have M1 := Lib.hid m1
      have B1 := Lib.hid b1
      have HD := Lib.hid hd
      clear f1 f2 f3 m1 b1 hd hA hJ hj
      go_wp2_with fail
      refine (HJ.out.done).mono ?_
      rintro e wF ⟨rfl, q, rfl⟩
      rw [HD.out]
      have HJ1 := Lib.hid (HJ.out.drewN q)
      obtain ⟨wF, hwF⟩ : ∃ wF, wr.drewN q = wF := ⟨_, rfl⟩
      rw [hwF] at HJ1 ⊢
      clear hwF HJ
      go_wp2_with fail
      refine (HAL.out _).mono ?_
      rintro e wG ⟨rfl, hL⟩
      have HJ2 := Lib.hid (HJ1.out.below hL)
      clear hL HJ1
      go_wp2_with fail
      refine (HJ2.out.done).mono ?_
      rintro e wH ⟨rfl, q2, rfl⟩
      rw [HD.out]
      have HJ3 := Lib.hid (HJ2.out.drewN q2)
      go_wp2_with fail
      refine (HJ3.out.read 1000).mono ?_
      rintro e wI ⟨Ar, cr, rfl, hr, hJ⟩
      rw [M1.out] at hr ⊢
      rw [B1.out] at hr
      rw [HTN.out]
      have HJ4 := Lib.hid hJ
      have HR := Lib.hid hr
      clear hr hJ HJ3 HJ2
      have HSAME : Hid (Calls Try.prog 25 #[.slice Ar n0 cr, .slice A0 n0 c0] wI fun e w' => e = .returned (.bool true) ∧ ∃ q, w' = wI.drewN q) := by
        have := same_true Ar A0 cr c0 t wI HR.out (HTR.out _ HJ4.out.bel) (by rw [HTN.out]; omega)
        rw [HTN.out] at this
        exact this
      go_wp2_with fail
      refine HSAME.out.mono ?_
      rintro e wK ⟨rfl, q3, rfl⟩
      have HJ5 := Lib.hid (HJ4.out.drewN q3)
      go_wp2_with fail
      refine (HJ5.out.rdone).mono ?_
      rintro e wL ⟨rfl, q4, rfl⟩
      rw [HRD.out]
      have HJ6 := Lib.hid (HJ5.out.drewN q4).bel
      go_wp2
      go_ret
      exact ⟨rfl, by first | exact HJ6.out | (simpa using HJ6.out)⟩
    | false =>
      obtain ⟨k, hk⟩ : ∃ k, j % n1 = k := ⟨_, rfl⟩
      have hkn : k < n1 := by have := Nat.mod_lt j hn1; omega
      have hkz : (k : Int) < (n1 : Int) := by omega
      have hq1 : ((j : Int)).tmod (n1 : Int) = (k : Int) := by
        rw [← hk, Int.tmod_eq_emod_of_nonneg (by omega)]; simp
      have hq2 : ((j : Int)) % (n1 : Int) = (k : Int) := by rw [← hk]; simp
      clear hk
      have HD := Lib.hid hd
      clear hA hJ hd
      go_wp2_with fail
      refine (HJ.out.done).mono ?_
      rintro e wF ⟨rfl, q, rfl⟩
      rw [HD.out]
      have HJ1 := Lib.hid (HJ.out.drewN q)
      obtain ⟨wF, hwF⟩ : ∃ wF, wr.drewN q = wF := ⟨_, rfl⟩
      rw [hwF] at HJ1 ⊢
      clear hwF HJ
      obtain ⟨bs, os, rfl, s, hs, gs⟩ := HSZ.out wF k hkn HJ1.out.bel
      have hR := HA.out.round HTB.out (1 + s) (by omega) HD.out
      obtain ⟨o, to, en, hdue, hoto, hto, hpc, hpos, ⟨hL1, hL2⟩, herr, hA1, hA2⟩ := hR
      have HNX : Hid (Calls Try.prog 12 #[.pointer (some ⟨a, 0, none⟩), .int .i64 (1 + (s : Int))] wF fun e w' => ∃ A c, e = .returned (.tuple #[.int .u64 (o : Int), .slice A (to - o) c, .bool en, .bool true]) ∧ (to - o ≤ c ∧ c ≤ maxLen) ∧ Rb w' A (Rs.piece t o to) ∧ JnE w a b mb (Of.next x (1 + s)) y w') := by
        have h1 := HJ1.out.next (1 + s) (by omega) (by omega)
        have hob : outB x (1 + s) = Rs.piece t o to := by
          unfold outB
          rw [hdue, HA.out.b]
          exact hpc
        have hpl := Rs.piece_len t o to hoto hto
        rw [hob, hdue, hpl, show ((1 + s : Nat) : Int) = 1 + (s : Int) by omega] at h1
        refine h1.mono ?_
        rintro e w' ⟨A, c, h2, h3, h4, h5, h6⟩
        exact ⟨A, c, h2, ⟨h3, h4⟩, h5, h6⟩
      have hpl := Rs.piece_len t o to hoto hto
      obtain ⟨m, hm⟩ : ∃ m, to - o = m := ⟨_, rfl⟩
      rw [hm] at HNX hL1 hL2 herr hA1 hA2 hpl
      have ho64 : o < 18446744073709551616 := by have := HTN.out; omega
      have hm3 : m ≤ 300 := by have := HTN.out; omega
      have HPU := Lib.hid (fun (wq : World) (x' : Of.B) (A : Option Addr) (c : Nat) (h : JnE w a b mb x' y wq) (hA : Rb wq A (Rs.piece t o to)) (hc : m ≤ c ∧ c ≤ maxLen) => h.put o m c 0 A (Rs.piece t o to) en hpl hA (fun c hc => HTB.out c (List.mem_of_mem_drop (List.mem_of_mem_take hc))) (by omega) hc ho64 herr)
      clear hdue hpc hm hoto hto herr hpl HA HD
      obtain ⟨xn, hxn⟩ : ∃ xn, Of.next x (1 + s) = xn := ⟨_, rfl⟩
      rw [hxn] at HNX hL1 hL2 hA1 hA2
      obtain ⟨yp, hyp⟩ : ∃ yp, Rs.put y o (Rs.piece t o to) en = yp := ⟨_, rfl⟩
      rw [hyp] at HPU hA1
      have HLO := Lib.hid (fun wq (h : JnE w a b mb xn y wq) => h.lost o (m : Int) en)
      have HAC := Lib.hid (fun wq (h : JnE w a b mb xn yp wq) => h.acked o (m : Int) en)
      obtain ⟨xl, hxl⟩ : ∃ xl, Of.turn xn o (m : Int) en Of.fLost = xl := ⟨_, rfl⟩
      obtain ⟨xa, hxa⟩ : ∃ xa, Of.turn xn o (m : Int) en Of.fAck = xa := ⟨_, rfl⟩
      rw [hxl] at hL1 hL2 HLO
      rw [hxa] at hA1 hA2 HAC
      have HL1 := Lib.hid hL1
      have HA1 := Lib.hid hA1
      clear hL1 hA1 hxn hyp hxl hxa
      go_wp2_with fail
      refine HNX.out.mono ?_
      rintro e wG ⟨A, c, rfl, hc, hr, hJ⟩
      have HCC := Lib.hid hc
      have HR := Lib.hid hr
      have HJ2 := Lib.hid hJ
      clear hc hr hJ HNX HJ1 gs hq1 hq2
      have h5 : Of.left xl ≤ Of.left x := by omega
      have h6 : Of.left xa + 1 ≤ Of.left x := hA2
      have h7 : j + Of.left x ≤ 301 + min j 60 := hj
      have HB := Lib.hid (And.intro h5 (And.intro h6 h7))
      clear hL2 hA2 hj hpos h5 h6 h7
      by_cases hj2 : j < n2
      · have hj2z : (j : Int) < (n2 : Int) := by omega
        obtain ⟨bl, ol, rfl, lb, gl⟩ := HLS.out wG j hj2 HJ2.out.bel
        cases lb with
        | true =>
          go_wp2_with fail
          refine (HLO.out _ HJ2.out).mono ?_
          rintro e wH ⟨rfl, hJ⟩
          have HJ3 := Lib.hid hJ
          clear hJ HJ2 gl
          go_wp2
          go_roundw
          case rel => exact ⟨j + 1, xl, y, by go_num, HL1.out, by have := HB.out; omega, HJ3.out⟩
          case measure => simp [intOf]; omega
        | false =>
          go_wp2_with fail
          refine (HPU.out _ _ _ _ HJ2.out HR.out HCC.out).mono ?_
          rintro e wH ⟨rfl, hJ⟩
          have HJ3 := Lib.hid hJ
          clear hJ HJ2
          go_wp2_with fail
          refine (HAC.out _ HJ3.out).mono ?_
          rintro e wI ⟨rfl, hJ⟩
          have HJ4 := Lib.hid hJ
          clear hJ HJ3
          go_wp2
          go_roundw
          case rel => exact ⟨j + 1, xa, yp, by go_num, HA1.out, by have := HB.out; omega, HJ4.out⟩
          case measure => simp [intOf]; omega
      · have hj2z : ¬ (j : Int) < (n2 : Int) := by omega
        go_wp2_with fail
        refine (HPU.out _ _ _ _ HJ2.out HR.out HCC.out).mono ?_
        rintro e wH ⟨rfl, hJ⟩
        have HJ3 := Lib.hid hJ
        clear hJ HJ2
        go_wp2_with fail
        refine (HAC.out _ HJ3.out).mono ?_
        rintro e wI ⟨rfl, hJ⟩
        have HJ4 := Lib.hid hJ
        clear hJ HJ3
        go_wp2
        go_roundw
        case rel => exact ⟨j + 1, xa, yp, by go_num, HA1.out, by have := HB.out; omega, HJ4.out⟩
        case measure => simp [intOf]; omega
end Go.Proofs.Ytdloeakmoaoalaa
