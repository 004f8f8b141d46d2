/- Layer 17's outflow: OutflowRight, walked. -/
import Derived.Test.YtdloeakmoaoalaaRows
import Derived.Test.YtdloeakmoaoalaaAid
import Derived.Test.YtdloeakmoaoalaaPlainOf
import Derived.Test.YtdloeakmoaoalaaPlainOf2
import Derived.Test.YtdloeakmoaoalaaPlainOf3
import Derived.Test.YtdloeakmoaoalaaPlainOf4
import Derived.Test.YtdloeakmoaoalaaOfW
import Derived.Test.YtdloeakmoaoalaaOfX
import Derived.Test.YtdloeakmoaoalaaOfA
import Derived.Test.YtdloeakmoaoalaaOfB
import Derived.Test.YtdloeakmoaoalaaOfE
import Derived.Test.YtdloeakmoaoalaaOfM
import Derived.Test.YtdloeakmoaoalaaOfN
import Derived.Test.YtdloeakmoaoalaaOfP
import Derived.Test.YtdloeakmoaoalaaOfQ
import Derived.Test.YtdloeakmoaoalaaOfR
import Derived.Test.YtdloeakmoaoalaaOfU
import Derived.Test.YtdloeakmoaoalaaOfV
import Derived.WalkKit
import Derived.OwnWalk
import Derived.Laws.Rows
import Derived.Laws.Tables
import Derived.WalkSpells
import Derived.WalkLawsBesides
import Derived.BigQuiet
import Derived.Handy
import Derived.Lib.Walk
import Derived.Lib.Hide
import Derived.IntWalk
import Derived.OpenShut
import Derived.Lib.AppendZeros
import Derived.Deep.WholeRow
namespace Go.Proofs.Ytdloeakmoaoalaa
open Go.RowKit
set_option linter.unusedVariables false
set_option linter.unusedSimpArgs false

def z2000 : List Nat := List.replicate 2000 0
theorem zero2000 : (Try.prog.info? 47).map (fun i => (i.zero, i.size)) = some (some (.agg (cellsO z2000)), 2000) := by kernel_rfl
theorem z2000_len : z2000.length = 2000 := by kernel_rfl

theorem write_facts (x : Of.B) (d : List Nat) (h : Of.Ok x) : (Of.write x d).1 ≤ d.length ∧ (Of.write x d).1 + x.b.length ≤ 2000 ∧ (Of.write x d).2.b = x.b ++ d.take (Of.write x d).1 ∧ (Of.write x d).2.lim = x.lim := by
  have := h.cap
  unfold Of.write
  by_cases hf : x.fin
  · rw [if_pos hf]
    exact ⟨Nat.zero_le _, by simp only; omega, by simp, rfl⟩
  · rw [if_neg hf]
    exact ⟨by simp only; omega, by simp only; omega, rfl, rfl⟩
theorem finish_facts (x : Of.B) : (Of.finish x).2.b = x.b ∧ (Of.finish x).2.lim = x.lim := by
  unfold Of.finish; split <;> exact ⟨rfl, rfl⟩
theorem raise_b (x : Of.B) (l : Nat) : (Of.raise x l).2.b = x.b := by
  unfold Of.raise; split <;> rfl
theorem next_facts (x : Of.B) (n : Nat) : (Of.next x n).b = x.b ∧ (Of.next x n).lim = x.lim := by
  unfold Of.next; split <;> exact ⟨rfl, rfl⟩
/-- What the round keeps. -/
def RtX (W : World) (a go : Nat) (vt : Value) (x : Of.B) (o : List Nat) (w : World) : Prop := ∃ gb gs gt, Rt W a go gb gs gt vt x.b x o w ∧ Of.Right x o
/-- One act's block, put behind. -/
def actC (x : Act17) : Array Value := #[.int .i64 x.kind, .int .i64 x.n, .int .u64 (x.off : Int), .slice x.A x.data.length x.c, .bool x.e]

set_option maxRecDepth 100000 in
set_option maxHeartbeats 60000000 in
theorem outflowRight_walk (a0 : Int) (A0 : Option Addr) (n0 c0 : Nat) (l : List Act17) (w : World) (w0 : (Lit.int .u64 a0).wf = true) (w1 : Acts17 w A0 n0 l) (x1 : n0 ≤ c0 ∧ c0 ≤ maxLen) :
    Calls Try.prog 4 #[.int .u64 a0, .slice A0 n0 c0] w fun e w' => e = .returned (.bool true) ∧ Below w.heap.size w w' := by
  have hb0 := bounds_u64 w0
  obtain ⟨lim, rfl⟩ : ∃ lim : Nat, a0 = lim := ⟨a0.toNat, by omega⟩
  have HAL := Lib.hid (alive_any w)
  have HAL2 : Hid (∀ w', Below w.heap.size w w' → Calls Try.prog 8 #[] w' fun e w'' => e = .returned (.bool true) ∧ Below w.heap.size w w'') := fun w' hb => (alive_any w').mono fun e w'' ⟨h1, h2⟩ => ⟨h1, hb.trans (h2.mono hb.size)⟩
  have HFEW : Hid (∀ w', Below w.heap.size w w' → Calls Try.prog 9 #[.slice A0 n0 c0] w' fun e w'' => e = .returned (.bool (fewB n0 l)) ∧ w' = w'') := fun w' hb => few_any A0 n0 c0 l w w' w1 x1 hb
  cases hf : fewB n0 l with
  | false =>
    rw [hf] at HFEW
    clear w1 x1 w0 hf hb0
    go_enter Try.func4, Try.ntmps4
    go_wp2_with fail
    refine HAL.out.mono ?_
    rintro e wA ⟨rfl, hL⟩
    have HL := Lib.hid hL
    clear hL
    go_wp2_with fail
    refine (HFEW.out _ HL.out).mono ?_
    rintro e wB ⟨rfl, rfl⟩
    go_wp2
    go_ret
    exact ⟨rfl, HL.out⟩
  | true =>
    rw [hf] at HFEW
    have hn60 : n0 ≤ 60 := by
      unfold fewB at hf
      rw [Bool.and_eq_true, decide_eq_true_eq] at hf
      exact hf.1
    have HDL : Hid (∀ j, j < n0 → (l.getD j default).data.length ≤ 1200) := fun j hj => by
      unfold fewB at hf
      rw [Bool.and_eq_true, List.all_eq_true] at hf
      simpa using hf.2 j (List.mem_range.2 hj)
    have HAT : Hid (∀ w' j, Below w.heap.size w w' → j < n0 → ∃ B off, A0 = some ⟨B, off, none⟩ ∧ ActAt w' B (off + j * 5) (l.getD j default)) := fun w' j hb hj => w1.at hb hj
    have HOK : Hid (∀ j, j < n0 → ActOk w (l.getD j default)) := w1.2.1
    have hc0 : n0 ≤ c0 ∧ c0 ≤ 9223372036854775807 := ⟨x1.1, by have := x1.2; simp only [maxLen] at this; omega⟩
    have hlim : lim < 18446744073709551616 := by omega
    have hz := (zero_of_info zero2000).1
    clear w1 x1 w0 hf hb0
    go_enter Try.func4, Try.ntmps4
    go_wp2_with fail
    refine HAL.out.mono ?_
    rintro e wA ⟨rfl, hL⟩
    have HL := Lib.hid hL
    clear hL HAL
    go_wp2_with fail
    refine (HFEW.out _ HL.out).mono ?_
    rintro e wB ⟨rfl, rfl⟩
    clear HFEW
    go_wp2_with fail
    refine (new_own lim wA).mono ?_
    rintro e wB ⟨a, rfl, ha, hB, hb⟩
    have HB : Hid (RtX w a wB.heap.size (.slice none 0 0) ⟨[], [], false, 0, lim⟩ z2000 (wB.alloc (.cells (cellsO z2000) 47))) := by
      have hwA := HL.out.size
      have hb2 := hb.size
      have hlt := hB.lt.1
      have hbA : Below wB.heap.size wB (wB.alloc (.cells (cellsO z2000) 47)) := (Below.refl _ _).alloc (Nat.le_refl _) _
      have hbW := HL.out.trans (hb.mono HL.out.size)
      refine ⟨a, a, 0, ⟨hB.kept hbA, Of.Ok.new lim, Or.inl ⟨rfl, rfl⟩, Obj.new wB _ _, hbW.trans (hbA.mono hbW.size), by omega, by omega, by omega, Or.inl rfl, by omega, by have := hbA.size; omega, by have := hbA.size; omega, by omega, by omega, by omega, Or.inl rfl⟩, Of.right_new lim⟩
    clear ha hB hb
    go_wp2
    clear hz
    generalize wB.heap.size = go at *
    go_loopw [0, 6, 8] (fun lv tv i wr => ∃ (j : Nat) (x : Of.B) (o : List Nat), j ≤ n0 ∧ lv = .int .u64 (x.lim : Int) ∧ i = .int .i64 j ∧ RtX w a go tv x o wr) (fun _ _ i _ => n0 - (intOf i).toNat)
    case atStart => exact ⟨0, _, _, Nat.zero_le _, rfl, rfl, HB.out⟩
    case round =>
      clear HB
      obtain ⟨j, x, o, hj, rfl, rfl, gb, gs, gt, hR, hRi⟩ := hrel
      have HR := Lib.hid hR
      have HRI := Lib.hid hRi
      clear hR hRi
      by_cases hlt : j < n0
      · obtain ⟨B, off, rfl, hAt⟩ := HAT.out _ j HR.out.bel hlt
        have HOJ := Lib.hid (HOK.out j hlt)
        have HDJ := Lib.hid (HDL.out j hlt)
        obtain ⟨f0, f1, f2, f3, f4⟩ := hAt
        clear HL
        generalize l.getD j default = y at *
        obtain ⟨kd, N, ao, d, dA, dc, ae⟩ := y
        simp only at f0 f1 f2 f3 f4
        have HN := Lib.hid (show -9223372036854775808 ≤ N ∧ N ≤ 9223372036854775807 from ⟨HOJ.out.n0, HOJ.out.n1⟩)
        have hao : ao < 18446744073709551616 := HOJ.out.off
        have hdl : d.length ≤ 1200 := HDJ.out
        have hdc : d.length ≤ dc ∧ dc ≤ 9223372036854775807 := ⟨HOJ.out.c.1, by have := HOJ.out.c.2; simp only [maxLen] at this; omega⟩
        have HDB := Lib.hid (show Rb w dA d from HOJ.out.d)
        have HDC := Lib.hid (show dc ≤ maxLen from HOJ.out.c.2)
        clear HOJ HDJ
        obtain ⟨bt, ct, rfl, hct, hctm, hbt, -⟩ := HR.out.tx.form
        have HBT := Lib.hid hbt
        clear hbt
        have hxb : x.b.length ≤ 2000 := HR.out.ok.cap
        have hcti : ct ≤ 9223372036854775807 := by simp only [maxLen] at hctm; omega
        have HZ := Lib.hid (And.intro HR.out.bf.lt.1 (And.intro HR.out.lb HR.out.ls))
        have HRA : Hid (Rt w a go gb gs gt (.slice bt x.b.length ct) x.b x o (wr.alloc (.cells #[.int .i64 kd, .int .i64 N, .int .u64 (ao : Int), .slice dA d.length dc, .bool ae] 42))) := HR.out.below ((Below.refl _ _).alloc (Nat.le_refl _) _)
        have HOA : Hid (Obj (wr.alloc (.cells #[.int .i64 kd, .int .i64 N, .int .u64 (ao : Int), .slice dA d.length dc, .bool ae] 42)) wr.heap.size 42 #[.int .i64 kd, .int .i64 N, .int .u64 (ao : Int), .slice dA d.length dc, .bool ae]) := Obj.new wr _ _
        have HGA : Hid (wr.heap.size ≠ a ∧ wr.heap.size ≠ gb ∧ wr.heap.size ≠ gs) := by have := HZ.out; exact ⟨by omega, by omega, by omega⟩
        have HGO : Hid (wr.heap.size ≠ go) := by have := HR.out.on.lt; unfold Hid; omega
        clear HR HZ hctm
        by_cases k0 : kd = 0
        · as_aux_lemma =>
            subst k0
            go_wp2_with fail
            refine (HRA.out.write dA dc d (HDB.out.below HRA.out.bel) hdc.1 HDC.out (by omega)).mono ?_
            rintro e w2 ⟨rfl, ⟨gb', gs', hR2⟩, hu⟩
            have hOA := HRA.out.keep HOA.out hu HGA.out
            have g3 : w2.cell? ⟨wr.heap.size, 3, none⟩ = some (.slice dA d.length dc) := by rw [hOA.cell]; rfl
            obtain ⟨q1, q2, q3, q4⟩ := write_facts x d HRA.out.ok
            have HQ3 := Lib.hid q3
            have HQ4 := Lib.hid q4
            have HRW := Lib.hid (HRI.out.write d)
            have HTL : Hid ((d.take (Of.write x d).1).length = (Of.write x d).1) := by unfold Hid; rw [List.length_take]; omega
            have hap := hR2.append (X := d.take (Of.write x d).1) (A := dA) (fun hp => by
              obtain ⟨b, off, e, h1, h2⟩ := (HDB.out.below hR2.bel) (by rw [HTL.out] at hp; omega)
              refine ⟨b, off, e, h1, fun i hi => ?_⟩
              rw [HTL.out] at hi
              rw [h2 i (by omega), Of.getD_take _ _ _ hi]) dc (by rw [HTL.out]; omega) (by rw [HTL.out]; omega)
            rw [HTL.out] at hap
            obtain ⟨vt', w3, gt', hr, hR3⟩ := hap
            have HR28 := Lib.hid (hr 28)
            have HR3 := Lib.hid hR3
            clear q3 q4 hR2 hu hOA hr hR3 HTL HRA HOA HRI
            generalize Of.write x d = rw_ at *
            obtain ⟨n, x'⟩ := rw_
            simp only at q1 q2
            have q2' : ¬ (2000 : Int) - (x.b.length : Int) < (n : Int) := by omega
            go_wp2_with (at_builtin; refine Lib.wpList_append_run _ rfl _ _ _ _ rfl _ _ rfl rfl _ _ HR28.out ?_)
            go_roundw
            case rel => exact ⟨j + 1, x', o, by omega, by rw [show x'.lim = x.lim from HQ4.out], by go_num, _, _, _, by rw [show x'.b = _ from HQ3.out]; exact HR3.out, HRW.out⟩
            case measure => simp [intOf]; omega
        · have d0 : (kd == 0) = false := by simp; exact k0
          by_cases k1 : kd = 1
          · as_aux_lemma =>
              subst k1
              go_wp2_with fail
              refine (HRA.out.finish).mono ?_
              rintro e w2 ⟨rfl, hR2, hu⟩
              obtain ⟨q3, q4⟩ := finish_facts x
              have HRW := Lib.hid (HRI.out.finish)
              have HQ3 := Lib.hid q3
              have HQ4 := Lib.hid q4
              have HR2 := Lib.hid hR2
              clear hR2 hu q3 q4 HRA HOA HRI
              generalize Of.finish x = rw_ at *
              obtain ⟨b1, x'⟩ := rw_
              go_wp2
              go_roundw
              case rel => exact ⟨j + 1, x', o, by omega, by rw [show x'.lim = x.lim from HQ4.out], by go_num, by
                obtain ⟨gb', gs', h⟩ := HR2.out
                exact ⟨gb', gs', gt, by rw [show x'.b = x.b from HQ3.out]; exact h, HRW.out⟩⟩
              case measure => simp [intOf]; omega
          · have d1 : (kd == 1) = false := by simp; exact k1
            by_cases k2 : kd = 2
            · as_aux_lemma =>
                subst k2
                go_wp2_with fail
                refine (HRA.out.raise ao).mono ?_
                rintro e w2 ⟨rfl, hR2, hu⟩
                have hOA := HRA.out.keep HOA.out hu HGA.out
                have g2 : w2.cell? ⟨wr.heap.size, 2, none⟩ = some (.int .u64 (ao : Int)) := by rw [hOA.cell]; rfl
                have HRW := Lib.hid (HRI.out.raise ao)
                have HQ3 := Lib.hid (raise_b x ao)
                cases hr : (Of.raise x ao).1 with
                | true =>
                  have HQ4 := Lib.hid (Of.raise_lim x ao hr)
                  have HR2 := Lib.hid hR2
                  clear hR2 hu HRA HOA HRI hOA hr
                  generalize (Of.raise x ao).2 = x' at *
                  go_wp2
                  go_roundw
                  case rel => exact ⟨j + 1, x', o, by omega, by rw [HQ4.out], by go_num, by
                    obtain ⟨gb', gs', h⟩ := HR2.out
                    exact ⟨gb', gs', gt, by rw [HQ3.out]; exact h, HRW.out⟩⟩
                  case measure => simp [intOf]; omega
                | false =>
                  have HQ4 := Lib.hid (Of.raise_same x ao hr)
                  have HR2 := Lib.hid hR2
                  clear hR2 hu HRA HOA HRI hOA hr
                  generalize (Of.raise x ao).2 = x' at *
                  go_wp2
                  go_roundw
                  case rel => exact ⟨j + 1, x', o, by omega, by rw [HQ4.out], by go_num, by
                    obtain ⟨gb', gs', h⟩ := HR2.out
                    exact ⟨gb', gs', gt, by rw [HQ3.out]; exact h, HRW.out⟩⟩
                  case measure => simp [intOf]; omega
            · have d2 : (kd == 2) = false := by simp; exact k2
              by_cases k3 : kd = 3
              · subst k3
                by_cases hN1 : N < 1
                · go_wp2_with fail
                  refine (next0_any _ N (Or.inl hN1) _).mono ?_
                  rintro e w2 ⟨rfl, rfl⟩
                  go_wp2
                  go_roundw
                  case rel => exact ⟨j + 1, x, o, by omega, rfl, by go_num, gb, gs, gt, HRA.out, HRI.out⟩
                  case measure => simp [intOf]; omega
                · obtain ⟨M, rfl⟩ : ∃ M : Nat, N = M := ⟨N.toNat, by omega⟩
                  have hM0 : 0 < M := by omega
                  have hM : M ≤ 9223372036854775807 := by have := HN.out.2; omega
                  obtain ⟨hle1, hle2⟩ := Of.due_le x M
                  have hdr := Of.due_right x M HRI.out.ok HRI.out.lim
                  obtain ⟨q3, q4⟩ := next_facts x M
                  have HQ3 := Lib.hid q3
                  have HQ4 := Lib.hid q4
                  clear q3 q4
                  rcases hdr with ⟨hok, hwid, hins⟩ | hzero
                  · have hRW := HRI.out.next M hM0 ⟨hle1, hle2⟩ hins
                    have hslen : x.s.length = x.b.length := HRI.out.ok.len
                    have hol : (outB x M).length = (Of.due x M).2.1 - (Of.due x M).1 := by
                      unfold outB; rw [List.length_take, List.length_drop]; omega
                    have hlimx : (Of.due x M).1 < (Of.due x M).2.1 → (Of.due x M).2.1 ≤ x.lim := fun h => by
                      have := (hins ((Of.due x M).2.1 - 1) (by omega) (by omega)).2
                      omega
                    have HOUT : Hid (outB x M = (x.b.drop (Of.due x M).1).take ((Of.due x M).2.1 - (Of.due x M).1)) := rfl
                    have HMK := Lib.hid hRW.1
                    have HRW := Lib.hid hRW.2
                    clear hRW hins HRI
                    go_wp2_with fail
                    refine (HRA.out.next M hM0 hM).mono ?_
                    rintro e w2 ⟨sA, sc, rfl, hsl, hsm, hsR, ⟨gb', gs', hR2⟩, hu⟩
                    have hOA := HRA.out.keep HOA.out hu HGA.out
                    have g1 : w2.cell? ⟨wr.heap.size, 1, none⟩ = some (.int .i64 (M : Int)) := by rw [hOA.cell]; rfl
                    have HR2 := Lib.hid hR2
                    have HSR := Lib.hid hsR
                    have HSM := Lib.hid hsm
                    rw [hol] at hsl
                    clear hR2 hu hsR hsm HRA HOA hOA HGA
                    generalize hD : Of.due x M = D at *
                    have HD := Lib.hid hD
                    clear hD
                    obtain ⟨p1, p2, en, okb⟩ := D
                    simp only at hok hle1 hle2 hwid hsl hlimx hol
                    subst hok
                    obtain ⟨r, hr⟩ : ∃ r, p2 = p1 + r := ⟨p2 - p1, by omega⟩
                    subst hr
                    rw [Nat.add_sub_cancel_left] at hol hwid hsl
                    have HOL := Lib.hid hol
                    have hMr : ¬ (M : Int) < (r : Int) := by omega
                    have hbr : ¬ (x.b.length : Int) < (p1 : Int) + (r : Int) := by omega
                    have HRT : Hid (∀ (A : Option Addr) (dd : Nat), Rb w2 A (outB x M) → Calls Try.prog 25 #[.slice sA r sc, .slice A r dd] w2 fun e w'' => e = .returned (.bool true) ∧ ∃ q, w'' = w2.drewN q) := fun A dd hA => by
                      have := same_true sA A sc dd (outB x M) w2 HSR.out hA (by rw [HOL.out]; omega)
                      rw [HOL.out] at this
                      exact this
                    have HSB : Hid (bt = some ⟨gt, 0, none⟩ → Rb w2 (some ⟨gt, p1, none⟩) (outB x M)) := fun e hp => by
                      have hrb : Rb w2 bt x.b := HR2.out.tx.rb
                      obtain ⟨b, o2, e2, hlt2, hc⟩ := hrb (by rw [HOL.out] at hp; omega)
                      rw [e] at e2
                      cases e2
                      refine ⟨gt, p1, rfl, hlt2, fun i hi => ?_⟩
                      rw [HOL.out] at hi
                      have := hc (p1 + i) (by omega)
                      rw [Nat.zero_add] at this
                      rw [this, HOUT.out]
                      congr 2
                      simp only
                      rw [Of.getD_take _ _ _ (by omega), Of.getD_drop]
                    have HRW2 : Hid (Of.Right (Of.next x M) (Of.setR o p1 (p1 + r) 1)) := by
                      have h := HRW.out
                      exact h
                    have HOLN : Hid (o.length = 2000) := (show (Of.setR o p1 (p1 + r) 1).length = 2000 from HRW2.out.len) ▸ (Of.setR_len o p1 (p1 + r) 1).symm
                    have hpr : p1 + r ≤ 2000 := by omega
                    have HSTEP : Hid (∀ k q wq, k < r → p1 + k = q → Rt w a go gb' gs' gt (.slice bt x.b.length ct) x.b (Of.next x M) (Of.setR o p1 (p1 + k) 1) wq → q < 2000 ∧ IntKind.i64.wrap ((p1 : Int) + (k : Int)) = (q : Int) ∧ wq.cell? ⟨go, q, none⟩ = some (.bool false) ∧ wq.frozen? ⟨go, q, none⟩ = false ∧ Rt w a go gb' gs' gt (.slice bt x.b.length ct) x.b (Of.next x M) (Of.setR o p1 (p1 + (k + 1)) 1) (wq.setCell ⟨go, q, none⟩ (.bool true))) := fun k q wq hk hq h => by
                      subst hq
                      have h1 := h.on.getO (p1 + k) (by rw [Of.setR_len, HOLN.out]; omega)
                      rw [Of.setR_getD _ _ _ _ _ (by rw [HOLN.out]; omega), if_neg (by omega)] at h1
                      have h2 : (o.getD (p1 + k) 0 == 1) = false := by
                        have := HMK.out (p1 + k) (by simp only; omega) (by simp only; omega)
                        simpa using this
                      rw [h2] at h1
                      refine ⟨by omega, by rw [IntKind.wrap_i64]; omega, h1, h.on.free _, ?_⟩
                      have h3 := h.mark (p1 + k) (by rw [Of.setR_len, HOLN.out]; omega) 1
                      rw [Of.setR_set _ _ _ _ (by omega) (by rw [HOLN.out]; omega)] at h3
                      exact h3
                    have HR0 : Hid (∀ q, Rt w a go gb' gs' gt (.slice bt x.b.length ct) x.b (Of.next x M) (Of.setR o p1 (p1 + 0) 1) (w2.drewN q)) := fun q => by
                      rw [Nat.add_zero, Of.setR_none]
                      exact HR2.out.below (below_draws w2 q)
                    have HLR : Hid (x.lim < p1 + r → r = 0) := fun h => by
                      rcases Nat.lt_or_ge p1 (p1 + r) with h' | h'
                      · have := hlimx h'; omega
                      · omega
                    have H00 : Hid (x.b = [] → p1 + r = 0 ∧ r = 0) := fun h => by
                      have : x.b.length = 0 := (by rw [h]; rfl)
                      omega
                    have HRC : Hid (¬ p1 < ct → r = 0) := fun h => by omega
                    rcases HBT.out with ⟨rfl, hx0, rfl⟩ | rfl
                    · have HZ0 := Lib.hid (H00.out hx0)
                      have HR1 : Hid (r = 0) := HZ0.out.2
                      clear hx0
                      have HSM2 := Lib.hid (HRT.out none 0 (fun hp => absurd hp (by rw [HOL.out]; have := HR1.out; omega)))
                      by_cases hL : x.lim < p1 + r
                      · exact absurd hL (by have := HZ0.out.1; omega)
                      · as_aux_lemma =>
                          have hL' : ¬ (x.lim : Int) < (p1 : Int) + (r : Int) := by omega
                          clear HRT HSB HMK HSR HSM HOUT HD HOL HOLN HLR H00 HRC HRW
                          go_wp2_with fail
                          refine HSM2.out.mono ?_
                          rintro e wq ⟨rfl, q, rfl⟩
                          clear HSM2
                          go_wp2
                          clear hMr hbr hxb hle1 hle2 hM hwid hsl hlimx hpr hslen hol hL hL'
                          go_loopw [15] (fun i wq => ∃ k : Nat, k ≤ r ∧ i = .int .i64 k ∧ Rt w a go gb' gs' gt (.slice none x.b.length 0) x.b (Of.next x M) (Of.setR o p1 (p1 + k) 1) wq) (fun i _ => r - (intOf i).toNat)
                          case atStart => exact ⟨0, Nat.zero_le _, rfl, HR0.out _⟩
                          case round =>
                            obtain ⟨k, hk, rfl, hq⟩ := hrel
                            have HQ := Lib.hid hq
                            clear hq HR0
                            by_cases hkr : k < r
                            · exact absurd hkr (by have := HR1.out; omega)
                            · obtain rfl : r = k := by omega
                              go_wp2
                              go_roundw
                              case rel => exact ⟨j + 1, Of.next x M, Of.setR o p1 (p1 + r) 1, by omega, by rw [HQ4.out], by go_num, gb', gs', gt, by rw [HQ3.out]; exact HQ.out, HRW2.out⟩
                              case measure => simp [intOf]; omega
                    · by_cases hac : p1 < ct
                      · have HSM2 := Lib.hid (HRT.out (some ⟨gt, p1, none⟩) (ct - p1) (HSB.out rfl))
                        by_cases hL : x.lim < p1 + r
                        · as_aux_lemma =>
                            have hL' : (x.lim : Int) < (p1 : Int) + (r : Int) := by omega
                            have hr0 : r = 0 := HLR.out hL
                            have hr1 : decide ((0 : Int) < (r : Int)) = false := decide_eq_false (by omega)
                            have hr2 : decide (0 < r) = false := decide_eq_false (by omega)
                            have HR9 := Lib.hid hr0
                            clear hr0
                            clear HRT HSB HMK HSR HSM HOUT HD HOL HOLN HLR H00 HRC HRW
                            go_wp2_with fail
                            refine HSM2.out.mono ?_
                            rintro e wq ⟨rfl, q, rfl⟩
                            clear HSM2
                            go_wp2
                            clear hMr hbr hxb hle1 hle2 hM hwid hsl hlimx hpr hslen hol hL hL'
                            go_loopw [15] (fun i wq => ∃ k : Nat, k ≤ r ∧ i = .int .i64 k ∧ Rt w a go gb' gs' gt (.slice (some ⟨gt, 0, none⟩) x.b.length ct) x.b (Of.next x M) (Of.setR o p1 (p1 + k) 1) wq) (fun i _ => r - (intOf i).toNat)
                            case atStart => exact ⟨0, Nat.zero_le _, rfl, HR0.out _⟩
                            case round =>
                              obtain ⟨k, hk, rfl, hq⟩ := hrel
                              have HQ := Lib.hid hq
                              clear hq HR0
                              by_cases hkr : k < r
                              · exact absurd hkr (by have := HR9.out; omega)
                              · obtain rfl : r = k := by omega
                                go_wp2
                                go_roundw
                                case rel => exact ⟨j + 1, Of.next x M, Of.setR o p1 (p1 + r) 1, by omega, by rw [HQ4.out], by go_num, gb', gs', gt, by rw [HQ3.out]; exact HQ.out, HRW2.out⟩
                                case measure => simp [intOf]; omega
                        · as_aux_lemma =>
                            have hL' : ¬ (x.lim : Int) < (p1 : Int) + (r : Int) := by omega
                            clear HRT HSB HMK HSR HSM HOUT HD HOL HOLN HLR H00 HRC HRW
                            go_wp2_with fail
                            refine HSM2.out.mono ?_
                            rintro e wq ⟨rfl, q, rfl⟩
                            clear HSM2
                            go_wp2
                            clear hMr hbr hxb hle1 hle2 hM hwid hsl hlimx hpr hslen hol hL hL'
                            go_loopw [15] (fun i wq => ∃ k : Nat, k ≤ r ∧ i = .int .i64 k ∧ Rt w a go gb' gs' gt (.slice (some ⟨gt, 0, none⟩) x.b.length ct) x.b (Of.next x M) (Of.setR o p1 (p1 + k) 1) wq) (fun i _ => r - (intOf i).toNat)
                            case atStart => exact ⟨0, Nat.zero_le _, rfl, HR0.out _⟩
                            case round =>
                              obtain ⟨k, hk, rfl, hq⟩ := hrel
                              have HQ := Lib.hid hq
                              clear hq HR0
                              by_cases hkr : k < r
                              · obtain ⟨q', hq'⟩ : ∃ q', p1 + k = q' := ⟨_, rfl⟩
                                obtain ⟨hq2000, hw3, c1, z1, hq2⟩ := HSTEP.out k q' _ hkr hq' HQ.out
                                have HQ2 := Lib.hid hq2
                                have hqi : (q' : Int) < 2000 := by omega
                                have hk3 : IntKind.i64.wrap ((k : Int) + 1) = (k : Int) + 1 := by rw [IntKind.wrap_i64]; omega
                                clear hq2 HQ hq' hq2000
                                go_wp2
                                go_roundw
                                case rel => exact ⟨k + 1, by omega, by go_num, HQ2.out⟩
                                case measure => simp [intOf]; omega
                              · obtain rfl : r = k := by omega
                                go_wp2
                                go_roundw
                                case rel => exact ⟨j + 1, Of.next x M, Of.setR o p1 (p1 + r) 1, by omega, by rw [HQ4.out], by go_num, gb', gs', gt, by rw [HQ3.out]; exact HQ.out, HRW2.out⟩
                                case measure => simp [intOf]; omega
                      · have HR1 : Hid (r = 0) := HRC.out hac
                        obtain rfl : p1 = ct := by omega
                        have HSM2 := Lib.hid (HRT.out (some ⟨gt, 0, none⟩) 0 (fun hp => absurd hp (by rw [HOL.out]; have := HR1.out; omega)))
                        by_cases hL : x.lim < p1 + r
                        · as_aux_lemma =>
                            have hL' : (x.lim : Int) < (p1 : Int) + (r : Int) := by omega
                            have hr0 : r = 0 := HLR.out hL
                            have hr1 : decide ((0 : Int) < (r : Int)) = false := decide_eq_false (by omega)
                            have hr2 : decide (0 < r) = false := decide_eq_false (by omega)
                            have HR9 := Lib.hid hr0
                            clear hr0
                            clear HRT HSB HMK HSR HSM HOUT HD HOL HOLN HLR H00 HRC HRW
                            go_wp2_with fail
                            refine HSM2.out.mono ?_
                            rintro e wq ⟨rfl, q, rfl⟩
                            clear HSM2
                            go_wp2
                            clear hMr hbr hxb hle1 hle2 hM hwid hsl hlimx hpr hslen hol hL hL'
                            go_loopw [15] (fun i wq => ∃ k : Nat, k ≤ r ∧ i = .int .i64 k ∧ Rt w a go gb' gs' gt (.slice (some ⟨gt, 0, none⟩) x.b.length p1) x.b (Of.next x M) (Of.setR o p1 (p1 + k) 1) wq) (fun i _ => r - (intOf i).toNat)
                            case atStart => exact ⟨0, Nat.zero_le _, rfl, HR0.out _⟩
                            case round =>
                              obtain ⟨k, hk, rfl, hq⟩ := hrel
                              have HQ := Lib.hid hq
                              clear hq HR0
                              by_cases hkr : k < r
                              · exact absurd hkr (by have := HR1.out; omega)
                              · obtain rfl : r = k := by omega
                                go_wp2
                                go_roundw
                                case rel => exact ⟨j + 1, Of.next x M, Of.setR o p1 (p1 + r) 1, by omega, by rw [HQ4.out], by go_num, gb', gs', gt, by rw [HQ3.out]; exact HQ.out, HRW2.out⟩
                                case measure => simp [intOf]; omega
                        · as_aux_lemma =>
                            have hL' : ¬ (x.lim : Int) < (p1 : Int) + (r : Int) := by omega
                            clear HRT HSB HMK HSR HSM HOUT HD HOL HOLN HLR H00 HRC HRW
                            go_wp2_with fail
                            refine HSM2.out.mono ?_
                            rintro e wq ⟨rfl, q, rfl⟩
                            clear HSM2
                            go_wp2
                            clear hMr hbr hxb hle1 hle2 hM hwid hsl hlimx hpr hslen hol hL hL'
                            go_loopw [15] (fun i wq => ∃ k : Nat, k ≤ r ∧ i = .int .i64 k ∧ Rt w a go gb' gs' gt (.slice (some ⟨gt, 0, none⟩) x.b.length p1) x.b (Of.next x M) (Of.setR o p1 (p1 + k) 1) wq) (fun i _ => r - (intOf i).toNat)
                            case atStart => exact ⟨0, Nat.zero_le _, rfl, HR0.out _⟩
                            case round =>
                              obtain ⟨k, hk, rfl, hq⟩ := hrel
                              have HQ := Lib.hid hq
                              clear hq HR0
                              by_cases hkr : k < r
                              · exact absurd hkr (by have := HR1.out; omega)
                              · obtain rfl : r = k := by omega
                                go_wp2
                                go_roundw
                                case rel => exact ⟨j + 1, Of.next x M, Of.setR o p1 (p1 + r) 1, by omega, by rw [HQ4.out], by go_num, gb', gs', gt, by rw [HQ3.out]; exact HQ.out, HRW2.out⟩
                                case measure => simp [intOf]; omega
                  · as_aux_lemma =>
                      have HRW := Lib.hid (HRI.out.next0 M hzero)
                      go_wp2_with fail
                      refine (HRA.out.next M hM0 hM).mono ?_
                      rintro e w2 ⟨sA, sc, rfl, hsl, hsm, hsR, ⟨gb', gs', hR2⟩, hu⟩
                      have HR2 := Lib.hid hR2
                      rw [hzero]
                      clear hsl hsm hsR hR2 hu hzero hle1 hle2 HRA HOA
                      go_wp2
                      go_roundw
                      case rel => exact ⟨j + 1, x, o, by omega, rfl, by go_num, gb', gs', gt, by have h := HR2.out; rw [HRW.out] at h; exact h, HRI.out⟩
                      case measure => simp [intOf]; omega
              · have d3 : (kd == 3) = false := by simp; exact k3
                by_cases k5 : kd = 5
                · as_aux_lemma =>
                    subst k5
                    go_wp2_with fail
                    refine (HRA.out.lost ao N ae).mono ?_
                    rintro e w2 ⟨rfl, ⟨gb', gs', hR2⟩, hu⟩
                    have hOA := HRA.out.keep HOA.out hu HGA.out
                    have HRL : Hid (∀ k : Nat, (N ≤ k ∨ 2000 ≤ ao + k) → Of.Right (Of.turn x ao N ae Of.fLost) (Of.setR o ao (ao + k) 0)) := fun k hk => HRI.out.lost ao N ae k hk
                    have hol : o.length = 2000 := HRI.out.len
                    have hgo := HRA.out.on.lt
                    have HSTEP : Hid (∀ k wq, ao + k < 2000 → Rt w a go gb' gs' gt (.slice bt x.b.length ct) x.b (Of.turn x ao N ae Of.fLost) (Of.setR o ao (ao + k) 0) wq → Obj wq wr.heap.size 42 #[.int .i64 5, .int .i64 N, .int .u64 (ao : Int), .slice dA d.length dc, .bool ae] → (∃ v, wq.cell? ⟨go, ao + k, none⟩ = some v) ∧ wq.frozen? ⟨go, ao + k, none⟩ = false ∧ Rt w a go gb' gs' gt (.slice bt x.b.length ct) x.b (Of.turn x ao N ae Of.fLost) (Of.setR o ao (ao + (k + 1)) 0) (wq.setCell ⟨go, ao + k, none⟩ (.bool false)) ∧ Obj (wq.setCell ⟨go, ao + k, none⟩ (.bool false)) wr.heap.size 42 #[.int .i64 5, .int .i64 N, .int .u64 (ao : Int), .slice dA d.length dc, .bool ae]) := fun k wq hk h hO => by
                      refine ⟨⟨_, h.on.getO (ao + k) (by rw [Of.setR_len, hol]; exact hk)⟩, h.on.free _, ?_, ?_⟩
                      · have h3 := h.mark (ao + k) (by rw [Of.setR_len, hol]; exact hk) 0
                        rw [Of.setR_set _ _ _ _ (by omega) (by rw [hol]; exact hk)] at h3
                        exact h3
                      · exact hO.upd ((Upd.refl go wq).set _ _) HGO.out
                    have HR0 : Hid (Rt w a go gb' gs' gt (.slice bt x.b.length ct) x.b (Of.turn x ao N ae Of.fLost) (Of.setR o ao (ao + 0) 0) w2 ∧ Obj w2 wr.heap.size 42 #[.int .i64 5, .int .i64 N, .int .u64 (ao : Int), .slice dA d.length dc, .bool ae]) := ⟨by rw [Nat.add_zero, Of.setR_none]; exact hR2, hOA⟩
                    clear hR2 hu hOA HRA HOA HRI hol hgo
                    go_wp2
                    go_loopw [16] (fun i wq => ∃ k : Nat, i = .int .i64 k ∧ (k = 0 ∨ ao + k ≤ 2000) ∧ Rt w a go gb' gs' gt (.slice bt x.b.length ct) x.b (Of.turn x ao N ae Of.fLost) (Of.setR o ao (ao + k) 0) wq ∧ Obj wq wr.heap.size 42 #[.int .i64 5, .int .i64 N, .int .u64 (ao : Int), .slice dA d.length dc, .bool ae]) (fun i _ => 2000 - (intOf i).toNat)
                    case atStart => exact ⟨0, rfl, Or.inl rfl, HR0.out.1, HR0.out.2⟩
                    case round =>
                      obtain ⟨k, rfl, hk, hq, hO⟩ := hrel
                      have HQ := Lib.hid hq
                      have HO := Lib.hid hO
                      have g1 := (hO.cell 1).trans (show _ = some (Value.int .i64 N) from rfl)
                      have g2 := (hO.cell 2).trans (show _ = some (Value.int .u64 (ao : Int)) from rfl)
                      have HK := Lib.hid hk
                      clear hq hO HR0 hk
                      have hk2 : k ≤ 2000 := by have := HK.out; omega
                      by_cases t1 : (k : Int) < N
                      · by_cases t2 : ao < 2000
                        · obtain ⟨s, hs⟩ : ∃ s, ao + k = s := ⟨_, rfl⟩
                          have hw2 : IntKind.i64.wrap ((ao : Int) + (k : Int)) = (s : Int) := by rw [IntKind.wrap_i64]; omega
                          by_cases t3 : s < 2000
                          · obtain ⟨⟨v, c1⟩, z1, hq2, hO2⟩ := HSTEP.out k _ (by omega) HQ.out HO.out
                            rw [hs] at c1 z1 hq2 hO2
                            have HQ2 := Lib.hid (And.intro hq2 hO2)
                            have HS : Hid (ao + (k + 1) ≤ 2000 ∧ k < 2000) := ⟨by omega, by omega⟩
                            have hw3 : IntKind.i64.wrap ((k : Int) + 1) = (k : Int) + 1 := by rw [IntKind.wrap_i64]; omega
                            clear hq2 hO2 HQ HO hk2 hs hao
                            go_wp2
                            go_roundw
                            case rel => exact ⟨k + 1, by go_num, Or.inr HS.out.1, HQ2.out.1, HQ2.out.2⟩
                            case measure => have h5 := HS.out.2; simp [intOf]; omega
                          · have hRR := Lib.hid (HRL.out k (Or.inr (by omega)))
                            clear hk2 hs hao
                            go_wp2
                            go_roundw
                            case rel => exact ⟨j + 1, Of.turn x ao N ae Of.fLost, Of.setR o ao (ao + k) 0, by omega, rfl, by go_num, gb', gs', gt, HQ.out, hRR.out⟩
                            case measure => simp [intOf]; omega
                        · have hRR := Lib.hid (HRL.out k (Or.inr (by omega)))
                          go_wp2
                          go_roundw
                          case rel => exact ⟨j + 1, Of.turn x ao N ae Of.fLost, Of.setR o ao (ao + k) 0, by omega, rfl, by go_num, gb', gs', gt, HQ.out, hRR.out⟩
                          case measure => simp [intOf]; omega
                      · have hRR := Lib.hid (HRL.out k (Or.inl (by omega)))
                        go_wp2
                        go_roundw
                        case rel => exact ⟨j + 1, Of.turn x ao N ae Of.fLost, Of.setR o ao (ao + k) 0, by omega, rfl, by go_num, gb', gs', gt, HQ.out, hRR.out⟩
                        case measure => simp [intOf]; omega
                · have d5 : (kd == 5) = false := by simp; exact k5
                  by_cases k4 : kd = 4
                  · as_aux_lemma =>
                      subst k4
                      go_wp2_with fail
                      refine (HRA.out.acked ao N ae).mono ?_
                      rintro e w2 ⟨rfl, hR2, hu⟩
                      have HRW := Lib.hid (HRI.out.acked ao N ae)
                      have HR2 := Lib.hid hR2
                      clear hR2 hu HRA HOA HRI
                      go_wp2
                      go_roundw
                      case rel => exact ⟨j + 1, Of.turn x ao N ae Of.fAck, o, by omega, rfl, by go_num, by
                        obtain ⟨gb', gs', h⟩ := HR2.out
                        exact ⟨gb', gs', gt, h, HRW.out⟩⟩
                      case measure => simp [intOf]; omega
                  · as_aux_lemma =>
                      have d4 : (kd == 4) = false := by simp; exact k4
                      go_wp2
                      go_roundw
                      case rel => exact ⟨j + 1, x, o, by omega, rfl, by go_num, gb, gs, gt, HRA.out, HRI.out⟩
                      case measure => simp [intOf]; omega
      · obtain rfl : n0 = j := by omega
        go_wp2_with fail
        refine (HAL2.out _ HR.out.bel).mono ?_
        rintro e wE ⟨rfl, hL⟩
        have HL2 := Lib.hid hL
        clear hL
        go_wp2
        go_ret
        exact ⟨rfl, HL2.out⟩
end Go.Proofs.Ytdloeakmoaoalaa
