/- Layer 16's laws, walked: ReasmFlow. -/
import Derived.Test.YtghfgekmdcangaaRows
import Derived.Test.YtghfgekmdcangaaAid
import Derived.Test.YtghfgekmdcangaaPlainRs
import Derived.Test.YtghfgekmdcangaaPlainRs2
import Derived.Test.YtghfgekmdcangaaRsW
import Derived.Test.YtghfgekmdcangaaRsA
import Derived.Test.YtghfgekmdcangaaRsD
import Derived.Test.YtghfgekmdcangaaRsG
import Derived.Test.YtghfgekmdcangaaRsH
import Derived.Test.YtghfgekmdcangaaRsK
import Derived.Test.YtghfgekmdcangaaRsL
import Derived.Test.YtghfgekmdcangaaRsO
import Derived.WalkKit
import Derived.OwnWalk
import Derived.Laws.Rows
import Derived.Laws.Tables
import Derived.WalkSpells
import Derived.WalkLawsBesides
import Derived.BigQuiet
import Derived.Handy
import Derived.Lib.Hide
import Derived.IntWalk
import Derived.StillTailTactics
import Derived.Deep.RegionHeld3
namespace Go.Proofs.Ytghfgekmdcangaa.Rm
open Go.RowKit Go.Maps
set_option linter.unusedVariables false
set_option linter.unusedSimpArgs false

theorem fewB_of {n : Nat} {l : List Act16} (h : fewB n l = true) : n ≤ 60 ∧ ∀ j, j < n → (l.getD j default).data.length ≤ 100 := by
  unfold fewB at h
  simp only [Bool.and_eq_true, decide_eq_true_eq, List.all_eq_true] at h
  exact ⟨h.1, fun j hj => h.2 j (List.mem_range.2 hj)⟩

set_option maxRecDepth 100000 in
set_option maxHeartbeats 8000000 in
theorem reasmFlow_walk (a0 : Int) (A1 : Option Addr) (n1 c1 : Nat) (l : List Act16) (w : World) (w0 : (Lit.int .u8 a0).wf = true) (w1 : Acts16 w A1 n1 l) (x1 : n1 ≤ c1 ∧ c1 ≤ maxLen) :
    Calls Try.prog 4 #[.int .u8 a0, .slice A1 n1 c1] w fun e w' => e = .returned (.bool true) ∧ Below w.heap.size w w' := by
  have hb0 := bounds_u8 w0
  obtain ⟨win, rfl⟩ : ∃ n : Nat, a0 = n := ⟨a0.toNat, by omega⟩
  have hwin : win ≤ 255 := by omega
  have HAL := Lib.hid (fun wr => alive_any wr)
  have HFEW := Lib.hid (fun wr (h : Below w.heap.size w wr) => few_any A1 n1 c1 l w wr w1 x1 h)
  clear w0 hb0
  cases hf : fewB n1 l with
  | false =>
    rw [hf] at HFEW
    clear w1 x1 hf
    go_enter Try.func4, Try.ntmps4
    go_wp2_with fail
    refine (HAL.out _).mono ?_
    rintro e wA ⟨rfl, hL⟩
    have HL := Lib.hid hL
    clear hL
    go_wp2_with fail
    refine (HFEW.out _ HL.out).mono ?_
    rintro e wF ⟨rfl, rfl⟩
    go_wp2
    go_ret
    exact ⟨rfl, HL.out⟩
  | true =>
    rw [hf] at HFEW
    obtain ⟨hn60, hdl⟩ := fewB_of hf
    have hci : n1 ≤ c1 ∧ c1 ≤ 9223372036854775807 := ⟨x1.1, by have := x1.2; simp only [maxLen] at this; omega⟩
    have HACT : Hid (∀ wr j, j < n1 → Below w.heap.size w wr → ∃ B off, A1 = some ⟨B, off, none⟩ ∧ B < w.heap.size ∧ ActAt wr B (off + j * 5) (l.getD j default) ∧ ActOk w (l.getD j default) ∧ (l.getD j default).data.length ≤ 100 ∧ ∀ c ∈ (l.getD j default).data, c < 256) := fun wr j hj hb => by
      obtain ⟨B, off, e, hB, hc⟩ := w1.2.2 (by omega)
      have hok := w1.2.1 j hj
      obtain ⟨B', off', e', h2⟩ := w1.at hb hj
      rw [e] at e'
      cases e'
      exact ⟨B, off, e, hB, h2, hok, hdl j hj, hok.by_⟩
    have hww : IntKind.u64.wrap (win : Int) = (win : Int) := by rw [IntKind.wrap_u64]; omega
    clear w1 x1 hf hdl
    go_enter Try.func4, Try.ntmps4
    go_wp2_with fail
    refine (HAL.out _).mono ?_
    rintro e wA ⟨rfl, hL⟩
    have HL := Lib.hid hL
    clear hL
    go_wp2_with fail
    refine (HFEW.out _ HL.out).mono ?_
    rintro e wF ⟨rfl, rfl⟩
    go_wp2_with fail
    refine (OwnS.new win (by omega) HL.out).mono ?_
    rintro e wB ⟨a, rfl, -, mb, -, hB, -⟩
    have HB := Lib.hid hB
    clear hB HL HFEW
    go_wp2
    go_loopw [6, 7] (fun s i wr => ∃ (j : Nat) (x : Rs.S), j ≤ n1 ∧ i = .int .i64 j ∧ s = .int .i64 (x.rd : Int) ∧ x.win = win ∧ OwnS w a mb x wr) (fun _ i _ => n1 - (intOf i).toNat)
    case atStart => exact ⟨0, _, Nat.zero_le _, rfl, rfl, rfl, HB.out⟩
    case round =>
      clear HB
      obtain ⟨j, x, hj, rfl, rfl, hxw, hS⟩ := hrel
      have hrd := hS.ok.rd
      have HS := Lib.hid hS
      have HXW := Lib.hid hxw
      by_cases hlt : j < n1
      · obtain ⟨B, off, rfl, hBl, hat, hok, hdl, hd256⟩ := HACT.out wr j hlt hS.below
        have g0 := hat.k
        have g1 := hat.n
        have g2 := hat.o
        have g3 := hat.d
        have g4 := hat.e
        have HD : Hid (∀ wq, Below w.heap.size w wq → Rb wq (l.getD j default).A (l.getD j default).data) := fun wq h => hok.d.below h
        have HDC := Lib.hid hok.c
        have H256 := Lib.hid hd256
        have HNK : Hid (-9223372036854775808 ≤ (l.getD j default).n ∧ (l.getD j default).n ≤ 9223372036854775807) := ⟨hok.n0, hok.n1⟩
        have ho64 := hok.off
        have HCELL : Hid (∀ wq, Below w.heap.size w wq → wq.cell? ⟨B, off + j * 5 + 2, none⟩ = wr.cell? ⟨B, off + j * 5 + 2, none⟩ ∧ wq.cell? ⟨B, off + j * 5 + 3, none⟩ = wr.cell? ⟨B, off + j * 5 + 3, none⟩ ∧ wq.cell? ⟨B, off + j * 5 + 4, none⟩ = wr.cell? ⟨B, off + j * 5 + 4, none⟩) := fun wq h =>
          ⟨(h.cell (p := ⟨B, _, none⟩) hBl).trans (hS.below.cell (p := ⟨B, _, none⟩) hBl).symm, (h.cell (p := ⟨B, _, none⟩) hBl).trans (hS.below.cell (p := ⟨B, _, none⟩) hBl).symm, (h.cell (p := ⟨B, _, none⟩) hBl).trans (hS.below.cell (p := ⟨B, _, none⟩) hBl).symm⟩
        have hji : (j : Int) < (n1 : Int) := by omega
        clear hS hat hok hd256 hxw hBl
        generalize (l.getD j default).kind = kd at *
        generalize (l.getD j default).n = N at *
        generalize (l.getD j default).off = o at *
        generalize (l.getD j default).e = la at *
        generalize (l.getD j default).A = Ad at *
        generalize (l.getD j default).c = cd at *
        generalize (l.getD j default).data = D at *
        obtain ⟨nd, hnd⟩ : ∃ nd, D.length = nd := ⟨_, rfl⟩
        rw [hnd] at g3 hdl HDC
        have HND := Lib.hid hnd
        clear hnd
        by_cases hk1 : kd = 1
        · subst hk1
          clear g2 g3 g4 HCELL HD HDC H256 HNK
          go_wp2_with fail
          refine (HS.out.read N).mono ?_
          rintro e wC ⟨A', c', rfl, hc1, hc2, -, -, hC, -⟩
          obtain ⟨y, hy⟩ : ∃ y, (Rs.read x N).2 = y := ⟨_, rfl⟩
          have hyr : y.rd = x.rd + Rs.many x N := by rw [← hy]; rfl
          have hyw : y.win = win := by rw [← hy]; exact HXW.out
          rw [hy] at hC
          have HY := Lib.hid hC
          have HYW := Lib.hid hyw
          obtain ⟨m, hm⟩ : ∃ m, Rs.many x N = m := ⟨_, rfl⟩
          rw [hm] at hc1 hyr ⊢
          have hy62 := hC.ok.rd
          obtain ⟨r, hr⟩ : ∃ r, y.rd = r := ⟨_, rfl⟩
          have HYR := Lib.hid hr
          have hsum : IntKind.i64.wrap ((x.rd : Int) + (m : Int)) = (r : Int) := by rw [IntKind.wrap_i64]; omega
          have hr62 : r ≤ 4611686018427387903 := by omega
          clear hy hyr hyw hC hm hr hy62 HS HXW
          generalize x.rd = rd at *
          have HLIM : Hid (Rs.limit y = r + win) := by unfold Hid Rs.limit; rw [HYR.out, HYW.out]
          have HCN : Hid (y.cnt ≤ win ∧ Rs.ready y ≤ y.cnt) := ⟨by have := HY.out.ok.held; rw [HYW.out] at this; exact this, HY.out.ok.ready_le⟩
          have hwr : IntKind.u64.wrap (r : Int) = (r : Int) := by rw [IntKind.wrap_u64]; omega
          obtain ⟨s, hs⟩ : ∃ s, r + win = s := ⟨_, rfl⟩
          have hws : IntKind.u64.wrap ((r : Int) + (win : Int)) = (s : Int) := by rw [IntKind.wrap_u64]; omega
          rw [hs] at HLIM
          clear hs
          go_wp2_with fail
          refine (HY.out.limit).mono ?_
          rintro e wl ⟨rfl, q1, rfl⟩
          rw [HLIM.out]
          have HY1 := Lib.hid (HY.out.drewN q1)
          go_wp2_with fail
          refine (HY1.out.held).mono ?_
          rintro e wl ⟨rfl, rfl⟩
          obtain ⟨cn, hcn⟩ : ∃ cn, y.cnt = cn := ⟨_, rfl⟩
          rw [hcn]
          have hd5 : decide (win < cn) = false := by have := HCN.out; simp; omega
          have HC2 : Hid (y.cnt = cn ∧ Rs.ready y ≤ cn) := ⟨hcn, by have := HCN.out; omega⟩
          clear hcn
          go_wp2_with fail
          refine (HY1.out.ready).mono ?_
          rintro e wm ⟨rfl, hM, -⟩
          have HY2 := Lib.hid hM
          clear hM
          obtain ⟨rn, hrn⟩ : ∃ rn, Rs.ready y = rn := ⟨_, rfl⟩
          rw [hrn]
          have hd6 : decide (cn < rn) = false := by have := HC2.out; simp; omega
          have HC3 : Hid (y.cnt = cn) := HC2.out.1
          clear hrn HC2
          go_wp2_with fail
          refine (HY2.out.held).mono ?_
          rintro e wl ⟨rfl, rfl⟩
          rw [HC3.out]
          go_wp2
          go_roundw
          case rel => exact ⟨j + 1, y, by omega, by go_num, by rw [HYR.out], HYW.out, HY2.out⟩
          case measure => simp [intOf]; omega
        · have hk1' : (kd == 1) = false := by simpa using hk1
          by_cases hbig : o ≤ 1099511627776
          · have hd1 : decide ((o : Int) ≤ 1099511627776) = true := by simp; omega
            obtain ⟨E, hE⟩ : ∃ E, o + nd = E := ⟨_, rfl⟩
            have hwn : IntKind.u64.wrap (nd : Int) = (nd : Int) := by rw [IntKind.wrap_u64]; omega
            have hwE : IntKind.u64.wrap ((o : Int) + (nd : Int)) = (E : Int) := by rw [IntKind.wrap_u64]; omega
            have HFL : Hid (Rs.err x o nd la = 9 ↔ x.rd + win < E) := by
              have := Rs.err_flow (x := x) (off := o) (len := nd) (last := la) (by omega)
              rw [HXW.out, hE] at this
              exact this
            have HPUT := Lib.hid (fun (wq : World) (h : OwnS w a mb x wq) => h.putN o nd cd _ Ad D la HND.out (HD.out wq h.below) H256.out (by omega) HDC.out (by omega) rfl)
            clear hE HD H256 HND
            go_wp2
            go_quiet (fail)
            go_wp2
            refine wp_region_held_drew (S := (fun wq => wq.cell? ⟨B, off + j * 5 + 2, none⟩ = some (.int .u64 (o : Int)) ∧ wq.cell? ⟨B, off + j * 5 + 3, none⟩ = some (.slice Ad nd cd) ∧ wq.cell? ⟨B, off + j * 5 + 4, none⟩ = some (.bool la))) (by kernel_rfl) ⟨g2, g3, g4⟩ (fun hHeld => ?_)
            refine wpAnyH_take (i := 0) (oi := ?_) (v := ?_) ?_ ?_ ?_ ?_ ?_ ?_ (by assumption) ?_
            rotate_left 2
            · simp only [List.getElem?_toArray, List.getElem?_cons_zero, List.getElem?_cons_succ]
              rfl
            · kernel_rfl
            · kernel_rfl
            · kernel_rfl
            · exact fun _ _ _ h => h
            · refine Or.inl ⟨by rfl, ?_⟩
              intro w hSw
              (try dsimp only at hSw)
              go_simp
              all_goals with_reducible rfl
            simp only [Act.put, List.setIfInBounds_toArray, List.set_cons_zero, List.set_cons_succ]
            refine wpAnyH_take (i := 1) (oi := ?_) (v := ?_) ?_ ?_ ?_ ?_ ?_ ?_ (by assumption) ?_
            rotate_left 2
            · simp only [List.getElem?_toArray, List.getElem?_cons_zero, List.getElem?_cons_succ]
              rfl
            · kernel_rfl
            · kernel_rfl
            · kernel_rfl
            · exact fun _ _ _ h => h
            · refine Or.inl ⟨by rfl, ?_⟩
              intro w hSw
              (try dsimp only at hSw)
              go_simp
              all_goals with_reducible rfl
            simp only [Act.put, List.setIfInBounds_toArray, List.set_cons_zero, List.set_cons_succ]
            refine wpAnyH_take (i := 2) (oi := ?_) (v := ?_) ?_ ?_ ?_ ?_ ?_ ?_ (by assumption) ?_
            rotate_left 2
            · simp only [List.getElem?_toArray, List.getElem?_cons_zero, List.getElem?_cons_succ]
              rfl
            · kernel_rfl
            · kernel_rfl
            · kernel_rfl
            · exact fun _ _ _ h => h
            · refine Or.inl ⟨by rfl, ?_⟩
              intro w hSw
              (try dsimp only at hSw)
              go_simp
              all_goals with_reducible rfl
            simp only [Act.put, List.setIfInBounds_toArray, List.set_cons_zero, List.set_cons_succ]
            refine wpAnyH_take (i := 3) (oi := ?_) (v := ?_) ?_ ?_ ?_ ?_ ?_ ?_ (by assumption) ?_
            rotate_left 2
            · simp only [List.getElem?_toArray, List.getElem?_cons_zero, List.getElem?_cons_succ]
              rfl
            · kernel_rfl
            · kernel_rfl
            · kernel_rfl
            · exact fun _ _ _ h => h
            · refine Or.inl ⟨by rfl, ?_⟩
              intro w hSw
              (try dsimp only at hSw)
              go_simp
              all_goals with_reducible rfl
            simp only [Act.put, List.setIfInBounds_toArray, List.set_cons_zero, List.set_cons_succ]
            refine wpAnyH_take (i := 4) (oi := ?_) (v := ?_) ?_ ?_ ?_ ?_ ?_ ?_ (by assumption) ?_
            rotate_left 2
            · simp only [List.getElem?_toArray, List.getElem?_cons_zero, List.getElem?_cons_succ]
              rfl
            · kernel_rfl
            · kernel_rfl
            · kernel_rfl
            · exact fun _ _ _ h => h
            · refine Or.inl ⟨by rfl, ?_⟩
              intro w hSw
              (try dsimp only at hSw)
              go_simp
              all_goals with_reducible rfl
            simp only [Act.put, List.setIfInBounds_toArray, List.set_cons_zero, List.set_cons_succ]
            refine wpAnyH_take (i := 5) (oi := ?_) (v := ?_) ?_ ?_ ?_ ?_ ?_ ?_ (by assumption) ?_
            rotate_left 2
            · simp only [List.getElem?_toArray, List.getElem?_cons_zero, List.getElem?_cons_succ]
              rfl
            · kernel_rfl
            · kernel_rfl
            · kernel_rfl
            · exact fun _ _ _ h => h
            · refine Or.inl ⟨by rfl, ?_⟩
              intro w' hSw
              obtain ⟨q2, q3, q4⟩ := hSw
              go_simp
              all_goals with_reducible rfl
            simp only [Act.put, List.setIfInBounds_toArray, List.set_cons_zero, List.set_cons_succ]
            refine wpAnyH_take (i := 6) (oi := ?_) (v := ?_) ?_ ?_ ?_ ?_ ?_ ?_ (by assumption) ?_
            rotate_left 2
            · simp only [List.getElem?_toArray, List.getElem?_cons_zero, List.getElem?_cons_succ]
              rfl
            · kernel_rfl
            · kernel_rfl
            · kernel_rfl
            · exact fun _ _ _ h => h
            · refine Or.inl ⟨by rfl, ?_⟩
              intro w hSw
              (try dsimp only at hSw)
              go_simp
              all_goals with_reducible rfl
            simp only [Act.put, List.setIfInBounds_toArray, List.set_cons_zero, List.set_cons_succ]
            refine wpAnyH_take (i := 7) (oi := ?_) (v := ?_) ?_ ?_ ?_ ?_ ?_ ?_ (by assumption) ?_
            rotate_left 2
            · simp only [List.getElem?_toArray, List.getElem?_cons_zero, List.getElem?_cons_succ]
              rfl
            · kernel_rfl
            · kernel_rfl
            · kernel_rfl
            · exact fun _ _ _ h => h
            · refine Or.inl ⟨by rfl, ?_⟩
              intro w hSw
              (try dsimp only at hSw)
              go_simp
              all_goals with_reducible rfl
            simp only [Act.put, List.setIfInBounds_toArray, List.set_cons_zero, List.set_cons_succ]
            refine wpAnyH_take (i := 8) (oi := ?_) (v := ?_) ?_ ?_ ?_ ?_ ?_ ?_ (by assumption) ?_
            rotate_left 2
            · simp only [List.getElem?_toArray, List.getElem?_cons_zero, List.getElem?_cons_succ]
              rfl
            · kernel_rfl
            · kernel_rfl
            · kernel_rfl
            · exact fun _ _ _ h => h
            · refine Or.inl ⟨by rfl, ?_⟩
              intro w hSw
              (try dsimp only at hSw)
              go_simp
              all_goals with_reducible rfl
            simp only [Act.put, List.setIfInBounds_toArray, List.set_cons_zero, List.set_cons_succ]
            refine wpAnyH_take (i := 9) (oi := ?_) (v := ?_) ?_ ?_ ?_ ?_ ?_ ?_ (by assumption) ?_
            rotate_left 2
            · simp only [List.getElem?_toArray, List.getElem?_cons_zero, List.getElem?_cons_succ]
              rfl
            · kernel_rfl
            · kernel_rfl
            · kernel_rfl
            · exact fun _ _ _ h => h
            · refine Or.inl ⟨by rfl, ?_⟩
              intro w hSw
              (try dsimp only at hSw)
              go_simp
              all_goals with_reducible rfl
            simp only [Act.put, List.setIfInBounds_toArray, List.set_cons_zero, List.set_cons_succ]
            refine wpAnyH_take (i := 10) (oi := ?_) (v := ?_) ?_ ?_ ?_ ?_ ?_ ?_ (by assumption) ?_
            rotate_left 2
            · simp only [List.getElem?_toArray, List.getElem?_cons_zero, List.getElem?_cons_succ]
              rfl
            · kernel_rfl
            · kernel_rfl
            · kernel_rfl
            · exact fun _ _ _ h => h
            · refine Or.inl ⟨by rfl, ?_⟩
              intro w' hSw
              obtain ⟨q2, q3, q4⟩ := hSw
              go_simp
              all_goals with_reducible rfl
            simp only [Act.put, List.setIfInBounds_toArray, List.set_cons_zero, List.set_cons_succ]
            refine wpAnyH_take (i := 11) (oi := ?_) (v := ?_) ?_ ?_ ?_ ?_ ?_ ?_ (by assumption) ?_
            rotate_left 2
            · simp only [List.getElem?_toArray, List.getElem?_cons_zero, List.getElem?_cons_succ]
              rfl
            · kernel_rfl
            · kernel_rfl
            · kernel_rfl
            · exact fun _ _ _ h => h
            · refine Or.inl ⟨by rfl, ?_⟩
              intro w hSw
              (try dsimp only at hSw)
              go_simp
              all_goals with_reducible rfl
            simp only [Act.put, List.setIfInBounds_toArray, List.set_cons_zero, List.set_cons_succ]
            refine wpAnyH_take (i := 12) (oi := ?_) (v := ?_) ?_ ?_ ?_ ?_ ?_ ?_ (by assumption) ?_
            rotate_left 2
            · simp only [List.getElem?_toArray, List.getElem?_cons_zero, List.getElem?_cons_succ]
              rfl
            · kernel_rfl
            · kernel_rfl
            · kernel_rfl
            · exact fun _ _ _ h => h
            · refine Or.inl ⟨by rfl, ?_⟩
              intro w hSw
              (try dsimp only at hSw)
              go_simp
              all_goals with_reducible rfl
            simp only [Act.put, List.setIfInBounds_toArray, List.set_cons_zero, List.set_cons_succ]
            refine wpAnyH_take (i := 13) (oi := ?_) (v := ?_) ?_ ?_ ?_ ?_ ?_ ?_ (by assumption) ?_
            rotate_left 2
            · simp only [List.getElem?_toArray, List.getElem?_cons_zero, List.getElem?_cons_succ]
              rfl
            · kernel_rfl
            · kernel_rfl
            · kernel_rfl
            · exact fun _ _ _ h => h
            · refine Or.inl ⟨by rfl, ?_⟩
              intro w hSw
              (try dsimp only at hSw)
              go_simp
              all_goals with_reducible rfl
            simp only [Act.put, List.setIfInBounds_toArray, List.set_cons_zero, List.set_cons_succ]
            refine wpAnyH_take (i := 14) (oi := ?_) (v := ?_) ?_ ?_ ?_ ?_ ?_ ?_ (by assumption) ?_
            rotate_left 2
            · simp only [List.getElem?_toArray, List.getElem?_cons_zero, List.getElem?_cons_succ]
              rfl
            · kernel_rfl
            · kernel_rfl
            · kernel_rfl
            · exact fun _ _ _ h => h
            · refine Or.inl ⟨by rfl, ?_⟩
              intro w hSw
              (try dsimp only at hSw)
              go_simp
              all_goals with_reducible rfl
            simp only [Act.put, List.setIfInBounds_toArray, List.set_cons_zero, List.set_cons_succ]
            refine wpAnyH_take (i := 15) (oi := ?_) (v := ?_) ?_ ?_ ?_ ?_ ?_ ?_ (by assumption) ?_
            rotate_left 2
            · simp only [List.getElem?_toArray, List.getElem?_cons_zero, List.getElem?_cons_succ]
              rfl
            · kernel_rfl
            · kernel_rfl
            · kernel_rfl
            · exact fun _ _ _ h => h
            · refine Or.inl ⟨by rfl, ?_⟩
              intro w' hSw
              obtain ⟨q2, q3, q4⟩ := hSw
              go_simp
              all_goals with_reducible rfl
            simp only [Act.put, List.setIfInBounds_toArray, List.set_cons_zero, List.set_cons_succ]
            refine wpAnyH_ready (rs := [16]) (by kernel_rfl) (by simp) ?_
            refine AllReadyH.cons (o := ?_) ?_ (fun KK hKK => ?_) AllReadyH.nil
            rotate_left
            · simp only [List.getElem?_toArray, List.getElem?_cons_zero, List.getElem?_cons_succ]
              rfl
            go_simp
            refine (HPUT.out _ (HS.out.drewN _)).mono ?_; rintro e wD ⟨rfl, hD, -⟩
            try go_wp2_with fail
            refine hKK.out _ _ ?_ (fun hh1 => ?_)
            · (try dsimp only)
              exact ⟨(HCELL.out _ hD.below).1.trans g2, (HCELL.out _ hD.below).2.1.trans g3, (HCELL.out _ hD.below).2.2.trans g4⟩
            clear hKK KK
            try simp only [Act.put, List.setIfInBounds_toArray, List.set_cons_zero, List.set_cons_succ]
            refine wpAnyH_take (i := 17) (oi := ?_) (v := ?_) ?_ ?_ ?_ ?_ ?_ ?_ (by assumption) ?_
            rotate_left 2
            · simp only [List.getElem?_toArray, List.getElem?_cons_zero, List.getElem?_cons_succ]
              rfl
            · kernel_rfl
            · kernel_rfl
            · kernel_rfl
            · exact fun _ _ _ h => h
            · refine Or.inl ⟨by rfl, ?_⟩
              intro w hSw
              (try dsimp only at hSw)
              go_simp
              all_goals with_reducible rfl
            simp only [Act.put, List.setIfInBounds_toArray, List.set_cons_zero, List.set_cons_succ]
            refine wpAnyH_done (by kernel_rfl) ?_ _
            obtain ⟨y, hyy⟩ : ∃ y, Rs.put x o D la = y := ⟨_, rfl⟩
            have hy := Rs.put_rd x o D la
            rw [hyy] at hy hD
            have HY := Lib.hid hD
            clear hD hyy hHeld hh1 HPUT
            obtain ⟨er, her⟩ : ∃ er, Rs.err x o nd la = er := ⟨_, rfl⟩
            rw [her] at HFL ⊢
            clear her g0 g1 g2 g3 g4 HCELL
            have HYR : Hid (y.rd = x.rd) := hy.1
            have HYW : Hid (y.win = win) := hy.2.trans HXW.out
            clear hy HS HXW
            obtain ⟨r, hr⟩ : ∃ r, x.rd = r := ⟨_, rfl⟩
            have hr62 : r ≤ 4611686018427387903 := by omega
            rw [hr] at HYR HFL
            rw [hr]
            obtain ⟨s, hs⟩ : ∃ s, r + win = s := ⟨_, rfl⟩
            have hwr : IntKind.u64.wrap (r : Int) = (r : Int) := by rw [IntKind.wrap_u64]; omega
            have hws : IntKind.u64.wrap ((r : Int) + (win : Int)) = (s : Int) := by rw [IntKind.wrap_u64]; omega
            rw [hs] at HFL
            have HSS := Lib.hid hs
            clear hr hs
            by_cases he9 : er = 9
            · subst he9
              have hdE : decide (s < E) = true := by simpa using HFL.out.1 rfl
              clear HFL
              have HLIM : Hid (Rs.limit y = r + win) := by unfold Hid Rs.limit; rw [HYR.out, HYW.out]
              have HCN : Hid (y.cnt ≤ win ∧ Rs.ready y ≤ y.cnt) := ⟨by have := HY.out.ok.held; rw [HYW.out] at this; exact this, HY.out.ok.ready_le⟩
              rw [HSS.out] at HLIM
              go_wp2_with fail
              refine (HY.out.limit).mono ?_
              rintro e wl ⟨rfl, q1, rfl⟩
              rw [HLIM.out]
              have HY1 := Lib.hid (HY.out.drewN q1)
              go_wp2_with fail
              refine (HY1.out.held).mono ?_
              rintro e wl ⟨rfl, rfl⟩
              obtain ⟨cn, hcn⟩ : ∃ cn, y.cnt = cn := ⟨_, rfl⟩
              rw [hcn]
              have hd5 : decide (win < cn) = false := by have := HCN.out; simp; omega
              have HC2 : Hid (y.cnt = cn ∧ Rs.ready y ≤ cn) := ⟨hcn, by have := HCN.out; omega⟩
              clear hcn
              go_wp2_with fail
              refine (HY1.out.ready).mono ?_
              rintro e wm ⟨rfl, hM, -⟩
              have HY2 := Lib.hid hM
              clear hM
              obtain ⟨rn, hrn⟩ : ∃ rn, Rs.ready y = rn := ⟨_, rfl⟩
              rw [hrn]
              have hd6 : decide (cn < rn) = false := by have := HC2.out; simp; omega
              have HC3 : Hid (y.cnt = cn) := HC2.out.1
              clear hrn HC2
              go_wp2_with fail
              refine (HY2.out.held).mono ?_
              rintro e wl ⟨rfl, rfl⟩
              rw [HC3.out]
              go_wp2
              go_roundw
              case rel => exact ⟨j + 1, y, by omega, by go_num, by rw [HYR.out], HYW.out, HY2.out⟩
              case measure => simp [intOf]; omega
            · have hdE : decide (s < E) = false := by simp; have := HFL.out.2; omega
              have he1 : (er == 9) = false := by simpa using he9
              have he2 : ((er : Int) == 9) = false := by simp; omega
              clear HFL he9
              have HLIM : Hid (Rs.limit y = r + win) := by unfold Hid Rs.limit; rw [HYR.out, HYW.out]
              have HCN : Hid (y.cnt ≤ win ∧ Rs.ready y ≤ y.cnt) := ⟨by have := HY.out.ok.held; rw [HYW.out] at this; exact this, HY.out.ok.ready_le⟩
              rw [HSS.out] at HLIM
              go_wp2_with fail
              refine (HY.out.limit).mono ?_
              rintro e wl ⟨rfl, q1, rfl⟩
              rw [HLIM.out]
              have HY1 := Lib.hid (HY.out.drewN q1)
              go_wp2_with fail
              refine (HY1.out.held).mono ?_
              rintro e wl ⟨rfl, rfl⟩
              obtain ⟨cn, hcn⟩ : ∃ cn, y.cnt = cn := ⟨_, rfl⟩
              rw [hcn]
              have hd5 : decide (win < cn) = false := by have := HCN.out; simp; omega
              have HC2 : Hid (y.cnt = cn ∧ Rs.ready y ≤ cn) := ⟨hcn, by have := HCN.out; omega⟩
              clear hcn
              go_wp2_with fail
              refine (HY1.out.ready).mono ?_
              rintro e wm ⟨rfl, hM, -⟩
              have HY2 := Lib.hid hM
              clear hM
              obtain ⟨rn, hrn⟩ : ∃ rn, Rs.ready y = rn := ⟨_, rfl⟩
              rw [hrn]
              have hd6 : decide (cn < rn) = false := by have := HC2.out; simp; omega
              have HC3 : Hid (y.cnt = cn) := HC2.out.1
              clear hrn HC2
              go_wp2_with fail
              refine (HY2.out.held).mono ?_
              rintro e wl ⟨rfl, rfl⟩
              rw [HC3.out]
              go_wp2
              go_roundw
              case rel => exact ⟨j + 1, y, by omega, by go_num, by rw [HYR.out], HYW.out, HY2.out⟩
              case measure => simp [intOf]; omega
          · have hd1 : decide ((o : Int) ≤ 1099511627776) = false := by simp; omega
            have HY := HS
            have HYW := HXW
            obtain ⟨y, hy⟩ : ∃ y, x = y := ⟨_, rfl⟩
            subst hy
            obtain ⟨r, hr⟩ : ∃ r, x.rd = r := ⟨_, rfl⟩
            have HYR := Lib.hid hr
            have hr62 : r ≤ 4611686018427387903 := by omega
            rw [hr]
            clear hr hbig HS HXW g1 g3 g4 HD HDC H256 HNK HCELL HND
            have HLIM : Hid (Rs.limit x = r + win) := by unfold Hid Rs.limit; rw [HYR.out, HYW.out]
            have HCN : Hid (x.cnt ≤ win ∧ Rs.ready x ≤ x.cnt) := ⟨by have := HY.out.ok.held; rw [HYW.out] at this; exact this, HY.out.ok.ready_le⟩
            have hwr : IntKind.u64.wrap (r : Int) = (r : Int) := by rw [IntKind.wrap_u64]; omega
            obtain ⟨s, hs⟩ : ∃ s, r + win = s := ⟨_, rfl⟩
            have hws : IntKind.u64.wrap ((r : Int) + (win : Int)) = (s : Int) := by rw [IntKind.wrap_u64]; omega
            rw [hs] at HLIM
            clear hs
            go_wp2_with fail
            refine (HY.out.limit).mono ?_
            rintro e wl ⟨rfl, q1, rfl⟩
            rw [HLIM.out]
            have HY1 := Lib.hid (HY.out.drewN q1)
            go_wp2_with fail
            refine (HY1.out.held).mono ?_
            rintro e wl ⟨rfl, rfl⟩
            obtain ⟨cn, hcn⟩ : ∃ cn, x.cnt = cn := ⟨_, rfl⟩
            rw [hcn]
            have hd5 : decide (win < cn) = false := by have := HCN.out; simp; omega
            have HC2 : Hid (x.cnt = cn ∧ Rs.ready x ≤ cn) := ⟨hcn, by have := HCN.out; omega⟩
            clear hcn
            go_wp2_with fail
            refine (HY1.out.ready).mono ?_
            rintro e wm ⟨rfl, hM, -⟩
            have HY2 := Lib.hid hM
            clear hM
            obtain ⟨rn, hrn⟩ : ∃ rn, Rs.ready x = rn := ⟨_, rfl⟩
            rw [hrn]
            have hd6 : decide (cn < rn) = false := by have := HC2.out; simp; omega
            have HC3 : Hid (x.cnt = cn) := HC2.out.1
            clear hrn HC2
            go_wp2_with fail
            refine (HY2.out.held).mono ?_
            rintro e wl ⟨rfl, rfl⟩
            rw [HC3.out]
            go_wp2
            go_roundw
            case rel => exact ⟨j + 1, x, by omega, by go_num, by rw [HYR.out], HYW.out, HY2.out⟩
            case measure => simp [intOf]; omega
      · obtain rfl : n1 = j := by omega
        have HL := Lib.hid hS.below
        clear hS hxw HS HXW hj hlt HACT
        go_wp2_with fail
        refine (HAL.out _).mono ?_
        rintro e wA ⟨rfl, hL⟩
        have HM := Lib.hid (HL.out.trans (hL.mono HL.out.size))
        clear hL
        go_wp2
        go_ret
        exact ⟨rfl, HM.out⟩
end Go.Proofs.Ytghfgekmdcangaa.Rm
