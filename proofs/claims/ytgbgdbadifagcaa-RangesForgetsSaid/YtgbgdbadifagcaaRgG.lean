/- RangesForgets, walked. -/
import Derived.Test.YtgbgdbadifagcaaRows
import Derived.Test.YtgbgdbadifagcaaAid
import Derived.Test.YtgbgdbadifagcaaHeldC
import Derived.Test.YtgbgdbadifagcaaPlainRg
import Derived.Test.YtgbgdbadifagcaaPlainRg2
import Derived.Test.YtgbgdbadifagcaaPlainRg3
import Derived.Test.YtgbgdbadifagcaaRgW
import Derived.Test.YtgbgdbadifagcaaRgX
import Derived.Test.YtgbgdbadifagcaaRgF
import Derived.Test.YtgbgdbadifagcaaRgA
import Derived.Test.YtgbgdbadifagcaaRgB
import Derived.Test.YtgbgdbadifagcaaRgL
import Derived.Test.YtgbgdbadifagcaaRgL2
import Derived.WalkKit
import Derived.OwnWalk
import Derived.Laws.Rows
import Derived.Laws.Tables
import Derived.WalkSpells
import Derived.WalkLawsBesides
import Derived.BigQuiet
import Derived.Handy
import Derived.StillTailTactics
import Derived.Lib.Hide
import Derived.IntWalk
namespace Go.Proofs.Ytgbgdbadifagcaa
open Go.RowKit Go.Shelf Go.Lib Go.Sort
set_option linter.unusedVariables false
set_option linter.unusedSimpArgs false

def cellsB (f : Nat → Bool) (n : Nat) : Array Value := ((List.range n).map fun t => Value.bool (f t)).toArray
theorem cellsB_get (f : Nat → Bool) (n t : Nat) (h : t < n) : (cellsB f n)[t]? = some (.bool (f t)) := by
  simp [cellsB, h]
theorem cellsB_set (f : Nat → Bool) (n j : Nat) (v : Bool) : (cellsB f n).setIfInBounds j (.bool v) = cellsB (fun t => if t = j then v else f t) n := by
  unfold cellsB
  rw [List.setIfInBounds_toArray]
  congr 1
  apply List.ext_getElem
  · simp
  · intro i h1 h2
    rw [List.getElem_set]
    simp only [List.getElem_map, List.getElem_range]
    by_cases h : j = i
    · subst h; simp
    · rw [if_neg h, if_neg (fun e => h e.symm)]
theorem madeB (n : Nat) : madeCells #[Value.bool false] n = cellsB (fun _ => false) n := by
  apply Array.ext
  · rw [size_madeCells]; simp [cellsB]
  · intro i h1 h2
    simp [madeCells, cellsB, Nat.mod_one]
theorem infoB : (Try.prog.info? 4).map (fun i => (i.zero, i.size, i.bytes)) = some (some (.bool false), 1, 1) := by kernel_rfl
theorem mkB (N : Nat) (hN : N ≤ 1000) (w : World) :
    (Instr.makeSlice 44 (.int .i64 (N : Int)) (.int .i64 (N : Int))).run Try.prog w = .ok (.slice (some ⟨w.heap.size, 0, none⟩) N N) (w.alloc (.cells (cellsB (fun _ => false) N) 4)) := by
  rw [run_make_row' 44 4 (.bool false) 1 Try.underlying44 infoB rfl .i64 .i64 N (by omega) (by omega) w, madeB]

/-- What the third loop's test reads. -/
def Keep3 (w0 : World) (A H n0 : Nat) (f : Nat → Bool) (s : Rg.S) (w : World) : Prop :=
  (∃ g, SetAt w0.heap.size w A g s ∧ g ≠ H) ∧ H ≠ A ∧ Obj w H 4 (cellsB f n0) ∧ Below w0.heap.size w0 w
theorem Keep3.drewN {w0 w : World} {A H n0 : Nat} {f : Nat → Bool} {s : Rg.S} (h : Keep3 w0 A H n0 f s w) (n : Nat) : Keep3 w0 A H n0 f s (w.drewN n) :=
  ⟨h.1, h.2.1, h.2.2.1, below_drewN h.2.2.2 n⟩
theorem Keep3.kept {w0 w w' : World} {A H n0 : Nat} {f : Nat → Bool} {s : Rg.S} (h : Keep3 w0 A H n0 f s w) (hb : Below w.heap.size w w') : Keep3 w0 A H n0 f s w' := by
  obtain ⟨⟨g, h1, h2⟩, h3, h4, h5⟩ := h
  exact ⟨⟨g, h1.kept hb, h2⟩, h3, h4.kept hb, h5.trans (hb.mono h5.size)⟩
theorem Keep3.has {w0 w : World} {A H n0 : Nat} {f : Nat → Bool} {s : Rg.S} (h : Keep3 w0 A H n0 f s w) (n : Nat) :
    Calls Try.prog 10 #[.pointer (some ⟨A, 0, none⟩), .int .u64 (n : Int)] w fun e w' => e = .returned (.bool (Rg.has n s.l)) ∧ ∃ p : HeldW (Keep3 w0 A H n0 f s), w' = p.W := by
  obtain ⟨⟨g, h1, h2⟩, _⟩ := id h
  refine (shas_any _ A g n s w h1).mono ?_
  rintro e w' ⟨rfl, _, hb⟩
  exact ⟨rfl, ⟨w', h.kept hb⟩, rfl⟩
theorem Keep3.old {w0 w : World} {A H n0 : Nat} {f : Nat → Bool} {s : Rg.S} (h : Keep3 w0 A H n0 f s w) (n : Nat) :
    Calls Try.prog 11 #[.pointer (some ⟨A, 0, none⟩), .int .u64 (n : Int)] w fun e w' => e = .returned (.bool (decide (n < s.old))) ∧ ∃ p : HeldW (Keep3 w0 A H n0 f s), w' = p.W := by
  obtain ⟨⟨g, h1, h2⟩, _⟩ := id h
  refine (sold_any _ A g n s w h1).mono ?_
  rintro e w' ⟨rfl, rfl⟩
  exact ⟨rfl, ⟨w, h⟩, rfl⟩
theorem Keep3.add {w0 w : World} {A H n0 : Nat} {f : Nat → Bool} {s : Rg.S} (h : Keep3 w0 A H n0 f s w) (n : Nat) (hn : n < s.old) :
    Calls Try.prog 9 #[.pointer (some ⟨A, 0, none⟩), .int .u64 (n : Int)] w fun e w' => e = .returned (.bool false) ∧ ∃ p : HeldW (Keep3 w0 A H n0 f s), w' = p.W := by
  obtain ⟨⟨g, h1, h2⟩, h3, h4, h5⟩ := id h
  have hno := Rg.add_no h1.ok (n := n) (Or.inr (Or.inl hn))
  refine (sadd_any _ A g n s w h1).mono ?_
  rw [hno]
  rintro e w' ⟨rfl, g', k1, k2, k3, k4⟩
  have hl := h4.lt
  exact ⟨rfl, ⟨w', ⟨⟨g', k1, by rcases k2 with h | h <;> omega⟩, h3, h4.upd2 k3 h3 (fun e => h2 e.symm), h5.trans k4⟩⟩, rfl⟩

set_option maxRecDepth 100000 in
set_option maxHeartbeats 4000000 in
theorem rangesForgets_walk (A0 : Option Addr) (n0 c0 : Nat) (z : List Int) (a1 : Int) (w : World) (w0 : Ints .u64 w A0 n0 z) (x0 : n0 ≤ maxLen) (w1 : (Lit.int .u64 a1).wf = true) :
    Calls Try.prog 6 #[.slice A0 n0 c0, .int .u64 a1] w fun e w' => e = .returned (.bool true) ∧ Below w.heap.size w w' := by
  have hN := Nums.of w0
  generalize z.map Int.toNat = xs at hN
  obtain ⟨b1, c1⟩ := bounds_u64 w1
  obtain ⟨n, rfl⟩ := Int.eq_ofNat_of_zero_le b1
  have HN := Lib.hid hN
  have HAL := Lib.hid (alive_true w)
  clear w0 hN b1 c1 w1
  by_cases h100 : 100 < n0
  · have hd : decide ((100 : Int) < (n0 : Int)) = true := by simp; omega
    go_enter Try.func6, Try.ntmps6
    go_wp2_with fail
    refine HAL.out.mono ?_
    rintro e w1 ⟨rfl, hb1⟩
    have HB := Lib.hid hb1
    clear hb1
    go_wp2
    go_ret
    exact ⟨rfl, HB.out⟩
  have hd : decide ((100 : Int) < (n0 : Int)) = false := by simp; omega
  have hn0 : n0 ≤ 100 := by omega
  go_enter Try.func6, Try.ntmps6
  go_wp2_with fail
  refine HAL.out.mono ?_
  rintro e w1 ⟨rfl, hb1⟩
  have H0 := Lib.hid (SetAt.new w1 w.heap.size hb1.size)
  have B0 : Hid (Below w.heap.size w (w1.alloc (.cells #[.slice none 0 0, .int .u64 0] 32))) := hb1.alloc hb1.size _
  generalize hA : w1.heap.size = A at H0
  have HA := Lib.hid hA
  obtain ⟨F, hF⟩ : ∃ F : Nat → Nat, (fun t => xs.getD t 0) = F := ⟨_, rfl⟩
  have HFX : Hid (∀ t, xs.getD t 0 = F t) := fun t => by rw [← hF]
  clear hb1 hA HAL hF
  go_wp2
  rw [HA.out]
  go_loopw [6] (fun i wr => ∃ (j : Nat) (s : Rg.S) (g : Nat), j ≤ n0 ∧ i = .int .i64 j ∧ SetAt w.heap.size wr A g s ∧ Below w.heap.size w wr) (fun i _ => n0 - (intOf i).toNat)
  case atStart =>
    exact ⟨0, ⟨[], 0⟩, _, Nat.zero_le _, rfl, H0.out, B0.out⟩
  case round =>
    clear H0 B0
    obtain ⟨j, s, g, hj, rfl, hs, hL⟩ := hrel
    by_cases hlt : j < n0
    · obtain ⟨b, off, rfl, hbl, hcell⟩ := HN.out.cell (by omega)
      have f0 : wr.cell? ⟨b, off + j, none⟩ = some (.int .u64 ((F j : Nat) : Int)) := by rw [← HFX.out]; exact (hL.cell (p := ⟨b, off + j, none⟩) hbl).trans (hcell j hlt)
      have HADD := Lib.hid (fun W (hW : SetAt w.heap.size W A g s) => sadd_any w.heap.size A g (F j) s W hW)
      have HS := Lib.hid hs
      have HL := Lib.hid hL
      have hjz : (j : Int) < (n0 : Int) := by omega
      clear hs hL hbl hcell
      go_wp2_with fail
      refine (HADD.out _ HS.out).mono ?_
      rintro e w2 ⟨rfl, g', h2, -, -, b2⟩
      have H2 := Lib.hid h2
      have B2 := Lib.hid (HL.out.trans b2)
      clear h2 b2 f0 HADD
      generalize (Rg.add (F j) s).1 = ok
      go_wp2
      go_roundw
      case rel => exact ⟨j + 1, _, g', by omega, by go_num, H2.out, B2.out⟩
      case measure => simp [intOf]; omega
    · obtain rfl : n0 = j := by omega
      clear hlt hj
      have HS := Lib.hid hs
      have HL := Lib.hid hL
      clear hs hL
      have hmk := mkB n0 (by omega)
      go_wp2
      have hob : Obj (wr.alloc (.cells (cellsB (fun _ => false) n0) 4)) wr.heap.size 4 (cellsB (fun _ => false) n0) := Obj.new wr _ _
      have K0 := Lib.hid (And.intro (HS.out.alloc (.cells (cellsB (fun _ => false) n0) 4)) (And.intro hob (HL.out.alloc HL.out.size (.cells (cellsB (fun _ => false) n0) 4))))
      have HNE : Hid (g ≠ wr.heap.size ∧ wr.heap.size ≠ A ∧ w.heap.size ≤ wr.heap.size) := by
        have h1 := HS.out.lt
        have h2 := HS.out.2.2.1
        have h3 := HL.out.size
        exact ⟨by omega, by omega, h3⟩
      clear hob hmk
      generalize wr.heap.size = H at *
      clear HS HL
      go_loopw [8] (fun i wr => ∃ (j : Nat), j ≤ n0 ∧ i = .int .i64 j ∧ SetAt w.heap.size wr A g s ∧ Obj wr H 4 (cellsB (fun t => if t < j then Rg.has (F t) s.l else false) n0) ∧ Below w.heap.size w wr) (fun i _ => n0 - (intOf i).toNat)
      case atStart =>
        refine ⟨0, Nat.zero_le _, rfl, K0.out.1, K0.out.2.1.as ?_, K0.out.2.2⟩
        simp
      case round =>
        clear K0
        obtain ⟨j, hj, rfl, hs, ho, hL⟩ := hrel
        by_cases hlt : j < n0
        · obtain ⟨b, off, rfl, hbl, hcell⟩ := HN.out.cell (by omega)
          have f0 : wr.cell? ⟨b, off + j, none⟩ = some (.int .u64 ((F j : Nat) : Int)) := by rw [← HFX.out]; exact (hL.cell (p := ⟨b, off + j, none⟩) hbl).trans (hcell j hlt)
          have HHAS := Lib.hid (fun W (hW : SetAt w.heap.size W A g s) => shas_any w.heap.size A g (F j) s W hW)
          have HS := Lib.hid hs
          have HO := Lib.hid ho
          have HL := Lib.hid hL
          have hjz : (j : Int) < (n0 : Int) := by omega
          clear hs hL hbl hcell ho
          go_wp2_with fail
          refine (HHAS.out _ HS.out).mono ?_
          rintro e w2 ⟨rfl, h2, b2⟩
          have ho2 := HO.out.kept b2
          have z2 := ho2.free j
          have f2 : w2.cell? ⟨H, j, none⟩ = some (.bool (if j < j then Rg.has (F j) s.l else false)) := by rw [ho2.cell, cellsB_get _ _ _ hlt]
          simp only [Nat.lt_irrefl, if_false] at f2
          have H2 := Lib.hid h2
          have O2 := Lib.hid ho2
          have B2 := Lib.hid (HL.out.trans (b2.mono HL.out.size))
          have HF : Hid ((cellsB (fun t => if t < j then Rg.has (F t) s.l else false) n0).setIfInBounds j (.bool (Rg.has (F j) s.l)) = cellsB (fun t => if t < j + 1 then Rg.has (F t) s.l else false) n0) := by
            unfold Hid; rw [cellsB_set]; congr 1; funext t
            by_cases h : t = j
            · subst h; simp
            · rw [if_neg h]
              by_cases h' : t < j
              · rw [if_pos h', if_pos (by omega)]
              · rw [if_neg h', if_neg (by omega)]
          clear h2 b2 f0 HHAS ho2
          generalize Rg.has (F j) s.l = hb at *
          go_wp2
          go_roundw
          case rel =>
            have hu : Upd2 H H w2 (w2.setCell ⟨H, j, none⟩ (.bool hb)) := Upd2.left ((Upd.refl H w2).set _ _) H
            exact ⟨j + 1, by omega, by go_num, H2.out.upd2 hu (fun e => HNE.out.2.1 e.symm) (fun e => HNE.out.2.1 e.symm) HNE.out.1 HNE.out.1, (O2.out.set j _).as HF.out, B2.out.setCell HNE.out.2.2 _⟩
          case measure => simp [intOf]; omega
        · obtain rfl : n0 = j := by omega
          clear hlt hj
          have HS := Lib.hid hs
          have HO := Lib.hid ho
          have HL := Lib.hid hL
          clear hs hL ho
          have HFG := Lib.hid (fun W (hW : SetAt w.heap.size W A g s) => sforget_any w.heap.size A g n s W hW)
          go_wp2_with fail
          refine (HFG.out _ HS.out).mono ?_
          rintro e w2 ⟨rfl, h2, u2, b2⟩
          have K2 : Hid (Keep3 w A H n0 (fun t => if t < n0 then Rg.has (F t) s.l else false) (Rg.forget n s).2 w2) := ⟨⟨g, h2, HNE.out.1⟩, HNE.out.2.1, HO.out.upd2 u2 HNE.out.2.1 (fun e => HNE.out.1 e.symm), HL.out.trans b2⟩
          have HFO : Hid (∀ x, x ≤ n → x ≤ 4611686018427387903 → Rg.has x (Rg.forget n s).2.l = false ∧ x < (Rg.forget n s).2.old) := fun x h1 h3 => Rg.forgot HS.out.ok h1 h3
          have HFH : Hid (∀ x, n < x → Rg.has x (Rg.forget n s).2.l = Rg.has x s.l) := fun x h1 => Rg.has_forget HS.out.ok h1
          clear h2 u2 b2 HFG HS HO HL
          generalize (Rg.forget n s).2 = s3 at *
          generalize (Rg.forget n s).1 = r3 at *
          go_wp2
          go_loopw [9] (fun i wr => ∃ (j : Nat), j ≤ n0 ∧ i = .int .i64 j ∧ Keep3 w A H n0 (fun t => if t < n0 then Rg.has (F t) s.l else false) s3 wr) (fun i _ => n0 - (intOf i).toNat)
          case atStart => exact ⟨0, Nat.zero_le _, rfl, K2.out⟩
          case round =>
            clear K2
            obtain ⟨j, hj, rfl, hk⟩ := hrel
            by_cases hlt : j < n0
            · obtain ⟨b, off, rfl, hbl, hcell⟩ := HN.out.cell (by omega)
              have f1 : ∀ p : HeldW (Keep3 w A H n0 (fun t => if t < n0 then Rg.has (F t) s.l else false) s3), p.W.cell? ⟨b, off + j, none⟩ = some (.int .u64 ((F j : Nat) : Int)) := fun p => by
                rw [← HFX.out]; exact (p.ok.2.2.2.cell (p := ⟨b, off + j, none⟩) hbl).trans (hcell j hlt)
              have f2 : ∀ p : HeldW (Keep3 w A H n0 (fun t => if t < n0 then Rg.has (F t) s.l else false) s3), p.W.cell? ⟨H, j, none⟩ = some (.bool (Rg.has (F j) s.l)) := fun p => by
                rw [p.ok.2.2.1.cell, cellsB_get _ _ _ hlt, if_pos hlt]
              have HHAS := Lib.hid (fun p : HeldW (Keep3 w A H n0 (fun t => if t < n0 then Rg.has (F t) s.l else false) s3) => p.ok.has (F j))
              have HOLD := Lib.hid (fun p : HeldW (Keep3 w A H n0 (fun t => if t < n0 then Rg.has (F t) s.l else false) s3) => p.ok.old (F j))
              have HADD := Lib.hid (fun (p : HeldW (Keep3 w A H n0 (fun t => if t < n0 then Rg.has (F t) s.l else false) s3)) (h : F j < s3.old) => p.ok.add (F j) h)
              have HK := Lib.hid hk
              have hjz : (j : Int) < (n0 : Int) := by omega
              have HO1 := Lib.hid (HFO.out (F j))
              have HH1 := Lib.hid (HFH.out (F j))
              clear hbl hcell hk
              generalize (fun t => if t < n0 then Rg.has (F t) s.l else false) = f at *
              generalize Rg.has (F j) s.l = hb at *
              generalize F j = x at *
              by_cases hxn : x ≤ n
              · have d1 : decide (x ≤ n) = true := by simpa using hxn
                have d2 : decide (n < x) = false := by simpa using hxn
                by_cases hxt : x ≤ 4611686018427387903
                · have d3 : decide ((x : Int) ≤ 4611686018427387903) = true := by simp; omega
                  obtain ⟨e1, e2⟩ := HO1.out hxn hxt
                  rw [e1] at HHAS
                  have e3 : decide (x < s3.old) = true := by simpa using e2
                  rw [e3] at HOLD
                  have HADD2 := Lib.hid (fun p => HADD.out p e2)
                  clear e1 e2 e3 HADD HO1 HH1
                  go_wp2
                  have neH : Nonempty (HeldW (Keep3 w A H n0 f s3)) := ⟨⟨_, HK.out.drewN 1⟩⟩
                  refine wp_region_heldC (Keep3 w A H n0 f s3) (by kernel_rfl) (by kernel_rfl) (HK.out.drewN 1) ?_
                  repeat (go_big_quiet_step (first
                    | (go_at_call 10; exact HHAS.out _)
                    | (go_at_call 11; exact HOLD.out _)
                    | (go_at_call 9; exact HADD2.out _)))
                  refine wpQuiet_nil ?_
                  intro _ hw'
                  obtain ⟨pH, hw''⟩ := hw'
                  subst hw''
                  have HP := Lib.hid pH.ok
                  generalize pH.W = wH at *
                  clear f1 f2 neH pH HHAS HOLD
                  go_wp2
                  go_roundw
                  case rel => exact ⟨j + 1, by omega, by go_num, HP.out⟩
                  case measure => simp [intOf]; omega
                · have d3 : decide ((x : Int) ≤ 4611686018427387903) = false := by simp; omega
                  clear HADD HO1 HH1
                  go_wp2
                  have neH : Nonempty (HeldW (Keep3 w A H n0 f s3)) := ⟨⟨_, HK.out.drewN 1⟩⟩
                  refine wp_region_heldC (Keep3 w A H n0 f s3) (by kernel_rfl) (by kernel_rfl) (HK.out.drewN 1) ?_
                  repeat (go_big_quiet_step (fail))
                  refine wpQuiet_nil ?_
                  intro _ hw'
                  obtain ⟨pH, hw''⟩ := hw'
                  subst hw''
                  have HP := Lib.hid pH.ok
                  generalize pH.W = wH at *
                  clear f1 f2 neH pH HHAS HOLD
                  go_wp2
                  go_roundw
                  case rel => exact ⟨j + 1, by omega, by go_num, HP.out⟩
                  case measure => simp [intOf]; omega
              · have d1 : decide (x ≤ n) = false := by simp; omega
                have d2 : decide (n < x) = true := by simp; omega
                have e1 := HH1.out (by omega)
                rw [e1] at HHAS
                have e2 : (hb != hb) = false := by cases hb <;> rfl
                clear e1 HADD HO1 HH1
                cases hb
                all_goals
                  go_wp2
                  have neH : Nonempty (HeldW (Keep3 w A H n0 f s3)) := ⟨⟨_, HK.out.drewN 1⟩⟩
                  refine wp_region_heldC (Keep3 w A H n0 f s3) (by kernel_rfl) (by kernel_rfl) (HK.out.drewN 1) ?_
                  repeat (go_big_quiet_step ((go_at_call 10; exact HHAS.out _)))
                  refine wpQuiet_nil ?_
                  intro _ hw'
                  obtain ⟨pH, hw''⟩ := hw'
                  subst hw''
                  have HP := Lib.hid pH.ok
                  generalize pH.W = wH at *
                  clear f1 f2 neH pH HHAS HOLD
                  go_wp2
                  go_roundw
                  case rel => exact ⟨j + 1, by omega, by go_num, HP.out⟩
                  case measure => simp [intOf]; omega
            · obtain rfl : n0 = j := by omega
              have HK := Lib.hid hk
              clear hlt hj hk
              go_wp2
              go_ret
              exact ⟨rfl, HK.out.2.2.2⟩
end Go.Proofs.Ytgbgdbadifagcaa
