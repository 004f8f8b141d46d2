/- The five laws of layer 2, walked: each callee by its contract. -/
import Derived.Test.YtfigedhfoljloaaRows
import Derived.Test.YtfigedhfoljloaaPlainPn
import Derived.Test.YtfigedhfoljloaaAid
import Derived.Test.YtfigedhfoljloaaSame
import Derived.Test.YtfigedhfoljloaaPnAny
import Derived.WalkKit
import Derived.WalkSpells
import Derived.WalkLawsBesides
import Derived.Deep.QuietTactic
import Derived.BigQuiet
import Derived.Handy
import Derived.Lib.Hide
namespace Go.Proofs.Ytfigedhfoljloaa
open Go.RowKit
set_option linter.unusedVariables false

theorem same_lists (A A' : Option Addr) (n m c c' : Nat) (l l' : List Int) (w : World) (hl : Bytes w A n l) (hl' : Bytes w A' m l') (hn : n ≤ 9223372036854775807) (hm : m ≤ 9223372036854775807) (e : l = l') :
    Calls Try.prog 11 #[.slice A n c, .slice A' m c'] w fun e w' => e = .returned (.bool true) ∧ ∃ q, w' = w.drewN q :=
  (same_any A A' n m c c' l l' w hl hl' hn hm).mono fun _ _ ⟨he, hw⟩ => ⟨by rw [he, e]; simp, hw⟩

set_option maxHeartbeats 400000 in
theorem alive_true (w : World) : Calls Try.prog 8 #[] w fun e w' => e = .returned (.bool true) ∧ Below w.heap.size w w' := by
  have f1 : Pn.full 2821665002 [155, 50] = 2821692210 := by decide +kernel
  have f2 : Pn.length 11295746 11266227 = 2 := by decide +kernel
  have f3 : cutL 11295746 2 = [92, 2] := by decide +kernel
  have B1 := Bytes.new w [155, 50] 5 (by intro c hc; simp at hc; unfold isByte; omega)
  have H1 := Lib.hid f1
  have H2 := Lib.hid f2
  have H3 := Lib.hid f3
  clear f1 f2 f3
  go_enter Try.func8, Try.ntmps8
  go_wp2_with fail
  refine (full_any _ _ _ _ [155, 50] _ B1 (by simp)).mono ?_
  rintro e w1 ⟨rfl, rfl⟩
  rw [H1.out]
  go_wp2_with fail
  refine (length_any _ _ _).mono ?_
  rintro e w1 ⟨rfl, rfl⟩
  rw [H2.out]
  go_wp2_with fail
  refine (cut_any _ _ _).mono ?_
  rintro e w1 ⟨A, m, rfl, hb, hB, hm⟩
  rw [H3.out] at hB
  have B2 := Bytes.new w1 [92, 2] 5 (by intro c hc; simp at hc; unfold isByte; omega)
  have B3 := hB.below ((Below.refl _ _).alloc (Nat.le_refl _) (.cells (cells8 [92, 2]) 5))
  have hb' : Below w.heap.size w w1 := ((Below.refl _ _).alloc (Nat.le_refl _) _).trans (hb.mono (by simp))
  clear hb hB B1
  have H4 := Lib.hid hb'
  clear hb'
  go_wp2_with fail
  refine (same_lists _ _ _ _ _ _ _ _ _ B3 B2 (by omega) (by simp) rfl).mono ?_
  rintro e w2 ⟨rfl, q, rfl⟩
  go_wp2
  go_ret
  exact ⟨rfl, below_drewN (H4.out.alloc (by have := H4.out.size; exact this) _) _⟩

set_option maxHeartbeats 400000 in
theorem pnumCuts_walk (a0 a1 a2 : Int) (w : World) (_w0 : (Lit.int .i64 a0).wf = true) (_w1 : (Lit.int .i64 a1).wf = true) (_w2 : (Lit.int .i64 a2).wf = true) :
    Calls Try.prog 3 #[.int .i64 a0, .int .i64 a1, .int .i64 a2] w fun e w' => e = .returned (.bool true) ∧ Below w.heap.size w w' := by
  clear _w0 _w1 _w2
  go_enter Try.func3, Try.ntmps3
  go_wp2_with fail
  refine (alive_true _).mono ?_
  rintro e w1 ⟨rfl, hb1⟩
  have H1 := Lib.hid hb1
  clear hb1
  go_wp2_with fail
  refine (length_any _ _ _).mono ?_
  rintro e w2 ⟨rfl, rfl⟩
  go_wp2_with fail
  refine (ref_length_any _ _ _).mono ?_
  rintro e w2 ⟨rfl, rfl⟩
  go_wp2_with fail
  refine (cut_any _ _ _).mono ?_
  rintro e w2 ⟨A, m, rfl, hb2, hB2, hm2⟩
  have H2 := Lib.hid (H1.out.trans (hb2.mono H1.out.size))
  clear hb2
  go_wp2_with fail
  refine (ref_cut_any _ _ _).mono ?_
  rintro e w3 ⟨A', m', rfl, hb3, hB3, hm3⟩
  have H3 := Lib.hid (H2.out.trans (hb3.mono H2.out.size))
  have hB2' := hB2.below hb3
  clear hb3 hB2
  go_wp2_with fail
  refine (same_lists _ _ _ _ _ _ _ _ _ hB2' hB3 (by omega) (by omega) rfl).mono ?_
  rintro e w4 ⟨rfl, q, rfl⟩
  go_wp2
  go_ret
  exact ⟨rfl, below_drewN H3.out _⟩

set_option maxHeartbeats 400000 in
theorem pnumFull_walk (a0 : Int) (A1 : Option Addr) (n1 c1 : Nat) (l1 : List Int) (w : World) (_w0 : (Lit.int .i64 a0).wf = true) (w1 : Ints .u8 w A1 n1 l1) (x1 : n1 ≤ maxLen) :
    Calls Try.prog 4 #[.int .i64 a0, .slice A1 n1 c1] w fun e w' => e = .returned (.bool true) ∧ Below w.heap.size w w' := by
  clear _w0
  unfold maxLen at x1
  have hB := w1.bytes
  clear w1
  by_cases hn : 20 < n1
  all_goals
    go_enter Try.func4, Try.ntmps4
    go_wp2_with fail
    refine (alive_true _).mono ?_
    rintro e w1 ⟨rfl, hb1⟩
    have hB1 := hB.below hb1
    have H1 := Lib.hid hb1
    clear hb1
  · go_wp2
    go_ret
    exact ⟨rfl, H1.out⟩
  · have hn' : ¬ (20 : Int) < (n1 : Int) := by omega
    go_wp2_with fail
    refine (full_any _ _ _ _ l1 _ hB1 (by omega)).mono ?_
    rintro e w2 ⟨rfl, rfl⟩
    go_wp2_with fail
    refine (ref_full_any _ _ _ _ l1 _ hB1 (by omega)).mono ?_
    rintro e w2 ⟨rfl, rfl⟩
    go_wp2
    go_ret
    exact ⟨rfl, H1.out⟩

set_option maxHeartbeats 400000 in
theorem pnumBack_1 (a0 a1 a2 : Int) (w : World) (h : Pn.length a0 a1 = 1) (hd : a0 - a1 ≤ 1073741824) (m0 : 0 ≤ a2) (m1 : a2 ≤ 4294967295) :
    Calls Try.prog 5 #[.int .i64 a0, .int .i64 a1, .int .u32 a2] w fun e w' => e = .returned (.bool true) ∧ Below w.heap.size w w' := by
  obtain ⟨hn, g1, g2⟩ := Pn.length_ne a0 a1 (by omega)
  have hn' := hn
  unfold Pn.okN at hn'
  obtain ⟨g3, g4⟩ := hn'
  obtain ⟨m, hm⟩ : ∃ m, a2 % (a0 - a1 + 128 - 1) = m := ⟨_, rfl⟩
  have b0 : 0 ≤ m := by rw [← hm]; exact Int.emod_nonneg _ (by omega)
  have b1 : m < a0 - a1 + 128 - 1 := by rw [← hm]; exact Int.emod_lt_of_pos _ (by omega)
  have HL := Lib.hid h
  have HC := Lib.hid (show cutL a0 1 = Pn.cut a0 1 from cutL_good a0 1 hn (by decide))
  have HB := Lib.hid (fun h3 => Pn.back a0 a1 (a1 + m) 1 h (by decide) hd (by omega) (by simp; omega) h3)
  clear h hn
  by_cases hbig : 4611686018427387903 < a1 + m
  all_goals
    go_enter Try.func5, Try.ntmps5
    go_wp2_with fail
    refine (alive_true _).mono ?_
    rintro e w1 ⟨rfl, hb1⟩
    have H1 := Lib.hid hb1
    clear hb1
    go_wp2_with fail
    refine (length_any _ _ _).mono ?_
    rintro e w2 ⟨rfl, rfl⟩
    rw [HL.out]
    go_wp2_with fail
  · go_ret
    exact ⟨rfl, H1.out⟩
  · have HB' := Lib.hid (HB.out (by omega))
    refine (cut_any _ _ _).mono ?_
    rintro e w2 ⟨A, m, rfl, hb2, hB2, hm2⟩
    have H2 := Lib.hid (H1.out.trans (hb2.mono H1.out.size))
    rw [HC.out] at hB2
    clear hb2
    go_wp2_with fail
    refine (full_any _ _ _ _ _ _ hB2 (by omega)).mono ?_
    rintro e w3 ⟨rfl, rfl⟩
    rw [HB'.out]
    go_wp2
    go_ret
    exact ⟨by simp, H2.out⟩

set_option maxHeartbeats 400000 in
theorem pnumBack_2 (a0 a1 a2 : Int) (w : World) (h : Pn.length a0 a1 = 2) (hd : a0 - a1 ≤ 1073741824) (m0 : 0 ≤ a2) (m1 : a2 ≤ 4294967295) :
    Calls Try.prog 5 #[.int .i64 a0, .int .i64 a1, .int .u32 a2] w fun e w' => e = .returned (.bool true) ∧ Below w.heap.size w w' := by
  obtain ⟨hn, g1, g2⟩ := Pn.length_ne a0 a1 (by omega)
  have hn' := hn
  unfold Pn.okN at hn'
  obtain ⟨g3, g4⟩ := hn'
  obtain ⟨m, hm⟩ : ∃ m, a2 % (a0 - a1 + 32768 - 1) = m := ⟨_, rfl⟩
  have b0 : 0 ≤ m := by rw [← hm]; exact Int.emod_nonneg _ (by omega)
  have b1 : m < a0 - a1 + 32768 - 1 := by rw [← hm]; exact Int.emod_lt_of_pos _ (by omega)
  have HL := Lib.hid h
  have HC := Lib.hid (show cutL a0 2 = Pn.cut a0 2 from cutL_good a0 2 hn (by decide))
  have HB := Lib.hid (fun h3 => Pn.back a0 a1 (a1 + m) 2 h (by decide) hd (by omega) (by simp; omega) h3)
  clear h hn
  by_cases hbig : 4611686018427387903 < a1 + m
  all_goals
    go_enter Try.func5, Try.ntmps5
    go_wp2_with fail
    refine (alive_true _).mono ?_
    rintro e w1 ⟨rfl, hb1⟩
    have H1 := Lib.hid hb1
    clear hb1
    go_wp2_with fail
    refine (length_any _ _ _).mono ?_
    rintro e w2 ⟨rfl, rfl⟩
    rw [HL.out]
    go_wp2_with fail
  · go_ret
    exact ⟨rfl, H1.out⟩
  · have HB' := Lib.hid (HB.out (by omega))
    refine (cut_any _ _ _).mono ?_
    rintro e w2 ⟨A, m, rfl, hb2, hB2, hm2⟩
    have H2 := Lib.hid (H1.out.trans (hb2.mono H1.out.size))
    rw [HC.out] at hB2
    clear hb2
    go_wp2_with fail
    refine (full_any _ _ _ _ _ _ hB2 (by omega)).mono ?_
    rintro e w3 ⟨rfl, rfl⟩
    rw [HB'.out]
    go_wp2
    go_ret
    exact ⟨by simp, H2.out⟩

set_option maxHeartbeats 400000 in
theorem pnumBack_3 (a0 a1 a2 : Int) (w : World) (h : Pn.length a0 a1 = 3) (hd : a0 - a1 ≤ 1073741824) (m0 : 0 ≤ a2) (m1 : a2 ≤ 4294967295) :
    Calls Try.prog 5 #[.int .i64 a0, .int .i64 a1, .int .u32 a2] w fun e w' => e = .returned (.bool true) ∧ Below w.heap.size w w' := by
  obtain ⟨hn, g1, g2⟩ := Pn.length_ne a0 a1 (by omega)
  have hn' := hn
  unfold Pn.okN at hn'
  obtain ⟨g3, g4⟩ := hn'
  obtain ⟨m, hm⟩ : ∃ m, a2 % (a0 - a1 + 8388608 - 1) = m := ⟨_, rfl⟩
  have b0 : 0 ≤ m := by rw [← hm]; exact Int.emod_nonneg _ (by omega)
  have b1 : m < a0 - a1 + 8388608 - 1 := by rw [← hm]; exact Int.emod_lt_of_pos _ (by omega)
  have HL := Lib.hid h
  have HC := Lib.hid (show cutL a0 3 = Pn.cut a0 3 from cutL_good a0 3 hn (by decide))
  have HB := Lib.hid (fun h3 => Pn.back a0 a1 (a1 + m) 3 h (by decide) hd (by omega) (by simp; omega) h3)
  clear h hn
  by_cases hbig : 4611686018427387903 < a1 + m
  all_goals
    go_enter Try.func5, Try.ntmps5
    go_wp2_with fail
    refine (alive_true _).mono ?_
    rintro e w1 ⟨rfl, hb1⟩
    have H1 := Lib.hid hb1
    clear hb1
    go_wp2_with fail
    refine (length_any _ _ _).mono ?_
    rintro e w2 ⟨rfl, rfl⟩
    rw [HL.out]
    go_wp2_with fail
  · go_ret
    exact ⟨rfl, H1.out⟩
  · have HB' := Lib.hid (HB.out (by omega))
    refine (cut_any _ _ _).mono ?_
    rintro e w2 ⟨A, m, rfl, hb2, hB2, hm2⟩
    have H2 := Lib.hid (H1.out.trans (hb2.mono H1.out.size))
    rw [HC.out] at hB2
    clear hb2
    go_wp2_with fail
    refine (full_any _ _ _ _ _ _ hB2 (by omega)).mono ?_
    rintro e w3 ⟨rfl, rfl⟩
    rw [HB'.out]
    go_wp2
    go_ret
    exact ⟨by simp, H2.out⟩

set_option maxHeartbeats 400000 in
theorem pnumBack_4 (a0 a1 a2 : Int) (w : World) (h : Pn.length a0 a1 = 4) (hd : a0 - a1 ≤ 1073741824) (m0 : 0 ≤ a2) (m1 : a2 ≤ 4294967295) :
    Calls Try.prog 5 #[.int .i64 a0, .int .i64 a1, .int .u32 a2] w fun e w' => e = .returned (.bool true) ∧ Below w.heap.size w w' := by
  obtain ⟨hn, g1, g2⟩ := Pn.length_ne a0 a1 (by omega)
  have hn' := hn
  unfold Pn.okN at hn'
  obtain ⟨g3, g4⟩ := hn'
  obtain ⟨m, hm⟩ : ∃ m, a2 % (a0 - a1 + 2147483648 - 1) = m := ⟨_, rfl⟩
  have b0 : 0 ≤ m := by rw [← hm]; exact Int.emod_nonneg _ (by omega)
  have b1 : m < a0 - a1 + 2147483648 - 1 := by rw [← hm]; exact Int.emod_lt_of_pos _ (by omega)
  have HL := Lib.hid h
  have HC := Lib.hid (show cutL a0 4 = Pn.cut a0 4 from cutL_good a0 4 hn (by decide))
  have HB := Lib.hid (fun h3 => Pn.back a0 a1 (a1 + m) 4 h (by decide) hd (by omega) (by simp; omega) h3)
  clear h hn
  by_cases hbig : 4611686018427387903 < a1 + m
  all_goals
    go_enter Try.func5, Try.ntmps5
    go_wp2_with fail
    refine (alive_true _).mono ?_
    rintro e w1 ⟨rfl, hb1⟩
    have H1 := Lib.hid hb1
    clear hb1
    go_wp2_with fail
    refine (length_any _ _ _).mono ?_
    rintro e w2 ⟨rfl, rfl⟩
    rw [HL.out]
    go_wp2_with fail
  · go_ret
    exact ⟨rfl, H1.out⟩
  · have HB' := Lib.hid (HB.out (by omega))
    refine (cut_any _ _ _).mono ?_
    rintro e w2 ⟨A, m, rfl, hb2, hB2, hm2⟩
    have H2 := Lib.hid (H1.out.trans (hb2.mono H1.out.size))
    rw [HC.out] at hB2
    clear hb2
    go_wp2_with fail
    refine (full_any _ _ _ _ _ _ hB2 (by omega)).mono ?_
    rintro e w3 ⟨rfl, rfl⟩
    rw [HB'.out]
    go_wp2
    go_ret
    exact ⟨by simp, H2.out⟩

set_option maxHeartbeats 400000 in
theorem pnumBack_walk (a0 a1 a2 : Int) (w : World) (w0 : (Lit.int .i64 a0).wf = true) (w1 : (Lit.int .i64 a1).wf = true) (w2 : (Lit.int .u32 a2).wf = true) :
    Calls Try.prog 5 #[.int .i64 a0, .int .i64 a1, .int .u32 a2] w fun e w' => e = .returned (.bool true) ∧ Below w.heap.size w w' := by
  have b0 := bounds_i64 w0
  have b1 := bounds_i64 w1
  obtain ⟨m0, m1⟩ := bounds_u32 w2
  clear w0 w1 w2
  by_cases h0 : Pn.length a0 a1 = 0
  · have HL := Lib.hid h0
    clear h0 b0 b1
    go_enter Try.func5, Try.ntmps5
    go_wp2_with fail
    refine (alive_true _).mono ?_
    rintro e w1 ⟨rfl, hb1⟩
    have H1 := Lib.hid hb1
    clear hb1
    go_wp2_with fail
    refine (length_any _ _ _).mono ?_
    rintro e w2 ⟨rfl, rfl⟩
    rw [HL.out]
    go_wp2
    go_ret
    exact ⟨rfl, H1.out⟩
  · obtain ⟨hn, g1, g2⟩ := Pn.length_ne a0 a1 h0
    have hc := Pn.length_cases a0 a1 hn g1 g2
    by_cases hd : a0 - a1 ≤ 1073741824
    · rcases hc with ⟨h, _⟩ | ⟨h, _⟩ | ⟨h, _⟩ | ⟨h, _⟩
      · exact pnumBack_1 a0 a1 a2 w h hd m0 m1
      · exact pnumBack_2 a0 a1 a2 w h hd m0 m1
      · exact pnumBack_3 a0 a1 a2 w h hd m0 m1
      · exact pnumBack_4 a0 a1 a2 w h hd m0 m1
    · unfold Pn.okN at hn
      obtain ⟨g3, g4⟩ := hn
      have h4 : Pn.length a0 a1 = 4 := by omega
      have HL := Lib.hid h4
      have hd' : 1073741824 < a0 - a1 := by omega
      clear h0 hc b0 b1 h4 hd
      go_enter Try.func5, Try.ntmps5
      go_wp2_with fail
      refine (alive_true _).mono ?_
      rintro e w1 ⟨rfl, hb1⟩
      have H1 := Lib.hid hb1
      clear hb1
      go_wp2_with fail
      refine (length_any _ _ _).mono ?_
      rintro e w2 ⟨rfl, rfl⟩
      rw [HL.out]
      go_wp2
      go_ret
      exact ⟨rfl, H1.out⟩

set_option maxHeartbeats 400000 in
theorem pnumNear_1 (a0 : Int) (b off cap : Nat) (c0 : Int) (w : World) (hl0 : -1 ≤ a0) (hl1 : a0 ≤ 4611686018427387903) (u0 : 0 ≤ c0) (v0 : c0 ≤ 255) (hB : Bytes w (some ⟨b, off, none⟩) 1 [c0]) :
    Calls Try.prog 6 #[.int .i64 a0, .slice (some ⟨b, off, none⟩) 1 cap] w fun e w' => e = .returned (.bool true) ∧ Below w.heap.size w w' := by
  obtain ⟨N, hN⟩ : ∃ N, Pn.full a0 [c0] = N := ⟨_, rfl⟩
  have hf : N = Pn.cand (a0 + 1) 256 c0 := by
    rw [← hN, full_eq _ _ 1 rfl (by decide) (by decide) hl0 hl1]; simp [Pn.win, Pn.low]
  obtain ⟨p0, p1, p2, p3⟩ := Pn.cand_near (a0 + 1) 256 c0 (by simp) (by omega) (by omega)
  obtain ⟨_, p4⟩ := Pn.cand_bound (a0 + 1) 256 c0 (by simp) (by omega) (by omega)
  rw [← hf] at p0 p1 p2 p3 p4
  have HN := Lib.hid hN
  have p1' := Lib.hid p1
  clear hN hf p1
  go_enter Try.func6, Try.ntmps6
  go_wp2_with fail
  refine (alive_true _).mono ?_
  rintro e w1 ⟨rfl, hb1⟩
  have H1 := Lib.hid hb1
  clear hb1
  have hB1 := hB.below H1.out
  clear hB
  obtain ⟨_, _, hc⟩ := hB1
  obtain ⟨b', off', he, hlt, hc⟩ := hc (by decide)
  injection he with he
  injection he with e1 e2 _
  subst e1 e2
  have g0 : w1.cell? ⟨b, off, none⟩ = some (.int .u8 c0) := hc 0 (by decide)
  have hB1 : Bytes w1 (some ⟨b, off, none⟩) 1 [c0] := ⟨rfl, by intro c hc; simp at hc; unfold isByte; omega, fun _ => ⟨b, off, rfl, hlt, hc⟩⟩
  clear hc
  go_wp2_with fail
  refine (full_any _ _ _ _ _ _ hB1 (by omega)).mono ?_
  rintro e w2 ⟨rfl, rfl⟩
  rw [HN.out]
  clear hB1
  go_wp2
  refine wp_loop_rounds 2 ?_; repeat any_goals (rw [rounds_succ]; go_wp2)
  have p1 := p1'.out
  go_wp2
  go_ret
  exact ⟨by simp; omega, H1.out⟩

set_option maxHeartbeats 400000 in
theorem pnumNear_2 (a0 : Int) (b off cap : Nat) (c0 c1 : Int) (w : World) (hl0 : -1 ≤ a0) (hl1 : a0 ≤ 4611686018427387903) (u0 : 0 ≤ c0) (v0 : c0 ≤ 255) (u1 : 0 ≤ c1) (v1 : c1 ≤ 255) (hB : Bytes w (some ⟨b, off, none⟩) 2 [c0, c1]) :
    Calls Try.prog 6 #[.int .i64 a0, .slice (some ⟨b, off, none⟩) 2 cap] w fun e w' => e = .returned (.bool true) ∧ Below w.heap.size w w' := by
  obtain ⟨N, hN⟩ : ∃ N, Pn.full a0 [c0, c1] = N := ⟨_, rfl⟩
  have hf : N = Pn.cand (a0 + 1) 65536 (c0 * 256 + c1) := by
    rw [← hN, full_eq _ _ 2 rfl (by decide) (by decide) hl0 hl1]; simp [Pn.win, Pn.low]
  obtain ⟨p0, p1, p2, p3⟩ := Pn.cand_near (a0 + 1) 65536 (c0 * 256 + c1) (by simp) (by omega) (by omega)
  obtain ⟨_, p4⟩ := Pn.cand_bound (a0 + 1) 65536 (c0 * 256 + c1) (by simp) (by omega) (by omega)
  rw [← hf] at p0 p1 p2 p3 p4
  have HN := Lib.hid hN
  have p1' := Lib.hid p1
  clear hN hf p1
  go_enter Try.func6, Try.ntmps6
  go_wp2_with fail
  refine (alive_true _).mono ?_
  rintro e w1 ⟨rfl, hb1⟩
  have H1 := Lib.hid hb1
  clear hb1
  have hB1 := hB.below H1.out
  clear hB
  obtain ⟨_, _, hc⟩ := hB1
  obtain ⟨b', off', he, hlt, hc⟩ := hc (by decide)
  injection he with he
  injection he with e1 e2 _
  subst e1 e2
  have g0 : w1.cell? ⟨b, off, none⟩ = some (.int .u8 c0) := hc 0 (by decide)
  have g1 : w1.cell? ⟨b, off + 1, none⟩ = some (.int .u8 c1) := hc 1 (by decide)
  have hB1 : Bytes w1 (some ⟨b, off, none⟩) 2 [c0, c1] := ⟨rfl, by intro c hc; simp at hc; unfold isByte; omega, fun _ => ⟨b, off, rfl, hlt, hc⟩⟩
  clear hc
  go_wp2_with fail
  refine (full_any _ _ _ _ _ _ hB1 (by omega)).mono ?_
  rintro e w2 ⟨rfl, rfl⟩
  rw [HN.out]
  clear hB1
  go_wp2
  refine wp_loop_rounds 3 ?_; repeat any_goals (rw [rounds_succ]; go_wp2)
  have p1 := p1'.out
  go_wp2
  go_ret
  exact ⟨by simp; omega, H1.out⟩

set_option maxHeartbeats 400000 in
theorem pnumNear_3 (a0 : Int) (b off cap : Nat) (c0 c1 c2 : Int) (w : World) (hl0 : -1 ≤ a0) (hl1 : a0 ≤ 4611686018427387903) (u0 : 0 ≤ c0) (v0 : c0 ≤ 255) (u1 : 0 ≤ c1) (v1 : c1 ≤ 255) (u2 : 0 ≤ c2) (v2 : c2 ≤ 255) (hB : Bytes w (some ⟨b, off, none⟩) 3 [c0, c1, c2]) :
    Calls Try.prog 6 #[.int .i64 a0, .slice (some ⟨b, off, none⟩) 3 cap] w fun e w' => e = .returned (.bool true) ∧ Below w.heap.size w w' := by
  obtain ⟨N, hN⟩ : ∃ N, Pn.full a0 [c0, c1, c2] = N := ⟨_, rfl⟩
  have hf : N = Pn.cand (a0 + 1) 16777216 ((c0 * 256 + c1) * 256 + c2) := by
    rw [← hN, full_eq _ _ 3 rfl (by decide) (by decide) hl0 hl1]; simp [Pn.win, Pn.low]
  obtain ⟨p0, p1, p2, p3⟩ := Pn.cand_near (a0 + 1) 16777216 ((c0 * 256 + c1) * 256 + c2) (by simp) (by omega) (by omega)
  obtain ⟨_, p4⟩ := Pn.cand_bound (a0 + 1) 16777216 ((c0 * 256 + c1) * 256 + c2) (by simp) (by omega) (by omega)
  rw [← hf] at p0 p1 p2 p3 p4
  have HN := Lib.hid hN
  have p1' := Lib.hid p1
  clear hN hf p1
  go_enter Try.func6, Try.ntmps6
  go_wp2_with fail
  refine (alive_true _).mono ?_
  rintro e w1 ⟨rfl, hb1⟩
  have H1 := Lib.hid hb1
  clear hb1
  have hB1 := hB.below H1.out
  clear hB
  obtain ⟨_, _, hc⟩ := hB1
  obtain ⟨b', off', he, hlt, hc⟩ := hc (by decide)
  injection he with he
  injection he with e1 e2 _
  subst e1 e2
  have g0 : w1.cell? ⟨b, off, none⟩ = some (.int .u8 c0) := hc 0 (by decide)
  have g1 : w1.cell? ⟨b, off + 1, none⟩ = some (.int .u8 c1) := hc 1 (by decide)
  have g2 : w1.cell? ⟨b, off + 2, none⟩ = some (.int .u8 c2) := hc 2 (by decide)
  have hB1 : Bytes w1 (some ⟨b, off, none⟩) 3 [c0, c1, c2] := ⟨rfl, by intro c hc; simp at hc; unfold isByte; omega, fun _ => ⟨b, off, rfl, hlt, hc⟩⟩
  clear hc
  go_wp2_with fail
  refine (full_any _ _ _ _ _ _ hB1 (by omega)).mono ?_
  rintro e w2 ⟨rfl, rfl⟩
  rw [HN.out]
  clear hB1
  go_wp2
  refine wp_loop_rounds 4 ?_; repeat any_goals (rw [rounds_succ]; go_wp2)
  have p1 := p1'.out
  go_wp2
  go_ret
  exact ⟨by simp; omega, H1.out⟩

set_option maxHeartbeats 400000 in
theorem pnumNear_4 (a0 : Int) (b off cap : Nat) (c0 c1 c2 c3 : Int) (w : World) (hl0 : -1 ≤ a0) (hl1 : a0 ≤ 4611686018427387903) (u0 : 0 ≤ c0) (v0 : c0 ≤ 255) (u1 : 0 ≤ c1) (v1 : c1 ≤ 255) (u2 : 0 ≤ c2) (v2 : c2 ≤ 255) (u3 : 0 ≤ c3) (v3 : c3 ≤ 255) (hB : Bytes w (some ⟨b, off, none⟩) 4 [c0, c1, c2, c3]) :
    Calls Try.prog 6 #[.int .i64 a0, .slice (some ⟨b, off, none⟩) 4 cap] w fun e w' => e = .returned (.bool true) ∧ Below w.heap.size w w' := by
  obtain ⟨N, hN⟩ : ∃ N, Pn.full a0 [c0, c1, c2, c3] = N := ⟨_, rfl⟩
  have hf : N = Pn.cand (a0 + 1) 4294967296 (((c0 * 256 + c1) * 256 + c2) * 256 + c3) := by
    rw [← hN, full_eq _ _ 4 rfl (by decide) (by decide) hl0 hl1]; simp [Pn.win, Pn.low]
  obtain ⟨p0, p1, p2, p3⟩ := Pn.cand_near (a0 + 1) 4294967296 (((c0 * 256 + c1) * 256 + c2) * 256 + c3) (by simp) (by omega) (by omega)
  obtain ⟨_, p4⟩ := Pn.cand_bound (a0 + 1) 4294967296 (((c0 * 256 + c1) * 256 + c2) * 256 + c3) (by simp) (by omega) (by omega)
  rw [← hf] at p0 p1 p2 p3 p4
  have HN := Lib.hid hN
  have p1' := Lib.hid p1
  clear hN hf p1
  go_enter Try.func6, Try.ntmps6
  go_wp2_with fail
  refine (alive_true _).mono ?_
  rintro e w1 ⟨rfl, hb1⟩
  have H1 := Lib.hid hb1
  clear hb1
  have hB1 := hB.below H1.out
  clear hB
  obtain ⟨_, _, hc⟩ := hB1
  obtain ⟨b', off', he, hlt, hc⟩ := hc (by decide)
  injection he with he
  injection he with e1 e2 _
  subst e1 e2
  have g0 : w1.cell? ⟨b, off, none⟩ = some (.int .u8 c0) := hc 0 (by decide)
  have g1 : w1.cell? ⟨b, off + 1, none⟩ = some (.int .u8 c1) := hc 1 (by decide)
  have g2 : w1.cell? ⟨b, off + 2, none⟩ = some (.int .u8 c2) := hc 2 (by decide)
  have g3 : w1.cell? ⟨b, off + 3, none⟩ = some (.int .u8 c3) := hc 3 (by decide)
  have hB1 : Bytes w1 (some ⟨b, off, none⟩) 4 [c0, c1, c2, c3] := ⟨rfl, by intro c hc; simp at hc; unfold isByte; omega, fun _ => ⟨b, off, rfl, hlt, hc⟩⟩
  clear hc
  go_wp2_with fail
  refine (full_any _ _ _ _ _ _ hB1 (by omega)).mono ?_
  rintro e w2 ⟨rfl, rfl⟩
  rw [HN.out]
  clear hB1
  go_wp2
  refine wp_loop_rounds 5 ?_; repeat any_goals (rw [rounds_succ]; go_wp2)
  have p1 := p1'.out
  go_wp2
  go_ret
  exact ⟨by simp; omega, H1.out⟩

set_option maxHeartbeats 400000 in
theorem pnumNear_bad (a0 : Int) (A : Option Addr) (n c : Nat) (l : List Int) (w : World) (hB : Bytes w A n l) (hn : n ≤ 9223372036854775807) (h : ¬ (1 ≤ n ∧ n ≤ 4 ∧ -1 ≤ a0 ∧ a0 ≤ 4611686018427387903)) :
    Calls Try.prog 6 #[.int .i64 a0, .slice A n c] w fun e w' => e = .returned (.bool true) ∧ Below w.heap.size w w' := by
  have HN := Lib.hid (full_bad_eq a0 l (by rw [hB.1]; exact h))
  have hw : (n : Int) < 1 ∨ 4 < (n : Int) ∨ (1 ≤ (n : Int) ∧ (n : Int) ≤ 4 ∧ a0 < -1) ∨ (1 ≤ (n : Int) ∧ (n : Int) ≤ 4 ∧ 4611686018427387903 < a0) := by omega
  clear h
  rcases hw with h1 | h1 | ⟨h1, h2, h3⟩ | ⟨h1, h2, h3⟩
  all_goals
    go_enter Try.func6, Try.ntmps6
    go_wp2_with fail
    refine (alive_true _).mono ?_
    rintro e w1 ⟨rfl, hb1⟩
    have H1 := Lib.hid hb1
    clear hb1
    go_wp2_with fail
    refine (full_any _ _ _ _ _ _ (hB.below H1.out) (by omega)).mono ?_
    rintro e w2 ⟨rfl, rfl⟩
    rw [HN.out]
    go_wp2
    go_ret
    exact ⟨by first | rfl | (simp [*]; done) | (simp; omega), H1.out⟩

theorem pnumNear_walk (a0 : Int) (A1 : Option Addr) (n1 cp : Nat) (l1 : List Int) (w : World) (_w0 : (Lit.int .i64 a0).wf = true) (w1 : Ints .u8 w A1 n1 l1) (x1 : n1 ≤ maxLen) :
    Calls Try.prog 6 #[.int .i64 a0, .slice A1 n1 cp] w fun e w' => e = .returned (.bool true) ∧ Below w.heap.size w w' := by
  unfold maxLen at x1
  have hB := w1.bytes
  by_cases h : 1 ≤ n1 ∧ n1 ≤ 4 ∧ -1 ≤ a0 ∧ a0 ≤ 4611686018427387903
  · obtain ⟨h1, h4, hl0, hl1⟩ := h
    obtain ⟨e1, e2, e3⟩ := hB
    obtain ⟨b, off, rfl, hlt, hc⟩ := e3 (by omega)
    obtain rfl | rfl | rfl | rfl : n1 = 1 ∨ n1 = 2 ∨ n1 = 3 ∨ n1 = 4 := by omega
    · match l1, e1 with
      | [c0], e1 =>
        have k0 := e2 c0 (by simp)
        exact pnumNear_1 a0 b off cp c0 w hl0 hl1 k0.1 k0.2 ⟨e1, e2, fun _ => ⟨b, off, rfl, hlt, hc⟩⟩
    · match l1, e1 with
      | [c0, c1], e1 =>
        have k0 := e2 c0 (by simp)
        have k1 := e2 c1 (by simp)
        exact pnumNear_2 a0 b off cp c0 c1 w hl0 hl1 k0.1 k0.2 k1.1 k1.2 ⟨e1, e2, fun _ => ⟨b, off, rfl, hlt, hc⟩⟩
    · match l1, e1 with
      | [c0, c1, c2], e1 =>
        have k0 := e2 c0 (by simp)
        have k1 := e2 c1 (by simp)
        have k2 := e2 c2 (by simp)
        exact pnumNear_3 a0 b off cp c0 c1 c2 w hl0 hl1 k0.1 k0.2 k1.1 k1.2 k2.1 k2.2 ⟨e1, e2, fun _ => ⟨b, off, rfl, hlt, hc⟩⟩
    · match l1, e1 with
      | [c0, c1, c2, c3], e1 =>
        have k0 := e2 c0 (by simp)
        have k1 := e2 c1 (by simp)
        have k2 := e2 c2 (by simp)
        have k3 := e2 c3 (by simp)
        exact pnumNear_4 a0 b off cp c0 c1 c2 c3 w hl0 hl1 k0.1 k0.2 k1.1 k1.2 k2.1 k2.2 k3.1 k3.2 ⟨e1, e2, fun _ => ⟨b, off, rfl, hlt, hc⟩⟩
  · exact pnumNear_bad a0 A1 n1 cp l1 w hB (by omega) h

/-- P2.3, near numbers. -/
theorem next_len (acked k : Int) (ha : -1 ≤ acked) (hb : acked ≤ 4611686018427387504) (hk0 : 0 ≤ k) (hk : k ≤ 255) :
    Pn.length (acked + k) acked = if k = 0 then 0 else if 127 < k then 2 else 1 := by
  by_cases h0 : k = 0
  · rw [if_pos h0]; exact Pn.length_bad _ _ (by unfold Pn.okN; omega)
  · rw [if_neg h0]
    have := Pn.length_cases (acked + k) acked (by unfold Pn.okN; omega) ha (by omega)
    split <;> omega

set_option maxHeartbeats 400000 in
theorem pnumNext_1 (a0 a1 : Int) (w : World) (ha : -1 ≤ a0) (hb : a0 ≤ 4611686018427387504) (h1 : 1 ≤ a1) (h2 : a1 ≤ 127) :
    Calls Try.prog 7 #[.int .i64 a0, .int .u8 a1] w fun e w' => e = .returned (.bool true) ∧ Below w.heap.size w w' := by
  have hL := next_len a0 a1 ha hb (by omega) (by omega)
  rw [if_neg (by omega)] at hL
  rw [if_neg (by omega)] at hL
  have hn : Pn.okN (a0 + a1) := by unfold Pn.okN; omega
  have HL := Lib.hid hL
  have HC := Lib.hid (show cutL (a0 + a1) 1 = Pn.cut (a0 + a1) 1 from cutL_good (a0 + a1) 1 hn (by decide))
  have HB := Lib.hid (Pn.back (a0 + a1) a0 a0 1 hL (by decide) (by omega) (by omega) (by simp; omega) (by omega))
  clear hL hn
  go_enter Try.func7, Try.ntmps7
  go_wp2_with fail
  refine (alive_true _).mono ?_
  rintro e w1 ⟨rfl, hb1⟩
  have H1 := Lib.hid hb1
  clear hb1
  go_wp2_with fail
  refine (length_any _ _ _).mono ?_
  rintro e w2 ⟨rfl, rfl⟩
  rw [HL.out]
  go_wp2_with fail
  refine (cut_any _ _ _).mono ?_
  rintro e w2 ⟨A, m, rfl, hb2, hB2, hm2⟩
  have H2 := Lib.hid (H1.out.trans (hb2.mono H1.out.size))
  rw [HC.out] at hB2
  clear hb2
  go_wp2_with fail
  refine (full_any _ _ _ _ _ _ hB2 (by omega)).mono ?_
  rintro e w3 ⟨rfl, rfl⟩
  rw [HB.out]
  go_wp2
  go_ret
  exact ⟨by simp, H2.out⟩

set_option maxHeartbeats 400000 in
theorem pnumNext_2 (a0 a1 : Int) (w : World) (ha : -1 ≤ a0) (hb : a0 ≤ 4611686018427387504) (h1 : 128 ≤ a1) (h2 : a1 ≤ 255) :
    Calls Try.prog 7 #[.int .i64 a0, .int .u8 a1] w fun e w' => e = .returned (.bool true) ∧ Below w.heap.size w w' := by
  have hL := next_len a0 a1 ha hb (by omega) (by omega)
  rw [if_neg (by omega)] at hL
  rw [if_pos (by omega)] at hL
  have hn : Pn.okN (a0 + a1) := by unfold Pn.okN; omega
  have HL := Lib.hid hL
  have HC := Lib.hid (show cutL (a0 + a1) 2 = Pn.cut (a0 + a1) 2 from cutL_good (a0 + a1) 2 hn (by decide))
  have HB := Lib.hid (Pn.back (a0 + a1) a0 a0 2 hL (by decide) (by omega) (by omega) (by simp; omega) (by omega))
  clear hL hn
  go_enter Try.func7, Try.ntmps7
  go_wp2_with fail
  refine (alive_true _).mono ?_
  rintro e w1 ⟨rfl, hb1⟩
  have H1 := Lib.hid hb1
  clear hb1
  go_wp2_with fail
  refine (length_any _ _ _).mono ?_
  rintro e w2 ⟨rfl, rfl⟩
  rw [HL.out]
  go_wp2_with fail
  refine (cut_any _ _ _).mono ?_
  rintro e w2 ⟨A, m, rfl, hb2, hB2, hm2⟩
  have H2 := Lib.hid (H1.out.trans (hb2.mono H1.out.size))
  rw [HC.out] at hB2
  clear hb2
  go_wp2_with fail
  refine (full_any _ _ _ _ _ _ hB2 (by omega)).mono ?_
  rintro e w3 ⟨rfl, rfl⟩
  rw [HB.out]
  go_wp2
  go_ret
  exact ⟨by simp, H2.out⟩

set_option maxHeartbeats 400000 in
theorem pnumNext_walk (a0 a1 : Int) (w : World) (w0 : (Lit.int .i64 a0).wf = true) (w1 : (Lit.int .u8 a1).wf = true) :
    Calls Try.prog 7 #[.int .i64 a0, .int .u8 a1] w fun e w' => e = .returned (.bool true) ∧ Below w.heap.size w w' := by
  obtain ⟨b0, b1⟩ := bounds_i64 w0
  obtain ⟨m0, m1⟩ := bounds_u8 w1
  clear w0 w1
  by_cases ha : a0 < -1
  · go_enter Try.func7, Try.ntmps7
    go_wp2_with fail
    refine (alive_true _).mono ?_
    rintro e w1 ⟨rfl, hb1⟩
    have H1 := Lib.hid hb1
    clear hb1
    go_wp2
    go_ret
    exact ⟨rfl, H1.out⟩
  have g1 : decide (a0 < -1) = false := by simp; omega
  by_cases hb : 4611686018427387504 < a0
  · clear ha
    go_enter Try.func7, Try.ntmps7
    go_wp2_with fail
    refine (alive_true _).mono ?_
    rintro e w1 ⟨rfl, hb1⟩
    have H1 := Lib.hid hb1
    clear hb1
    go_wp2
    go_ret
    exact ⟨rfl, H1.out⟩
  by_cases h0 : a1 = 0
  · subst h0
    have hL := next_len a0 0 (by omega) (by omega) (by omega) (by omega)
    rw [if_pos rfl] at hL
    simp only [Int.add_zero] at hL
    have HL := Lib.hid hL
    have g2 : decide (4611686018427387504 < a0) = false := by simp; omega
    have ha' : -1 ≤ a0 := by omega
    have hb' : a0 ≤ 4611686018427387504 := by omega
    clear hL ha hb
    go_enter Try.func7, Try.ntmps7
    go_wp2_with fail
    refine (alive_true _).mono ?_
    rintro e w1 ⟨rfl, hb1⟩
    have H1 := Lib.hid hb1
    clear hb1
    go_wp2_with fail
    refine (length_any _ _ _).mono ?_
    rintro e w2 ⟨rfl, rfl⟩
    rw [HL.out]
    go_wp2
    go_ret
    exact ⟨by simp, H1.out⟩
  · by_cases h127 : a1 ≤ 127
    · exact pnumNext_1 a0 a1 w (by omega) (by omega) (by omega) h127
    · exact pnumNext_2 a0 a1 w (by omega) (by omega) (by omega) m1

end Go.Proofs.Ytfigedhfoljloaa
