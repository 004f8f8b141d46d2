/- The walks of layer 2's functions: what each returns, for every argument and every world. -/
import Derived.Test.YtfigedhfoljloaaRows
import Derived.Test.YtfigedhfoljloaaShelf
import Derived.Test.YtfigedhfoljloaaPlainPn
import Derived.Test.YtfigedhfoljloaaAid
import Derived.WalkKit
import Derived.WalkSpells
import Derived.WalkLawsBesides
import Derived.Deep.QuietTactic
import Derived.BigQuiet
import Derived.Handy
import Derived.Lib.Hide
namespace Go.Proofs.Ytfigedhfoljloaa
open Go.RowKit
set_option linter.unusedVariables false

theorem within64_in (n lo hi : Int) (w : World) (h0 : lo ≤ n) (h1 : n ≤ hi) :
    Calls Try.prog 16 #[.int .i64 n, .int .i64 lo, .int .i64 hi] w fun e w' => e = .returned (.bool true) ∧ w = w' := by
  go_enter Try.func16, Try.ntmps16
  go_wp2
  go_ret
  exact ⟨rfl, rfl⟩

theorem within64_out (n lo hi : Int) (w : World) (h : ¬ (lo ≤ n ∧ n ≤ hi)) :
    Calls Try.prog 16 #[.int .i64 n, .int .i64 lo, .int .i64 hi] w fun e w' => e = .returned (.bool false) ∧ w = w' := by
  by_cases h0 : lo ≤ n
  · have h1 : hi < n := by omega
    clear h
    go_enter Try.func16, Try.ntmps16
    go_wp2
    go_ret
    exact ⟨by simp [*], rfl⟩
  · have h1 : n < lo := by omega
    clear h h0
    go_enter Try.func16, Try.ntmps16
    go_wp2
    go_ret
    exact ⟨by simp [*], rfl⟩

theorem within_in (n lo hi : Int) (w : World) (h0 : lo ≤ n) (h1 : n ≤ hi) :
    Calls Try.prog 18 #[.int .i64 n, .int .i64 lo, .int .i64 hi] w fun e w' => e = .returned (.bool true) ∧ w = w' := by
  go_enter Try.func18, Try.ntmps18
  go_wp2
  go_ret
  exact ⟨rfl, rfl⟩

theorem within_out (n lo hi : Int) (w : World) (h : ¬ (lo ≤ n ∧ n ≤ hi)) :
    Calls Try.prog 18 #[.int .i64 n, .int .i64 lo, .int .i64 hi] w fun e w' => e = .returned (.bool false) ∧ w = w' := by
  by_cases h0 : lo ≤ n
  · have h1 : hi < n := by omega
    clear h
    go_enter Try.func18, Try.ntmps18
    go_wp2
    go_ret
    exact ⟨by simp [*], rfl⟩
  · have h1 : n < lo := by omega
    clear h h0
    go_enter Try.func18, Try.ntmps18
    go_wp2
    go_ret
    exact ⟨by simp [*], rfl⟩

theorem len64 (x : Int) (w : World) (h0 : 0 ≤ x) (h1 : x ≤ 18446744073709551615) :
    Calls Try.prog 17 #[.int .u64 x] w fun e w' => e = .returned (.int .i64 (Lib.bitLen x.toNat)) ∧ w = w' :=
  (Try.bits_Len64 x w h0 h1).mono fun _ _ ⟨he, hw⟩ => ⟨he, hw.symm⟩

set_option maxHeartbeats 400000 in
theorem length_good (n acked : Int) (w : World) (h : Pn.okN n) (ha : -1 ≤ acked) (hl : acked < n) :
    Calls Try.prog 9 #[.int .i64 n, .int .i64 acked] w fun e w' => e = .returned (.int .i64 (Pn.length n acked)) ∧ w = w' := by
  have HF := Lib.hid (show Pn.length n acked = _ from by unfold Pn.length; rw [if_pos ⟨h, ha, hl⟩])
  unfold Pn.okN at h
  obtain ⟨h0, h1⟩ := h
  have hx : (n - acked).toNat < 2 ^ 64 := by omega
  have hb := (Pn.bitLen_lt 64 (n - acked).toNat hx).1 (by omega)
  have g1 : decide (acked < -1) = false := by simp; omega
  have g2 : decide (n ≤ acked) = false := by simp; omega
  clear hx
  go_enter Try.func9, Try.ntmps9
  go_wp2_with (first | (go_at_call 16; refine (within64_in _ _ _ _ (by omega) (by omega)).mono ?_; rintro e w' ⟨rfl, rfl⟩) | (go_at_call 17; refine (len64 _ _ (by omega) (by omega)).mono ?_; rintro e w' ⟨rfl, rfl⟩))
  go_ret
  refine ⟨ret_int ?_, rfl⟩
  rw [HF.out]
  omega

set_option maxHeartbeats 400000 in
theorem length_bad (n acked : Int) (w : World) (h : ¬ (Pn.okN n ∧ -1 ≤ acked ∧ acked < n)) :
    Calls Try.prog 9 #[.int .i64 n, .int .i64 acked] w fun e w' => e = .returned (.int .i64 0) ∧ w = w' := by
  unfold Pn.okN at h
  by_cases h0 : 0 ≤ n ∧ n ≤ 4611686018427387903
  · obtain ⟨h0, h1⟩ := h0
    by_cases h2 : acked < -1
    · clear h
      go_enter Try.func9, Try.ntmps9
      go_wp2_with (go_at_call 16; refine (within64_in _ _ _ _ (by omega) (by omega)).mono ?_; rintro e w' ⟨rfl, rfl⟩)
      go_ret
      exact ⟨rfl, rfl⟩
    · have h3 : n ≤ acked := by omega
      have g1 : decide (acked < -1) = false := by simp; omega
      have g2 : decide (n ≤ acked) = true := by simp; omega
      clear h h2
      go_enter Try.func9, Try.ntmps9
      go_wp2_with (go_at_call 16; refine (within64_in _ _ _ _ (by omega) (by omega)).mono ?_; rintro e w' ⟨rfl, rfl⟩)
      go_ret
      exact ⟨rfl, rfl⟩
  · clear h
    go_enter Try.func9, Try.ntmps9
    go_wp2_with (go_at_call 16; refine (within64_out _ _ _ _ h0).mono ?_; rintro e w' ⟨rfl, rfl⟩)
    go_ret
    exact ⟨rfl, rfl⟩

set_option maxHeartbeats 400000 in
theorem cut_bad (n k : Int) (w : World) (h : ¬ (Pn.okN n ∧ 1 ≤ k ∧ k ≤ 4)) :
    Calls Try.prog 12 #[.int .i64 n, .int .i64 k] w fun e w' => e = .returned (.slice none 0 0) ∧ w = w' := by
  unfold Pn.okN at h
  by_cases h0 : 0 ≤ n ∧ n ≤ 4611686018427387903
  · have h1 : ¬ (1 ≤ k ∧ k ≤ 4) := by omega
    obtain ⟨h00, h01⟩ := h0
    clear h
    go_enter Try.func12, Try.ntmps12
    go_wp2_with (first | (go_at_call 16; refine (within64_in _ _ _ _ (by omega) (by omega)).mono ?_; rintro e w' ⟨rfl, rfl⟩) | (go_at_call 18; refine (within_out _ _ _ _ h1).mono ?_; rintro e w' ⟨rfl, rfl⟩))
    go_ret
    exact ⟨rfl, rfl⟩
  · clear h
    go_enter Try.func12, Try.ntmps12
    go_wp2_with (go_at_call 16; refine (within64_out _ _ _ _ h0).mono ?_; rintro e w' ⟨rfl, rfl⟩)
    go_ret
    exact ⟨rfl, rfl⟩

set_option maxHeartbeats 1000000 in
theorem cut_1 (n : Int) (w : World) (h : Pn.okN n) :
    Calls Try.prog 12 #[.int .i64 n, .int .i64 1] w fun e w' => e = .returned (.slice (some ⟨w.heap.size, 0, none⟩) 1 1) ∧ w' = w.alloc (.cells (cells8 (Pn.cut n 1)) 5) := by
  obtain ⟨h0, h1⟩ := h
  have hmk : ∀ w, (Instr.makeSlice 25 (.int .i64 1) (.int .i64 1)).run Try.prog w = .ok (.slice (some ⟨w.heap.size, 0, none⟩) 1 1) (w.alloc (.cells #[.int .u8 0] 5)) := fun _ => by kernel_rfl
  go_enter Try.func12, Try.ntmps12
  go_wp2_with (first | (go_at_call 16; refine (within64_in _ _ _ _ (by omega) (by omega)).mono ?_; rintro e w' ⟨rfl, rfl⟩) | (go_at_call 18; refine (within_in _ _ _ _ (by omega) (by omega)).mono ?_; rintro e w' ⟨rfl, rfl⟩))
  go_rounds 2
  go_ret
  exact ⟨rfl, by simp [cells8, Pn.cut, List.range_succ]⟩

set_option maxHeartbeats 1000000 in
theorem ref_cut_1 (n : Int) (w : World) (h : Pn.okN n) :
    Calls Try.prog 13 #[.int .i64 n, .int .i64 1] w fun e w' => e = .returned (.slice (some ⟨w.heap.size, 0, none⟩) 1 1) ∧ w' = w.alloc (.cells (cells8 (Pn.cut n 1)) 5) := by
  obtain ⟨h0, h1⟩ := h
  have hmk : ∀ w, (Instr.makeSlice 25 (.int .i64 1) (.int .i64 1)).run Try.prog w = .ok (.slice (some ⟨w.heap.size, 0, none⟩) 1 1) (w.alloc (.cells #[.int .u8 0] 5)) := fun _ => by kernel_rfl
  go_enter Try.func13, Try.ntmps13
  go_wp2
  go_rounds 2
  go_ret
  refine ⟨rfl, ?_⟩
  simp [cells8, Pn.cut, List.range_succ]

set_option maxHeartbeats 1000000 in
theorem cut_2 (n : Int) (w : World) (h : Pn.okN n) :
    Calls Try.prog 12 #[.int .i64 n, .int .i64 2] w fun e w' => e = .returned (.slice (some ⟨w.heap.size, 0, none⟩) 2 2) ∧ w' = w.alloc (.cells (cells8 (Pn.cut n 2)) 5) := by
  obtain ⟨h0, h1⟩ := h
  have hmk : ∀ w, (Instr.makeSlice 25 (.int .i64 2) (.int .i64 2)).run Try.prog w = .ok (.slice (some ⟨w.heap.size, 0, none⟩) 2 2) (w.alloc (.cells #[.int .u8 0, .int .u8 0] 5)) := fun _ => by kernel_rfl
  go_enter Try.func12, Try.ntmps12
  go_wp2_with (first | (go_at_call 16; refine (within64_in _ _ _ _ (by omega) (by omega)).mono ?_; rintro e w' ⟨rfl, rfl⟩) | (go_at_call 18; refine (within_in _ _ _ _ (by omega) (by omega)).mono ?_; rintro e w' ⟨rfl, rfl⟩))
  go_rounds 3
  go_ret
  exact ⟨rfl, by simp [cells8, Pn.cut, List.range_succ]⟩

set_option maxHeartbeats 1000000 in
theorem ref_cut_2 (n : Int) (w : World) (h : Pn.okN n) :
    Calls Try.prog 13 #[.int .i64 n, .int .i64 2] w fun e w' => e = .returned (.slice (some ⟨w.heap.size, 0, none⟩) 2 2) ∧ w' = w.alloc (.cells (cells8 (Pn.cut n 2)) 5) := by
  obtain ⟨h0, h1⟩ := h
  have hmk : ∀ w, (Instr.makeSlice 25 (.int .i64 2) (.int .i64 2)).run Try.prog w = .ok (.slice (some ⟨w.heap.size, 0, none⟩) 2 2) (w.alloc (.cells #[.int .u8 0, .int .u8 0] 5)) := fun _ => by kernel_rfl
  go_enter Try.func13, Try.ntmps13
  go_wp2
  go_rounds 3
  go_ret
  refine ⟨rfl, ?_⟩
  simp [cells8, Pn.cut, List.range_succ]

set_option maxHeartbeats 1000000 in
theorem cut_3 (n : Int) (w : World) (h : Pn.okN n) :
    Calls Try.prog 12 #[.int .i64 n, .int .i64 3] w fun e w' => e = .returned (.slice (some ⟨w.heap.size, 0, none⟩) 3 3) ∧ w' = w.alloc (.cells (cells8 (Pn.cut n 3)) 5) := by
  obtain ⟨h0, h1⟩ := h
  have hmk : ∀ w, (Instr.makeSlice 25 (.int .i64 3) (.int .i64 3)).run Try.prog w = .ok (.slice (some ⟨w.heap.size, 0, none⟩) 3 3) (w.alloc (.cells #[.int .u8 0, .int .u8 0, .int .u8 0] 5)) := fun _ => by kernel_rfl
  go_enter Try.func12, Try.ntmps12
  go_wp2_with (first | (go_at_call 16; refine (within64_in _ _ _ _ (by omega) (by omega)).mono ?_; rintro e w' ⟨rfl, rfl⟩) | (go_at_call 18; refine (within_in _ _ _ _ (by omega) (by omega)).mono ?_; rintro e w' ⟨rfl, rfl⟩))
  go_rounds 4
  go_ret
  exact ⟨rfl, by simp [cells8, Pn.cut, List.range_succ]⟩

set_option maxHeartbeats 1000000 in
theorem ref_cut_3 (n : Int) (w : World) (h : Pn.okN n) :
    Calls Try.prog 13 #[.int .i64 n, .int .i64 3] w fun e w' => e = .returned (.slice (some ⟨w.heap.size, 0, none⟩) 3 3) ∧ w' = w.alloc (.cells (cells8 (Pn.cut n 3)) 5) := by
  obtain ⟨h0, h1⟩ := h
  have hmk : ∀ w, (Instr.makeSlice 25 (.int .i64 3) (.int .i64 3)).run Try.prog w = .ok (.slice (some ⟨w.heap.size, 0, none⟩) 3 3) (w.alloc (.cells #[.int .u8 0, .int .u8 0, .int .u8 0] 5)) := fun _ => by kernel_rfl
  go_enter Try.func13, Try.ntmps13
  go_wp2
  go_rounds 4
  go_ret
  refine ⟨rfl, ?_⟩
  have e1 : n / 256 / 256 = n / 65536 := by omega
  simp [cells8, Pn.cut, List.range_succ, e1]

set_option maxHeartbeats 1000000 in
theorem cut_4 (n : Int) (w : World) (h : Pn.okN n) :
    Calls Try.prog 12 #[.int .i64 n, .int .i64 4] w fun e w' => e = .returned (.slice (some ⟨w.heap.size, 0, none⟩) 4 4) ∧ w' = w.alloc (.cells (cells8 (Pn.cut n 4)) 5) := by
  obtain ⟨h0, h1⟩ := h
  have hmk : ∀ w, (Instr.makeSlice 25 (.int .i64 4) (.int .i64 4)).run Try.prog w = .ok (.slice (some ⟨w.heap.size, 0, none⟩) 4 4) (w.alloc (.cells #[.int .u8 0, .int .u8 0, .int .u8 0, .int .u8 0] 5)) := fun _ => by kernel_rfl
  go_enter Try.func12, Try.ntmps12
  go_wp2_with (first | (go_at_call 16; refine (within64_in _ _ _ _ (by omega) (by omega)).mono ?_; rintro e w' ⟨rfl, rfl⟩) | (go_at_call 18; refine (within_in _ _ _ _ (by omega) (by omega)).mono ?_; rintro e w' ⟨rfl, rfl⟩))
  go_rounds 5
  go_ret
  exact ⟨rfl, by simp [cells8, Pn.cut, List.range_succ]⟩

set_option maxHeartbeats 1000000 in
theorem ref_cut_4 (n : Int) (w : World) (h : Pn.okN n) :
    Calls Try.prog 13 #[.int .i64 n, .int .i64 4] w fun e w' => e = .returned (.slice (some ⟨w.heap.size, 0, none⟩) 4 4) ∧ w' = w.alloc (.cells (cells8 (Pn.cut n 4)) 5) := by
  obtain ⟨h0, h1⟩ := h
  have hmk : ∀ w, (Instr.makeSlice 25 (.int .i64 4) (.int .i64 4)).run Try.prog w = .ok (.slice (some ⟨w.heap.size, 0, none⟩) 4 4) (w.alloc (.cells #[.int .u8 0, .int .u8 0, .int .u8 0, .int .u8 0] 5)) := fun _ => by kernel_rfl
  go_enter Try.func13, Try.ntmps13
  go_wp2
  go_rounds 5
  go_ret
  refine ⟨rfl, ?_⟩
  have e1 : n / 256 / 256 = n / 65536 := by omega
  have e2 : n / 65536 / 256 = n / 16777216 := by omega
  simp [cells8, Pn.cut, List.range_succ, e1, e2]

set_option maxHeartbeats 400000 in
theorem ref_cut_bad (n k : Int) (w : World) (h : ¬ (Pn.okN n ∧ 1 ≤ k ∧ k ≤ 4)) :
    Calls Try.prog 13 #[.int .i64 n, .int .i64 k] w fun e w' => e = .returned (.slice none 0 0) ∧ w = w' := by
  unfold Pn.okN at h
  by_cases h1 : n < 0
  · clear h
    go_enter Try.func13, Try.ntmps13
    go_wp2
    go_ret
    exact ⟨rfl, rfl⟩
  have g1 : decide (n < 0) = false := by simp; omega
  by_cases h2 : 4611686018427387903 < n
  · clear h
    go_enter Try.func13, Try.ntmps13
    go_wp2
    go_ret
    exact ⟨rfl, rfl⟩
  have g2 : decide (4611686018427387903 < n) = false := by simp; omega
  by_cases h3 : k < 1
  · clear h
    go_enter Try.func13, Try.ntmps13
    go_wp2
    go_ret
    exact ⟨rfl, rfl⟩
  have g3 : decide (k < 1) = false := by simp; omega
  have h4 : 4 < k := by omega
  clear h
  go_enter Try.func13, Try.ntmps13
  go_wp2
  go_ret
  exact ⟨rfl, rfl⟩

set_option maxHeartbeats 400000 in
theorem ref_length_bad (n acked : Int) (w : World) (h : ¬ (Pn.okN n ∧ -1 ≤ acked ∧ acked < n)) :
    Calls Try.prog 10 #[.int .i64 n, .int .i64 acked] w fun e w' => e = .returned (.int .i64 0) ∧ w = w' := by
  unfold Pn.okN at h
  by_cases h1 : n < 0
  · clear h
    go_enter Try.func10, Try.ntmps10
    go_wp2
    go_ret
    exact ⟨rfl, rfl⟩
  have g1 : decide (n < 0) = false := by simp; omega
  by_cases h2 : 4611686018427387903 < n
  · clear h
    go_enter Try.func10, Try.ntmps10
    go_wp2
    go_ret
    exact ⟨rfl, rfl⟩
  have g2 : decide (4611686018427387903 < n) = false := by simp; omega
  by_cases h3 : acked < -1
  · clear h
    go_enter Try.func10, Try.ntmps10
    go_wp2
    go_ret
    exact ⟨rfl, rfl⟩
  have g3 : decide (acked < -1) = false := by simp; omega
  have h4 : n ≤ acked := by omega
  clear h
  go_enter Try.func10, Try.ntmps10
  go_wp2
  go_ret
  exact ⟨rfl, rfl⟩

set_option maxHeartbeats 1000000 in
theorem ref_length_good (n acked : Int) (w : World) (h : Pn.okN n) (ha : -1 ≤ acked) (hl : acked < n) :
    Calls Try.prog 10 #[.int .i64 n, .int .i64 acked] w fun e w' => e = .returned (.int .i64 (Pn.length n acked)) ∧ w = w' := by
  have HF := Lib.hid (show Pn.length n acked = _ from by unfold Pn.length; rw [if_pos ⟨h, ha, hl⟩])
  unfold Pn.okN at h
  obtain ⟨h0, h1⟩ := h
  obtain ⟨B, hB⟩ : ∃ B, Lib.bitLen (n - acked).toNat = B := ⟨_, rfl⟩
  have hb : B ≤ 64 := by rw [← hB]; exact (Pn.bitLen_lt 64 _ (by omega)).1 (by omega)
  rw [hB] at HF
  have HB := Lib.hid hB
  clear hB
  have g1 : decide (n < 0) = false := by simp; omega
  have g2 : decide (4611686018427387903 < n) = false := by simp; omega
  have g3 : decide (acked < -1) = false := by simp; omega
  have g4 : decide (n ≤ acked) = false := by simp; omega
  go_enter Try.func10, Try.ntmps10
  go_wp2
  go_loop [5, 6] (fun x y => ∃ b d : Nat, x = .int .i64 b ∧ y = .int .i64 d ∧ (d : Int) ≤ n - acked ∧ b ≤ 65 ∧ b + Lib.bitLen d = 1 + B) (fun _ y => (intOf y).toNat)
  case atStart => exact ⟨1, (n - acked).toNat, rfl, by rw [Int.toNat_of_nonneg (by omega)], by omega, by omega, by rw [HB.out]⟩
  case round =>
    obtain ⟨b, d, rfl, rfl, hd, hb65, hs⟩ := hrel
    have HS := Lib.hid hs
    clear hs
    by_cases hd0 : 0 < d
    · have hh := Lib.bitLen_half d (by omega) (by omega)
      have hs := HS.out
      have hb64 : b ≤ 64 := by omega
      have HH := Lib.hid hh
      clear hh hs
      go_wp2
      go_round
      case rel =>
        refine ⟨b + 1, d / 2, by go_num, by go_num, by omega, by omega, ?_⟩
        have := HH.out; have := HS.out; omega
      case measure => simp [intOf]; omega
    · obtain rfl : d = 0 := by omega
      have hB1 : b = 1 + B := by have := HS.out; simpa [Lib.bitLen, Lib.bitLenAux] using this
      clear HS hd0
      subst hB1
      have H8 : 1 + B ≤ 8 ∨ (8 < 1 + B ∧ 1 + B ≤ 16) ∨ (16 < 1 + B ∧ 1 + B ≤ 24) ∨ 24 < 1 + B := by omega
      rcases H8 with h8 | ⟨h8, h16⟩ | ⟨h8, h16⟩ | h8
      all_goals
        go_wp2
        go_rounds 4
        go_ret
        refine ⟨ret_int ?_, rfl⟩
        rw [HF.out]
        omega

end Go.Proofs.Ytfigedhfoljloaa
