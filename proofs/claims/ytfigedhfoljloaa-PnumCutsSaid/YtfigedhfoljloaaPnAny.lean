/- Layer 2's Full by one contract, for every slice of bytes; alive. -/
import Derived.Test.YtfigedhfoljloaaRows
import Derived.Test.YtfigedhfoljloaaPlainPn
import Derived.Test.YtfigedhfoljloaaAid
import Derived.Test.YtfigedhfoljloaaPnum
import Derived.Test.YtfigedhfoljloaaPnFull
import Derived.Test.YtfigedhfoljloaaSame
import Derived.WalkKit
import Derived.WalkSpells
import Derived.WalkLawsBesides
import Derived.Deep.QuietTactic
import Derived.BigQuiet
import Derived.Handy
import Derived.Lib.Hide
namespace Go.Proofs.Ytfigedhfoljloaa
open Go.RowKit
set_option linter.unusedVariables false

theorem full_eq (largest : Int) (l : List Int) (k : Nat) (hk : l.length = k) (h1 : 1 ≤ k) (h4 : k ≤ 4) (h0 : -1 ≤ largest) (hM : largest ≤ 4611686018427387903) :
    Pn.full largest l = Pn.cand (largest + 1) (Pn.win k) (Pn.low l) := by
  unfold Pn.full; rw [hk, if_pos ⟨h1, h4, h0, hM⟩]

theorem full_bad_eq (largest : Int) (l : List Int) (h : ¬ (1 ≤ l.length ∧ l.length ≤ 4 ∧ -1 ≤ largest ∧ largest ≤ 4611686018427387903)) : Pn.full largest l = -1 := by
  unfold Pn.full; rw [if_neg h]

theorem full_1 (largest : Int) (b off cap : Nat) (c0 : Int) (w : World) (hl0 : -1 ≤ largest) (hl1 : largest ≤ 4611686018427387903) (a0 : 0 ≤ c0) (b0 : c0 ≤ 255) (g0 : w.cell? ⟨b, off, none⟩ = some (.int .u8 c0)) :
    Calls Try.prog 14 #[.int .i64 largest, .slice (some ⟨b, off, none⟩) 1 cap] w fun e w' => e = .returned (.int .i64 (Pn.full largest [c0])) ∧ w = w' := by
  have HF : Pn.full largest [c0] = Pn.cand (largest + 1) 256 c0 := by
    rw [full_eq _ _ 1 rfl (by decide) (by decide) hl0 hl1]; simp [Pn.win, Pn.low]
  rw [HF]; unfold Pn.cand
  dsimp only
  split
  · exact full_1w1 _ b off cap c0 _ w hl0 hl1 a0 b0 rfl (by omega) (by omega) g0
  · split
    · by_cases p1 : (largest + 1) / 256 * 256 + c0 ≤ largest + 1 - 128
      · exact absurd (show (largest + 1) / 256 * 256 + c0 ≤ largest + 1 - 128 from p1) (by omega)
      · exact full_1w3 _ b off cap c0 _ w hl0 hl1 a0 b0 rfl (by omega) (by omega) (by omega) g0
    · by_cases p1 : (largest + 1) / 256 * 256 + c0 ≤ largest + 1 - 128
      · exact full_1w2 _ b off cap c0 _ w hl0 hl1 a0 b0 rfl (by omega) (by omega) g0
      · by_cases p3 : largest + 1 + 128 < (largest + 1) / 256 * 256 + c0
        · exact full_1w4 _ b off cap c0 _ w hl0 hl1 a0 b0 rfl (by omega) (by omega) (by omega) g0
        · exact full_1w5 _ b off cap c0 _ w hl0 hl1 a0 b0 rfl (by omega) (by omega) g0

theorem full_2 (largest : Int) (b off cap : Nat) (c0 c1 : Int) (w : World) (hl0 : -1 ≤ largest) (hl1 : largest ≤ 4611686018427387903) (a0 : 0 ≤ c0) (b0 : c0 ≤ 255) (a1 : 0 ≤ c1) (b1 : c1 ≤ 255) (g0 : w.cell? ⟨b, off, none⟩ = some (.int .u8 c0)) (g1 : w.cell? ⟨b, off + 1, none⟩ = some (.int .u8 c1)) :
    Calls Try.prog 14 #[.int .i64 largest, .slice (some ⟨b, off, none⟩) 2 cap] w fun e w' => e = .returned (.int .i64 (Pn.full largest [c0, c1])) ∧ w = w' := by
  have HF : Pn.full largest [c0, c1] = Pn.cand (largest + 1) 65536 (c0 * 256 + c1) := by
    rw [full_eq _ _ 2 rfl (by decide) (by decide) hl0 hl1]; simp [Pn.win, Pn.low]
  rw [HF]; unfold Pn.cand
  dsimp only
  split
  · exact full_2w1 _ b off cap c0 c1 _ w hl0 hl1 a0 b0 a1 b1 rfl (by omega) (by omega) g0 g1
  · split
    · by_cases p1 : (largest + 1) / 65536 * 65536 + (c0 * 256 + c1) ≤ largest + 1 - 32768
      · exact absurd (show (largest + 1) / 65536 * 65536 + (c0 * 256 + c1) ≤ largest + 1 - 32768 from p1) (by omega)
      · exact full_2w3 _ b off cap c0 c1 _ w hl0 hl1 a0 b0 a1 b1 rfl (by omega) (by omega) (by omega) g0 g1
    · by_cases p1 : (largest + 1) / 65536 * 65536 + (c0 * 256 + c1) ≤ largest + 1 - 32768
      · exact full_2w2 _ b off cap c0 c1 _ w hl0 hl1 a0 b0 a1 b1 rfl (by omega) (by omega) g0 g1
      · by_cases p3 : largest + 1 + 32768 < (largest + 1) / 65536 * 65536 + (c0 * 256 + c1)
        · exact full_2w4 _ b off cap c0 c1 _ w hl0 hl1 a0 b0 a1 b1 rfl (by omega) (by omega) (by omega) g0 g1
        · exact full_2w5 _ b off cap c0 c1 _ w hl0 hl1 a0 b0 a1 b1 rfl (by omega) (by omega) g0 g1

theorem full_3 (largest : Int) (b off cap : Nat) (c0 c1 c2 : Int) (w : World) (hl0 : -1 ≤ largest) (hl1 : largest ≤ 4611686018427387903) (a0 : 0 ≤ c0) (b0 : c0 ≤ 255) (a1 : 0 ≤ c1) (b1 : c1 ≤ 255) (a2 : 0 ≤ c2) (b2 : c2 ≤ 255) (g0 : w.cell? ⟨b, off, none⟩ = some (.int .u8 c0)) (g1 : w.cell? ⟨b, off + 1, none⟩ = some (.int .u8 c1)) (g2 : w.cell? ⟨b, off + 2, none⟩ = some (.int .u8 c2)) :
    Calls Try.prog 14 #[.int .i64 largest, .slice (some ⟨b, off, none⟩) 3 cap] w fun e w' => e = .returned (.int .i64 (Pn.full largest [c0, c1, c2])) ∧ w = w' := by
  have HF : Pn.full largest [c0, c1, c2] = Pn.cand (largest + 1) 16777216 ((c0 * 256 + c1) * 256 + c2) := by
    rw [full_eq _ _ 3 rfl (by decide) (by decide) hl0 hl1]; simp [Pn.win, Pn.low]
  rw [HF]; unfold Pn.cand
  dsimp only
  split
  · exact full_3w1 _ b off cap c0 c1 c2 _ w hl0 hl1 a0 b0 a1 b1 a2 b2 rfl (by omega) (by omega) g0 g1 g2
  · split
    · by_cases p1 : (largest + 1) / 16777216 * 16777216 + ((c0 * 256 + c1) * 256 + c2) ≤ largest + 1 - 8388608
      · exact absurd (show (largest + 1) / 16777216 * 16777216 + ((c0 * 256 + c1) * 256 + c2) ≤ largest + 1 - 8388608 from p1) (by omega)
      · exact full_3w3 _ b off cap c0 c1 c2 _ w hl0 hl1 a0 b0 a1 b1 a2 b2 rfl (by omega) (by omega) (by omega) g0 g1 g2
    · by_cases p1 : (largest + 1) / 16777216 * 16777216 + ((c0 * 256 + c1) * 256 + c2) ≤ largest + 1 - 8388608
      · exact full_3w2 _ b off cap c0 c1 c2 _ w hl0 hl1 a0 b0 a1 b1 a2 b2 rfl (by omega) (by omega) g0 g1 g2
      · by_cases p3 : largest + 1 + 8388608 < (largest + 1) / 16777216 * 16777216 + ((c0 * 256 + c1) * 256 + c2)
        · exact full_3w4 _ b off cap c0 c1 c2 _ w hl0 hl1 a0 b0 a1 b1 a2 b2 rfl (by omega) (by omega) (by omega) g0 g1 g2
        · exact full_3w5 _ b off cap c0 c1 c2 _ w hl0 hl1 a0 b0 a1 b1 a2 b2 rfl (by omega) (by omega) g0 g1 g2

theorem full_4 (largest : Int) (b off cap : Nat) (c0 c1 c2 c3 : Int) (w : World) (hl0 : -1 ≤ largest) (hl1 : largest ≤ 4611686018427387903) (a0 : 0 ≤ c0) (b0 : c0 ≤ 255) (a1 : 0 ≤ c1) (b1 : c1 ≤ 255) (a2 : 0 ≤ c2) (b2 : c2 ≤ 255) (a3 : 0 ≤ c3) (b3 : c3 ≤ 255) (g0 : w.cell? ⟨b, off, none⟩ = some (.int .u8 c0)) (g1 : w.cell? ⟨b, off + 1, none⟩ = some (.int .u8 c1)) (g2 : w.cell? ⟨b, off + 2, none⟩ = some (.int .u8 c2)) (g3 : w.cell? ⟨b, off + 3, none⟩ = some (.int .u8 c3)) :
    Calls Try.prog 14 #[.int .i64 largest, .slice (some ⟨b, off, none⟩) 4 cap] w fun e w' => e = .returned (.int .i64 (Pn.full largest [c0, c1, c2, c3])) ∧ w = w' := by
  have HF : Pn.full largest [c0, c1, c2, c3] = Pn.cand (largest + 1) 4294967296 (((c0 * 256 + c1) * 256 + c2) * 256 + c3) := by
    rw [full_eq _ _ 4 rfl (by decide) (by decide) hl0 hl1]; simp [Pn.win, Pn.low]
  rw [HF]; unfold Pn.cand
  dsimp only
  split
  · exact full_4w1 _ b off cap c0 c1 c2 c3 _ w hl0 hl1 a0 b0 a1 b1 a2 b2 a3 b3 rfl (by omega) (by omega) g0 g1 g2 g3
  · split
    · by_cases p1 : (largest + 1) / 4294967296 * 4294967296 + (((c0 * 256 + c1) * 256 + c2) * 256 + c3) ≤ largest + 1 - 2147483648
      · exact absurd (show (largest + 1) / 4294967296 * 4294967296 + (((c0 * 256 + c1) * 256 + c2) * 256 + c3) ≤ largest + 1 - 2147483648 from p1) (by omega)
      · exact full_4w3 _ b off cap c0 c1 c2 c3 _ w hl0 hl1 a0 b0 a1 b1 a2 b2 a3 b3 rfl (by omega) (by omega) (by omega) g0 g1 g2 g3
    · by_cases p1 : (largest + 1) / 4294967296 * 4294967296 + (((c0 * 256 + c1) * 256 + c2) * 256 + c3) ≤ largest + 1 - 2147483648
      · exact full_4w2 _ b off cap c0 c1 c2 c3 _ w hl0 hl1 a0 b0 a1 b1 a2 b2 a3 b3 rfl (by omega) (by omega) g0 g1 g2 g3
      · by_cases p3 : largest + 1 + 2147483648 < (largest + 1) / 4294967296 * 4294967296 + (((c0 * 256 + c1) * 256 + c2) * 256 + c3)
        · exact full_4w4 _ b off cap c0 c1 c2 c3 _ w hl0 hl1 a0 b0 a1 b1 a2 b2 a3 b3 rfl (by omega) (by omega) (by omega) g0 g1 g2 g3
        · exact full_4w5 _ b off cap c0 c1 c2 c3 _ w hl0 hl1 a0 b0 a1 b1 a2 b2 a3 b3 rfl (by omega) (by omega) g0 g1 g2 g3

set_option maxHeartbeats 400000 in
theorem full_bad (largest : Int) (A : Option Addr) (n cap : Nat) (w : World) (hn : n ≤ 9223372036854775807) (h : ¬ (1 ≤ n ∧ n ≤ 4 ∧ -1 ≤ largest ∧ largest ≤ 4611686018427387903)) :
    Calls Try.prog 14 #[.int .i64 largest, .slice A n cap] w fun e w' => e = .returned (.int .i64 (-1)) ∧ w = w' := by
  by_cases h1 : 1 ≤ (n : Int) ∧ (n : Int) ≤ 4
  · have h0 : ¬ (-1 ≤ largest ∧ largest ≤ 4611686018427387903) := by omega
    obtain ⟨h11, h12⟩ := h1
    clear h
    go_enter Try.func14, Try.ntmps14
    go_wp2_with (first | (go_at_call 16; refine (within64_out _ _ _ _ h0).mono ?_; rintro e w' ⟨rfl, rfl⟩) | (go_at_call 18; refine (within_in _ _ _ _ (by omega) (by omega)).mono ?_; rintro e w' ⟨rfl, rfl⟩))
    go_ret
    exact ⟨rfl, rfl⟩
  · clear h
    go_enter Try.func14, Try.ntmps14
    go_wp2_with (go_at_call 18; refine (within_out _ _ _ _ h1).mono ?_; rintro e w' ⟨rfl, rfl⟩)
    go_ret
    exact ⟨rfl, rfl⟩

/-- What is told, for every slice of bytes. -/
theorem full_any (largest : Int) (A : Option Addr) (n cap : Nat) (l : List Int) (w : World) (hb : Bytes w A n l) (hn : n ≤ 9223372036854775807) :
    Calls Try.prog 14 #[.int .i64 largest, .slice A n cap] w fun e w' => e = .returned (.int .i64 (Pn.full largest l)) ∧ w = w' := by
  obtain ⟨h1, h2, h3⟩ := hb
  by_cases hg : 1 ≤ n ∧ n ≤ 4 ∧ -1 ≤ largest ∧ largest ≤ 4611686018427387903
  · obtain ⟨hg1, hg4, hl0, hl1⟩ := hg
    obtain ⟨b, off, rfl, hlt, hc⟩ := h3 (by omega)
    obtain rfl | rfl | rfl | rfl : n = 1 ∨ n = 2 ∨ n = 3 ∨ n = 4 := by omega
    · match l, h1 with
      | [c0], _ =>
        have k0 := h2 c0 (by simp)
        exact full_1 largest b off cap c0 w hl0 hl1 k0.1 k0.2 (hc 0 (by omega))
    · match l, h1 with
      | [c0, c1], _ =>
        have k0 := h2 c0 (by simp)
        have k1 := h2 c1 (by simp)
        exact full_2 largest b off cap c0 c1 w hl0 hl1 k0.1 k0.2 k1.1 k1.2 (hc 0 (by omega)) (hc 1 (by omega))
    · match l, h1 with
      | [c0, c1, c2], _ =>
        have k0 := h2 c0 (by simp)
        have k1 := h2 c1 (by simp)
        have k2 := h2 c2 (by simp)
        exact full_3 largest b off cap c0 c1 c2 w hl0 hl1 k0.1 k0.2 k1.1 k1.2 k2.1 k2.2 (hc 0 (by omega)) (hc 1 (by omega)) (hc 2 (by omega))
    · match l, h1 with
      | [c0, c1, c2, c3], _ =>
        have k0 := h2 c0 (by simp)
        have k1 := h2 c1 (by simp)
        have k2 := h2 c2 (by simp)
        have k3 := h2 c3 (by simp)
        exact full_4 largest b off cap c0 c1 c2 c3 w hl0 hl1 k0.1 k0.2 k1.1 k1.2 k2.1 k2.2 k3.1 k3.2 (hc 0 (by omega)) (hc 1 (by omega)) (hc 2 (by omega)) (hc 3 (by omega))
  · rw [full_bad_eq _ _ (by rw [h1]; exact hg)]
    exact full_bad largest A n cap w hn hg

theorem ref_full_1 (largest : Int) (b off cap : Nat) (c0 : Int) (w : World) (hl0 : -1 ≤ largest) (hl1 : largest ≤ 4611686018427387903) (a0 : 0 ≤ c0) (b0 : c0 ≤ 255) (g0 : w.cell? ⟨b, off, none⟩ = some (.int .u8 c0)) :
    Calls Try.prog 15 #[.int .i64 largest, .slice (some ⟨b, off, none⟩) 1 cap] w fun e w' => e = .returned (.int .i64 (Pn.full largest [c0])) ∧ w = w' := by
  have HF : Pn.full largest [c0] = Pn.cand (largest + 1) 256 c0 := by
    rw [full_eq _ _ 1 rfl (by decide) (by decide) hl0 hl1]; simp [Pn.win, Pn.low]
  rw [HF]; unfold Pn.cand
  dsimp only
  split
  · exact ref_full_1w1 _ b off cap c0 _ w hl0 hl1 a0 b0 rfl (by omega) (by omega) g0
  · split
    · by_cases p1 : (largest + 1) / 256 * 256 + c0 ≤ largest + 1 - 128
      · exact absurd (show (largest + 1) / 256 * 256 + c0 ≤ largest + 1 - 128 from p1) (by omega)
      · exact ref_full_1w3 _ b off cap c0 _ w hl0 hl1 a0 b0 rfl (by omega) (by omega) (by omega) g0
    · by_cases p1 : (largest + 1) / 256 * 256 + c0 ≤ largest + 1 - 128
      · exact ref_full_1w2 _ b off cap c0 _ w hl0 hl1 a0 b0 rfl (by omega) (by omega) g0
      · by_cases p3 : largest + 1 + 128 < (largest + 1) / 256 * 256 + c0
        · exact ref_full_1w4 _ b off cap c0 _ w hl0 hl1 a0 b0 rfl (by omega) (by omega) (by omega) g0
        · exact ref_full_1w5 _ b off cap c0 _ w hl0 hl1 a0 b0 rfl (by omega) (by omega) g0

theorem ref_full_2 (largest : Int) (b off cap : Nat) (c0 c1 : Int) (w : World) (hl0 : -1 ≤ largest) (hl1 : largest ≤ 4611686018427387903) (a0 : 0 ≤ c0) (b0 : c0 ≤ 255) (a1 : 0 ≤ c1) (b1 : c1 ≤ 255) (g0 : w.cell? ⟨b, off, none⟩ = some (.int .u8 c0)) (g1 : w.cell? ⟨b, off + 1, none⟩ = some (.int .u8 c1)) :
    Calls Try.prog 15 #[.int .i64 largest, .slice (some ⟨b, off, none⟩) 2 cap] w fun e w' => e = .returned (.int .i64 (Pn.full largest [c0, c1])) ∧ w = w' := by
  have HF : Pn.full largest [c0, c1] = Pn.cand (largest + 1) 65536 (c0 * 256 + c1) := by
    rw [full_eq _ _ 2 rfl (by decide) (by decide) hl0 hl1]; simp [Pn.win, Pn.low]
  rw [HF]; unfold Pn.cand
  dsimp only
  split
  · exact ref_full_2w1 _ b off cap c0 c1 _ w hl0 hl1 a0 b0 a1 b1 rfl (by omega) (by omega) g0 g1
  · split
    · by_cases p1 : (largest + 1) / 65536 * 65536 + (c0 * 256 + c1) ≤ largest + 1 - 32768
      · exact absurd (show (largest + 1) / 65536 * 65536 + (c0 * 256 + c1) ≤ largest + 1 - 32768 from p1) (by omega)
      · exact ref_full_2w3 _ b off cap c0 c1 _ w hl0 hl1 a0 b0 a1 b1 rfl (by omega) (by omega) (by omega) g0 g1
    · by_cases p1 : (largest + 1) / 65536 * 65536 + (c0 * 256 + c1) ≤ largest + 1 - 32768
      · exact ref_full_2w2 _ b off cap c0 c1 _ w hl0 hl1 a0 b0 a1 b1 rfl (by omega) (by omega) g0 g1
      · by_cases p3 : largest + 1 + 32768 < (largest + 1) / 65536 * 65536 + (c0 * 256 + c1)
        · exact ref_full_2w4 _ b off cap c0 c1 _ w hl0 hl1 a0 b0 a1 b1 rfl (by omega) (by omega) (by omega) g0 g1
        · exact ref_full_2w5 _ b off cap c0 c1 _ w hl0 hl1 a0 b0 a1 b1 rfl (by omega) (by omega) g0 g1

theorem ref_full_3 (largest : Int) (b off cap : Nat) (c0 c1 c2 : Int) (w : World) (hl0 : -1 ≤ largest) (hl1 : largest ≤ 4611686018427387903) (a0 : 0 ≤ c0) (b0 : c0 ≤ 255) (a1 : 0 ≤ c1) (b1 : c1 ≤ 255) (a2 : 0 ≤ c2) (b2 : c2 ≤ 255) (g0 : w.cell? ⟨b, off, none⟩ = some (.int .u8 c0)) (g1 : w.cell? ⟨b, off + 1, none⟩ = some (.int .u8 c1)) (g2 : w.cell? ⟨b, off + 2, none⟩ = some (.int .u8 c2)) :
    Calls Try.prog 15 #[.int .i64 largest, .slice (some ⟨b, off, none⟩) 3 cap] w fun e w' => e = .returned (.int .i64 (Pn.full largest [c0, c1, c2])) ∧ w = w' := by
  have HF : Pn.full largest [c0, c1, c2] = Pn.cand (largest + 1) 16777216 ((c0 * 256 + c1) * 256 + c2) := by
    rw [full_eq _ _ 3 rfl (by decide) (by decide) hl0 hl1]; simp [Pn.win, Pn.low]
  rw [HF]; unfold Pn.cand
  dsimp only
  split
  · exact ref_full_3w1 _ b off cap c0 c1 c2 _ w hl0 hl1 a0 b0 a1 b1 a2 b2 rfl (by omega) (by omega) g0 g1 g2
  · split
    · by_cases p1 : (largest + 1) / 16777216 * 16777216 + ((c0 * 256 + c1) * 256 + c2) ≤ largest + 1 - 8388608
      · exact absurd (show (largest + 1) / 16777216 * 16777216 + ((c0 * 256 + c1) * 256 + c2) ≤ largest + 1 - 8388608 from p1) (by omega)
      · exact ref_full_3w3 _ b off cap c0 c1 c2 _ w hl0 hl1 a0 b0 a1 b1 a2 b2 rfl (by omega) (by omega) (by omega) g0 g1 g2
    · by_cases p1 : (largest + 1) / 16777216 * 16777216 + ((c0 * 256 + c1) * 256 + c2) ≤ largest + 1 - 8388608
      · exact ref_full_3w2 _ b off cap c0 c1 c2 _ w hl0 hl1 a0 b0 a1 b1 a2 b2 rfl (by omega) (by omega) g0 g1 g2
      · by_cases p3 : largest + 1 + 8388608 < (largest + 1) / 16777216 * 16777216 + ((c0 * 256 + c1) * 256 + c2)
        · exact ref_full_3w4 _ b off cap c0 c1 c2 _ w hl0 hl1 a0 b0 a1 b1 a2 b2 rfl (by omega) (by omega) (by omega) g0 g1 g2
        · exact ref_full_3w5 _ b off cap c0 c1 c2 _ w hl0 hl1 a0 b0 a1 b1 a2 b2 rfl (by omega) (by omega) g0 g1 g2

theorem ref_full_4 (largest : Int) (b off cap : Nat) (c0 c1 c2 c3 : Int) (w : World) (hl0 : -1 ≤ largest) (hl1 : largest ≤ 4611686018427387903) (a0 : 0 ≤ c0) (b0 : c0 ≤ 255) (a1 : 0 ≤ c1) (b1 : c1 ≤ 255) (a2 : 0 ≤ c2) (b2 : c2 ≤ 255) (a3 : 0 ≤ c3) (b3 : c3 ≤ 255) (g0 : w.cell? ⟨b, off, none⟩ = some (.int .u8 c0)) (g1 : w.cell? ⟨b, off + 1, none⟩ = some (.int .u8 c1)) (g2 : w.cell? ⟨b, off + 2, none⟩ = some (.int .u8 c2)) (g3 : w.cell? ⟨b, off + 3, none⟩ = some (.int .u8 c3)) :
    Calls Try.prog 15 #[.int .i64 largest, .slice (some ⟨b, off, none⟩) 4 cap] w fun e w' => e = .returned (.int .i64 (Pn.full largest [c0, c1, c2, c3])) ∧ w = w' := by
  have HF : Pn.full largest [c0, c1, c2, c3] = Pn.cand (largest + 1) 4294967296 (((c0 * 256 + c1) * 256 + c2) * 256 + c3) := by
    rw [full_eq _ _ 4 rfl (by decide) (by decide) hl0 hl1]; simp [Pn.win, Pn.low]
  rw [HF]; unfold Pn.cand
  dsimp only
  split
  · exact ref_full_4w1 _ b off cap c0 c1 c2 c3 _ w hl0 hl1 a0 b0 a1 b1 a2 b2 a3 b3 rfl (by omega) (by omega) g0 g1 g2 g3
  · split
    · by_cases p1 : (largest + 1) / 4294967296 * 4294967296 + (((c0 * 256 + c1) * 256 + c2) * 256 + c3) ≤ largest + 1 - 2147483648
      · exact absurd (show (largest + 1) / 4294967296 * 4294967296 + (((c0 * 256 + c1) * 256 + c2) * 256 + c3) ≤ largest + 1 - 2147483648 from p1) (by omega)
      · exact ref_full_4w3 _ b off cap c0 c1 c2 c3 _ w hl0 hl1 a0 b0 a1 b1 a2 b2 a3 b3 rfl (by omega) (by omega) (by omega) g0 g1 g2 g3
    · by_cases p1 : (largest + 1) / 4294967296 * 4294967296 + (((c0 * 256 + c1) * 256 + c2) * 256 + c3) ≤ largest + 1 - 2147483648
      · exact ref_full_4w2 _ b off cap c0 c1 c2 c3 _ w hl0 hl1 a0 b0 a1 b1 a2 b2 a3 b3 rfl (by omega) (by omega) g0 g1 g2 g3
      · by_cases p3 : largest + 1 + 2147483648 < (largest + 1) / 4294967296 * 4294967296 + (((c0 * 256 + c1) * 256 + c2) * 256 + c3)
        · exact ref_full_4w4 _ b off cap c0 c1 c2 c3 _ w hl0 hl1 a0 b0 a1 b1 a2 b2 a3 b3 rfl (by omega) (by omega) (by omega) g0 g1 g2 g3
        · exact ref_full_4w5 _ b off cap c0 c1 c2 c3 _ w hl0 hl1 a0 b0 a1 b1 a2 b2 a3 b3 rfl (by omega) (by omega) g0 g1 g2 g3

set_option maxHeartbeats 400000 in
theorem ref_full_bad (largest : Int) (A : Option Addr) (n cap : Nat) (w : World) (hn : n ≤ 9223372036854775807) (h : ¬ (1 ≤ n ∧ n ≤ 4 ∧ -1 ≤ largest ∧ largest ≤ 4611686018427387903)) :
    Calls Try.prog 15 #[.int .i64 largest, .slice A n cap] w fun e w' => e = .returned (.int .i64 (-1)) ∧ w = w' := by
  by_cases h1 : (n : Int) < 1
  · clear h
    go_enter Try.func15, Try.ntmps15
    go_wp2
    go_ret
    exact ⟨rfl, rfl⟩
  have g1 : decide ((n : Int) < 1) = false := by simp; omega
  by_cases h2 : 4 < (n : Int)
  · clear h
    go_enter Try.func15, Try.ntmps15
    go_wp2
    go_ret
    exact ⟨rfl, rfl⟩
  have g2 : decide (4 < (n : Int)) = false := by simp; omega
  by_cases h3 : largest < -1
  · clear h
    go_enter Try.func15, Try.ntmps15
    go_wp2
    go_ret
    exact ⟨rfl, rfl⟩
  have g3 : decide (largest < -1) = false := by simp; omega
  have h4 : 4611686018427387903 < largest := by omega
  clear h
  go_enter Try.func15, Try.ntmps15
  go_wp2
  go_ret
  exact ⟨rfl, rfl⟩

/-- What is told, for every slice of bytes. -/
theorem ref_full_any (largest : Int) (A : Option Addr) (n cap : Nat) (l : List Int) (w : World) (hb : Bytes w A n l) (hn : n ≤ 9223372036854775807) :
    Calls Try.prog 15 #[.int .i64 largest, .slice A n cap] w fun e w' => e = .returned (.int .i64 (Pn.full largest l)) ∧ w = w' := by
  obtain ⟨h1, h2, h3⟩ := hb
  by_cases hg : 1 ≤ n ∧ n ≤ 4 ∧ -1 ≤ largest ∧ largest ≤ 4611686018427387903
  · obtain ⟨hg1, hg4, hl0, hl1⟩ := hg
    obtain ⟨b, off, rfl, hlt, hc⟩ := h3 (by omega)
    obtain rfl | rfl | rfl | rfl : n = 1 ∨ n = 2 ∨ n = 3 ∨ n = 4 := by omega
    · match l, h1 with
      | [c0], _ =>
        have k0 := h2 c0 (by simp)
        exact ref_full_1 largest b off cap c0 w hl0 hl1 k0.1 k0.2 (hc 0 (by omega))
    · match l, h1 with
      | [c0, c1], _ =>
        have k0 := h2 c0 (by simp)
        have k1 := h2 c1 (by simp)
        exact ref_full_2 largest b off cap c0 c1 w hl0 hl1 k0.1 k0.2 k1.1 k1.2 (hc 0 (by omega)) (hc 1 (by omega))
    · match l, h1 with
      | [c0, c1, c2], _ =>
        have k0 := h2 c0 (by simp)
        have k1 := h2 c1 (by simp)
        have k2 := h2 c2 (by simp)
        exact ref_full_3 largest b off cap c0 c1 c2 w hl0 hl1 k0.1 k0.2 k1.1 k1.2 k2.1 k2.2 (hc 0 (by omega)) (hc 1 (by omega)) (hc 2 (by omega))
    · match l, h1 with
      | [c0, c1, c2, c3], _ =>
        have k0 := h2 c0 (by simp)
        have k1 := h2 c1 (by simp)
        have k2 := h2 c2 (by simp)
        have k3 := h2 c3 (by simp)
        exact ref_full_4 largest b off cap c0 c1 c2 c3 w hl0 hl1 k0.1 k0.2 k1.1 k1.2 k2.1 k2.2 k3.1 k3.2 (hc 0 (by omega)) (hc 1 (by omega)) (hc 2 (by omega)) (hc 3 (by omega))
  · rw [full_bad_eq _ _ (by rw [h1]; exact hg)]
    exact ref_full_bad largest A n cap w hn hg

/-- How many bytes a number takes, for every two numbers. -/
theorem length_any (n acked : Int) (w : World) :
    Calls Try.prog 9 #[.int .i64 n, .int .i64 acked] w fun e w' => e = .returned (.int .i64 (Pn.length n acked)) ∧ w = w' := by
  by_cases h : Pn.okN n ∧ -1 ≤ acked ∧ acked < n
  · exact length_good n acked w h.1 h.2.1 h.2.2
  · rw [Pn.length_bad n acked h]; exact length_bad n acked w h
theorem ref_length_any (n acked : Int) (w : World) :
    Calls Try.prog 10 #[.int .i64 n, .int .i64 acked] w fun e w' => e = .returned (.int .i64 (Pn.length n acked)) ∧ w = w' := by
  by_cases h : Pn.okN n ∧ -1 ≤ acked ∧ acked < n
  · exact ref_length_good n acked w h.1 h.2.1 h.2.2
  · rw [Pn.length_bad n acked h]; exact ref_length_bad n acked w h

/-- The low bytes, for every number and size. -/
def cutL (n k : Int) : List Int := if Pn.okN n ∧ 1 ≤ k ∧ k ≤ 4 then Pn.cut n k.toNat else []
theorem cutL_good (n : Int) (k : Nat) (hn : Pn.okN n) (h : 1 ≤ k ∧ k ≤ 4) : cutL n k = Pn.cut n k := by
  unfold cutL; rw [if_pos ⟨hn, by omega, by omega⟩]; simp
theorem cut_any (n k : Int) (w : World) :
    Calls Try.prog 12 #[.int .i64 n, .int .i64 k] w fun e w' => ∃ A m, e = .returned (.slice A m m) ∧ Below w.heap.size w w' ∧ Bytes w' A m (cutL n k) ∧ m ≤ 4 := by
  by_cases h : Pn.okN n ∧ 1 ≤ k ∧ k ≤ 4
  · obtain ⟨hn, h1, h4⟩ := h
    have hl : ∀ j : Nat, ∀ c ∈ Pn.cut n j, isByte c := Pn.cut_byte n
    have key : ∀ j : Nat, k = j → 1 ≤ j → j ≤ 4 → (Calls Try.prog 12 #[.int .i64 n, .int .i64 j] w fun e w' => e = .returned (.slice (some ⟨w.heap.size, 0, none⟩) j j) ∧ w' = w.alloc (.cells (cells8 (Pn.cut n j)) 5)) →
        Calls Try.prog 12 #[.int .i64 n, .int .i64 k] w fun e w' => ∃ A m, e = .returned (.slice A m m) ∧ Below w.heap.size w w' ∧ Bytes w' A m (cutL n k) ∧ m ≤ 4 := by
      intro j hj hj1 hj4 hc
      subst hj
      refine hc.mono ?_
      rintro e w' ⟨rfl, rfl⟩
      have hb := Bytes.new w (Pn.cut n j) 5 (hl j)
      rw [Pn.cut_length] at hb
      exact ⟨_, j, rfl, (Below.refl _ _).alloc (Nat.le_refl _) _, by rw [cutL_good n j hn ⟨hj1, hj4⟩]; exact hb, hj4⟩
    obtain rfl | rfl | rfl | rfl : k = 1 ∨ k = 2 ∨ k = 3 ∨ k = 4 := by omega
    · exact key 1 rfl (by decide) (by decide) (cut_1 n w hn)
    · exact key 2 rfl (by decide) (by decide) (cut_2 n w hn)
    · exact key 3 rfl (by decide) (by decide) (cut_3 n w hn)
    · exact key 4 rfl (by decide) (by decide) (cut_4 n w hn)
  · refine (cut_bad n k w h).mono ?_
    rintro e w' ⟨rfl, rfl⟩
    exact ⟨none, 0, rfl, Below.refl _ _, by unfold cutL; rw [if_neg h]; exact Bytes.nil _ _, by decide⟩

theorem ref_cut_any (n k : Int) (w : World) :
    Calls Try.prog 13 #[.int .i64 n, .int .i64 k] w fun e w' => ∃ A m, e = .returned (.slice A m m) ∧ Below w.heap.size w w' ∧ Bytes w' A m (cutL n k) ∧ m ≤ 4 := by
  by_cases h : Pn.okN n ∧ 1 ≤ k ∧ k ≤ 4
  · obtain ⟨hn, h1, h4⟩ := h
    have hl : ∀ j : Nat, ∀ c ∈ Pn.cut n j, isByte c := Pn.cut_byte n
    have key : ∀ j : Nat, k = j → 1 ≤ j → j ≤ 4 → (Calls Try.prog 13 #[.int .i64 n, .int .i64 j] w fun e w' => e = .returned (.slice (some ⟨w.heap.size, 0, none⟩) j j) ∧ w' = w.alloc (.cells (cells8 (Pn.cut n j)) 5)) →
        Calls Try.prog 13 #[.int .i64 n, .int .i64 k] w fun e w' => ∃ A m, e = .returned (.slice A m m) ∧ Below w.heap.size w w' ∧ Bytes w' A m (cutL n k) ∧ m ≤ 4 := by
      intro j hj hj1 hj4 hc
      subst hj
      refine hc.mono ?_
      rintro e w' ⟨rfl, rfl⟩
      have hb := Bytes.new w (Pn.cut n j) 5 (hl j)
      rw [Pn.cut_length] at hb
      exact ⟨_, j, rfl, (Below.refl _ _).alloc (Nat.le_refl _) _, by rw [cutL_good n j hn ⟨hj1, hj4⟩]; exact hb, hj4⟩
    obtain rfl | rfl | rfl | rfl : k = 1 ∨ k = 2 ∨ k = 3 ∨ k = 4 := by omega
    · exact key 1 rfl (by decide) (by decide) (ref_cut_1 n w hn)
    · exact key 2 rfl (by decide) (by decide) (ref_cut_2 n w hn)
    · exact key 3 rfl (by decide) (by decide) (ref_cut_3 n w hn)
    · exact key 4 rfl (by decide) (by decide) (ref_cut_4 n w hn)
  · refine (ref_cut_bad n k w h).mono ?_
    rintro e w' ⟨rfl, rfl⟩
    exact ⟨none, 0, rfl, Below.refl _ _, by unfold cutL; rw [if_neg h]; exact Bytes.nil _ _, by decide⟩

end Go.Proofs.Ytfigedhfoljloaa
