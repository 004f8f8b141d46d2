/- The walks of layer 11's sums and backoffs, of the program and of the document: what each returns, for every argument and every world. -/
import Derived.Test.YtjgoeakhodpcaaaRows
import Derived.Test.YtjgoeakhodpcaaaShelf
import Derived.Test.YtjgoeakhodpcaaaPlainTk
import Derived.Test.YtjgoeakhodpcaaaAid
import Derived.WalkKit
import Derived.WalkSpells
import Derived.WalkLawsBesides
import Derived.Deep.QuietTactic
import Derived.BigQuiet
import Derived.Handy
import Derived.Lib.Hide
namespace Go.Proofs.Ytjgoeakhodpcaaa
open Go.RowKit
set_option linter.unusedVariables false

theorem leading64 (x : Int) (w : World) (h0 : 0 ≤ x) (h1 : x ≤ 18446744073709551615) :
    Calls Try.prog 28 #[.int .u64 x] w fun e w' => e = .returned (.int .i64 (64 - (Lib.bitLen x.toNat : Int))) ∧ w = w' :=
  (Try.bits_LeadingZeros64 x w h0 h1).mono fun _ _ ⟨he, hw⟩ => ⟨he, hw.symm⟩

set_option maxHeartbeats 400000 in
theorem refAdd_any (a b : Int) (w : World) (ha : 0 ≤ a) (ha1 : a ≤ 18446744073709551615) (hb : 0 ≤ b) (hb1 : b ≤ 18446744073709551615) :
    Calls Try.prog 12 #[.int .u64 a, .int .u64 b] w fun e w' => e = .returned (.int .u64 (Tk.add a b)) ∧ w = w' := by
  by_cases h : 18446744073709551615 - a < b
  · have HF := Lib.hid (show Tk.add a b = _ from Tk.sat_high _ (by omega))
    go_enter Try.func12, Try.ntmps12
    go_wp2
    go_ret
    exact ⟨(ret_int HF.out).symm, rfl⟩
  · have HF := Lib.hid (show Tk.add a b = _ from Tk.sat_low _ (by omega))
    go_enter Try.func12, Try.ntmps12
    go_wp2
    go_ret
    exact ⟨(ret_int HF.out).symm, rfl⟩

set_option maxHeartbeats 400000 in
theorem refBackoff_any (t c : Int) (w : World) (ht : 0 ≤ t) (ht1 : t ≤ 18446744073709551615) (hc0 : -9223372036854775808 ≤ c) (hc1 : c ≤ 9223372036854775807) :
    Calls Try.prog 17 #[.int .u64 t, .int .i64 c] w fun e w' => e = .returned (.int .u64 (Tk.bko t c)) ∧ w = w' := by
  have HF := Lib.hid (show Tk.bko t c = Tk.sat (t * 2 ^ (min c.toNat 70)) from rfl)
  obtain ⟨m, hm⟩ : ∃ m, min c.toNat 70 = m := ⟨_, rfl⟩
  rw [hm] at HF
  have hm70 : m ≤ 70 := by omega
  have hmc : (m : Int) ≤ c ∨ m = 0 := by omega
  have hmm : (m : Int) < 70 → c ≤ m := by omega
  have h0 := Tk.sat_low t ht1
  have H0 := Lib.hid (show Tk.sat (t * 2 ^ 0) = t by simpa using h0)
  clear h0 hm
  go_enter Try.func17, Try.ntmps17
  go_wp2
  go_loop [0, 5] (fun x i => ∃ k : Nat, k ≤ m ∧ i = .int .i64 k ∧ x = .int .u64 (Tk.sat (t * 2 ^ k))) (fun _ i => m - (intOf i).toNat)
  case atStart => exact ⟨0, by omega, rfl, by rw [H0.out]⟩
  case round =>
    obtain ⟨k, hk, rfl, rfl⟩ := hrel
    have hb := Tk.sat_bound (t * 2 ^ k) (Int.mul_nonneg ht (by exact_mod_cast Nat.zero_le _))
    have HS := Lib.hid (Tk.sat_step t k ht)
    obtain ⟨x, hx⟩ : ∃ x, Tk.sat (t * 2 ^ k) = x := ⟨_, rfl⟩
    rw [hx] at hb HS
    rw [hx]
    obtain ⟨hb0, hb1⟩ := hb
    have HX := Lib.hid hx
    clear hx
    by_cases hlt : k < m
    · have g1 : (k : Int) < c := by omega
      have g2 : (k : Int) < 70 := by omega
      go_wp2_with (go_at_call 12; refine (refAdd_any _ _ _ (by omega) (by omega) (by omega) (by omega)).mono ?_; rintro e w' ⟨rfl, rfl⟩)
      go_round
      case rel => exact ⟨k + 1, by omega, by go_num, by rw [← HS.out]; rfl⟩
      case measure => simp [intOf]; omega
    · obtain rfl : k = m := by omega
      by_cases h70 : (k : Int) < 70
      · have g1 : ¬ (k : Int) < c := by have := hmm h70; omega
        have g1' : decide ((k : Int) < c) = false := by simp; omega
        go_wp2
        go_ret
        exact ⟨(ret_int (HF.out.trans HX.out)).symm, rfl⟩
      · obtain rfl : k = 70 := by omega
        have g1 : (70 : Int) < c ∨ c ≤ 70 := by omega
        rcases g1 with g1 | g1
        all_goals
          go_wp2
          go_ret
          exact ⟨(ret_int (HF.out.trans HX.out)).symm, rfl⟩

set_option maxHeartbeats 400000 in
theorem backoff_any (t c : Int) (w : World) (ht : 0 ≤ t) (ht1 : t ≤ 18446744073709551615) (hc0 : -9223372036854775808 ≤ c) (hc1 : c ≤ 9223372036854775807) :
    Calls Try.prog 16 #[.int .u64 t, .int .i64 c] w fun e w' => e = .returned (.int .u64 (Tk.bko t c)) ∧ w = w' := by
  by_cases hc : c < 1
  · have HF := Lib.hid (Tk.bko_zero t c ht ht1 hc)
    go_enter Try.func16, Try.ntmps16
    go_wp2
    go_ret
    exact ⟨(ret_int HF.out).symm, rfl⟩
  have g1 : decide (c < 1) = false := by simp; omega
  have hc' : 1 ≤ c := by omega
  clear hc
  by_cases h0 : t = 0
  · subst h0
    have HF := Lib.hid (Tk.bko_none c)
    go_enter Try.func16, Try.ntmps16
    go_wp2
    go_ret
    exact ⟨(ret_int HF.out).symm, rfl⟩
  have h1 : 0 < t := by omega
  have h0' : (t == 0) = false := by simp; omega
  have hb := (Tk.bitLen_lt 64 t.toNat (by omega)).1 (by omega)
  clear h0
  by_cases h2 : 64 - (Lib.bitLen t.toNat : Int) < c
  · have HF := Lib.hid (Tk.bko_high t c h1 ht1 h2)
    go_enter Try.func16, Try.ntmps16
    go_wp2_with (go_at_call 28; refine (leading64 _ _ (by omega) (by omega)).mono ?_; rintro e w' ⟨rfl, rfl⟩)
    go_ret
    exact ⟨(ret_int HF.out).symm, rfl⟩
  · obtain ⟨hf, hf0, hf1⟩ := Tk.bko_low t c ht ht1 hc' (by omega)
    have HF := Lib.hid hf
    clear hf
    go_enter Try.func16, Try.ntmps16
    go_wp2_with (go_at_call 28; refine (leading64 _ _ (by omega) (by omega)).mono ?_; rintro e w' ⟨rfl, rfl⟩)
    go_ret
    exact ⟨(ret_int HF.out).symm, rfl⟩

end Go.Proofs.Ytjgoeakhodpcaaa
