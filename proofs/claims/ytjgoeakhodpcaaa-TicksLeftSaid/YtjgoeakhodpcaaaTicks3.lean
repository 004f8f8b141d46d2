/- The walks of layer 11's Add and Power, of the program and of the document, and of bits.OnesCount64: for every argument and every world. -/
import Derived.Test.YtjgoeakhodpcaaaRows
import Derived.Test.YtjgoeakhodpcaaaPlainTk
import Derived.Test.YtjgoeakhodpcaaaPlainPw
import Derived.Test.YtjgoeakhodpcaaaTicks
import Derived.Test.YtjgoeakhodpcaaaAid
import Derived.WalkKit
import Derived.WalkSpells
import Derived.WalkLawsBesides
import Derived.Deep.QuietTactic
import Derived.BigQuiet
import Derived.Handy
import Derived.Lib.Hide
import Derived.Laws.Externs
namespace Go.Proofs.Ytjgoeakhodpcaaa
open Go.RowKit
set_option linter.unusedVariables false

theorem add64 (x y : Int) (hx : 0 ≤ x) (hy : 0 ≤ y) (w : World) : (callFunc 25 #[.int .u64 x, .int .u64 y, .int .u64 0]).run Try.prog w =
    .ok (.value (.tuple #[.int .u64 ((x + y) % 18446744073709551616), .int .u64 ((x + y) / 18446744073709551616)])) w := by
  rw [run_callFunc_extern Try.func25 (by kernel_rfl) (by kernel_rfl) (by kernel_rfl) (e := add64Entry) (by kernel_rfl), run_add64 x y 0 hx hy (by omega) (by omega)]
  simp [Result.andThen]

set_option maxHeartbeats 400000 in
theorem add_any (a b : Int) (w : World) (ha : 0 ≤ a) (ha1 : a ≤ 18446744073709551615) (hb : 0 ≤ b) (hb1 : b ≤ 18446744073709551615) :
    Calls Try.prog 11 #[.int .u64 a, .int .u64 b] w fun e w' => e = .returned (.int .u64 (Tk.add a b)) ∧ Below w.heap.size w w' := by
  by_cases h : 18446744073709551615 < a + b
  · have HF := Lib.hid (show Tk.add a b = _ from Tk.sat_high _ (by omega))
    have q1 : (a + b) / 18446744073709551616 = 1 := by omega
    go_enter Try.func11, Try.ntmps11
    go_wp2_with (simp only [add64 a b ha hb])
    go_wp2
    go_ret
    exact ⟨(ret_int HF.out).symm, by go_grown⟩
  · have HF := Lib.hid (show Tk.add a b = _ from Tk.sat_low _ (by omega))
    have q1 : (a + b) / 18446744073709551616 = 0 := by omega
    have q2 : (a + b) % 18446744073709551616 = a + b := by omega
    go_enter Try.func11, Try.ntmps11
    go_wp2_with (simp only [add64 a b ha hb])
    go_wp2
    go_ret
    exact ⟨(ret_int HF.out).symm, by go_grown⟩

/-- One step of the count of ones. -/
theorem and_term (n : Nat) (x : Int) (m : Nat) (hx : x = (n : Int)) (hn : n < 18446744073709551616) (hm : m < 18446744073709551616) : bits .and .u64 x (m : Int) = ((n &&& m : Nat) : Int) := by
  subst hx; exact u64_and_nat n m hn hm

set_option maxHeartbeats 1000000 in
theorem ones_any (n : Nat) (w : World) (hn : n < 18446744073709551616) :
    Calls Try.prog 29 #[.int .u64 (n : Int)] w fun e w' => e = .returned (.int .i64 (Pw.swar n : Nat)) ∧ w = w' := by
  obtain ⟨A, hA⟩ : ∃ A, (n / 2) &&& 6148914691236517205 = A := ⟨_, rfl⟩
  obtain ⟨B, hB⟩ : ∃ B, n &&& 6148914691236517205 = B := ⟨_, rfl⟩
  have bA : A ≤ 6148914691236517205 := by rw [← hA]; exact Nat.and_le_right
  have bB : B ≤ 6148914691236517205 := by rw [← hB]; exact Nat.and_le_right
  have q1 : bits .and .u64 ((n : Int) / 2) 6148914691236517205 = (A : Int) := by rw [← hA]; exact and_term (n / 2) _ 6148914691236517205 (by omega) (by omega) (by decide)
  have q2 : bits .and .u64 (n : Int) 6148914691236517205 = (B : Int) := by rw [← hB]; exact and_term n _ 6148914691236517205 rfl hn (by decide)
  have S1 : Pw.stepA 8 n = A + B := by unfold Pw.stepA; rw [Pw.rep85, hA, hB]
  obtain ⟨C, hC⟩ : ∃ C, ((A + B) / 4) &&& 3689348814741910323 = C := ⟨_, rfl⟩
  obtain ⟨D, hD⟩ : ∃ D, (A + B) &&& 3689348814741910323 = D := ⟨_, rfl⟩
  have bC : C ≤ 3689348814741910323 := by rw [← hC]; exact Nat.and_le_right
  have bD : D ≤ 3689348814741910323 := by rw [← hD]; exact Nat.and_le_right
  have q3 : bits .and .u64 (((A : Int) + (B : Int)) / 4) 3689348814741910323 = (C : Int) := by rw [← hC]; exact and_term ((A + B) / 4) _ 3689348814741910323 (by omega) (by omega) (by decide)
  have q4 : bits .and .u64 ((A : Int) + (B : Int)) 3689348814741910323 = (D : Int) := by rw [← hD]; exact and_term (A + B) _ 3689348814741910323 (by omega) (by omega) (by decide)
  have S2 : Pw.stepB 8 (A + B) = C + D := by unfold Pw.stepB; rw [Pw.rep51, hC, hD]
  obtain ⟨E, hE⟩ : ∃ E, ((C + D) / 16 + (C + D)) &&& 1085102592571150095 = E := ⟨_, rfl⟩
  have bE : E ≤ 1085102592571150095 := by rw [← hE]; exact Nat.and_le_right
  have q5 : bits .and .u64 (((C : Int) + (D : Int)) / 16 + ((C : Int) + (D : Int))) 1085102592571150095 = (E : Int) := by rw [← hE]; exact and_term ((C + D) / 16 + (C + D)) _ 1085102592571150095 (by omega) (by omega) (by decide)
  have S3 : Pw.stepC 8 (C + D) = E := by unfold Pw.stepC; rw [Pw.rep15, hE]
  clear hA hB hC hD hE
  have HF : Hid (Pw.swar n = (E + E / 256 + (E + E / 256) / 65536 + (E + E / 256 + (E + E / 256) / 65536) / 4294967296) % 128) := by unfold Hid Pw.swar; rw [S1, S2, S3]
  clear S1 S2 S3
  go_enter Try.func29, Try.ntmps29
  go_wp2
  go_ret
  refine ⟨ret_int ?_, rfl⟩
  rw [HF.out]
  exact (bits_mask .i64 63 (by decide) (fun n h₀ h₁ => by rw [IntKind.wrap_i64]; omega) 7 (by decide) _ (by omega) (by omega)).trans (by omega)

theorem power_any (n : Int) (w : World) (h0 : 0 ≤ n) (h1 : n ≤ 18446744073709551615) :
    Calls Try.prog 18 #[.int .u64 n] w fun e w' => e = .returned (.bool (Pw.pw n.toNat)) ∧ w = w' := by
  obtain ⟨n, rfl⟩ := Int.eq_ofNat_of_zero_le h0
  have hs := Pw.swar_one n (by omega)
  have HP : Hid ((((Pw.swar n : Nat) : Int) == 1) = Pw.pw n) := by
    unfold Hid
    rw [Bool.eq_iff_iff, ← hs]
    simp; omega
  clear hs
  go_enter Try.func18, Try.ntmps18
  go_wp2_with (go_at_call 29; refine (ones_any n _ (by omega)).mono ?_; rintro e w' ⟨rfl, rfl⟩)
  go_ret
  exact ⟨ret_bool HP.out, rfl⟩

theorem refPower_any (n : Int) (w : World) (h0 : 0 ≤ n) (h1 : n ≤ 18446744073709551615) :
    Calls Try.prog 19 #[.int .u64 n] w fun e w' => e = .returned (.bool (Pw.pw n.toNat)) ∧ w = w' := by
  obtain ⟨m, rfl⟩ := Int.eq_ofNat_of_zero_le h0
  rw [Int.toNat_natCast]
  go_enter Try.func19, Try.ntmps19
  go_wp2
  go_loop [0] (fun x => ∃ k : Nat, k ≤ m ∧ x = .int .u64 k ∧ Hid (Pw.pw k = Pw.pw m)) (fun x => (intOf x).toNat)
  case atStart => exact ⟨m, Nat.le_refl _, rfl, rfl⟩
  case round =>
    obtain ⟨k, hk, rfl, HP⟩ := hrel
    by_cases hd : 1 < k ∧ k % 2 = 0
    · obtain ⟨hd1, hd2⟩ := hd
      have HH := Lib.hid (Pw.pw_half k hd1 hd2)
      have g1 : (1 : Int) < (k : Int) := by omega
      have g2 : ((k : Int) % 2 == 0) = true := by simp; omega
      have g3 : ((k : Int) / 2) = ((k / 2 : Nat) : Int) := by omega
      have HG := Lib.hid g3
      clear hd2 g3
      go_wp2
      go_round
      case rel => exact ⟨k / 2, by omega, by rw [HG.out], HH.out.symm.trans HP.out⟩
      case measure => simp [intOf]; omega
    · have HO := Lib.hid (Pw.pw_odd k (by omega))
      have HE : Hid (((k : Int) == 1) = decide (k = 1)) := by unfold Hid; rw [Bool.eq_iff_iff]; simp; omega
      by_cases h1k : (1 : Int) < (k : Int)
      · have g2 : ((k : Int) % 2 == 0) = false := by simp; omega
        clear hd
        go_wp2
        go_ret
        exact ⟨ret_bool (HE.out.trans (HO.out.symm.trans HP.out)), rfl⟩
      · have g1 : decide ((1 : Int) < (k : Int)) = false := by simp; omega
        clear hd h1k
        go_wp2
        go_ret
        exact ⟨ret_bool (HE.out.trans (HO.out.symm.trans HP.out)), rfl⟩

end Go.Proofs.Ytjgoeakhodpcaaa
