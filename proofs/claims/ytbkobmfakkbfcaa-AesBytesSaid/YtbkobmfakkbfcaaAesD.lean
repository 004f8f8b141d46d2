/- The document's box, and AesBytes, walked. -/
import Derived.Test.YtbkobmfakkbfcaaRows
import Derived.Test.YtbkobmfakkbfcaaAid
import Derived.Test.YtbkobmfakkbfcaaPlainAe
import Derived.Test.YtbkobmfakkbfcaaPlainAe4
import Derived.Test.YtbkobmfakkbfcaaAesB
import Derived.Test.YtbkobmfakkbfcaaAesBox
import Derived.Test.YtbkobmfakkbfcaaAesA
import Derived.WalkKit
import Derived.Laws.BitsAllLaws
import Derived.WalkSpells
import Derived.WalkLawsBesides
import Derived.Handy
import Derived.Lib.Hide
namespace Go.Proofs.Ytbkobmfakkbfcaa
open Go.RowKit
set_option linter.unusedVariables false
set_option linter.unusedSimpArgs false

set_option maxRecDepth 100000 in
set_option maxHeartbeats 1000000 in
theorem refBox_any (A : Nat) (w : World) (hA : A < 256) :
    Calls Try.prog 14 #[.int .u8 (A : Int)] w fun e w' => e = .returned (.int .u8 (Ae.box A : Nat)) ∧ w = w' := by
  have HI := Lib.hid (Ae.srch_inv A hA)
  have HX := Ae.inv_lt A hA
  have HBX := Lib.hid (show Ae.box A = Ae.boxL (Ae.inv A) 4 from rfl)
  go_enter Try.func14, Try.ntmps14
  go_wp2
  go_loop [3, 4] (fun x b => ∃ m : Nat, m ≤ 255 ∧ b = .int .i64 ((m + 1 : Nat) : Int) ∧ x = .int .i64 ((Ae.srch A m : Nat) : Int)) (fun _ b => 256 - (intOf b).toNat)
  case atStart => exact ⟨0, by omega, rfl, rfl⟩
  case round =>
    obtain ⟨m, hm, rfl, rfl⟩ := hrel
    have hc : ((m + 1 : Nat) : Int) = (m : Int) + 1 := by omega
    have HC := Lib.hid hc
    have hs := Ae.srch_le A m
    rw [HC.out]
    clear hc
    by_cases hlt : m < 255
    · have HS := Lib.hid (show Ae.srch A (m + 1) = if Ae.mul A (m + 1) = 1 then m + 1 else Ae.srch A m from rfl)
      have hml := Ae.mul_lt A (m + 1) hA
      have hmt := fun w' => refTimes_any A (m + 1) w' hA (by omega)
      rw [HC.out] at hmt
      have HMT := Lib.hid hmt
      clear hmt
      by_cases h1 : Ae.mul A (m + 1) = 1
      · have t1 : ((Ae.mul A (m + 1) : Int) == 1) = true := by rw [h1]; rfl
        have HS2 := Lib.hid (HS.out.trans (if_pos h1))
        clear h1 HS
        generalize Ae.mul A (m + 1) = p at *
        go_wp2_with fail
        refine (HMT.out _).mono ?_
        rintro e wn ⟨rfl, rfl⟩
        go_wp2
        go_round
        case rel => exact ⟨m + 1, by omega, by go_num, by rw [HS2.out]; go_num⟩
        case measure => simp [intOf]; omega
      · have t1 : ((Ae.mul A (m + 1) : Int) == 1) = false := by simp; omega
        have HS2 := Lib.hid (HS.out.trans (if_neg h1))
        clear h1 HS
        generalize Ae.mul A (m + 1) = p at *
        go_wp2_with fail
        refine (HMT.out _).mono ?_
        rintro e wn ⟨rfl, rfl⟩
        go_wp2
        go_round
        case rel => exact ⟨m + 1, by omega, by go_num, by rw [HS2.out]⟩
        case measure => simp [intOf]; omega
    · obtain rfl : m = 255 := by omega
      rw [HI.out]
      generalize Ae.inv A = X at *
      have HX0 := Lib.hid (i64_xor X 99 (by omega) (by decide))
      have HR0 := Lib.hid (Ae.rot_zero X HX)
      clear hlt hm hs
      go_wp2
      go_loop [3, 5, 6] (fun x o i => ∃ k : Nat, k ≤ 4 ∧ i = .int .i64 k ∧ x = .int .i64 ((Ae.rot X k : Nat) : Int) ∧ o = .int .i64 ((Ae.boxL X k : Nat) : Int)) (fun _ _ i => 4 - (intOf i).toNat)
      case atStart => exact ⟨0, by omega, rfl, by rw [HR0.out], val_i64 HX0.out⟩
      case round =>
        obtain ⟨k, hk, rfl, rfl, rfl⟩ := hrel
        have hb := boxL_lt X HX k hk
        have hr := Ae.rot_small k (by omega) X HX
        by_cases hlt : k < 4
        · have HN := Ae.rot_next k hlt X HX
          have hr2 := Ae.rot_small (k + 1) (by omega) X HX
          have HB := Lib.hid (show Ae.boxL X (k + 1) = Ae.boxL X k ^^^ Ae.rot X (k + 1) from rfl)
          have HX2 := Lib.hid (i64_xor (Ae.boxL X k) (Ae.rot X (k + 1)) (by omega) (by omega))
          obtain ⟨r2, he⟩ : ∃ r, Ae.rot X (k + 1) = r := ⟨_, rfl⟩
          rw [he] at HN hr2 HB HX2
          have HRR := Lib.hid he
          clear he
          have hN2 : (Ae.rot X k : Int) * 2 % 256 + (Ae.rot X k : Int) / 128 = (r2 : Int) := by omega
          clear HN
          generalize Ae.rot X k = r1 at *
          go_wp2
          go_round
          case rel => exact ⟨k + 1, by omega, by go_num, by rw [HRR.out], by rw [HB.out]; exact val_i64 HX2.out⟩
          case measure => simp [intOf]; omega
        · obtain rfl : k = 4 := by omega
          rw [← HBX.out] at hb ⊢
          go_wp2
          go_ret
          exact ⟨rfl, rfl⟩

set_option maxHeartbeats 1000000 in
theorem aesBytes_walk (a0 a1 : Int) (w : World) (w0 : (Lit.int .u8 a0).wf = true) (w1 : (Lit.int .u8 a1).wf = true) :
    Calls Try.prog 3 #[.int .u8 a0, .int .u8 a1] w fun e w' => e = .returned (.bool true) ∧ Below w.heap.size w w' := by
  obtain ⟨b0, c0⟩ := bounds_u8 w0
  obtain ⟨b1, c1⟩ := bounds_u8 w1
  clear w0 w1
  obtain ⟨x, rfl⟩ := Int.eq_ofNat_of_zero_le b0
  obtain ⟨y, rfl⟩ := Int.eq_ofNat_of_zero_le b1
  have hx : x < 256 := by omega
  have hy : y < 256 := by omega
  clear b0 c0 b1 c1
  go_enter Try.func3, Try.ntmps3
  go_wp2_with fail
  refine (alive_true _).mono ?_
  rintro e w1 ⟨rfl, hb1⟩
  go_wp2_with fail
  refine (mul_any x y _ hx hy).mono ?_
  rintro e wn ⟨rfl, rfl⟩
  go_wp2_with fail
  refine (refTimes_any x y _ hx hy).mono ?_
  rintro e wn ⟨rfl, rfl⟩
  go_wp2_with fail
  refine (box_any x _ hx).mono ?_
  rintro e w2 ⟨rfl, hb2⟩
  have HL := Lib.hid (hb1.trans (hb2.mono hb1.size))
  clear hb1 hb2
  go_wp2_with fail
  refine (refBox_any x _ hx).mono ?_
  rintro e wn ⟨rfl, rfl⟩
  go_wp2
  go_ret
  exact ⟨rfl, HL.out⟩

end Go.Proofs.Ytbkobmfakkbfcaa
