/- Layer 8's bytes, walked: products, inverses, boxes, of the program and of the document. -/
import Derived.Test.YtnphanhoakbkpaaRows
import Derived.Test.YtnphanhoakbkpaaAid
import Derived.Test.YtnphanhoakbkpaaPlainAe
import Derived.WalkKit
import Derived.Laws.BitsAllLaws
import Derived.WalkSpells
import Derived.WalkLawsBesides
import Derived.Deep.QuietTactic
import Derived.BigQuiet
import Derived.Handy
import Derived.Lib.Hide
import Derived.StillTailTactics
import Derived.Deep.RegionHeld3
namespace Go.Proofs.Ytnphanhoakbkpaa
open Go.RowKit
set_option linter.unusedVariables false
set_option linter.unusedSimpArgs false

theorem u8_and1 (b : Nat) (h : b < 256) : bits .and .u8 (b : Int) 1 = ((b % 2 : Nat) : Int) := by
  have := u8_and_nat b 1 h (by decide)
  rw [Nat.and_one_is_mod] at this
  exact this
theorem u8_xt (a : Nat) (h : a < 256) : bits .xor .u8 ((a : Int) * 2 % 256) ((a : Int) / 128 * 27) = ((Ae.xt a : Nat) : Int) := by
  have e1 : (a : Int) * 2 % 256 = ((a * 2 % 256 : Nat) : Int) := by omega
  have e2 : (a : Int) / 128 * 27 = ((a / 128 * 27 : Nat) : Int) := by omega
  rw [e1, e2, u8_xor_nat _ _ (by omega) (by omega)]
  have : ∀ a, a < 256 → (a * 2 % 256) ^^^ (a / 128 * 27) = Ae.xt a := by decide +kernel
  rw [this a h]
theorem val_u8 {a b : Int} (h : a = b) : Value.int .u8 a = Value.int .u8 b := by rw [h]

set_option maxHeartbeats 1000000 in
theorem mul_any (A B : Nat) (w : World) (hA : A < 256) (hB : B < 256) :
    Calls Try.prog 45 #[.int .u8 (A : Int), .int .u8 (B : Int)] w fun e w' => e = .returned (.int .u8 (Ae.mul A B : Nat)) ∧ w = w' := by
  go_enter Try.func45, Try.ntmps45
  go_wp2
  go_loop [0, 1, 5] (fun x y z => ∃ f a b p : Nat, a < 256 ∧ b < 256 ∧ p < 256 ∧ Hid (b < 2 ^ f) ∧ x = .int .u8 (a : Nat) ∧ y = .int .u8 (b : Nat) ∧ z = .int .u8 (p : Nat) ∧ Hid (p ^^^ Ae.mulF f a b = Ae.mul A B)) (fun _ y _ => (intOf y).toNat)
  case atStart => exact ⟨8, A, B, 0, hA, hB, by omega, by show B < 256; omega, rfl, rfl, rfl, Nat.zero_xor _⟩
  case round =>
    obtain ⟨f, a, b, p, ha, hb, hp, HB, rfl, rfl, rfl, HM⟩ := hrel
    by_cases h0 : 0 < b
    · obtain ⟨g, rfl⟩ : ∃ g, f = g + 1 := ⟨f - 1, by have := HB.out; cases f <;> simp at this ⊢; omega⟩
      have HB2 : Hid (b / 2 < 2 ^ g) := by have := HB.out; unfold Hid; rw [Nat.pow_succ] at this; omega
      have HX := Lib.hid (u8_xt a ha)
      have HP := Lib.hid (u8_xor_nat p a hp ha)
      have hx := Ae.xt_lt a ha
      have hpx := Ae.xor_lt hp ha
      have hand := u8_and1 b hb
      rcases Nat.mod_two_eq_zero_or_one b with h2 | h2
      · have hbit : (bits .and .u8 (b : Int) 1 == 1) = false := by rw [hand, h2]; rfl
        have HM2 : Hid (p ^^^ Ae.mulF g (Ae.xt a) (b / 2) = Ae.mul A B) := by have := HM.out; unfold Ae.mulF at this; rw [if_neg (by omega), Nat.zero_xor] at this; exact this
        clear hand h2
        go_wp2
        go_round
        case rel => exact ⟨g, Ae.xt a, b / 2, p, hx, by omega, hp, HB2, val_u8 HX.out, by go_num, rfl, HM2⟩
        case measure => simp [intOf]; omega
      · have hbit : (bits .and .u8 (b : Int) 1 == 1) = true := by rw [hand, h2]; rfl
        have HM2 : Hid ((p ^^^ a) ^^^ Ae.mulF g (Ae.xt a) (b / 2) = Ae.mul A B) := by have := HM.out; unfold Ae.mulF at this; rw [if_pos h2, ← Nat.xor_assoc] at this; exact this
        clear hand h2
        go_wp2
        go_round
        case rel => exact ⟨g, Ae.xt a, b / 2, p ^^^ a, hx, by omega, hpx, HB2, val_u8 HX.out, by go_num, val_u8 HP.out, HM2⟩
        case measure => simp [intOf]; omega
    · obtain rfl : b = 0 := by omega
      go_wp2
      go_ret
      exact ⟨ret_int (by rw [← HM.out, Ae.mulF_zero, Nat.xor_zero]), rfl⟩

theorem invL_lt (a : Nat) (h : a < 256) : ∀ k, (Ae.invL a k).1 < 256 ∧ (Ae.invL a k).2 < 256
  | 0 => ⟨h, by show 1 < 256; decide⟩
  | k + 1 => ⟨Ae.mul_lt _ _ (invL_lt a h k).1, Ae.mul_lt _ _ (invL_lt a h k).2⟩
set_option maxHeartbeats 1000000 in
theorem inverse_any (A : Nat) (w : World) (hA : A < 256) :
    Calls Try.prog 50 #[.int .u8 (A : Int)] w fun e w' => e = .returned (.int .u8 (Ae.inv A : Nat)) ∧ w = w' := by
  go_enter Try.func50, Try.ntmps50
  go_wp2
  go_loop [0, 3, 4] (fun x y i => ∃ k : Nat, k ≤ 7 ∧ i = .int .i64 k ∧ x = .int .u8 ((Ae.invL A k).1 : Nat) ∧ y = .int .u8 ((Ae.invL A k).2 : Nat)) (fun _ _ i => 7 - (intOf i).toNat)
  case atStart => exact ⟨0, by omega, rfl, rfl, rfl⟩
  case round =>
    obtain ⟨k, hk, rfl, rfl, rfl⟩ := hrel
    obtain ⟨h1, h2⟩ := invL_lt A hA k
    have HS := Lib.hid (show Ae.invL A (k + 1) = Ae.invS (Ae.invL A k) from rfl)
    by_cases hlt : k < 7
    · generalize Ae.invL A k = q at *
      obtain ⟨x, y⟩ := q
      dsimp only at *
      have hxx := Ae.mul_lt x x h1
      go_wp2_with fail
      refine (mul_any x x _ h1 h1).mono ?_
      rintro e wn ⟨rfl, rfl⟩
      go_wp2_with fail
      refine (mul_any y (Ae.mul x x) _ h2 hxx).mono ?_
      rintro e wn ⟨rfl, rfl⟩
      go_wp2
      go_round
      case rel => exact ⟨k + 1, by omega, by go_num, by rw [HS.out]; rfl, by rw [HS.out]; rfl⟩
      case measure => simp [intOf]; omega
    · obtain rfl : k = 7 := by omega
      have HE := Lib.hid (show (Ae.invL A 7).2 = Ae.inv A from rfl)
      clear HS
      generalize Ae.invL A 7 = q at *
      obtain ⟨x, y⟩ := q
      dsimp only at h1 h2 HE ⊢
      go_wp2
      go_ret
      exact ⟨ret_int (by rw [HE.out]), rfl⟩

theorem i64_xor (a b : Nat) (ha : a < 4611686018427387904) (hb : b < 4611686018427387904) : bits .xor .i64 (a : Int) (b : Int) = ((a ^^^ b : Nat) : Int) := by
  have h := Nat.xor_lt_two_pow (n := 62) ha hb
  show IntKind.i64.wrap ((BitVec.ofInt 64 (a : Int) ^^^ BitVec.ofInt 64 (b : Int)).toNat : Int) = _
  rw [BitVec.toNat_xor, BitVec.ofInt_natCast, BitVec.ofInt_natCast, BitVec.toNat_ofNat, BitVec.toNat_ofNat, Nat.mod_eq_of_lt (show a < 2 ^ 64 by omega), Nat.mod_eq_of_lt (show b < 2 ^ 64 by omega), IntKind.wrap_i64]
  omega
theorem val_i64 {a b : Int} (h : a = b) : Value.int .i64 a = Value.int .i64 b := by rw [h]

set_option maxHeartbeats 1000000 in
theorem refTimes_any (A B : Nat) (w : World) (hA : A < 256) (hB : B < 256) :
    Calls Try.prog 49 #[.int .u8 (A : Int), .int .u8 (B : Int)] w fun e w' => e = .returned (.int .u8 (Ae.mul A B : Nat)) ∧ w = w' := by
  go_enter Try.func49, Try.ntmps49
  go_wp2
  go_loop [5, 6, 7] (fun x y z => ∃ f a b p : Nat, a < 256 ∧ b < 256 ∧ p < 256 ∧ Hid (b < 2 ^ f) ∧ x = .int .i64 (a : Nat) ∧ y = .int .i64 (b : Nat) ∧ z = .int .i64 (p : Nat) ∧ Hid (p ^^^ Ae.mulF f a b = Ae.mul A B)) (fun _ y _ => (intOf y).toNat)
  case atStart => exact ⟨8, A, B, 0, hA, hB, by omega, by show B < 256; omega, rfl, rfl, rfl, Nat.zero_xor _⟩
  case round =>
    obtain ⟨f, a, b, p, ha, hb, hp, HB, rfl, rfl, rfl, HM⟩ := hrel
    by_cases h0 : 0 < b
    · obtain ⟨g, rfl⟩ : ∃ g, f = g + 1 := ⟨f - 1, by have := HB.out; cases f <;> simp at this ⊢; omega⟩
      have HB2 : Hid (b / 2 < 2 ^ g) := by have := HB.out; unfold Hid; rw [Nat.pow_succ] at this; omega
      have HP := Lib.hid (i64_xor p a (by omega) (by omega))
      have hx := Ae.xt_lt a ha
      have hpx := Ae.xor_lt hp ha
      rcases Nat.mod_two_eq_zero_or_one b with h2 | h2
      · have hbit : ((b : Int) % 2 == 1) = false := by rw [show (b : Int) % 2 = 0 by omega]; rfl
        have HM2 : Hid (p ^^^ Ae.mulF g (Ae.xt a) (b / 2) = Ae.mul A B) := by have := HM.out; unfold Ae.mulF at this; rw [if_neg (by omega), Nat.zero_xor] at this; exact this
        clear h2
        by_cases h128 : 255 < (a : Int) * 2
        · have HX : Hid (bits .xor .i64 ((a : Int) * 2) 283 = ((Ae.xt a : Nat) : Int)) := by
            have := i64_xor (a * 2) 283 (by omega) (by omega)
            unfold Hid Ae.xt; rw [if_neg (by omega), Nat.mul_comm 2, ← this]; simp
          go_wp2
          go_round
          case rel => exact ⟨g, Ae.xt a, b / 2, p, hx, by omega, hp, HB2, val_i64 HX.out, by go_num, rfl, HM2⟩
          case measure => simp [intOf]; omega
        · have HX : Hid ((a : Int) * 2 = ((Ae.xt a : Nat) : Int)) := by unfold Hid Ae.xt; rw [if_pos (by omega)]; omega
          go_wp2
          go_round
          case rel => exact ⟨g, Ae.xt a, b / 2, p, hx, by omega, hp, HB2, val_i64 HX.out, by go_num, rfl, HM2⟩
          case measure => simp [intOf]; omega
      · have hbit : ((b : Int) % 2 == 1) = true := by rw [show (b : Int) % 2 = 1 by omega]; rfl
        have HM2 : Hid ((p ^^^ a) ^^^ Ae.mulF g (Ae.xt a) (b / 2) = Ae.mul A B) := by have := HM.out; unfold Ae.mulF at this; rw [if_pos h2, ← Nat.xor_assoc] at this; exact this
        clear h2
        by_cases h128 : 255 < (a : Int) * 2
        · have HX : Hid (bits .xor .i64 ((a : Int) * 2) 283 = ((Ae.xt a : Nat) : Int)) := by
            have := i64_xor (a * 2) 283 (by omega) (by omega)
            unfold Hid Ae.xt; rw [if_neg (by omega), Nat.mul_comm 2, ← this]; simp
          go_wp2
          go_round
          case rel => exact ⟨g, Ae.xt a, b / 2, p ^^^ a, hx, by omega, hpx, HB2, val_i64 HX.out, by go_num, val_i64 HP.out, HM2⟩
          case measure => simp [intOf]; omega
        · have HX : Hid ((a : Int) * 2 = ((Ae.xt a : Nat) : Int)) := by unfold Hid Ae.xt; rw [if_pos (by omega)]; omega
          go_wp2
          go_round
          case rel => exact ⟨g, Ae.xt a, b / 2, p ^^^ a, hx, by omega, hpx, HB2, val_i64 HX.out, by go_num, val_i64 HP.out, HM2⟩
          case measure => simp [intOf]; omega
    · obtain rfl : b = 0 := by omega
      have HE := Lib.hid (show p = Ae.mul A B by rw [← HM.out, Ae.mulF_zero, Nat.xor_zero])
      clear HM HB h0
      go_wp2
      go_ret
      exact ⟨ret_int (by rw [← HE.out]), rfl⟩

theorem u8_rot (n : Nat) (hn : 1 ≤ n ∧ n ≤ 4) (x : Nat) (hx : x < 256) : bits .or .u8 ((x : Int) * 2 ^ n % 256) ((x : Int) / 2 ^ (8 - n)) = ((Ae.rot x n : Nat) : Int) := by
  have key : ∀ n, n < 5 → 1 ≤ n → ∀ x, x < 256 → (x * 2 ^ n % 256) ||| (x / 2 ^ (8 - n)) = Ae.rot x n ∧ x / 2 ^ (8 - n) < 256 := by decide +kernel
  obtain ⟨k1, k2⟩ := key n (by omega) hn.1 x hx
  have e1 : (x : Int) * 2 ^ n % 256 = ((x * 2 ^ n % 256 : Nat) : Int) := by simp
  have e2 : (x : Int) / 2 ^ (8 - n) = ((x / 2 ^ (8 - n) : Nat) : Int) := by simp
  rw [e1, e2, u8_or_nat _ _ (Nat.mod_lt _ (by decide)) k2, k1]
set_option maxHeartbeats 400000 in
theorem rot1_any (x : Nat) (w : World) (hx : x < 256) :
    Calls Try.prog 52 #[.int .u8 (x : Int), .int .i64 1] w fun e w' => e = .returned (.int .u8 (Ae.rot x 1 : Nat)) ∧ w = w' := by
  have hb : bits .and .u64 1 7 = 1 := by decide
  have HR := Lib.hid (u8_rot 1 (by omega) x hx)
  go_enter Try.func52, Try.ntmps52
  go_wp2
  go_ret
  exact ⟨(ret_int HR.out.symm).symm, rfl⟩
set_option maxHeartbeats 400000 in
theorem rot2_any (x : Nat) (w : World) (hx : x < 256) :
    Calls Try.prog 52 #[.int .u8 (x : Int), .int .i64 2] w fun e w' => e = .returned (.int .u8 (Ae.rot x 2 : Nat)) ∧ w = w' := by
  have hb : bits .and .u64 2 7 = 2 := by decide
  have HR := Lib.hid (u8_rot 2 (by omega) x hx)
  go_enter Try.func52, Try.ntmps52
  go_wp2
  go_ret
  exact ⟨(ret_int HR.out.symm).symm, rfl⟩
set_option maxHeartbeats 400000 in
theorem rot3_any (x : Nat) (w : World) (hx : x < 256) :
    Calls Try.prog 52 #[.int .u8 (x : Int), .int .i64 3] w fun e w' => e = .returned (.int .u8 (Ae.rot x 3 : Nat)) ∧ w = w' := by
  have hb : bits .and .u64 3 7 = 3 := by decide
  have HR := Lib.hid (u8_rot 3 (by omega) x hx)
  go_enter Try.func52, Try.ntmps52
  go_wp2
  go_ret
  exact ⟨(ret_int HR.out.symm).symm, rfl⟩
set_option maxHeartbeats 400000 in
theorem rot4_any (x : Nat) (w : World) (hx : x < 256) :
    Calls Try.prog 52 #[.int .u8 (x : Int), .int .i64 4] w fun e w' => e = .returned (.int .u8 (Ae.rot x 4 : Nat)) ∧ w = w' := by
  have hb : bits .and .u64 4 7 = 4 := by decide
  have HR := Lib.hid (u8_rot 4 (by omega) x hx)
  go_enter Try.func52, Try.ntmps52
  go_wp2
  go_ret
  exact ⟨(ret_int HR.out.symm).symm, rfl⟩

end Go.Proofs.Ytnphanhoakbkpaa
