/- Joined: Layer 8's bytes, walked: products, inverses, boxes, of the program and of the document. | Layer 8's boxes, walked, of the program and of the document, and the document's table. | Layer 8's blocks, walked. | Layer 8's cipher, walked. | Layer 8's round keys, walked. | Layer 8: a block enciphered, the counter, a text copied and compared, walked. | Layer 8's stream, walked. | Blocks of 16 bytes and slices of bytes: comparisons, slicing, streams. -/
import Derived.Test.YtabfcaidioohfaaDoorRows
import Derived.Test.YtabfcaidioohfaaDoorZp
import Derived.WalkKit
import Derived.Laws.BitsAllLaws
import Derived.WalkSpells
import Derived.WalkLawsBesides
import Derived.Deep.QuietTactic
import Derived.BigQuiet
import Derived.Handy
import Derived.Lib.Hide
import Derived.StillTailTactics
import Derived.Deep.RegionHeld3
import Derived.Laws.Rows
import Derived.Laws.Tables
import Derived.Deep.WholeRow
import Derived.IntWalk
import Derived.Deep.RegionWith
import Derived.Laws.CopyOwn
import Derived.Laws.AppendOwn
import Derived.Lib.SliceRun
import Derived.Deep.Cut
import Derived.ChangeKeysEq
import Derived.Stop.BytesEq
import Derived.Deep.OwnRows
namespace Go.Proofs.YtabfcaidioohfaaDoor
open List (getElem?_toArray getElem?_cons_zero getElem?_cons_succ setIfInBounds_toArray set_cons_zero set_cons_succ)
set_option maxRecDepth 100000
open Go.RowKit
set_option linter.unusedVariables false
set_option linter.unusedSimpArgs false
theorem u8_and1 (b : Nat) (h : b < 256) : bits .and .u8 (b : Int) 1 = ((b % 2 : Nat) : Int) := by
 have := u8_and_nat b 1 h (by decide)
 rw [Nat.and_one_is_mod] at this
 exact this
theorem u8_xt (a : Nat) (h : a < 256) : bits .xor .u8 ((a : Int) * 2 % 256) ((a : Int) / 128 * 27) = ((Ae.xt a : Nat) : Int) := by
 have e1 : (a : Int) * 2 % 256 = ((a * 2 % 256 : Nat) : Int) := by omega
 have e2 : (a : Int) / 128 * 27 = ((a / 128 * 27 : Nat) : Int) := by omega
 rw [e1, e2, u8_xor_nat _ _ (by omega) (by omega)]
 have : ∀ a, a < 256 → (a * 2 % 256) ^^^ (a / 128 * 27) = Ae.xt a := by decide +kernel
 rw [this a h]
theorem val_u8 {a b : Int} (h : a = b) : Value.int .u8 a = Value.int .u8 b := by rw [h]
set_option maxHeartbeats 1000000 in
theorem mul_any (A B : Nat) (w : World) (hA : A < 256) (hB : B < 256) :
  Calls Tryd.prog 85 #[.int .u8 (A : Int), .int .u8 (B : Int)] w fun e w' => e = .returned (.int .u8 (Ae.mul A B : Nat)) ∧ w = w' := by
 go_enter Tryd.func85, Tryd.ntmps85
 go_wp2
 go_loop [0, 1, 5] (fun x y z => ∃ f a b p : Nat, a < 256 ∧ b < 256 ∧ p < 256 ∧ Hid (b < 2 ^ f) ∧ x = .int .u8 (a : Nat) ∧ y = .int .u8 (b : Nat) ∧ z = .int .u8 (p : Nat) ∧ Hid (p ^^^ Ae.mulF f a b = Ae.mul A B)) (fun _ y _ => (intOf y).toNat)
 case atStart => exact ⟨8, A, B, 0, hA, hB, by omega, by show B < 256; omega, rfl, rfl, rfl, Nat.zero_xor _⟩
 case round =>
  obtain ⟨f, a, b, p, ha, hb, hp, HB, rfl, rfl, rfl, HM⟩ := hrel
  by_cases h0 : 0 < b
  ·obtain ⟨g, rfl⟩ : ∃ g, f = g + 1 := ⟨f - 1, by have := HB.out; cases f <;> simp at this ⊢; omega⟩
   have HB2 : Hid (b / 2 < 2 ^ g) := by have := HB.out; unfold Hid; rw [Nat.pow_succ] at this; omega
   have HX := Lib.hid (u8_xt a ha)
   have HP := Lib.hid (u8_xor_nat p a hp ha)
   have hx := Ae.xt_lt a ha
   have hpx := Ae.xor_lt hp ha
   have hand := u8_and1 b hb
   rcases Nat.mod_two_eq_zero_or_one b with h2 | h2
   ·have hbit : (bits .and .u8 (b : Int) 1 == 1) = false := by rw [hand, h2]; rfl
    have HM2 : Hid (p ^^^ Ae.mulF g (Ae.xt a) (b / 2) = Ae.mul A B) := by have := HM.out; unfold Ae.mulF at this; rw [if_neg (by omega), Nat.zero_xor] at this; exact this
    clear hand h2
    go_wp2
    go_round
    case rel => exact ⟨g, Ae.xt a, b / 2, p, hx, by omega, hp, HB2, val_u8 HX.out, by go_num, rfl, HM2⟩
    case measure => simp [intOf]; omega
   ·have hbit : (bits .and .u8 (b : Int) 1 == 1) = true := by rw [hand, h2]; rfl
    have HM2 : Hid ((p ^^^ a) ^^^ Ae.mulF g (Ae.xt a) (b / 2) = Ae.mul A B) := by have := HM.out; unfold Ae.mulF at this; rw [if_pos h2, ← Nat.xor_assoc] at this; exact this
    clear hand h2
    go_wp2
    go_round
    case rel => exact ⟨g, Ae.xt a, b / 2, p ^^^ a, hx, by omega, hpx, HB2, val_u8 HX.out, by go_num, val_u8 HP.out, HM2⟩
    case measure => simp [intOf]; omega
  ·obtain rfl : b = 0 := by omega
   go_wp2
   go_ret
   exact ⟨ret_int (by rw [← HM.out, Ae.mulF_zero, Nat.xor_zero]), rfl⟩
theorem invL_lt (a : Nat) (h : a < 256) : ∀ k, (Ae.invL a k).1 < 256 ∧ (Ae.invL a k).2 < 256
 | 0 => ⟨h, by show 1 < 256; decide⟩
 | k + 1 => ⟨Ae.mul_lt _ _ (invL_lt a h k).1, Ae.mul_lt _ _ (invL_lt a h k).2⟩
set_option maxHeartbeats 1000000 in
theorem inverse_any (A : Nat) (w : World) (hA : A < 256) :
  Calls Tryd.prog 96 #[.int .u8 (A : Int)] w fun e w' => e = .returned (.int .u8 (Ae.inv A : Nat)) ∧ w = w' := by
 go_enter Tryd.func96, Tryd.ntmps96
 go_wp2
 go_loop [0, 3, 4] (fun x y i => ∃ k : Nat, k ≤ 7 ∧ i = .int .i64 k ∧ x = .int .u8 ((Ae.invL A k).1 : Nat) ∧ y = .int .u8 ((Ae.invL A k).2 : Nat)) (fun _ _ i => 7 - (intOf i).toNat)
 case atStart => exact ⟨0, by omega, rfl, rfl, rfl⟩
 case round =>
  obtain ⟨k, hk, rfl, rfl, rfl⟩ := hrel
  obtain ⟨h1, h2⟩ := invL_lt A hA k
  have HS := Lib.hid (show Ae.invL A (k + 1) = Ae.invS (Ae.invL A k) from rfl)
  by_cases hlt : k < 7
  ·generalize Ae.invL A k = q at *
   obtain ⟨x, y⟩ := q
   dsimp only at *
   have hxx := Ae.mul_lt x x h1
   go_wp2_with fail
   refine (mul_any x x _ h1 h1).mono ?_
   rintro e wn ⟨rfl, rfl⟩
   go_wp2_with fail
   refine (mul_any y (Ae.mul x x) _ h2 hxx).mono ?_
   rintro e wn ⟨rfl, rfl⟩
   go_wp2
   go_round
   case rel => exact ⟨k + 1, by omega, by go_num, by rw [HS.out]; rfl, by rw [HS.out]; rfl⟩
   case measure => simp [intOf]; omega
  ·obtain rfl : k = 7 := by omega
   have HE := Lib.hid (show (Ae.invL A 7).2 = Ae.inv A from rfl)
   clear HS
   generalize Ae.invL A 7 = q at *
   obtain ⟨x, y⟩ := q
   dsimp only at h1 h2 HE ⊢
   go_wp2
   go_ret
   exact ⟨ret_int (by rw [HE.out]), rfl⟩
theorem i64_xor (a b : Nat) (ha : a < 4611686018427387904) (hb : b < 4611686018427387904) : bits .xor .i64 (a : Int) (b : Int) = ((a ^^^ b : Nat) : Int) := by
 have h := Nat.xor_lt_two_pow (n := 62) ha hb
 show IntKind.i64.wrap ((BitVec.ofInt 64 (a : Int) ^^^ BitVec.ofInt 64 (b : Int)).toNat : Int) = _
 rw [BitVec.toNat_xor, BitVec.ofInt_natCast, BitVec.ofInt_natCast, BitVec.toNat_ofNat, BitVec.toNat_ofNat, Nat.mod_eq_of_lt (show a < 2 ^ 64 by omega), Nat.mod_eq_of_lt (show b < 2 ^ 64 by omega), IntKind.wrap_i64]
 omega
theorem val_i64 {a b : Int} (h : a = b) : Value.int .i64 a = Value.int .i64 b := by rw [h]
set_option maxHeartbeats 1000000 in
theorem refTimes_any (A B : Nat) (w : World) (hA : A < 256) (hB : B < 256) :
  Calls Tryd.prog 89 #[.int .u8 (A : Int), .int .u8 (B : Int)] w fun e w' => e = .returned (.int .u8 (Ae.mul A B : Nat)) ∧ w = w' := by
 go_enter Tryd.func89, Tryd.ntmps89
 go_wp2
 go_loop [5, 6, 7] (fun x y z => ∃ f a b p : Nat, a < 256 ∧ b < 256 ∧ p < 256 ∧ Hid (b < 2 ^ f) ∧ x = .int .i64 (a : Nat) ∧ y = .int .i64 (b : Nat) ∧ z = .int .i64 (p : Nat) ∧ Hid (p ^^^ Ae.mulF f a b = Ae.mul A B)) (fun _ y _ => (intOf y).toNat)
 case atStart => exact ⟨8, A, B, 0, hA, hB, by omega, by show B < 256; omega, rfl, rfl, rfl, Nat.zero_xor _⟩
 case round =>
  obtain ⟨f, a, b, p, ha, hb, hp, HB, rfl, rfl, rfl, HM⟩ := hrel
  by_cases h0 : 0 < b
  ·obtain ⟨g, rfl⟩ : ∃ g, f = g + 1 := ⟨f - 1, by have := HB.out; cases f <;> simp at this ⊢; omega⟩
   have HB2 : Hid (b / 2 < 2 ^ g) := by have := HB.out; unfold Hid; rw [Nat.pow_succ] at this; omega
   have HP := Lib.hid (i64_xor p a (by omega) (by omega))
   have hx := Ae.xt_lt a ha
   have hpx := Ae.xor_lt hp ha
   rcases Nat.mod_two_eq_zero_or_one b with h2 | h2
   ·have hbit : ((b : Int) % 2 == 1) = false := by rw [show (b : Int) % 2 = 0 by omega]; rfl
    have HM2 : Hid (p ^^^ Ae.mulF g (Ae.xt a) (b / 2) = Ae.mul A B) := by have := HM.out; unfold Ae.mulF at this; rw [if_neg (by omega), Nat.zero_xor] at this; exact this
    clear h2
    by_cases h128 : 255 < (a : Int) * 2
    ·have HX : Hid (bits .xor .i64 ((a : Int) * 2) 283 = ((Ae.xt a : Nat) : Int)) := by
      have := i64_xor (a * 2) 283 (by omega) (by omega)
      unfold Hid Ae.xt; rw [if_neg (by omega), Nat.mul_comm 2, ← this]; simp
     go_wp2
     go_round
     case rel => exact ⟨g, Ae.xt a, b / 2, p, hx, by omega, hp, HB2, val_i64 HX.out, by go_num, rfl, HM2⟩
     case measure => simp [intOf]; omega
    ·have HX : Hid ((a : Int) * 2 = ((Ae.xt a : Nat) : Int)) := by unfold Hid Ae.xt; rw [if_pos (by omega)]; omega
     go_wp2
     go_round
     case rel => exact ⟨g, Ae.xt a, b / 2, p, hx, by omega, hp, HB2, val_i64 HX.out, by go_num, rfl, HM2⟩
     case measure => simp [intOf]; omega
   ·have hbit : ((b : Int) % 2 == 1) = true := by rw [show (b : Int) % 2 = 1 by omega]; rfl
    have HM2 : Hid ((p ^^^ a) ^^^ Ae.mulF g (Ae.xt a) (b / 2) = Ae.mul A B) := by have := HM.out; unfold Ae.mulF at this; rw [if_pos h2, ← Nat.xor_assoc] at this; exact this
    clear h2
    by_cases h128 : 255 < (a : Int) * 2
    ·have HX : Hid (bits .xor .i64 ((a : Int) * 2) 283 = ((Ae.xt a : Nat) : Int)) := by
      have := i64_xor (a * 2) 283 (by omega) (by omega)
      unfold Hid Ae.xt; rw [if_neg (by omega), Nat.mul_comm 2, ← this]; simp
     go_wp2
     go_round
     case rel => exact ⟨g, Ae.xt a, b / 2, p ^^^ a, hx, by omega, hpx, HB2, val_i64 HX.out, by go_num, val_i64 HP.out, HM2⟩
     case measure => simp [intOf]; omega
    ·have HX : Hid ((a : Int) * 2 = ((Ae.xt a : Nat) : Int)) := by unfold Hid Ae.xt; rw [if_pos (by omega)]; omega
     go_wp2
     go_round
     case rel => exact ⟨g, Ae.xt a, b / 2, p ^^^ a, hx, by omega, hpx, HB2, val_i64 HX.out, by go_num, val_i64 HP.out, HM2⟩
     case measure => simp [intOf]; omega
  ·obtain rfl : b = 0 := by omega
   have HE := Lib.hid (show p = Ae.mul A B by rw [← HM.out, Ae.mulF_zero, Nat.xor_zero])
   clear HM HB h0
   go_wp2
   go_ret
   exact ⟨ret_int (by rw [← HE.out]), rfl⟩
theorem u8_rot (n : Nat) (hn : 1 ≤ n ∧ n ≤ 4) (x : Nat) (hx : x < 256) : bits .or .u8 ((x : Int) * 2 ^ n % 256) ((x : Int) / 2 ^ (8 - n)) = ((Ae.rot x n : Nat) : Int) := by
 have key : ∀ n, n < 5 → 1 ≤ n → ∀ x, x < 256 → (x * 2 ^ n % 256) ||| (x / 2 ^ (8 - n)) = Ae.rot x n ∧ x / 2 ^ (8 - n) < 256 := by decide +kernel
 obtain ⟨k1, k2⟩ := key n (by omega) hn.1 x hx
 have e1 : (x : Int) * 2 ^ n % 256 = ((x * 2 ^ n % 256 : Nat) : Int) := by simp
 have e2 : (x : Int) / 2 ^ (8 - n) = ((x / 2 ^ (8 - n) : Nat) : Int) := by simp
 rw [e1, e2, u8_or_nat _ _ (Nat.mod_lt _ (by decide)) k2, k1]
set_option maxHeartbeats 400000 in
theorem rot1_any (x : Nat) (w : World) (hx : x < 256) :
  Calls Tryd.prog 98 #[.int .u8 (x : Int), .int .i64 1] w fun e w' => e = .returned (.int .u8 (Ae.rot x 1 : Nat)) ∧ w = w' := by
 have hb : bits .and .u64 1 7 = 1 := by decide
 have HR := Lib.hid (u8_rot 1 (by omega) x hx)
 go_enter Tryd.func98, Tryd.ntmps98
 go_wp2
 go_ret
 exact ⟨(ret_int HR.out.symm).symm, rfl⟩
set_option maxHeartbeats 400000 in
theorem rot2_any (x : Nat) (w : World) (hx : x < 256) :
  Calls Tryd.prog 98 #[.int .u8 (x : Int), .int .i64 2] w fun e w' => e = .returned (.int .u8 (Ae.rot x 2 : Nat)) ∧ w = w' := by
 have hb : bits .and .u64 2 7 = 2 := by decide
 have HR := Lib.hid (u8_rot 2 (by omega) x hx)
 go_enter Tryd.func98, Tryd.ntmps98
 go_wp2
 go_ret
 exact ⟨(ret_int HR.out.symm).symm, rfl⟩
set_option maxHeartbeats 400000 in
theorem rot3_any (x : Nat) (w : World) (hx : x < 256) :
  Calls Tryd.prog 98 #[.int .u8 (x : Int), .int .i64 3] w fun e w' => e = .returned (.int .u8 (Ae.rot x 3 : Nat)) ∧ w = w' := by
 have hb : bits .and .u64 3 7 = 3 := by decide
 have HR := Lib.hid (u8_rot 3 (by omega) x hx)
 go_enter Tryd.func98, Tryd.ntmps98
 go_wp2
 go_ret
 exact ⟨(ret_int HR.out.symm).symm, rfl⟩
set_option maxHeartbeats 400000 in
theorem rot4_any (x : Nat) (w : World) (hx : x < 256) :
  Calls Tryd.prog 98 #[.int .u8 (x : Int), .int .i64 4] w fun e w' => e = .returned (.int .u8 (Ae.rot x 4 : Nat)) ∧ w = w' := by
 have hb : bits .and .u64 4 7 = 4 := by decide
 have HR := Lib.hid (u8_rot 4 (by omega) x hx)
 go_enter Tryd.func98, Tryd.ntmps98
 go_wp2
 go_ret
 exact ⟨(ret_int HR.out.symm).symm, rfl⟩
end Go.Proofs.YtabfcaidioohfaaDoor
namespace Go.Proofs.YtabfcaidioohfaaDoor
open List (getElem?_toArray getElem?_cons_zero getElem?_cons_succ setIfInBounds_toArray set_cons_zero set_cons_succ)
set_option maxRecDepth 100000
open Go.RowKit
set_option linter.unusedVariables false
set_option linter.unusedSimpArgs false
theorem rot_any (x n : Nat) (m : Int) (w : World) (hx : x < 256) (h0 : 1 ≤ n) (h1 : n ≤ 4) (hm : m = n) :
  Calls Tryd.prog 98 #[.int .u8 (x : Int), .int .i64 m] w fun e w' => e = .returned (.int .u8 (Ae.rot x n : Nat)) ∧ w = w' := by
 subst hm
 have hn : n = 1 ∨ n = 2 ∨ n = 3 ∨ n = 4 := by omega
 rcases hn with rfl | rfl | rfl | rfl
 ·exact rot1_any x w hx
 ·exact rot2_any x w hx
 ·exact rot3_any x w hx
 ·exact rot4_any x w hx
theorem rot_lt : ∀ n, n < 5 → 1 ≤ n → ∀ x, x < 256 → Ae.rot x n < 256 := by decide +kernel
set_option maxHeartbeats 400000 in
theorem turn_any (bo bx x o n : Nat) (m : Int) (w : World) (ho : Obj w bo 5 #[.int .u8 (o : Int)]) (hx : Obj w bx 5 #[.int .u8 (x : Int)]) (h0 : 1 ≤ n) (h1 : n ≤ 4) (hm : m = n) (hxl : x < 256) (hol : o < 256) :
  Calls Tryd.prog 97 #[.int .i64 m, .pointer (some ⟨bo, 0, none⟩), .pointer (some ⟨bx, 0, none⟩)] w fun e w' => e = .returned (.tuple #[]) ∧ Obj w' bo 5 #[.int .u8 ((o ^^^ Ae.rot x n : Nat) : Int)] ∧ Upd bo w w' := by
 have HMM := Lib.hid hm
 clear hm
 have f0 : w.cell? ⟨bo, 0, none⟩ = some (.int .u8 (o : Int)) := ho.cell 0
 have f1 : w.cell? ⟨bx, 0, none⟩ = some (.int .u8 (x : Int)) := hx.cell 0
 have z0 := ho.free 0
 have HX := Lib.hid (u8_xor_nat o (Ae.rot x n) hol (rot_lt n (by omega) h0 x hxl))
 go_enter Tryd.func97, Tryd.ntmps97
 go_wp2
 refine wp_region_still_tail 5 (by kernel_rfl) (by kernel_rfl) ?_
 simp only [List.take_succ_cons, List.take_zero, List.drop_succ_cons, List.drop_zero]
 change wpStill _ _ (World.drew _) (fun a' => wpList _ _ _ _ a' (World.drew _)) _ _
 iterate 3 still_step
 still_call (still1 (rot_any x n m _ hxl h0 h1 HMM.out))
 iterate 1 still_step
 refine wpStill_nil ?_
 go_wp2
 go_end0
 exact ⟨rfl, (ho.set 0 _).drew.as (by rw [HX.out]; rfl), ((Upd.refl _ _).set _ _).drew⟩
theorem new2 (w : World) (o : _root_.Go.Obj) (t : TypeId) (cs : Array Value) (u : Unit := ()) : Obj ((w.alloc o).alloc (.cells cs t)) (w.heap.size + 1) t cs := by
 have h := Obj.new (w.alloc o) t cs
 rwa [show (w.alloc o).heap.size = w.heap.size + 1 by simp] at h
theorem boxL_lt (x : Nat) (hx : x < 256) : ∀ k, k ≤ 4 → Ae.boxL x k < 256
 | 0, _ => Ae.xor_lt hx (by decide)
 | k + 1, h => Ae.xor_lt (boxL_lt x hx k (by omega)) (rot_lt (k + 1) (by omega) (by omega) x hx)
set_option maxHeartbeats 400000 in
theorem box_any (A : Nat) (w : World) (hA : A < 256) :
  Calls Tryd.prog 84 #[.int .u8 (A : Int)] w fun e w' => e = .returned (.int .u8 (Ae.box A : Nat)) ∧ Below w.heap.size w w' := by
 have hx := Ae.inv_lt A hA
 have HX := Lib.hid (u8_xor_nat (Ae.inv A) 99 hx (by decide))
 have HB := Lib.hid (show Ae.box A = Ae.boxL (Ae.inv A) 4 from rfl)
 go_enter Tryd.func84, Tryd.ntmps84
 go_wp2_with fail
 refine (inverse_any A _ hA).mono ?_
 rintro e wn ⟨rfl, rfl⟩
 generalize Ae.inv A = x at *
 go_wp2
 go_loopw [12] (fun i wr => ∃ k : Nat, k ≤ 4 ∧ i = .int .i64 k ∧ Obj wr (w.heap.size + 1) 5 #[.int .u8 ((Ae.boxL x k : Nat) : Int)] ∧ Obj wr w.heap.size 5 #[.int .u8 (x : Int)] ∧ Below w.heap.size w wr) (fun i _ => 4 - (intOf i).toNat)
 case atStart =>
  refine ⟨0, by omega, rfl, ?_, ?_, ?_⟩
  ·rw [show bits BinOp.xor IntKind.u8 (x : Int) 99 = _ from HX.out]; exact new2 w _ _ _
  ·exact (Obj.new w _ _).alloc _
  ·exact ((Below.refl _ _).alloc (Nat.le_refl _) _).alloc (by simp) _
 case round =>
  clear HX
  obtain ⟨k, hk, rfl, HO, HX, HW⟩ := hrel
  by_cases hlt : k < 4
  ·have hb := boxL_lt x hx k (by omega)
   go_wp2_with fail
   refine (turn_any (w.heap.size + 1) w.heap.size x (Ae.boxL x k) (k + 1) _ _ HO HX (by omega) (by omega) (by omega) hx hb).mono ?_
   rintro e w1 ⟨rfl, h1, u1⟩
   have HX1 := HX.upd u1 (by omega)
   have HW1 := Upd.below HW (by omega) u1
   clear HO HX HW u1
   go_wp2
   go_roundw
   case rel => exact ⟨k + 1, by omega, by go_num, h1, HX1, HW1⟩
   case measure => simp [intOf]; omega
  ·obtain rfl : k = 4 := by omega
   have f0 : wr.cell? ⟨w.heap.size + 1, 0, none⟩ = some (.int .u8 ((Ae.boxL x 4 : Nat) : Int)) := HO.cell 0
   rw [← HB.out] at f0
   go_wp2
   go_ret
   exact ⟨rfl, HW⟩
end Go.Proofs.YtabfcaidioohfaaDoor
namespace Go.Proofs.YtabfcaidioohfaaDoor
open List (getElem?_toArray getElem?_cons_zero getElem?_cons_succ setIfInBounds_toArray set_cons_zero set_cons_succ)
set_option maxRecDepth 100000
open Go.RowKit
set_option linter.unusedVariables false
set_option linter.unusedSimpArgs false
/-- The cells of an array of bytes. -/
def cellsN (l : List Nat) : Array Value := (l.map fun c => Value.int .u8 ((c : Nat) : Int)).toArray
theorem cellsN_size (l : List Nat) : (cellsN l).size = l.length := by simp [cellsN]
theorem cellsN_get (l : List Nat) (i : Nat) (h : i < l.length) : (cellsN l)[i]? = some (.int .u8 ((l.getD i 0 : Nat) : Int)) := by
 simp [cellsN, h, List.getD_eq_getElem?_getD]
theorem cellsN_set (l : List Nat) (i v : Nat) : (cellsN l).setIfInBounds i (.int .u8 ((v : Nat) : Int)) = cellsN (l.set i v) := by
 unfold cellsN; simp [List.map_set]
theorem Obj.getN {w : World} {b : Nat} {t : TypeId} {l : List Nat} (h : Obj w b t (cellsN l)) (i : Nat) (hi : i < l.length) : w.cell? ⟨b, i, none⟩ = some (.int .u8 ((l.getD i 0 : Nat) : Int)) := by rw [h.cell i, cellsN_get l i hi]
theorem Obj.setN {w : World} {b : Nat} {t : TypeId} {l : List Nat} (h : Obj w b t (cellsN l)) (i v : Nat) : Obj (w.setCell ⟨b, i, none⟩ (.int .u8 ((v : Nat) : Int))) b t (cellsN (l.set i v)) := by
 have := h.set i (.int .u8 ((v : Nat) : Int)); rwa [cellsN_set] at this
theorem one_cellsN (l : List Nat) : (cellsN l).all (·.oneCell') = true := by
 unfold cellsN
 rw [Array.all_eq_true_iff_forall_mem]
 intro v hv
 simp at hv
 obtain ⟨c, _, rfl⟩ := hv
 rfl
section
variable {P : Program}
theorem wpList_store_row {ops : Array Oper} {rest : List Oper} {o : Oper} {a : Act} {w : World} {Q : Exit → Act → World → Prop} (hgd : o.guard = none) (ty : TypeId) (x y : Operand) (ho : o.op = .store ty x y)
  (g : Nat) (cells : Array Value) (hx : a.eval x = .pointer (some ⟨g, 0, none⟩)) (hy : a.eval y = .agg cells)
  (t : TypeId) (old : Array Value) (hg : w.heap[g]? = some (.cells old t (0, 0))) (hi : (P.info? ty).map (·.size) = some cells.size)
  (hold : old.size = cells.size) (h1 : cells.all (·.oneCell') = true)
  (h : wpList P ops Q rest (a.put o.dst undef) (w.setRow g cells)) : wpList P ops Q (o :: rest) a w :=
 wpList_plain hgd fun _ hK => wp_store_row ty x y ho g cells hx hy t old hg hi hold h1 (hK _ _ h)
end
theorem Obj.row {w : World} {g : Nat} {t : TypeId} {cs : Array Value} (h : Obj w g t cs) (cs' : Array Value) : Obj (w.setRow g cs') g t cs' := setRow_heap w g cs cs' t (0, 0) h
theorem Upd.row {w w1 : World} {g : Nat} (h : Upd g w w1) (cs : Array Value) : Upd g w (w1.setRow g cs) :=
 h.trans ⟨rfl, rfl, rfl, by simp, fun k _ hne => setRow_other w1 g k cs hne⟩
theorem info16 : (Tryd.prog.info? 26).map (·.size) = some 16 := by kernel_rfl
theorem info176 : (Tryd.prog.info? 101).map (·.size) = some 176 := by kernel_rfl
theorem size16 {l : List Nat} (h : l.length = 16) : (Tryd.prog.info? 26).map (·.size) = some (cellsN l).size := by rw [cellsN_size, h]; exact info16
theorem size176 {l : List Nat} (h : l.length = 176) : (Tryd.prog.info? 101).map (·.size) = some (cellsN l).size := by rw [cellsN_size, h]; exact info176
set_option maxHeartbeats 400000 in
theorem with_any (b k : List Nat) (r : Nat) (w : World) (hb : b.length = 16) (hk : k.length = 176) (hr : r ≤ 10) (qb : Ae.bytes b) (qk : Ae.bytes k) :
  Calls Tryd.prog 86 #[.agg (cellsN b), .agg (cellsN k), .int .i64 (r : Int)] w fun e w' => e = .returned (.agg (cellsN (Ae.withK b k r))) ∧ Below w.heap.size w w' := by
 have HB := Lib.hid hb
 have HK := Lib.hid hk
 clear hb hk
 go_enter Tryd.func86, Tryd.ntmps86
 go_wp2
 go_loopw [8] (fun i wr => ∃ j : Nat, j ≤ 16 ∧ i = .int .i64 j ∧ Obj wr w.heap.size 26 (cellsN (Ae.upto (fun i => b.getD i 0 ^^^ k.getD (16 * r + i) 0) b j)) ∧ Obj wr (w.heap.size + 1) 101 (cellsN k) ∧ Obj wr (w.heap.size + 1 + 1) 26 (cellsN (List.replicate 16 0)) ∧ Below w.heap.size w wr) (fun i _ => 16 - (intOf i).toNat)
 case atStart =>
  refine ⟨0, by omega, rfl, ?_, ?_, ?_, ?_⟩
  ·rw [Ae.upto_zero]; exact ((Obj.new w _ _).alloc _).alloc _
  ·exact (new2 w _ _ _).alloc _
  ·have h := new2 (w.alloc (.cells (cellsN b) 26)) (.cells (cellsN k) 101) 26 (cellsN (List.replicate 16 0))
   rw [show (w.alloc (.cells (cellsN b) 26)).heap.size = w.heap.size + 1 by simp] at h
   exact h
  ·exact (((Below.refl _ _).alloc (Nat.le_refl _) _).alloc (by simp) _).alloc (by simp; omega) _
 case round =>
  obtain ⟨j, hj, rfl, HO, HW, HZ, HL⟩ := hrel
  by_cases hlt : j < 16
  ·have f0 : wr.cell? ⟨w.heap.size, j, none⟩ = some (.int .u8 ((b.getD j 0 : Nat) : Int)) := by
    rw [HO.getN j (by rw [Ae.upto_len, HB.out]; exact hlt), Ae.upto_get _ _ _ _ (by rw [HB.out]; exact hlt), if_neg (by omega)]
   obtain ⟨A, hA⟩ : ∃ A, 4 * r = A := ⟨_, rfl⟩
   obtain ⟨q, hq⟩ : ∃ q, j / 4 = q := ⟨_, rfl⟩
   obtain ⟨m, hm⟩ : ∃ m, j % 4 = m := ⟨_, rfl⟩
   obtain ⟨s, hs⟩ : ∃ s, A + q = s := ⟨_, rfl⟩
   have f1 : wr.cell? ⟨w.heap.size + 1, s * 4 + m, none⟩ = some (.int .u8 ((k.getD (s * 4 + m) 0 : Nat) : Int)) := HW.getN _ (by rw [HK.out]; omega)
   have e1 : IntKind.i64.wrap (4 * (r : Int)) = (A : Int) := by rw [IntWalk.i64_in _ (by omega)]; omega
   have e2 : IntKind.i64.wrap ((j : Int) / 4) = (q : Int) := by rw [IntWalk.i64_in _ (by omega)]; omega
   have e3 : IntKind.i64.wrap ((A : Int) + (q : Int)) = (s : Int) := by rw [IntWalk.i64_in _ (by omega)]; omega
   have e4 : (j : Int).tmod 4 = (m : Int) := by rw [Int.tmod_eq_emod_of_nonneg (by omega)]; omega
   have hs44 : (s : Int) < 44 := by omega
   have hm4 : (m : Int) < 4 := by omega
   have z0 := HO.free j
   have hx := Ae.bytes_get qb j
   have hy := Ae.bytes_get qk (s * 4 + m)
   have HS : Hid (b.getD j 0 ^^^ k.getD (16 * r + j) 0 = b.getD j 0 ^^^ k.getD (s * 4 + m) 0) := by unfold Hid; rw [show 16 * r + j = s * 4 + m by omega]
   have HF : Hid ((Ae.upto (fun i => b.getD i 0 ^^^ k.getD (16 * r + i) 0) b j).set j (b.getD j 0 ^^^ k.getD (16 * r + j) 0) = Ae.upto (fun i => b.getD i 0 ^^^ k.getD (16 * r + i) 0) b (j + 1)) := Ae.upto_set (fun i => b.getD i 0 ^^^ k.getD (16 * r + i) 0) b j (by rw [HB.out]; exact hlt)
   rw [HS.out] at HF
   clear hA hq hm hs HS
   generalize b.getD j 0 = x at *
   generalize k.getD (s * 4 + m) 0 = y at *
   have HX := Lib.hid (u8_xor_nat x y hx hy)
   go_wp2
   refine wp_region_still_tail 15 (by kernel_rfl) (by kernel_rfl) ?_
   simp only [List.take_succ_cons, List.take_zero, List.drop_succ_cons, List.drop_zero]
   change wpStill _ _ (World.drew _) (fun a' => wpList _ _ _ _ a' (World.drew _)) _ _
   iterate 15 still_step
   refine wpStill_nil ?_
   clear e1 e2 e3 e4
   go_wp2
   go_roundw
   case rel =>
    rw [HX.out]
    exact ⟨j + 1, by omega, by go_num, ((HO.setN j (x ^^^ y)).drew).as (by rw [HF.out]), ((HW.far (by simp) _).drew), ((HZ.far (by simp; omega) _).drew), ((HL.setCell (by simp) _).drew)⟩
   case measure => simp [intOf]; omega
  ·obtain rfl : j = 16 := by omega
   have HF := Lib.hid (show Ae.upto (fun i => b.getD i 0 ^^^ k.getD (16 * r + i) 0) b 16 = Ae.withK b k r by rw [Ae.upto_full _ _ _ (by rw [HB.out]; omega), HB.out]; rfl)
   rw [HF.out] at HO
   have hL : (Ae.withK b k r).length = 16 := Ae.arr_len _
   have HI := Lib.hid (size16 hL)
   have HLL := Lib.hid hL
   clear hL
   go_wp2_with (first
    | (refine wpList_load_row rfl 26 (.tmp 3) rfl _ rfl _ _ _ _ HO Tryd.underlying26 rfl HI.out ?_)
    | (refine wpList_store_row rfl 26 (.tmp 6) (.tmp 27) rfl _ _ rfl rfl _ _ HZ HI.out (by rw [cellsN_size, cellsN_size, HLL.out]; simp) (one_cellsN _) ?_))
   exact bodyPost_ret (v := .agg (cellsN (Ae.withK b k r))) (results_cell_row rfl _ _ _ _ _ _ _ rfl (HZ.row _) Tryd.underlying26 rfl HI.out) rfl ⟨rfl, Upd.below HL (by omega) ((Upd.refl _ _).row _)⟩
theorem new3 (w : World) (o p : _root_.Go.Obj) (t : TypeId) (cs : Array Value) : Obj (((w.alloc o).alloc p).alloc (.cells cs t)) (w.heap.size + 1 + 1) t cs := by
 have h := Obj.new ((w.alloc o).alloc p) t cs
 rwa [show ((w.alloc o).alloc p).heap.size = w.heap.size + 1 + 1 by simp] at h
set_option maxHeartbeats 400000 in
theorem shifted_any (b : List Nat) (w : World) (hb : b.length = 16) (qb : Ae.bytes b) :
  Calls Tryd.prog 88 #[.agg (cellsN b)] w fun e w' => e = .returned (.agg (cellsN (Ae.shifted b))) ∧ Below w.heap.size w w' := by
 have HB := Lib.hid hb
 clear hb
 go_enter Tryd.func88, Tryd.ntmps88
 go_wp2
 go_loopw [5] (fun i wr => ∃ j : Nat, j ≤ 16 ∧ i = .int .i64 j ∧ Obj wr w.heap.size 26 (cellsN b) ∧ Obj wr (w.heap.size + 1) 26 (cellsN (List.replicate 16 0)) ∧ Obj wr (w.heap.size + 1 + 1) 26 (cellsN (Ae.upto (fun i => Ae.box (b.getD ((i + 4 * (i % 4)) % 16) 0)) (List.replicate 16 0) j)) ∧ Below w.heap.size w wr) (fun i _ => 16 - (intOf i).toNat)
 case atStart =>
  refine ⟨0, by omega, rfl, ?_, ?_, ?_, ?_⟩
  ·exact ((Obj.new w _ _).alloc _).alloc _
  ·exact (new2 w (.cells (cellsN b) 26) 26 (cellsN (List.replicate 16 0))).alloc _
  ·rw [Ae.upto_zero]; exact new3 w (.cells (cellsN b) 26) (.cells (cellsN (List.replicate 16 0)) 26) 26 (cellsN (List.replicate 16 0))
  ·exact (((Below.refl _ _).alloc (Nat.le_refl _) _).alloc (by simp) _).alloc (by simp; omega) _
 case round =>
  obtain ⟨j, hj, rfl, HO, HZ, HU, HL⟩ := hrel
  by_cases hlt : j < 16
  ·obtain ⟨p, hp⟩ : ∃ p, (j + 4 * (j % 4)) % 16 = p := ⟨_, rfl⟩
   have e1 : ((j : Int) + 4 * ((j : Int) % 4)) % 16 = (p : Int) := by omega
   have hp16 : p < 16 := by omega
   have f0 : wr.cell? ⟨w.heap.size, p, none⟩ = some (.int .u8 ((b.getD p 0 : Nat) : Int)) := HO.getN p (by rw [HB.out]; exact hp16)
   have hx := Ae.bytes_get qb p
   have HF : Hid ((Ae.upto (fun i => Ae.box (b.getD ((i + 4 * (i % 4)) % 16) 0)) (List.replicate 16 0) j).set j (Ae.box (b.getD p 0)) = Ae.upto (fun i => Ae.box (b.getD ((i + 4 * (i % 4)) % 16) 0)) (List.replicate 16 0) (j + 1)) := by
    have := Ae.upto_set (fun i => Ae.box (b.getD ((i + 4 * (i % 4)) % 16) 0)) (List.replicate 16 0) j (by simpa using hlt)
    rw [hp] at this; exact this
   have HUC : ∃ v, wr.cell? ⟨w.heap.size + 1 + 1, j, none⟩ = some v := ⟨_, HU.getN j (by rw [Ae.upto_len]; simpa using hlt)⟩
   clear hp
   generalize b.getD p 0 = x at *
   go_wp2_with fail
   refine (box_any x _ hx).mono ?_
   rintro e w1 ⟨rfl, hb1⟩
   have HO1 := HO.kept hb1
   have HZ1 := HZ.kept hb1
   have HU1 := HU.kept hb1
   have HL1 := HL.trans (hb1.mono HL.size)
   have z0 := HU1.free j
   obtain ⟨v, hv⟩ : ∃ v, w1.cell? ⟨w.heap.size + 1 + 1, j, none⟩ = some v := ⟨_, HU1.getN j (by rw [Ae.upto_len]; simpa using hlt)⟩
   clear HO HZ HU HL hb1 HUC e1 f0
   go_wp2
   go_roundw
   case rel => exact ⟨j + 1, by omega, by go_num, HO1.far (by simp; omega) _, HZ1.far (by simp) _, (HU1.setN j _).as (by rw [HF.out]), HL1.setCell (by simp; omega) _⟩
   case measure => simp [intOf]; omega
  ·obtain rfl : j = 16 := by omega
   have HF := Lib.hid (show Ae.upto (fun i => Ae.box (b.getD ((i + 4 * (i % 4)) % 16) 0)) (List.replicate 16 0) 16 = Ae.shifted b by rw [Ae.upto_full _ _ _ (by simp)]; rfl)
   rw [HF.out] at HU
   have hL : (Ae.shifted b).length = 16 := Ae.arr_len _
   have HI := Lib.hid (size16 hL)
   have HLL := Lib.hid hL
   clear hL
   go_wp2_with (first
    | (refine wpList_load_row rfl 26 (.tmp 3) rfl _ rfl _ _ _ _ HU Tryd.underlying26 rfl HI.out ?_)
    | (refine wpList_store_row rfl 26 (.tmp 2) (.tmp 20) rfl _ _ rfl rfl _ _ HZ HI.out (by rw [cellsN_size, cellsN_size, HLL.out]; simp) (one_cellsN _) ?_))
   exact bodyPost_ret (v := .agg (cellsN (Ae.shifted b))) (results_cell_row rfl _ _ _ _ _ _ _ rfl (HZ.row _) Tryd.underlying26 rfl HI.out) rfl ⟨rfl, Upd.below HL (by omega) ((Upd.refl _ _).row _)⟩
theorem al16 : Tryd.prog.arrayLen 26 = 16 := by kernel_rfl
theorem el16 : Tryd.prog.underlying 26 = some (.array (Tryd.prog.arrayLen 26) (Tryd.prog.elem 26)) := by kernel_rfl
theorem sz16 (w : World) : (sizeOf (Tryd.prog.elem 26)).run Tryd.prog w = .ok 1 w := by kernel_rfl
theorem slice4 (g A : Nat) (h : A + 4 ≤ 16) (w : World) :
  (Instr.sliceAt 26 (.pointer (some ⟨g, 0, none⟩)) (some (.int .i64 (A : Int))) (some (.int .i64 ((A : Int) + 4))) none).run Tryd.prog w = .ok (.slice (some ⟨g, A, none⟩) 4 (16 - A)) w := by
 have h1 : ¬ 16 = A := by omega
 have ha : (⟨g, 0, none⟩ : Addr).add (A * 1) = ⟨g, A, none⟩ := by unfold Addr.add; split <;> simp_all
 have h2 : ((A : Int) + 4).toNat - A = 4 := by omega
 rw [run_sliceAt_array_lh w 26 ⟨g, 0, none⟩ el16 .i64 .i64 (A : Int) ((A : Int) + 4) (by omega) (by omega) (by rw [al16]; omega), sz16, al16]
 simp [Result.andThen, slicedAt, h1, ha, h2]
 have := ha
 rwa [Nat.mul_one] at this
set_option maxHeartbeats 1000000 in
theorem mixed_any (b : List Nat) (w : World) (hb : b.length = 16) (qb : Ae.bytes b) :
  Calls Tryd.prog 87 #[.agg (cellsN b)] w fun e w' => e = .returned (.agg (cellsN (Ae.mixed b))) ∧ Below w.heap.size w w' := by
 have HB := Lib.hid hb
 clear hb
 go_enter Tryd.func87, Tryd.ntmps87
 go_wp2
 go_loopw [7] (fun i wr => ∃ j : Nat, j ≤ 16 ∧ i = .int .i64 j ∧ Obj wr w.heap.size 26 (cellsN b) ∧ Obj wr (w.heap.size + 1) 26 (cellsN (List.replicate 16 0)) ∧ Obj wr (w.heap.size + 1 + 1) 26 (cellsN (Ae.upto (fun i => Ae.mul (b.getD (i / 4 * 4 + i % 4) 0) 2 ^^^ Ae.mul (b.getD (i / 4 * 4 + (i % 4 + 1) % 4) 0) 3 ^^^ b.getD (i / 4 * 4 + (i % 4 + 2) % 4) 0 ^^^ b.getD (i / 4 * 4 + (i % 4 + 3) % 4) 0) (List.replicate 16 0) j)) ∧ Below w.heap.size w wr) (fun i _ => 16 - (intOf i).toNat)
 case atStart =>
  refine ⟨0, by omega, rfl, ?_, ?_, ?_, ?_⟩
  ·exact ((Obj.new w _ _).alloc _).alloc _
  ·exact (new2 w (.cells (cellsN b) 26) 26 (cellsN (List.replicate 16 0))).alloc _
  ·rw [Ae.upto_zero]; exact new3 w (.cells (cellsN b) 26) (.cells (cellsN (List.replicate 16 0)) 26) 26 (cellsN (List.replicate 16 0))
  ·exact (((Below.refl _ _).alloc (Nat.le_refl _) _).alloc (by simp) _).alloc (by simp; omega) _
 case round =>
  obtain ⟨j, hj, rfl, HO, HZ, HU, HL⟩ := hrel
  by_cases hlt : j < 16
  ·obtain ⟨A, hA⟩ : ∃ A, j / 4 * 4 = A := ⟨_, rfl⟩
   obtain ⟨p, hp⟩ : ∃ p, j % 4 = p := ⟨_, rfl⟩
   have e1 : (j : Int) / 4 * 4 = (A : Int) := by omega
   have e2 : (j : Int) % 4 = (p : Int) := by omega
   have b1 : (A : Int) + 4 ≤ 16 := by omega
   have hp4 : p < 4 := by omega
   have hsl := fun w' => slice4 w.heap.size A (by omega) w'
   clear b1
   obtain ⟨p1, hp1⟩ : ∃ q, (p + 1) % 4 = q := ⟨_, rfl⟩
   obtain ⟨p2, hp2⟩ : ∃ q, (p + 2) % 4 = q := ⟨_, rfl⟩
   obtain ⟨p3, hp3⟩ : ∃ q, (p + 3) % 4 = q := ⟨_, rfl⟩
   have gx := fun i (hi : i < 16) => HO.getN i (by rw [HB.out]; exact hi)
   have f0 : wr.cell? ⟨w.heap.size, A + p, none⟩ = some (.int .u8 ((b.getD (A + p) 0 : Nat) : Int)) := gx _ (by omega)
   have f1 : wr.cell? ⟨w.heap.size, A + p1, none⟩ = some (.int .u8 ((b.getD (A + p1) 0 : Nat) : Int)) := gx _ (by omega)
   have f2 : wr.cell? ⟨w.heap.size, A + p2, none⟩ = some (.int .u8 ((b.getD (A + p2) 0 : Nat) : Int)) := gx _ (by omega)
   have f3 : wr.cell? ⟨w.heap.size, A + p3, none⟩ = some (.int .u8 ((b.getD (A + p3) 0 : Nat) : Int)) := gx _ (by omega)
   have s1 : IntKind.i64.wrap ((p : Int) + 1) = (p : Int) + 1 := IntWalk.i64_in _ (by omega)
   have s2 : IntKind.i64.wrap ((p : Int) + 2) = (p : Int) + 2 := IntWalk.i64_in _ (by omega)
   have s3 : IntKind.i64.wrap ((p : Int) + 3) = (p : Int) + 3 := IntWalk.i64_in _ (by omega)
   have t1 : ((p : Int) + 1).tmod 4 = (p1 : Int) := by rw [Int.tmod_eq_emod_of_nonneg (by omega)]; omega
   have t2 : ((p : Int) + 2).tmod 4 = (p2 : Int) := by rw [Int.tmod_eq_emod_of_nonneg (by omega)]; omega
   have t3 : ((p : Int) + 3).tmod 4 = (p3 : Int) := by rw [Int.tmod_eq_emod_of_nonneg (by omega)]; omega
   have l0 : (p : Int) < 4 := by omega
   have l1 : (p1 : Int) < 4 := by omega
   have l2 : (p2 : Int) < 4 := by omega
   have l3 : (p3 : Int) < 4 := by omega
   have hx := Ae.bytes_get qb (A + p)
   have hx1 := Ae.bytes_get qb (A + p1)
   have hx2 := Ae.bytes_get qb (A + p2)
   have hx3 := Ae.bytes_get qb (A + p3)
   have z0 := HU.free j
   obtain ⟨v, hv⟩ : ∃ v, wr.cell? ⟨w.heap.size + 1 + 1, j, none⟩ = some v := ⟨_, HU.getN j (by rw [Ae.upto_len]; simpa using hlt)⟩
   have HF := Lib.hid (Ae.upto_set (fun i => Ae.mul (b.getD (i / 4 * 4 + i % 4) 0) 2 ^^^ Ae.mul (b.getD (i / 4 * 4 + (i % 4 + 1) % 4) 0) 3 ^^^ b.getD (i / 4 * 4 + (i % 4 + 2) % 4) 0 ^^^ b.getD (i / 4 * 4 + (i % 4 + 3) % 4) 0) (List.replicate 16 0) j (by simpa using hlt))
   have HE : Hid (Ae.mul (b.getD (j / 4 * 4 + j % 4) 0) 2 ^^^ Ae.mul (b.getD (j / 4 * 4 + (j % 4 + 1) % 4) 0) 3 ^^^ b.getD (j / 4 * 4 + (j % 4 + 2) % 4) 0 ^^^ b.getD (j / 4 * 4 + (j % 4 + 3) % 4) 0 = Ae.mul (b.getD (A + p) 0) 2 ^^^ Ae.mul (b.getD (A + p1) 0) 3 ^^^ b.getD (A + p2) 0 ^^^ b.getD (A + p3) 0) := by unfold Hid; rw [hA, hp, hp1, hp2, hp3]
   clear hA hp hp1 hp2 hp3 gx
   have HF2 := Lib.hid (HF.out.symm.trans (congrArg (fun z => (Ae.upto (fun i => Ae.mul (b.getD (i / 4 * 4 + i % 4) 0) 2 ^^^ Ae.mul (b.getD (i / 4 * 4 + (i % 4 + 1) % 4) 0) 3 ^^^ b.getD (i / 4 * 4 + (i % 4 + 2) % 4) 0 ^^^ b.getD (i / 4 * 4 + (i % 4 + 3) % 4) 0) (List.replicate 16 0) j).set j z) HE.out))
   clear HF HE
   generalize b.getD (A + p) 0 = x0 at *
   generalize b.getD (A + p1) 0 = x1 at *
   generalize b.getD (A + p2) 0 = x2 at *
   generalize b.getD (A + p3) 0 = x3 at *
   have m2 := Ae.mul_lt x0 2 hx
   have m3 := Ae.mul_lt x1 3 hx1
   have X1 := Lib.hid (u8_xor_nat _ _ m2 m3)
   have X2 := Lib.hid (u8_xor_nat _ _ (Ae.xor_lt m2 m3) hx2)
   have X3 := Lib.hid (u8_xor_nat _ _ (Ae.xor_lt (Ae.xor_lt m2 m3) hx2) hx3)
   go_wp2
   refine wp_region_still_tail 29 (by kernel_rfl) (by kernel_rfl) ?_
   simp only [List.take_succ_cons, List.take_zero, List.drop_succ_cons, List.drop_zero]
   change wpStill _ _ (World.drew _) (fun a' => wpList _ _ _ _ a' (World.drew _)) _ _
   iterate 5 still_step
   still_call (still1 (mul_any x0 2 _ hx (by decide)))
   iterate 6 still_step
   still_call (still1 (mul_any x1 3 _ hx1 (by decide)))
   iterate 16 still_step
   refine wpStill_nil ?_
   go_wp2
   go_roundw
   case rel =>
    rw [X1.out, X2.out, X3.out]
    exact ⟨j + 1, by omega, by go_num, ((HO.far (by simp; omega) _).drew), ((HZ.far (by simp) _).drew), ((HU.setN j _).drew).as (by rw [HF2.out]), ((HL.setCell (by simp; omega) _).drew)⟩
   case measure => simp [intOf]; omega
  ·obtain rfl : j = 16 := by omega
   have HF := Lib.hid (show Ae.upto (fun i => Ae.mul (b.getD (i / 4 * 4 + i % 4) 0) 2 ^^^ Ae.mul (b.getD (i / 4 * 4 + (i % 4 + 1) % 4) 0) 3 ^^^ b.getD (i / 4 * 4 + (i % 4 + 2) % 4) 0 ^^^ b.getD (i / 4 * 4 + (i % 4 + 3) % 4) 0) (List.replicate 16 0) 16 = Ae.mixed b by rw [Ae.upto_full _ _ _ (by simp)]; rfl)
   rw [HF.out] at HU
   have hL : (Ae.mixed b).length = 16 := Ae.arr_len _
   have HI := Lib.hid (size16 hL)
   have HLL := Lib.hid hL
   clear hL
   go_wp2_with (first
    | (refine wpList_load_row rfl 26 (.tmp 3) rfl _ rfl _ _ _ _ HU Tryd.underlying26 rfl HI.out ?_)
    | (refine wpList_store_row rfl 26 (.tmp 2) (.tmp 50) rfl _ _ rfl rfl _ _ HZ HI.out (by rw [cellsN_size, cellsN_size, HLL.out]; simp) (one_cellsN _) ?_))
   exact bodyPost_ret (v := .agg (cellsN (Ae.mixed b))) (results_cell_row rfl _ _ _ _ _ _ _ rfl (HZ.row _) Tryd.underlying26 rfl HI.out) rfl ⟨rfl, Upd.below HL (by omega) ((Upd.refl _ _).row _)⟩
end Go.Proofs.YtabfcaidioohfaaDoor
namespace Go.Proofs.YtabfcaidioohfaaDoor
open List (getElem?_toArray getElem?_cons_zero getElem?_cons_succ setIfInBounds_toArray set_cons_zero set_cons_succ)
set_option maxRecDepth 100000
open Go.RowKit
set_option linter.unusedVariables false
set_option linter.unusedSimpArgs false
section
variable {P : Program}
/-- A whole row that lies there in every world that meets S. -/
theorem yieldsIf_load_row {ops : Array Oper} {S : World → Prop} {op : Oper} {a : Act} {ty : TypeId} {x : Operand} {g : Nat} {t : TypeId} {cs : Array Value} (hw : Region.wanted op (yielded ops a.tmps) = true) (ho : op.op = .load ty x)
  (hx : a.eval x = .pointer (some ⟨g, 0, none⟩)) {d : TypeDesc} (hS : ∀ w, S w → Obj w g t cs)
  (hu : P.underlying ty = some d) (hd : (match d with | .struct _ | .array _ _ => true | _ => false) = true) (hi : (P.info? ty).map (·.size) = some cs.size) : YieldsIf P ops S op (.agg cs) a :=
 .inl ⟨hw, fun w hw' => by
  unfold execOp
  simp only [ho, hx, Instr.loadAt, Instr.sureAddr, Sem.run_bind, Sem.run_pure, Result.andThen_ok, run_loadVar_row w g t ty cs (0, 0) d (hS w hw') hu hd hi]⟩
end
theorem shifted_len (b : List Nat) : (Ae.shifted b).length = 16 := Ae.arr_len _
theorem mixed_len (b : List Nat) : (Ae.mixed b).length = 16 := Ae.arr_len _
theorem withK_len (b w : List Nat) (r : Nat) : (Ae.withK b w r).length = 16 := Ae.arr_len _
theorem rnds_len (w b : List Nat) : ∀ n, (Ae.rnds w b n).length = 16
 | 0 => Ae.arr_len _
 | n + 1 => Ae.arr_len _
set_option maxHeartbeats 1000000 in
theorem enciphered_any (k b : List Nat) (w : World) (hk : k.length = 176) (hb : b.length = 16) (qk : Ae.bytes k) (qb : Ae.bytes b) :
  Calls Tryd.prog 70 #[.agg (cellsN k), .agg (cellsN b)] w fun e w' => e = .returned (.agg (cellsN (Ae.enc k b))) ∧ Below w.heap.size w w' := by
 have HB := Lib.hid hb
 have HK := Lib.hid hk
 clear hb hk
 have O0 : Obj (((w.alloc (.cells (cellsN k) 101)).alloc (.cells (cellsN b) 26)).alloc (.cells #[.int .u8 0, .int .u8 0, .int .u8 0, .int .u8 0, .int .u8 0, .int .u8 0, .int .u8 0, .int .u8 0, .int .u8 0, .int .u8 0, .int .u8 0, .int .u8 0, .int .u8 0, .int .u8 0, .int .u8 0, .int .u8 0] 26)) w.heap.size 101 (cellsN k) := ((Obj.new w _ _).alloc _).alloc _
 have O1 : Obj (((w.alloc (.cells (cellsN k) 101)).alloc (.cells (cellsN b) 26)).alloc (.cells #[.int .u8 0, .int .u8 0, .int .u8 0, .int .u8 0, .int .u8 0, .int .u8 0, .int .u8 0, .int .u8 0, .int .u8 0, .int .u8 0, .int .u8 0, .int .u8 0, .int .u8 0, .int .u8 0, .int .u8 0, .int .u8 0] 26)) (w.heap.size + 1) 26 (cellsN b) := (new2 w _ _ _).alloc _
 have O2 : Obj (((w.alloc (.cells (cellsN k) 101)).alloc (.cells (cellsN b) 26)).alloc (.cells #[.int .u8 0, .int .u8 0, .int .u8 0, .int .u8 0, .int .u8 0, .int .u8 0, .int .u8 0, .int .u8 0, .int .u8 0, .int .u8 0, .int .u8 0, .int .u8 0, .int .u8 0, .int .u8 0, .int .u8 0, .int .u8 0] 26)) (w.heap.size + 1 + 1) 26 (cellsN (List.replicate 16 0)) := new3 w _ _ _ _
 have L0 : Below w.heap.size w (((w.alloc (.cells (cellsN k) 101)).alloc (.cells (cellsN b) 26)).alloc (.cells #[.int .u8 0, .int .u8 0, .int .u8 0, .int .u8 0, .int .u8 0, .int .u8 0, .int .u8 0, .int .u8 0, .int .u8 0, .int .u8 0, .int .u8 0, .int .u8 0, .int .u8 0, .int .u8 0, .int .u8 0, .int .u8 0] 26)) := (((Below.refl _ w).alloc (Nat.le_refl _) _).alloc (by simp) _).alloc (by simp; omega) _
 have P0 := Lib.hid O0
 have P1 := Lib.hid O1
 have P2 := Lib.hid O2
 have PL := Lib.hid L0
 have HK176 := Lib.hid (size176 HK.out)
 have HI16 := Lib.hid (size16 HB.out)
 have HIW := Lib.hid (size16 (withK_len b k 0))
 have HSB : Hid ((cellsN b).size = (cellsN (Ae.withK b k 0)).size) := by unfold Hid; rw [cellsN_size, cellsN_size, HB.out]; exact (Ae.arr_len _).symm
 have HFF := Lib.hid (show Ae.rnds k b 0 = Ae.withK b k 0 from rfl)
 have HEE := Lib.hid (show Ae.enc k b = Ae.withK (Ae.shifted (Ae.rnds k b 9)) k 10 from rfl)
 have HNN := Lib.hid (fun n => show Ae.rnds k b (n + 1) = Ae.withK (Ae.mixed (Ae.shifted (Ae.rnds k b n))) k (n + 1) from rfl)
 clear O0 O1 O2 L0
 go_enter Tryd.func70, Tryd.ntmps70
 go_wp2_with (first
  | (refine wpList_load_row rfl 26 (.tmp 3) rfl _ rfl _ _ _ _ P1.out Tryd.underlying26 rfl HI16.out ?_)
  | (refine wpList_load_row rfl 101 (.tmp 2) rfl _ rfl _ _ _ _ P0.out Tryd.underlying101 rfl HK176.out ?_))
 refine (with_any b k 0 _ HB.out HK.out (by omega) qb qk).mono ?_
 rintro e w1 ⟨rfl, hb1⟩
 have HW1 := P0.out.kept hb1
 have HO1 := P1.out.kept hb1
 have HZ1 := P2.out.kept hb1
 have HL1 := PL.out.trans (hb1.mono PL.out.size)
 have hbz := hb1.size
 simp at hbz
 clear P0 P1 P2 PL hb1
 go_wp2_with (refine wpList_store_row rfl 26 (.tmp 3) (.tmp 8) rfl _ _ rfl rfl _ _ HO1 HIW.out HSB.out (one_cellsN _) ?_)
 go_loopw [5] (fun i wr => ∃ n : Nat, n ≤ 9 ∧ i = .int .i64 (n + 1 : Nat) ∧ Obj wr w.heap.size 101 (cellsN k) ∧ Obj wr (w.heap.size + 1) 26 (cellsN (Ae.rnds k b n)) ∧ Obj wr (w.heap.size + 1 + 1) 26 (cellsN (List.replicate 16 0)) ∧ Below w.heap.size w wr) (fun i _ => 10 - (intOf i).toNat)
 case atStart =>
  have U := (Upd.refl (w.heap.size + 1) w1).row (cellsN (Ae.withK b k 0))
  exact ⟨0, by omega, rfl, Obj.upd HW1 U (by omega), (by rw [HFF.out]; exact HO1.row _), Obj.upd HZ1 U (by omega), Upd.below HL1 (by omega) U⟩
 case round =>
  clear HW1 HO1 HZ1 HL1 hbz
  obtain ⟨n, hn, rfl, HW, HO, HZ, HL⟩ := hrel
  have hc : ((n + 1 : Nat) : Int) = (n : Int) + 1 := by omega
  have HC := Lib.hid hc
  rw [HC.out]
  clear hc
  have HL0 := Lib.hid (rnds_len k b n)
  have HI0 := Lib.hid (size16 (rnds_len k b n))
  have q0 := Ae.rnds_bytes qb qk n
  have q1 := Ae.shifted_bytes q0
  have q2 := Ae.mixed_bytes q1
  by_cases hlt : n < 9
  ·have HI1 := Lib.hid (size16 (withK_len (Ae.mixed (Ae.shifted (Ae.rnds k b n))) k (n + 1)))
   have HSZ : Hid ((cellsN (Ae.rnds k b n)).size = (cellsN (Ae.withK (Ae.mixed (Ae.shifted (Ae.rnds k b n))) k (n + 1))).size) := by unfold Hid; rw [cellsN_size, cellsN_size, rnds_len]; exact (Ae.arr_len _).symm
   go_wp2_with fail
   refine wp_region_held_drew (S := fun w' => Obj w' w.heap.size 101 (cellsN k)) (by kernel_rfl) HW.drew (fun hHeld => ?_)
   refine tkH 3 ?_ (hy := by
    refine yieldsIf_load_row (g := w.heap.size) (t := 101) (cs := cellsN k) (ty := 101) (x := (.tmp 2)) ?_ ?_ ?_ ?_ Tryd.underlying101 rfl HK176.out
    ·rfl
    ·rfl
    ·rfl
    ·exact fun w hSw => hSw)
   refine tkH 4 ?_
   refine onH 0 (fun KK hKK => ?_)
   rw [if_pos (by rfl)]
   refine wp_load_row 26 (.tmp 3) rfl _ rfl _ _ _ _ HO.drew Tryd.underlying26 rfl HI0.out ?_
   refine hKK.out _ _ ?_ (fun h1 => ?_)
   ·(try dsimp only)
    assumption
   clear hKK KK
   try simp only [Act.put, setIfInBounds_toArray, set_cons_zero, set_cons_succ]
   refine onH 1 (fun KK hKK => ?_)
   go_simp
   go_at_call 88; refine (shifted_any (Ae.rnds k b n) _ HL0.out q0).mono ?_; rintro e w3 ⟨rfl, hb3⟩; have HS3 : Obj w3 w.heap.size 101 (cellsN k) := HW.drew.kept hb3
   try go_wp2_with fail
   refine hKK.out _ _ ?_ (fun h2 => ?_)
   ·(try dsimp only)
    assumption
   clear hKK KK
   try simp only [Act.put, setIfInBounds_toArray, set_cons_zero, set_cons_succ]
   refine onH 2 (fun KK hKK => ?_)
   go_simp
   go_at_call 87; refine (mixed_any (Ae.shifted (Ae.rnds k b n)) _ (shifted_len _) q1).mono ?_; rintro e w4 ⟨rfl, hb4⟩; have HS4 : Obj w4 w.heap.size 101 (cellsN k) := HS3.kept hb4
   try go_wp2_with fail
   refine hKK.out _ _ ?_ (fun h3 => ?_)
   ·(try dsimp only)
    assumption
   clear hKK KK
   try simp only [Act.put, setIfInBounds_toArray, set_cons_zero, set_cons_succ]
   refine onH 5 (fun KK hKK => ?_)
   go_simp
   go_at_call 86; refine (with_any (Ae.mixed (Ae.shifted (Ae.rnds k b n))) k (n + 1) _ (mixed_len _) HK.out (by omega) q2 qk).mono ?_; rintro e w5 ⟨rfl, hb5⟩; have HS5 : Obj w5 w.heap.size 101 (cellsN k) := HS4.kept hb5; have HO5 := ((HO.drew.kept hb3).kept hb4).kept hb5; have HZ5 := ((HZ.drew.kept hb3).kept hb4).kept hb5; have HL5 := ((HL.drew.trans (hb3.mono HL.drew.size)).trans (hb4.mono (HL.drew.trans (hb3.mono HL.drew.size)).size)); have HL6 := HL5.trans (hb5.mono HL5.size)
   try go_wp2_with fail
   refine hKK.out _ _ ?_ (fun h4 => ?_)
   ·(try dsimp only)
    assumption
   clear hKK KK
   try simp only [Act.put, setIfInBounds_toArray, set_cons_zero, set_cons_succ]
   refine onH 6 (fun KK hKK => ?_)
   rw [if_pos (by rfl)]
   refine wp_store_row 26 (.tmp 3) (.tmp 18) rfl _ _ rfl rfl _ _ HO5 HI1.out HSZ.out (one_cellsN _) ?_
   refine hKK.out _ _ ?_ (fun h5 => ?_)
   ·(try dsimp only)
    exact Obj.upd HS5 ((Upd.refl _ _).row _) (by omega)
   clear hKK KK
   try simp only [Act.put, setIfInBounds_toArray, set_cons_zero, set_cons_succ]
   refine wpAnyH_done (by kernel_rfl) ?_ _
   go_wp2
   go_roundw
   case rel => exact ⟨n + 1, by omega, by go_num, h5, (by rw [HNN.out]; exact HO5.row _), Obj.upd HZ5 ((Upd.refl _ _).row _) (by omega), Upd.below HL6 (by omega) ((Upd.refl _ _).row _)⟩
   case measure => simp [intOf]; omega
  ·obtain rfl : n = 9 := by omega
   have HI1 := Lib.hid (size16 (withK_len (Ae.shifted (Ae.rnds k b 9)) k 10))
   have HSZ : Hid ((cellsN (List.replicate 16 0)).size = (cellsN (Ae.withK (Ae.shifted (Ae.rnds k b 9)) k 10)).size) := by unfold Hid; rw [cellsN_size, cellsN_size]; exact (Ae.arr_len _).symm
   go_wp2_with fail
   refine wp_region_held_drew (S := fun w' => Obj w' w.heap.size 101 (cellsN k)) (by kernel_rfl) HW.drew (fun hHeld => ?_)
   refine tkH 2 ?_ (hy := by
    refine yieldsIf_load_row (g := w.heap.size) (t := 101) (cs := cellsN k) (ty := 101) (x := (.tmp 2)) ?_ ?_ ?_ ?_ Tryd.underlying101 rfl HK176.out
    ·rfl
    ·rfl
    ·rfl
    ·exact fun w hSw => hSw)
   refine onH 0 (fun KK hKK => ?_)
   rw [if_pos (by rfl)]
   refine wp_load_row 26 (.tmp 3) rfl _ rfl _ _ _ _ HO.drew Tryd.underlying26 rfl HI0.out ?_
   refine hKK.out _ _ ?_ (fun h1 => ?_)
   ·(try dsimp only)
    assumption
   clear hKK KK
   try simp only [Act.put, setIfInBounds_toArray, set_cons_zero, set_cons_succ]
   refine onH 1 (fun KK hKK => ?_)
   go_simp
   go_at_call 88; refine (shifted_any (Ae.rnds k b 9) _ HL0.out q0).mono ?_; rintro e w3 ⟨rfl, hb3⟩; have HS3 : Obj w3 w.heap.size 101 (cellsN k) := HW.drew.kept hb3
   try go_wp2_with fail
   refine hKK.out _ _ ?_ (fun h2 => ?_)
   ·(try dsimp only)
    assumption
   clear hKK KK
   try simp only [Act.put, setIfInBounds_toArray, set_cons_zero, set_cons_succ]
   refine onH 3 (fun KK hKK => ?_)
   go_simp
   go_at_call 86; refine (with_any (Ae.shifted (Ae.rnds k b 9)) k 10 _ (shifted_len _) HK.out (by omega) q1 qk).mono ?_; rintro e w5 ⟨rfl, hb5⟩; have HS5 : Obj w5 w.heap.size 101 (cellsN k) := HS3.kept hb5; have HZ5 := (HZ.drew.kept hb3).kept hb5; have HL5 := (HL.drew.trans (hb3.mono HL.drew.size)); have HL6 := HL5.trans (hb5.mono HL5.size)
   try go_wp2_with fail
   refine hKK.out _ _ ?_ (fun h4 => ?_)
   ·(try dsimp only)
    assumption
   clear hKK KK
   try simp only [Act.put, setIfInBounds_toArray, set_cons_zero, set_cons_succ]
   refine onH 4 (fun KK hKK => ?_)
   rw [if_pos (by rfl)]
   refine wp_store_row 26 (.tmp 4) (.tmp 22) rfl _ _ rfl rfl _ _ HZ5 HI1.out HSZ.out (one_cellsN _) ?_
   refine hKK.out _ _ ?_ (fun h5 => ?_)
   ·(try dsimp only)
    exact Obj.upd HS5 ((Upd.refl _ _).row _) (by omega)
   clear hKK KK
   try simp only [Act.put, setIfInBounds_toArray, set_cons_zero, set_cons_succ]
   refine wpAnyH_done (by kernel_rfl) ?_ _
   go_wp2
   rw [HEE.out]
   exact bodyPost_ret (v := .agg (cellsN (Ae.withK (Ae.shifted (Ae.rnds k b 9)) k 10))) (results_cell_row rfl _ _ _ _ _ _ _ rfl (HZ5.row _) Tryd.underlying26 rfl HI1.out) rfl ⟨rfl, Upd.below HL6 (by omega) ((Upd.refl _ _).row _)⟩
end Go.Proofs.YtabfcaidioohfaaDoor
namespace Go.Proofs.YtabfcaidioohfaaDoor
open List (getElem?_toArray getElem?_cons_zero getElem?_cons_succ setIfInBounds_toArray set_cons_zero set_cons_succ)
set_option maxRecDepth 100000
open Go.RowKit
set_option linter.unusedVariables false
set_option linter.unusedSimpArgs false
def z176 : List Nat := List.replicate 176 0
theorem z176_len : z176.length = 176 := by kernel_rfl
theorem z176_row : z176 = Ae.rowW [] [] 0 := by kernel_rfl
theorem zero176 : (Tryd.prog.info? 101).map (fun i => (i.zero, i.size)) = some (some (.agg (cellsN z176)), 176) := by kernel_rfl
theorem al4 : Tryd.prog.arrayLen 100 = 4 := by kernel_rfl
theorem el4 : Tryd.prog.underlying 100 = some (.array (Tryd.prog.arrayLen 100) (Tryd.prog.elem 100)) := by kernel_rfl
theorem sz4 (w : World) : (sizeOf (Tryd.prog.elem 100)).run Tryd.prog w = .ok 1 w := by kernel_rfl
theorem slice4all (g o : Nat) (w : World) :
  (Instr.sliceAt 100 (.pointer (some ⟨g, o, none⟩)) none none none).run Tryd.prog w = .ok (.slice (some ⟨g, o, none⟩) 4 4) w := by
 rw [run_sliceAt_array_all w 100 ⟨g, o, none⟩ el4, sz4, al4]
 simp [Result.andThen, slicedAt, Addr.add]
theorem slice16l (g A : Nat) (h : A < 16) (w : World) :
  (Instr.sliceAt 26 (.pointer (some ⟨g, 0, none⟩)) (some (.int .i64 (A : Int))) none none).run Tryd.prog w = .ok (.slice (some ⟨g, A, none⟩) (16 - A) (16 - A)) w := by
 have h1 : ¬ 16 = A := by omega
 have ha : (⟨g, 0, none⟩ : Addr).add (A * 1) = ⟨g, A, none⟩ := by unfold Addr.add; split <;> simp_all
 rw [run_sliceAt_array_l w 26 ⟨g, 0, none⟩ el16 .i64 (A : Int) (by omega) (by rw [al16]; omega), sz16, al16]
 simp [Result.andThen, slicedAt, h1]
 have := ha
 rwa [Nat.mul_one] at this
def u8v (c : Nat) : Value := .int .u8 ((c : Nat) : Int)
theorem cellsN_list (l : List Nat) : (cellsN l).toList = l.map u8v := rfl
theorem copy_row (A W : List Nat) (n : Nat) (hn : A.length = n) (hW : W.length = 4) (hA : A.length + 4 ≤ 176) :
  ((cellsN (Ae.rowW A [] 0)).toList.take n ++ (W.map u8v ++ (cellsN (Ae.rowW A [] 0)).toList.drop (n + (W.map u8v).length))).toArray = cellsN (Ae.rowW A W 4) := by
 subst hn
 apply Array.ext'
 rw [cellsN_list, cellsN_list, ← List.map_take, ← List.map_drop, List.length_map, hW]
 simp only [Ae.rowW, List.take_nil, List.nil_append, List.take_left', List.map_append]
 rw [List.drop_append, List.drop_of_length_le (by omega), List.nil_append, List.take_of_length_le (show W.length ≤ 4 by omega), List.drop_replicate]
 congr 3
 congr 1
 omega
theorem info4 : (Tryd.prog.info? 100).map (·.size) = some 4 := by kernel_rfl
theorem hsz8 : (Tryd.prog.info? 5).map (·.size) = some 1 := by kernel_rfl
set_option maxRecDepth 100000 in
set_option maxHeartbeats 1000000 in
theorem keys_any (key : List Nat) (w : World) (hk : key.length = 16) (qk : Ae.bytes key) :
  Calls Tryd.prog 67 #[.agg (cellsN key)] w fun e w' => e = .returned (.agg (cellsN (Ae.sched key))) ∧ Below w.heap.size w w' := by
 have HK := Lib.hid hk
 clear hk
 have hz := (zero_of_info zero176).1
 have O0 : Obj (((w.alloc (.cells (cellsN key) 26)).alloc (.cells (cellsN z176) 101)).alloc (.cells (cellsN z176) 101)) w.heap.size 26 (cellsN key) := ((Obj.new w _ _).alloc _).alloc _
 have O1 : Obj (((w.alloc (.cells (cellsN key) 26)).alloc (.cells (cellsN z176) 101)).alloc (.cells (cellsN z176) 101)) (w.heap.size + 1) 101 (cellsN z176) := (new2 w _ _ _).alloc _
 have O2 : Obj (((w.alloc (.cells (cellsN key) 26)).alloc (.cells (cellsN z176) 101)).alloc (.cells (cellsN z176) 101)) (w.heap.size + 1 + 1) 101 (cellsN z176) := new3 w _ _ _ _
 have L0 : Below w.heap.size w (((w.alloc (.cells (cellsN key) 26)).alloc (.cells (cellsN z176) 101)).alloc (.cells (cellsN z176) 101)) := (((Below.refl _ w).alloc (Nat.le_refl _) _).alloc (by simp) _).alloc (by simp; omega) _
 have P0 := Lib.hid O0
 have P1 := Lib.hid O1
 have P2 := Lib.hid O2
 have PL := Lib.hid L0
 clear O0 O1 O2 L0
 go_enter Tryd.func67, Tryd.ntmps67
 go_wp2
 go_loopw [4, 8] (fun p i wr => ∃ j : Nat, j ≤ 44 ∧ i = .int .i64 j ∧ p = .int .u8 ((Ae.pwr ((j - 1) / 4) : Nat) : Int) ∧ Obj wr w.heap.size 26 (cellsN key) ∧ Obj wr (w.heap.size + 1) 101 (cellsN z176) ∧ Obj wr (w.heap.size + 1 + 1) 101 (cellsN (Ae.rowW (Ae.ks key j) [] 0)) ∧ Below w.heap.size w wr) (fun _ i _ => 44 - (intOf i).toNat)
 case atStart => exact ⟨0, by omega, rfl, rfl, P0.out, P1.out, (by have h := P2.out; rw [z176_row] at h ⊢; exact h), PL.out⟩
 case round =>
  clear P0 P1 P2 PL
  obtain ⟨j, hj, rfl, rfl, HO, HZ, HW, HL⟩ := hrel
  by_cases hlt : j < 44
  ·by_cases h4 : j < 4
   ·obtain ⟨A, hA⟩ : ∃ A, 4 * j = A := ⟨_, rfl⟩
    have e1 : IntKind.i64.wrap (4 * (j : Int)) = (A : Int) := by rw [IntWalk.i64_in _ (by omega)]; omega
    have hj44 : (j : Int) < 44 := by omega
    have hs1 := fun o w' => slice4all (w.heap.size + 1 + 1) o w'
    have hs2 := fun w' => slice16l w.heap.size A (by omega) w'
    go_wp2
    refine wp_region_still_tail 6 (by kernel_rfl) (by kernel_rfl) ?_
    simp only [List.take_succ_cons, List.take_zero, List.drop_succ_cons, List.drop_zero]
    change wpStill _ _ (World.drew _) (fun a' => wpList _ _ _ _ a' (World.drew _)) _ _
    iterate 6 still_step
    refine wpStill_nil ?_
    clear e1 hs1 hs2
    have HL0 := Lib.hid (Ae.ks_len key j)
    have HLW := Lib.hid (Ae.word_len key (Ae.ks key j) j)
    refine wpList_copy_own rfl (.tmp 15) (.tmp 18) 24 24 rfl 5 Tryd.underlying24 hsz8 (w.heap.size + 1 + 1) (j * 4) 4 4 ⟨w.heap.size, A, none⟩ (16 - A) (16 - A) rfl rfl
     _ 101 HW.drew ((Ae.word key (Ae.ks key j) j).map u8v) ?_ ?_ ?_ ?_ ?_
    ·rw [List.length_map, HLW.out]; exact (Nat.min_eq_right (by omega)).symm
    ·intro i v hv
     rw [List.getElem?_map, Option.map_eq_some_iff] at hv
     obtain ⟨c, hc, rfl⟩ := hv
     have hi : i < 4 := by have := (List.getElem?_eq_some_iff.1 hc).1; rw [HLW.out] at this; exact this
     have hcv : (Ae.word key (Ae.ks key j) j).getD i 0 = c := by rw [List.getD_eq_getElem?_getD, hc]; rfl
     rw [Ae.word_low _ _ _ _ h4 hi, hA] at hcv
     rw [Addr.add_mid, Obj.getN HO.drew _ (by rw [HK.out]; omega), hcv]
     rfl
    ·rw [List.length_map, HLW.out, cellsN_size, Ae.rowW_len _ _ _ (by rw [HL0.out]; omega) (by simp)]; omega
    ·intro v hv
     obtain ⟨c, _, rfl⟩ := List.mem_map.1 hv
     rfl
    have HE := Lib.hid (copy_row (Ae.ks key j) (Ae.word key (Ae.ks key j) j) (j * 4) (by rw [HL0.out]; omega) HLW.out (by rw [HL0.out]; omega))
    rw [HE.out]
    have U := (Upd.refl (w.heap.size + 1 + 1) wr.drew).row (cellsN (Ae.rowW (Ae.ks key j) (Ae.word key (Ae.ks key j) j) 4))
    have HW2 := HW.drew.row (cellsN (Ae.rowW (Ae.ks key j) (Ae.word key (Ae.ks key j) j) 4))
    have HO2 := Obj.upd HO.drew U (by omega)
    have HZ2 := Obj.upd HZ.drew U (by omega)
    have HL2 := Upd.below HL.drew (by omega) U
    have HW3 := HW2.as (cs' := cellsN (Ae.rowW (Ae.ks key (j + 1)) [] 0)) (by rw [Ae.rowW_full])
    have HP := Lib.hid (show Ae.pwr ((j - 1) / 4) = Ae.pwr ((j + 1 - 1) / 4) by rw [show (j - 1) / 4 = (j + 1 - 1) / 4 by omega])
    clear U HO HZ HW HL HW2
    go_wp2
    go_roundw
    case rel => exact ⟨j + 1, by omega, by go_num, by rw [HP.out], HO2, HZ2, HW3, HL2⟩
    case measure => simp [intOf]; omega
   ·have h4' : 4 ≤ j := by omega
    have h4i : ¬ (j : Int) < 4 := by omega
    have hd4 : decide ((j : Int) < 4) = false := by simp; omega
    obtain ⟨J, hJ⟩ : ∃ J, j - 1 = J := ⟨_, rfl⟩
    have e1 : (j : Int) - 1 = (J : Int) := by omega
    have hJ44 : (J : Int) < 44 := by omega
    have HL0 := Lib.hid (Ae.ks_len key j)
    have qL := Ae.ks_bytes qk j
    have hbz := HL.size
    have hWl : ∀ i, i < 4 * j → wr.cell? ⟨w.heap.size + 1 + 1, i, none⟩ = some (.int .u8 (((Ae.ks key j).getD i 0 : Nat) : Int)) := fun i hi => by
     rw [HW.getN i (by rw [Ae.rowW_len _ _ _ (by rw [HL0.out]; omega) (by simp)]; omega), Ae.rowW_low _ _ _ _ (by rw [HL0.out]; exact hi)]
    have f0 : wr.cell? ⟨w.heap.size + 1 + 1, J * 4, none⟩ = some (.int .u8 (((Ae.ks key j).getD (4 * j - 4) 0 : Nat) : Int)) := by rw [hWl _ (by omega), show J * 4 = 4 * j - 4 by omega]
    have f1 : wr.cell? ⟨w.heap.size + 1 + 1, J * 4 + 1, none⟩ = some (.int .u8 (((Ae.ks key j).getD (4 * j - 3) 0 : Nat) : Int)) := by rw [hWl _ (by omega), show J * 4 + 1 = 4 * j - 3 by omega]
    have f2 : wr.cell? ⟨w.heap.size + 1 + 1, J * 4 + 2, none⟩ = some (.int .u8 (((Ae.ks key j).getD (4 * j - 2) 0 : Nat) : Int)) := by rw [hWl _ (by omega), show J * 4 + 2 = 4 * j - 2 by omega]
    have f3 : wr.cell? ⟨w.heap.size + 1 + 1, J * 4 + 3, none⟩ = some (.int .u8 (((Ae.ks key j).getD (4 * j - 1) 0 : Nat) : Int)) := by rw [hWl _ (by omega), show J * 4 + 3 = 4 * j - 1 by omega]
    have HTM := Lib.hid (show Ae.tmpW (Ae.ks key j) j = if j % 4 = 0 then [Ae.box ((Ae.ks key j).getD (4 * j - 3) 0) ^^^ Ae.pwr (j / 4 - 1), Ae.box ((Ae.ks key j).getD (4 * j - 2) 0), Ae.box ((Ae.ks key j).getD (4 * j - 1) 0), Ae.box ((Ae.ks key j).getD (4 * j - 4) 0)] else [(Ae.ks key j).getD (4 * j - 4) 0, (Ae.ks key j).getD (4 * j - 3) 0, (Ae.ks key j).getD (4 * j - 2) 0, (Ae.ks key j).getD (4 * j - 1) 0] from rfl)
    have qa := Ae.bytes_get qL (4 * j - 4)
    have qb := Ae.bytes_get qL (4 * j - 3)
    have qc := Ae.bytes_get qL (4 * j - 2)
    have qd := Ae.bytes_get qL (4 * j - 1)
    clear hWl hJ hz
    generalize (Ae.ks key j).getD (4 * j - 4) 0 = a at *
    generalize (Ae.ks key j).getD (4 * j - 3) 0 = b at *
    generalize (Ae.ks key j).getD (4 * j - 2) 0 = c at *
    generalize (Ae.ks key j).getD (4 * j - 1) 0 = d at *
    have HTB : Obj (wr.alloc (.cells #[.int .u8 ((a : Nat) : Int), .int .u8 ((b : Nat) : Int), .int .u8 ((c : Nat) : Int), .int .u8 ((d : Nat) : Int)] 100)) wr.heap.size 100 (cellsN [a, b, c, d]) := Obj.new wr _ _
    have B0 : Below wr.heap.size wr (wr.alloc (.cells #[.int .u8 ((a : Nat) : Int), .int .u8 ((b : Nat) : Int), .int .u8 ((c : Nat) : Int), .int .u8 ((d : Nat) : Int)] 100)) := (Below.refl _ _).alloc (Nat.le_refl _) _
    have HO1 := HO.kept B0
    have HZ1 := HZ.kept B0
    have HW1 := HW.kept B0
    have HL1 := HL.trans (B0.mono HL.size)
    have hWB : w.heap.size + 1 + 1 < wr.heap.size := Obj.lt HW
    clear HO HZ HW HL B0
    by_cases hm : j % 4 = 0
    ·have hmi : ((j : Int) % 4 == 0) = true := by rw [show (j : Int) % 4 = 0 by omega]; rfl
     have HT : Hid (Ae.tmpW (Ae.ks key j) j = [Ae.box b ^^^ Ae.pwr (j / 4 - 1), Ae.box c, Ae.box d, Ae.box a]) := by unfold Hid; rw [HTM.out, if_pos hm]
     have HPE := Lib.hid (show Ae.pwr ((j - 1) / 4) = Ae.pwr (j / 4 - 1) by rw [show (j - 1) / 4 = j / 4 - 1 by omega])
     have HPN := Lib.hid (show Ae.mul (Ae.pwr (j / 4 - 1)) 2 = Ae.pwr ((j + 1 - 1) / 4) by rw [show (j + 1 - 1) / 4 = (j / 4 - 1) + 1 by omega]; rfl)
     rw [HPE.out]
     have qp := Ae.pwr_lt (j / 4 - 1)
     generalize Ae.pwr (j / 4 - 1) = pw at *
     have qbb := Ae.box_lt b qb
     have HX := Lib.hid (u8_xor_nat (Ae.box b) pw qbb qp)
     clear hm HTM
     go_wp2
     generalize wr.heap.size = tb at *
     generalize wr.alloc _ = w2 at *
     have HO9 := HO1.drew
     have HZ9 := HZ1.drew
     have HW9 := HW1.drew
     have HL9 := HL1.drew
     clear HO1 HZ1 HW1 HL1 f0 f1 f2 f3
     refine wp_region_T 15 (fun w' => Obj w' tb 100 (cellsN [a, b, c, d])) (by kernel_rfl) HTB.drew (fun hHeld => ?_)
     refine wpAnyT_take (i := 0) (oi := ?_) (v := ?_) ?_ ?_ ?_ ?_ ?_ ?_ ?_ (by assumption) ?_
     rotate_left 2
     ·simp only [getElem?_toArray, getElem?_cons_zero, getElem?_cons_succ]
      rfl
     ·kernel_rfl
     ·kernel_rfl
     ·kernel_rfl
     ·kernel_rfl
     ·exact fun _ _ _ h => h
     ·refine Or.inl ⟨by rfl, ?_⟩
      intro w hSw
      (try dsimp only at hSw)
      go_simp
      all_goals with_reducible rfl
     simp only [Act.put, setIfInBounds_toArray, set_cons_zero, set_cons_succ]
     refine wpAnyT_take (i := 1) (oi := ?_) (v := ?_) ?_ ?_ ?_ ?_ ?_ ?_ ?_ (by assumption) ?_
     rotate_left 2
     ·simp only [getElem?_toArray, getElem?_cons_zero, getElem?_cons_succ]
      rfl
     ·kernel_rfl
     ·kernel_rfl
     ·kernel_rfl
     ·kernel_rfl
     ·exact fun _ _ _ h => h
     ·refine Or.inl ⟨by rfl, ?_⟩
      intro w' hSw
      have q : w'.cell? ⟨tb, 1, none⟩ = some (.int .u8 ((b : Nat) : Int)) := Obj.cell hSw 1
      go_simp
      all_goals with_reducible rfl
     simp only [Act.put, setIfInBounds_toArray, set_cons_zero, set_cons_succ]
     refine wpAnyT_take (i := 3) (oi := ?_) (v := ?_) ?_ ?_ ?_ ?_ ?_ ?_ ?_ (by assumption) ?_
     rotate_left 2
     ·simp only [getElem?_toArray, getElem?_cons_zero, getElem?_cons_succ]
      rfl
     ·kernel_rfl
     ·kernel_rfl
     ·kernel_rfl
     ·kernel_rfl
     ·exact fun _ _ _ h => h
     ·refine Or.inl ⟨by rfl, ?_⟩
      intro w hSw
      (try dsimp only at hSw)
      go_simp
      all_goals with_reducible rfl
     simp only [Act.put, setIfInBounds_toArray, set_cons_zero, set_cons_succ]
     refine wpAnyT_take (i := 5) (oi := ?_) (v := ?_) ?_ ?_ ?_ ?_ ?_ ?_ ?_ (by assumption) ?_
     rotate_left 2
     ·simp only [getElem?_toArray, getElem?_cons_zero, getElem?_cons_succ]
      rfl
     ·kernel_rfl
     ·kernel_rfl
     ·kernel_rfl
     ·kernel_rfl
     ·exact fun _ _ _ h => h
     ·refine Or.inl ⟨by rfl, ?_⟩
      intro w hSw
      (try dsimp only at hSw)
      go_simp
      all_goals with_reducible rfl
     simp only [Act.put, setIfInBounds_toArray, set_cons_zero, set_cons_succ]
     refine wpAnyT_take (i := 6) (oi := ?_) (v := ?_) ?_ ?_ ?_ ?_ ?_ ?_ ?_ (by assumption) ?_
     rotate_left 2
     ·simp only [getElem?_toArray, getElem?_cons_zero, getElem?_cons_succ]
      rfl
     ·kernel_rfl
     ·kernel_rfl
     ·kernel_rfl
     ·kernel_rfl
     ·exact fun _ _ _ h => h
     ·refine Or.inl ⟨by rfl, ?_⟩
      intro w' hSw
      have q : w'.cell? ⟨tb, 2, none⟩ = some (.int .u8 ((c : Nat) : Int)) := Obj.cell hSw 2
      go_simp
      all_goals with_reducible rfl
     simp only [Act.put, setIfInBounds_toArray, set_cons_zero, set_cons_succ]
     refine wpAnyT_take (i := 8) (oi := ?_) (v := ?_) ?_ ?_ ?_ ?_ ?_ ?_ ?_ (by assumption) ?_
     rotate_left 2
     ·simp only [getElem?_toArray, getElem?_cons_zero, getElem?_cons_succ]
      rfl
     ·kernel_rfl
     ·kernel_rfl
     ·kernel_rfl
     ·kernel_rfl
     ·exact fun _ _ _ h => h
     ·refine Or.inl ⟨by rfl, ?_⟩
      intro w hSw
      (try dsimp only at hSw)
      go_simp
      all_goals with_reducible rfl
     simp only [Act.put, setIfInBounds_toArray, set_cons_zero, set_cons_succ]
     refine wpAnyT_take (i := 9) (oi := ?_) (v := ?_) ?_ ?_ ?_ ?_ ?_ ?_ ?_ (by assumption) ?_
     rotate_left 2
     ·simp only [getElem?_toArray, getElem?_cons_zero, getElem?_cons_succ]
      rfl
     ·kernel_rfl
     ·kernel_rfl
     ·kernel_rfl
     ·kernel_rfl
     ·exact fun _ _ _ h => h
     ·refine Or.inl ⟨by rfl, ?_⟩
      intro w' hSw
      have q : w'.cell? ⟨tb, 3, none⟩ = some (.int .u8 ((d : Nat) : Int)) := Obj.cell hSw 3
      go_simp
      all_goals with_reducible rfl
     simp only [Act.put, setIfInBounds_toArray, set_cons_zero, set_cons_succ]
     refine wpAnyT_take (i := 11) (oi := ?_) (v := ?_) ?_ ?_ ?_ ?_ ?_ ?_ ?_ (by assumption) ?_
     rotate_left 2
     ·simp only [getElem?_toArray, getElem?_cons_zero, getElem?_cons_succ]
      rfl
     ·kernel_rfl
     ·kernel_rfl
     ·kernel_rfl
     ·kernel_rfl
     ·exact fun _ _ _ h => h
     ·refine Or.inl ⟨by rfl, ?_⟩
      intro w hSw
      (try dsimp only at hSw)
      go_simp
      all_goals with_reducible rfl
     simp only [Act.put, setIfInBounds_toArray, set_cons_zero, set_cons_succ]
     refine wpAnyT_take (i := 12) (oi := ?_) (v := ?_) ?_ ?_ ?_ ?_ ?_ ?_ ?_ (by assumption) ?_
     rotate_left 2
     ·simp only [getElem?_toArray, getElem?_cons_zero, getElem?_cons_succ]
      rfl
     ·kernel_rfl
     ·kernel_rfl
     ·kernel_rfl
     ·kernel_rfl
     ·exact fun _ _ _ h => h
     ·refine Or.inl ⟨by rfl, ?_⟩
      intro w' hSw
      have q : w'.cell? ⟨tb, 0, none⟩ = some (.int .u8 ((a : Nat) : Int)) := Obj.cell hSw 0
      go_simp
      all_goals with_reducible rfl
     simp only [Act.put, setIfInBounds_toArray, set_cons_zero, set_cons_succ]
     refine wpAnyT_one (i := 2) (o := ?_) (by kernel_rfl) ?_ (fun KK hKK => ?_)
     rotate_left
     ·simp only [getElem?_toArray, getElem?_cons_zero, getElem?_cons_succ]
      rfl
     go_simp
     go_at_call 84; refine (box_any b _ qb).mono ?_; rintro e y10 ⟨rfl, hb10⟩; have HS10 : Obj y10 tb 100 (cellsN [a, b, c, d]) := Obj.kept (by assumption : Obj _ tb 100 (cellsN [a, b, c, d])) hb10; have HO10 := HO9.kept hb10; have HZ10 := HZ9.kept hb10; have HW10 := HW9.kept hb10; have HL10 := HL9.trans (hb10.mono HL9.size)
     try go_wp2_with fail
     refine hKK.out _ _ ?_ (fun h10 => ?_)
     ·(try dsimp only)
      assumption
     clear hKK KK
     try simp only [Act.put, setIfInBounds_toArray, set_cons_zero, set_cons_succ]
     refine wpAnyT_take (i := 4) (oi := ?_) (v := ?_) ?_ ?_ ?_ ?_ ?_ ?_ ?_ (by assumption) ?_
     rotate_left 2
     ·simp only [getElem?_toArray, getElem?_cons_zero, getElem?_cons_succ]
      rfl
     ·kernel_rfl
     ·kernel_rfl
     ·kernel_rfl
     ·kernel_rfl
     ·exact fun _ _ _ h => h
     ·refine Or.inl ⟨by rfl, ?_⟩
      intro w hSw
      (try dsimp only at hSw)
      go_simp
      all_goals with_reducible rfl
     simp only [Act.put, setIfInBounds_toArray, set_cons_zero, set_cons_succ]
     refine wpAnyT_one (i := 7) (o := ?_) (by kernel_rfl) ?_ (fun KK hKK => ?_)
     rotate_left
     ·simp only [getElem?_toArray, getElem?_cons_zero, getElem?_cons_succ]
      rfl
     go_simp
     go_at_call 84; refine (box_any c _ qc).mono ?_; rintro e y11 ⟨rfl, hb11⟩; have HS11 : Obj y11 tb 100 (cellsN [a, b, c, d]) := Obj.kept (by assumption : Obj _ tb 100 (cellsN [a, b, c, d])) hb11; have HO11 := HO10.kept hb11; have HZ11 := HZ10.kept hb11; have HW11 := HW10.kept hb11; have HL11 := HL10.trans (hb11.mono HL10.size)
     try go_wp2_with fail
     refine hKK.out _ _ ?_ (fun h11 => ?_)
     ·(try dsimp only)
      assumption
     clear hKK KK
     try simp only [Act.put, setIfInBounds_toArray, set_cons_zero, set_cons_succ]
     refine wpAnyT_one (i := 10) (o := ?_) (by kernel_rfl) ?_ (fun KK hKK => ?_)
     rotate_left
     ·simp only [getElem?_toArray, getElem?_cons_zero, getElem?_cons_succ]
      rfl
     go_simp
     go_at_call 84; refine (box_any d _ qd).mono ?_; rintro e y12 ⟨rfl, hb12⟩; have HS12 : Obj y12 tb 100 (cellsN [a, b, c, d]) := Obj.kept (by assumption : Obj _ tb 100 (cellsN [a, b, c, d])) hb12; have HO12 := HO11.kept hb12; have HZ12 := HZ11.kept hb12; have HW12 := HW11.kept hb12; have HL12 := HL11.trans (hb12.mono HL11.size)
     try go_wp2_with fail
     refine hKK.out _ _ ?_ (fun h12 => ?_)
     ·(try dsimp only)
      assumption
     clear hKK KK
     try simp only [Act.put, setIfInBounds_toArray, set_cons_zero, set_cons_succ]
     refine wpAnyT_one (i := 13) (o := ?_) (by kernel_rfl) ?_ (fun KK hKK => ?_)
     rotate_left
     ·simp only [getElem?_toArray, getElem?_cons_zero, getElem?_cons_succ]
      rfl
     go_simp
     go_at_call 84; refine (box_any a _ qa).mono ?_; rintro e y13 ⟨rfl, hb13⟩; have HS13 : Obj y13 tb 100 (cellsN [a, b, c, d]) := Obj.kept (by assumption : Obj _ tb 100 (cellsN [a, b, c, d])) hb13; have HO13 := HO12.kept hb13; have HZ13 := HZ12.kept hb13; have HW13 := HW12.kept hb13; have HL13 := HL12.trans (hb13.mono HL12.size)
     try go_wp2_with fail
     refine hKK.out _ _ ?_ (fun h13 => ?_)
     ·(try dsimp only)
      assumption
     clear hKK KK
     try simp only [Act.put, setIfInBounds_toArray, set_cons_zero, set_cons_succ]
     refine wpAnyT_take (i := 14) (oi := ?_) (v := ?_) ?_ ?_ ?_ ?_ ?_ ?_ ?_ (by assumption) ?_
     rotate_left 2
     ·simp only [getElem?_toArray, getElem?_cons_zero, getElem?_cons_succ]
      rfl
     ·kernel_rfl
     ·kernel_rfl
     ·kernel_rfl
     ·kernel_rfl
     ·exact fun _ _ _ h => h
     ·refine Or.inl ⟨by rfl, ?_⟩
      intro w hSw
      (try dsimp only at hSw)
      go_simp
      all_goals with_reducible rfl
     simp only [Act.put, setIfInBounds_toArray, set_cons_zero, set_cons_succ]
     refine wpAnyT_last (o := ?_) (by kernel_rfl) ?_ (fun KK hKK => ?_)
     rotate_left
     ·simp only [getElem?_toArray, getElem?_cons_zero, getElem?_cons_succ]
      rfl
     rw [if_pos (by rfl)]
     refine wp_store_row 100 (.tmp 6) (.tmp 41) rfl tb _ rfl rfl 100 (cellsN [a, b, c, d]) HS13 info4 (by simp [cellsN]) (by simp [Value.oneCell']) ?_
     refine hKK.out _ _ ?_
     clear hKK KK
     try simp only [Act.put, setIfInBounds_toArray, set_cons_zero, set_cons_succ]
     refine wpAnyT_done (by kernel_rfl) ?_ _
     rw [HX.out]
     have HTB2 : Obj (y13.setRow tb #[.int .u8 ((Ae.box b ^^^ pw : Nat) : Int), .int .u8 ((Ae.box c : Nat) : Int), .int .u8 ((Ae.box d : Nat) : Int), .int .u8 ((Ae.box a : Nat) : Int)]) tb 100 (cellsN [Ae.box b ^^^ pw, Ae.box c, Ae.box d, Ae.box a]) := HS13.row _
     have U := (Upd.refl tb y13).row #[.int .u8 ((Ae.box b ^^^ pw : Nat) : Int), .int .u8 ((Ae.box c : Nat) : Int), .int .u8 ((Ae.box d : Nat) : Int), .int .u8 ((Ae.box a : Nat) : Int)]
     have HO1 := Obj.upd HO13 U (by omega)
     have HZ1 := Obj.upd HZ13 U (by omega)
     have HW1 := Obj.upd HW13 U (by omega)
     have HL1 := Upd.below HL13 (by omega) U
     clear HO9 HO10 HO11 HO12 HO13 HZ9 HZ10 HZ11 HZ12 HZ13 HW9 HW10 HW11 HW12 HW13 HL9 HL10 HL11 HL12 HL13 HS10 HS11 HS12 HS13 hb10 hb11 hb12 hb13 h10 h11 h12 h13 hHeld HTB U
     rw [← HT.out] at HTB2
     go_wp2_with fail
     refine (mul_any pw 2 _ qp (by decide)).mono ?_
     rintro e yn ⟨rfl, rfl⟩
     rw [HPN.out]
     have qT := Ae.tmpW_bytes j qL
     have HTL := Lib.hid (Ae.tmpW_len (Ae.ks key j) j)
     have HWT := Lib.hid (fun k hk => Ae.word_tmp key (Ae.ks key j) j h4' k hk)
     have HWN := Lib.hid (Ae.word_len key (Ae.ks key j) j)
     have HWR := Lib.hid (Ae.rowW_none (Ae.ks key j) (Ae.word key (Ae.ks key j) j))
     have HWF := Lib.hid (Ae.rowW_full key j)
     generalize Ae.word key (Ae.ks key j) j = W at *
     generalize Ae.tmpW (Ae.ks key j) j = V at *
     go_wp2
     skip
     go_loopw [44] (fun q wx => ∃ k : Nat, k ≤ 4 ∧ q = .int .i64 k ∧ Obj wx w.heap.size 26 (cellsN key) ∧ Obj wx (w.heap.size + 1) 101 (cellsN z176) ∧ Obj wx (w.heap.size + 1 + 1) 101 (cellsN (Ae.rowW (Ae.ks key j) W k)) ∧ Obj wx tb 100 (cellsN V) ∧ Below w.heap.size w wx) (fun q _ => 4 - (intOf q).toNat)
     case atStart => exact ⟨0, by omega, rfl, HO1, HZ1, by rw [HWR.out]; exact HW1, HTB2, HL1⟩
     case round =>
      clear HO1 HZ1 HW1 HL1 HTB2
      obtain ⟨k, hk, rfl, HO, HZ, HW, HV, HL⟩ := hrel
      by_cases hk4 : k < 4
      ·obtain ⟨M, hM⟩ : ∃ M, j - 4 = M := ⟨_, rfl⟩
       have g1 : IntKind.i64.wrap ((j : Int) - 4) = (M : Int) := by rw [IntWalk.i64_in _ (by omega)]; omega
       have gM : (M : Int) < 44 := by omega
       have gj : (j : Int) < 44 := by omega
       have gk : (k : Int) < 4 := by omega
       have fx : wr.cell? ⟨w.heap.size + 1 + 1, M * 4 + k, none⟩ = some (.int .u8 (((Ae.ks key j).getD (4 * j - 16 + k) 0 : Nat) : Int)) := by
        rw [HW.getN _ (by rw [Ae.rowW_len _ _ _ (by rw [HL0.out]; omega) (by rw [HWN.out]; omega)]; omega), Ae.rowW_low _ _ _ _ (by rw [HL0.out]; omega), show M * 4 + k = 4 * j - 16 + k by omega]
       have fy : wr.cell? ⟨tb, k, none⟩ = some (.int .u8 ((V.getD k 0 : Nat) : Int)) := HV.getN k (by rw [HTL.out]; exact hk4)
       have z0 := HW.free (j * 4 + k)
       obtain ⟨v, hv⟩ : ∃ v, wr.cell? ⟨w.heap.size + 1 + 1, j * 4 + k, none⟩ = some v := ⟨_, HW.getN _ (by rw [Ae.rowW_len _ _ _ (by rw [HL0.out]; omega) (by rw [HWN.out]; omega)]; omega)⟩
       have hx := Ae.bytes_get qL (4 * j - 16 + k)
       have hy := Ae.bytes_get qT k
       have HE : Hid ((Ae.rowW (Ae.ks key j) W k).set (j * 4 + k) ((Ae.ks key j).getD (4 * j - 16 + k) 0 ^^^ V.getD k 0) = Ae.rowW (Ae.ks key j) W (k + 1)) := by
        unfold Hid
        rw [← HWT.out k hk4, show j * 4 + k = (Ae.ks key j).length + k by rw [HL0.out]; omega]
        exact Ae.rowW_set _ _ _ (by rw [HL0.out]; omega) (by rw [HWN.out]; exact hk4)
       clear hM
       generalize (Ae.ks key j).getD (4 * j - 16 + k) 0 = x at *
       generalize V.getD k 0 = y at *
       have HXY := Lib.hid (u8_xor_nat x y hx hy)
       go_wp2
       refine wp_region_still_tail 14 (by kernel_rfl) (by kernel_rfl) ?_
       simp only [List.take_succ_cons, List.take_zero, List.drop_succ_cons, List.drop_zero]
       change wpStill _ _ (World.drew _) (fun a' => wpList _ _ _ _ a' (World.drew _)) _ _
       iterate 14 still_step
       refine wpStill_nil ?_
       clear g1
       go_wp2
       go_roundw
       case rel =>
        rw [HXY.out]
        exact ⟨k + 1, by omega, by go_num, (HO.far (by simp; omega) _).drew, (HZ.far (by simp) _).drew, ((HW.setN _ _).drew).as (by rw [HE.out]), (HV.far (by simp; omega) _).drew, (HL.setCell (by simp; omega) _).drew⟩
       case measure => simp [intOf]; omega
      ·obtain rfl : k = 4 := by omega
       rw [HWF.out] at HW
       clear hk4
       go_wp2
       go_roundw
       case rel => exact ⟨j + 1, by omega, by go_num, rfl, HO, HZ, HW, HL⟩
       case measure => simp [intOf]; omega
    ·have hmi : ((j : Int) % 4 == 0) = false := by have : (j : Int) % 4 ≠ 0 := by omega
                                                   simp [this]
     have HT : Hid (Ae.tmpW (Ae.ks key j) j = [a, b, c, d]) := by unfold Hid; rw [HTM.out, if_neg hm]
     have HPE := Lib.hid (show Ae.pwr ((j - 1) / 4) = Ae.pwr ((j + 1 - 1) / 4) by rw [show (j - 1) / 4 = (j + 1 - 1) / 4 by omega])
     generalize Ae.pwr ((j - 1) / 4) = pw at *
     clear hm HTM
     go_wp2
     generalize wr.heap.size = tb at *
     generalize wr.alloc _ = w2 at *
     rw [← HT.out] at HTB
     have qT := Ae.tmpW_bytes j qL
     have HTL := Lib.hid (Ae.tmpW_len (Ae.ks key j) j)
     have HWT := Lib.hid (fun k hk => Ae.word_tmp key (Ae.ks key j) j h4' k hk)
     have HWN := Lib.hid (Ae.word_len key (Ae.ks key j) j)
     have HWR := Lib.hid (Ae.rowW_none (Ae.ks key j) (Ae.word key (Ae.ks key j) j))
     have HWF := Lib.hid (Ae.rowW_full key j)
     generalize Ae.word key (Ae.ks key j) j = W at *
     generalize Ae.tmpW (Ae.ks key j) j = V at *
     go_wp2
     skip
     go_loopw [44] (fun q wx => ∃ k : Nat, k ≤ 4 ∧ q = .int .i64 k ∧ Obj wx w.heap.size 26 (cellsN key) ∧ Obj wx (w.heap.size + 1) 101 (cellsN z176) ∧ Obj wx (w.heap.size + 1 + 1) 101 (cellsN (Ae.rowW (Ae.ks key j) W k)) ∧ Obj wx tb 100 (cellsN V) ∧ Below w.heap.size w wx) (fun q _ => 4 - (intOf q).toNat)
     case atStart => exact ⟨0, by omega, rfl, HO1, HZ1, by rw [HWR.out]; exact HW1, HTB, HL1⟩
     case round =>
      clear HO1 HZ1 HW1 HL1 HTB
      obtain ⟨k, hk, rfl, HO, HZ, HW, HV, HL⟩ := hrel
      by_cases hk4 : k < 4
      ·obtain ⟨M, hM⟩ : ∃ M, j - 4 = M := ⟨_, rfl⟩
       have g1 : IntKind.i64.wrap ((j : Int) - 4) = (M : Int) := by rw [IntWalk.i64_in _ (by omega)]; omega
       have gM : (M : Int) < 44 := by omega
       have gj : (j : Int) < 44 := by omega
       have gk : (k : Int) < 4 := by omega
       have fx : wr.cell? ⟨w.heap.size + 1 + 1, M * 4 + k, none⟩ = some (.int .u8 (((Ae.ks key j).getD (4 * j - 16 + k) 0 : Nat) : Int)) := by
        rw [HW.getN _ (by rw [Ae.rowW_len _ _ _ (by rw [HL0.out]; omega) (by rw [HWN.out]; omega)]; omega), Ae.rowW_low _ _ _ _ (by rw [HL0.out]; omega), show M * 4 + k = 4 * j - 16 + k by omega]
       have fy : wr.cell? ⟨tb, k, none⟩ = some (.int .u8 ((V.getD k 0 : Nat) : Int)) := HV.getN k (by rw [HTL.out]; exact hk4)
       have z0 := HW.free (j * 4 + k)
       obtain ⟨v, hv⟩ : ∃ v, wr.cell? ⟨w.heap.size + 1 + 1, j * 4 + k, none⟩ = some v := ⟨_, HW.getN _ (by rw [Ae.rowW_len _ _ _ (by rw [HL0.out]; omega) (by rw [HWN.out]; omega)]; omega)⟩
       have hx := Ae.bytes_get qL (4 * j - 16 + k)
       have hy := Ae.bytes_get qT k
       have HE : Hid ((Ae.rowW (Ae.ks key j) W k).set (j * 4 + k) ((Ae.ks key j).getD (4 * j - 16 + k) 0 ^^^ V.getD k 0) = Ae.rowW (Ae.ks key j) W (k + 1)) := by
        unfold Hid
        rw [← HWT.out k hk4, show j * 4 + k = (Ae.ks key j).length + k by rw [HL0.out]; omega]
        exact Ae.rowW_set _ _ _ (by rw [HL0.out]; omega) (by rw [HWN.out]; exact hk4)
       clear hM
       generalize (Ae.ks key j).getD (4 * j - 16 + k) 0 = x at *
       generalize V.getD k 0 = y at *
       have HXY := Lib.hid (u8_xor_nat x y hx hy)
       go_wp2
       refine wp_region_still_tail 14 (by kernel_rfl) (by kernel_rfl) ?_
       simp only [List.take_succ_cons, List.take_zero, List.drop_succ_cons, List.drop_zero]
       change wpStill _ _ (World.drew _) (fun a' => wpList _ _ _ _ a' (World.drew _)) _ _
       iterate 14 still_step
       refine wpStill_nil ?_
       clear g1
       go_wp2
       go_roundw
       case rel =>
        rw [HXY.out]
        exact ⟨k + 1, by omega, by go_num, (HO.far (by simp; omega) _).drew, (HZ.far (by simp) _).drew, ((HW.setN _ _).drew).as (by rw [HE.out]), (HV.far (by simp; omega) _).drew, (HL.setCell (by simp; omega) _).drew⟩
       case measure => simp [intOf]; omega
      ·obtain rfl : k = 4 := by omega
       rw [HWF.out] at HW
       clear hk4
       go_wp2
       go_roundw
       case rel => exact ⟨j + 1, by omega, by go_num, by rw [HPE.out], HO, HZ, HW, HL⟩
       case measure => simp [intOf]; omega
  ·obtain rfl : j = 44 := by omega
   have HF := Lib.hid (Ae.rowW_end key)
   rw [HF.out] at HW
   have HI := Lib.hid (size176 (Ae.sched_len key))
   have HSZ : Hid ((cellsN z176).size = (cellsN (Ae.sched key)).size) := by unfold Hid; rw [cellsN_size, cellsN_size, Ae.sched_len, z176_len]
   clear hlt hj hz
   go_wp2_with (first
    | (refine wpList_load_row rfl 101 (.tmp 3) rfl _ rfl _ _ _ _ HW Tryd.underlying101 rfl HI.out ?_)
    | (refine wpList_store_row rfl 101 (.tmp 2) (.tmp 63) rfl _ _ rfl rfl _ _ HZ HI.out HSZ.out (one_cellsN _) ?_))
   exact bodyPost_ret (v := .agg (cellsN (Ae.sched key))) (results_cell_row rfl _ _ _ _ _ _ _ rfl (HZ.row _) Tryd.underlying101 rfl HI.out) rfl ⟨rfl, Upd.below HL (by omega) ((Upd.refl _ _).row _)⟩
end Go.Proofs.YtabfcaidioohfaaDoor
namespace Go.Proofs.YtabfcaidioohfaaDoor
open List (getElem?_toArray getElem?_cons_zero getElem?_cons_succ setIfInBounds_toArray set_cons_zero set_cons_succ)
set_option maxRecDepth 100000
open Go.RowKit
set_option linter.unusedVariables false
set_option linter.unusedSimpArgs false
set_option maxHeartbeats 1000000 in
theorem encipher_any (key b : List Nat) (w : World) (hk : key.length = 16) (hb : b.length = 16) (qk : Ae.bytes key) (qb : Ae.bytes b) :
  Calls Tryd.prog 66 #[.agg (cellsN key), .agg (cellsN b)] w fun e w' => e = .returned (.agg (cellsN (Ae.enc (Ae.sched key) b))) ∧ Below w.heap.size w w' := by
 have HB := Lib.hid hb
 have HK := Lib.hid hk
 clear hb hk
 have O0 : Obj (((w.alloc (.cells (cellsN key) 26)).alloc (.cells (cellsN b) 26)).alloc (.cells #[.int .u8 0, .int .u8 0, .int .u8 0, .int .u8 0, .int .u8 0, .int .u8 0, .int .u8 0, .int .u8 0, .int .u8 0, .int .u8 0, .int .u8 0, .int .u8 0, .int .u8 0, .int .u8 0, .int .u8 0, .int .u8 0] 26)) w.heap.size 26 (cellsN key) := ((Obj.new w _ _).alloc _).alloc _
 have O1 : Obj (((w.alloc (.cells (cellsN key) 26)).alloc (.cells (cellsN b) 26)).alloc (.cells #[.int .u8 0, .int .u8 0, .int .u8 0, .int .u8 0, .int .u8 0, .int .u8 0, .int .u8 0, .int .u8 0, .int .u8 0, .int .u8 0, .int .u8 0, .int .u8 0, .int .u8 0, .int .u8 0, .int .u8 0, .int .u8 0] 26)) (w.heap.size + 1) 26 (cellsN b) := (new2 w _ _ _).alloc _
 have O2 : Obj (((w.alloc (.cells (cellsN key) 26)).alloc (.cells (cellsN b) 26)).alloc (.cells #[.int .u8 0, .int .u8 0, .int .u8 0, .int .u8 0, .int .u8 0, .int .u8 0, .int .u8 0, .int .u8 0, .int .u8 0, .int .u8 0, .int .u8 0, .int .u8 0, .int .u8 0, .int .u8 0, .int .u8 0, .int .u8 0] 26)) (w.heap.size + 1 + 1) 26 (cellsN (List.replicate 16 0)) := new3 w _ _ _ _
 have L0 : Below w.heap.size w (((w.alloc (.cells (cellsN key) 26)).alloc (.cells (cellsN b) 26)).alloc (.cells #[.int .u8 0, .int .u8 0, .int .u8 0, .int .u8 0, .int .u8 0, .int .u8 0, .int .u8 0, .int .u8 0, .int .u8 0, .int .u8 0, .int .u8 0, .int .u8 0, .int .u8 0, .int .u8 0, .int .u8 0, .int .u8 0] 26)) := (((Below.refl _ w).alloc (Nat.le_refl _) _).alloc (by simp) _).alloc (by simp; omega) _
 have HIK := Lib.hid (size16 HK.out)
 have HIB := Lib.hid (size16 HB.out)
 have HI1 := Lib.hid (size16 (Ae.enc_len (Ae.sched key) b))
 have HSZ : Hid ((cellsN (List.replicate 16 0)).size = (cellsN (Ae.enc (Ae.sched key) b)).size) := by unfold Hid; rw [cellsN_size, cellsN_size, Ae.enc_len]; simp
 have qs := Ae.sched_bytes qk
 go_enter Tryd.func66, Tryd.ntmps66
 go_wp2
 generalize hW : (((w.alloc (.cells (cellsN key) 26)).alloc (.cells (cellsN b) 26)).alloc (.cells #[.int .u8 0, .int .u8 0, .int .u8 0, .int .u8 0, .int .u8 0, .int .u8 0, .int .u8 0, .int .u8 0, .int .u8 0, .int .u8 0, .int .u8 0, .int .u8 0, .int .u8 0, .int .u8 0, .int .u8 0, .int .u8 0] 26)) = W at *
 clear hW
 refine wp_region_held_drew (S := (fun w' => Obj w' (w.heap.size + 1) 26 (cellsN b))) (by kernel_rfl) O1.drew (fun hHeld => ?_)
 refine tkH 2 ?_ (hy := by
  refine yieldsIf_load_row (g := (w.heap.size + 1)) (t := 26) (cs := cellsN b) (ty := 26) (x := (.tmp 3)) ?_ ?_ ?_ ?_ Tryd.underlying26 rfl HIB.out
  ·rfl
  ·rfl
  ·rfl
  ·exact fun w hSw => hSw)
 refine onH 0 (fun KK hKK => ?_)
 rw [if_pos (by rfl)]
 refine wp_load_row 26 (.tmp 2) rfl _ rfl _ _ _ _ O0.drew Tryd.underlying26 rfl HIK.out ?_
 refine hKK.out _ _ ?_ (fun h1 => ?_)
 ·(try dsimp only)
  assumption
 clear hKK KK
 try simp only [Act.put, setIfInBounds_toArray, set_cons_zero, set_cons_succ]
 refine onH 1 (fun KK hKK => ?_)
 go_simp
 go_at_call 67; refine (keys_any key _ HK.out qk).mono ?_; rintro e w3 ⟨rfl, hb3⟩; have HS3 : Obj w3 (w.heap.size + 1) 26 (cellsN b) := O1.drew.kept hb3
 try go_wp2_with fail
 refine hKK.out _ _ ?_ (fun h2 => ?_)
 ·(try dsimp only)
  assumption
 clear hKK KK
 try simp only [Act.put, setIfInBounds_toArray, set_cons_zero, set_cons_succ]
 refine onH 3 (fun KK hKK => ?_)
 go_simp
 go_at_call 70; refine (enciphered_any (Ae.sched key) b _ (Ae.sched_len key) HB.out qs qb).mono ?_; rintro e w5 ⟨rfl, hb5⟩; have HS5 : Obj w5 (w.heap.size + 1) 26 (cellsN b) := HS3.kept hb5; have HZ5 := (O2.drew.kept hb3).kept hb5; have HL5 := (L0.drew.trans (hb3.mono L0.drew.size)); have HL6 := HL5.trans (hb5.mono HL5.size)
 try go_wp2_with fail
 refine hKK.out _ _ ?_ (fun h4 => ?_)
 ·(try dsimp only)
  assumption
 clear hKK KK
 try simp only [Act.put, setIfInBounds_toArray, set_cons_zero, set_cons_succ]
 refine onH 4 (fun KK hKK => ?_)
 rw [if_pos (by rfl)]
 refine wp_store_row 26 (.tmp 4) (.tmp 8) rfl _ _ rfl rfl _ _ HZ5 HI1.out HSZ.out (one_cellsN _) ?_
 refine hKK.out _ _ ?_ (fun h5 => ?_)
 ·(try dsimp only)
  exact Obj.upd HS5 ((Upd.refl _ _).row _) (by omega)
 clear hKK KK
 try simp only [Act.put, setIfInBounds_toArray, set_cons_zero, set_cons_succ]
 refine wpAnyH_done (by kernel_rfl) ?_ _
 go_wp2
 exact bodyPost_ret (v := .agg (cellsN (Ae.enc (Ae.sched key) b))) (results_cell_row rfl _ _ _ _ _ _ _ rfl (HZ5.row _) Tryd.underlying26 rfl HI1.out) rfl ⟨rfl, Upd.below HL6 (by omega) ((Upd.refl _ _).row _)⟩
set_option maxHeartbeats 1000000 in
theorem next_any (g : Nat) (l : List Nat) (w : World) (h : Obj w g 26 (cellsN l)) (hl : l.length = 16) (ql : Ae.bytes l) :
  Calls Tryd.prog 69 #[.slice (some ⟨g, 12, none⟩) 4 4] w fun e w' => e = .returned (.tuple #[]) ∧ Obj w' g 26 (cellsN (Ae.next l)) ∧ Upd g w w' := by
 have HN := Lib.hid (show Ae.next l = Ae.nextL l 4 from rfl)
 have H0 := Lib.hid h
 have HL := Lib.hid hl
 clear h hl
 go_enter Tryd.func69, Tryd.ntmps69
 go_wp2
 go_loopw [2] (fun i wr => ∃ (n : Nat) (b : List Nat), n ≤ 4 ∧ i = .int .i64 ((n : Int) - 1) ∧ Hid (Ae.nextL b n = Ae.next l) ∧ Hid (b.length = 16) ∧ Ae.bytes b ∧ Obj wr g 26 (cellsN b) ∧ Upd g w wr) (fun i _ => (intOf i + 1).toNat)
 case atStart => exact ⟨4, l, by omega, rfl, HN.out.symm, HL.out, ql, H0.out, Upd.refl _ _⟩
 case round =>
  clear H0
  obtain ⟨n, b, hn, rfl, HE, HB, qb, HO, HU⟩ := hrel
  by_cases h0 : n = 0
  ·subst h0
   have HF := Lib.hid (show b = Ae.next l from HE.out)
   clear hn
   go_wp2
   go_returns
   rw [← HF.out]
   exact ⟨rfl, HO, HU⟩
  ·obtain ⟨m, rfl⟩ : ∃ m, n = m + 1 := ⟨n - 1, by omega⟩
   have hc : ((m + 1 : Nat) : Int) - 1 = (m : Int) := by omega
   rw [hc]
   clear hc h0
   have f0 : wr.cell? ⟨g, 12 + m, none⟩ = some (.int .u8 ((b.getD (12 + m) 0 : Nat) : Int)) := HO.getN _ (by rw [HB.out]; omega)
   have z0 := HO.free (12 + m)
   have hx := Ae.bytes_get qb (12 + m)
   have hm4 : (m : Int) < 4 := by omega
   have HS : Hid (Ae.nextL b (m + 1) = if (b.getD (12 + m) 0 + 1) % 256 = 0 then Ae.nextL (b.set (12 + m) ((b.getD (12 + m) 0 + 1) % 256)) m else b.set (12 + m) ((b.getD (12 + m) 0 + 1) % 256)) := by
    unfold Hid; rw [Ae.nextL]; rw [show 11 + (m + 1) = 12 + m by omega]
   generalize b.getD (12 + m) 0 = x at *
   have hv : ((x : Int) + 1) % 256 = (((x + 1) % 256 : Nat) : Int) := by omega
   have HV := Lib.hid hv
   have hq := Nat.mod_lt (x + 1) (show 0 < 256 by decide)
   clear hv
   by_cases hz : (x + 1) % 256 = 0
   ·have ht : ((((x : Int) + 1) % 256) != 0) = false := by rw [HV.out, hz]; rfl
    have HS2 := Lib.hid (HS.out.trans (if_pos hz))
    clear HS hz
    go_wp2
    go_roundw
    case rel =>
     rw [HV.out]
     exact ⟨m, b.set (12 + m) ((x + 1) % 256), by omega, rfl, HS2.out.symm.trans HE.out, by show (b.set _ _).length = 16; rw [List.length_set]; exact HB.out, Ae.bytes_set qb _ _ hq, HO.setN _ _, HU.set _ _⟩
    case measure => simp [intOf]
   ·have ht : ((((x : Int) + 1) % 256) != 0) = true := by rw [HV.out]; simp; omega
    have HS2 := Lib.hid ((HS.out.trans (if_neg hz)).symm.trans HE.out)
    clear HS hz
    go_wp2
    go_returns
    rw [HV.out, ← HS2.out]
    exact ⟨rfl, HO.setN _ _, HU.set _ _⟩
/-- A slice value that reads as these bytes. -/
def Rd (w : World) (A : Option Addr) (l : List Nat) : Prop :=
 0 < l.length → ∃ b off, A = some ⟨b, off, none⟩ ∧ b < w.heap.size ∧ ∀ j, j < l.length → w.cell? ⟨b, off + j, none⟩ = some (.int .u8 ((l.getD j 0 : Nat) : Int))
theorem Rd.below {w w' : World} {A : Option Addr} {l : List Nat} (h : Rd w A l) (hb : Below w.heap.size w w') : Rd w' A l := fun hp => by
 obtain ⟨b, off, rfl, hlt, hc⟩ := h hp
 exact ⟨b, off, rfl, Nat.lt_of_lt_of_le hlt hb.size, fun j hj => (hb.cell (p := ⟨b, off + j, none⟩) hlt).trans (hc j hj)⟩
theorem Rd.drewN {w : World} {A : Option Addr} {l : List Nat} (h : Rd w A l) (n : Nat) : Rd (w.drewN n) A l := h
/-- What came in, as numbers of Nat. -/
theorem Ints.rd {w : World} {A : Option Addr} {n : Nat} {z : List Int} (h : Ints .u8 w A n z) : ∃ l : List Nat, l.length = n ∧ Ae.bytes l ∧ Rd w A l := by
 obtain ⟨h1, h2, h3⟩ := h
 refine ⟨z.map Int.toNat, by simp [h1], fun c hc => ?_, fun hp => ?_⟩
 ·obtain ⟨x, hx, rfl⟩ := List.mem_map.1 hc
  have := bounds_u8 (h2 x hx); omega
 ·simp at hp
  obtain ⟨b, off, rfl, hlt, hc⟩ := h3 (by omega)
  refine ⟨b, off, rfl, hlt, fun j hj => ?_⟩
  simp [h1] at hj
  have hz : j < z.length := by omega
  rw [hc j hj]
  have hb := bounds_u8 (h2 z[j] (List.getElem_mem hz))
  simp [List.getD_eq_getElem?_getD, hz]
  omega
theorem own_rd {w : World} {base n : Nat} {v : Value} {l : List Nat} (h : w.ownsRow base 5 1 v n (l.map u8v)) : ∃ A c, v = .slice A n c ∧ l.length = n ∧ n ≤ c ∧ Rd w A l := by
 obtain ⟨h1, h2⟩ := h
 simp at h1
 rcases h2 with ⟨rfl, rfl⟩ | ⟨g, cap, cur, rfl, hb, hg, hn, hc, hs, ht⟩
 ·exact ⟨none, 0, rfl, h1, Nat.le_refl _, fun hp => by omega⟩
 ·refine ⟨_, cap, rfl, h1, hn, fun hp => ⟨g, 0, rfl, ?_, fun j hj => ?_⟩⟩
  ·rcases Nat.lt_or_ge g w.heap.size with h | h
   ·exact h
   ·rw [Array.getElem?_eq_none h] at hg; cases hg
  ·rw [Nat.zero_add, cell_of_row w g j cur _ _ hg]
   have hj2 : j < n := by omega
   have h3 : (cur.toList.take (n * 1))[j]? = cur[j]? := by rw [List.getElem?_take]; simp [hj2]
   rw [← h3, ht, List.getElem?_map, List.getElem?_eq_getElem hj]
   simp [u8v, List.getD_eq_getElem?_getD, hj]
theorem info8 : (Tryd.prog.info? 5).map (fun i => (i.zero, i.size, i.bytes)) = some (some (.int .u8 0), 1, 1) := by kernel_rfl
/-- Bytes that are appended to a slice of the call's own. -/
theorem wpList_app8 {ops : Array Oper} {rest : List Oper} {o : Oper} {a : Act} {w : World} {Q : Exit → Act → World → Prop} (hgd : o.guard = none) (s x : Operand)
  (ho : o.op = .call { callee := .builtin .append, args := #[s, x], argTypes := #[24, 24] })
  (base : Nat) (v : Value) (n : Nat) (xs : List Value) (hs : a.eval s = v) (hown : w.ownsRow base 5 1 v n xs)
  (ad : Addr) (m c : Nat) (l : List Nat) (hx : a.eval x = .slice (some ad) m c) (hl : l.length = m) (hR : Rd w (some ad) l) (hm : n + m ≤ 100000000) (hbase : base ≤ w.heap.size)
  (h : ∀ v' w', w'.ownsRow base 5 1 v' (n + m) (xs ++ l.map u8v) → w.grownBy w' v.ownBlock → wpList Tryd.prog ops Q rest (a.put o.dst v') w') : wpList Tryd.prog ops Q (o :: rest) a w := by
 obtain ⟨i0, hi, hz0, hz1, hz2⟩ := info_parts info8
 refine wpList_append_own w hgd s x 24 ho base 5 i0 (.int .u8 0) 1 1 Tryd.underlying24 hi hz0 hz1 hz2 rfl (by decide) v n xs hs hown ad m c (l.map u8v) hx (by simp [hl]) ?_ ?_ ?_ ?_ hbase (fun v' w' h1 h2 _ => h v' w' h1 h2)
 ·intro j u hu
  rw [List.getElem?_map, Option.map_eq_some_iff] at hu
  obtain ⟨y, hy, rfl⟩ := hu
  have hj := (List.getElem?_eq_some_iff.1 hy).1
  obtain ⟨b, o, e, hlt, hc⟩ := hR (by omega)
  obtain rfl : ad = ⟨b, o, none⟩ := by cases e; rfl
  rw [Addr.add_mid, hc j hj]
  simp [u8v, List.getD_eq_getElem?_getD, hy]
 ·intro u hu
  obtain ⟨x, _, rfl⟩ := List.mem_map.1 hu
  rfl
 ·unfold maxLen; omega
 ·omega
set_option maxHeartbeats 1000000 in
theorem clone_any (A : Option Addr) (c : Nat) (l : List Nat) (w : World) (h : Rd w A l) (hm : l.length ≤ 1000000) :
  Calls Tryd.prog 68 #[.slice A l.length c] w fun e w' => ∃ v, e = .returned v ∧ w'.ownsRow w.heap.size 5 1 v l.length (l.map u8v) ∧ Below w.heap.size w w' := by
 have hq := fun w' a n c => Lib.run_eql_slice_nil (P := Tryd.prog) w' 24 5 a n c 0 0 Tryd.underlying24
 rcases A with _ | a
 ·have h0 : l = [] := by
   rcases l with _ | ⟨x, r⟩
   ·rfl
   ·obtain ⟨_, _, e, _⟩ := h (by simp); cases e
  subst h0
  go_enter Tryd.func68, Tryd.ntmps68
  go_wp2
  go_ret
  exact ⟨_, rfl, World.ownsRow_nil _ _ _ _, Below.refl _ _⟩
 ·have HR := Lib.hid (Rd.below h ((Below.refl _ w).alloc (Nat.le_refl _) (.cells #[] 5)))
  have HM := Lib.hid (show 0 + l.length ≤ 100000000 by omega)
  have HOW := Lib.hid (World.ownsRow_made (base := w.heap.size) (e := 5) (size := 1) w #[] 0 (Nat.le_refl _) (Nat.zero_le _) rfl)
  have HBS : Hid (w.heap.size ≤ (w.alloc (.cells #[] 5)).heap.size) := by unfold Hid; simp
  clear h hm
  go_enter Tryd.func68, Tryd.ntmps68
  go_wp2_with (at_builtin; refine wpList_app8 rfl _ _ rfl w.heap.size _ _ _ rfl HOW.out a l.length c l rfl rfl HR.out HM.out HBS.out ?_; intro v' w1 hown1 hgrow1)
  go_ret
  rw [Nat.zero_add, List.nil_append] at hown1
  exact ⟨_, rfl, hown1, Below.grown ((Below.refl _ w).alloc (Nat.le_refl _) _) hgrow1 HBS.out (fun k hk => by cases hk; exact Nat.le_refl _)⟩
set_option maxHeartbeats 1000000 in
theorem same_true (A B : Option Addr) (c d : Nat) (l : List Nat) (w : World) (hA : Rd w A l) (hB : Rd w B l) (hm : l.length ≤ 1000000) :
  Calls Tryd.prog 13 #[.slice A l.length c, .slice B l.length d] w fun e w' => e = .returned (.bool true) ∧ ∃ q, w' = w.drewN q := by
 obtain ⟨n, hn⟩ : ∃ n, l.length = n := ⟨_, rfl⟩
 rw [hn]
 have HN := Lib.hid hn
 have hm' : n ≤ 1000000 := by omega
 have HA := Lib.hid hA
 have HB := Lib.hid hB
 clear hn hm hA hB
 go_enter Tryd.func13, Tryd.ntmps13
 go_wp2
 go_loopw [5] (fun i wr => ∃ k q : Nat, k ≤ n ∧ i = .int .i64 k ∧ wr = w.drewN q) (fun i _ => n - (intOf i).toNat)
 case atStart => exact ⟨0, 0, by omega, rfl, rfl⟩
 case round =>
  obtain ⟨k, q, hk, rfl, rfl⟩ := hrel
  by_cases hlt : k < n
  ·obtain ⟨b, o, rfl, hb, hc⟩ := HA.out (by rw [HN.out]; omega)
   obtain ⟨b', o', rfl, hb', hc'⟩ := HB.out (by rw [HN.out]; omega)
   have f0 := hc k (by rw [HN.out]; exact hlt)
   have f1 := hc' k (by rw [HN.out]; exact hlt)
   have hki : (k : Int) < (n : Int) := by omega
   clear hc hc' hb hb'
   generalize l.getD k 0 = x at *
   go_wp2
   go_quiet (fail)
   go_wp2
   go_roundw
   case rel => exact ⟨k + 1, _, by omega, by go_num, rfl⟩
   case measure => simp [intOf]; omega
  ·obtain rfl : k = n := by omega
   go_wp2
   go_ret
   exact ⟨rfl, _, rfl⟩
end Go.Proofs.YtabfcaidioohfaaDoor
namespace Go.Proofs.YtabfcaidioohfaaDoor
open List (getElem?_toArray getElem?_cons_zero getElem?_cons_succ setIfInBounds_toArray set_cons_zero set_cons_succ)
set_option maxRecDepth 100000
open Go.RowKit
set_option linter.unusedVariables false
set_option linter.unusedSimpArgs false
/-- A row whose first cells are bytes. -/
def rowT (l : List Nat) (tail : List Value) : Array Value := (l.map u8v ++ tail).toArray
theorem Obj.getT {w : World} {b : Nat} {t : TypeId} {l : List Nat} {tail : List Value} (h : Obj w b t (rowT l tail)) (i : Nat) (hi : i < l.length) : w.cell? ⟨b, i, none⟩ = some (.int .u8 ((l.getD i 0 : Nat) : Int)) := by
 rw [h.cell i]
 simp [rowT, List.getElem?_append_left, hi, List.getD_eq_getElem?_getD, u8v]
theorem Obj.setT {w : World} {b : Nat} {t : TypeId} {l : List Nat} {tail : List Value} (h : Obj w b t (rowT l tail)) (i v : Nat) (hi : i < l.length) : Obj (w.setCell ⟨b, i, none⟩ (.int .u8 ((v : Nat) : Int))) b t (rowT (l.set i v) tail) := by
 have := h.set i (.int .u8 ((v : Nat) : Int))
 refine this.as ?_
 apply Array.ext'
 rw [Array.toList_setIfInBounds]
 show ((l.map u8v ++ tail).set i (u8v v)) = (l.set i v).map u8v ++ tail
 rw [List.set_append_left _ _ (by simpa using hi), List.map_set]
/-- Out of a slice of the call's own: its block. -/
theorem own_row {w : World} {base n : Nat} {v : Value} {l : List Nat} (h : w.ownsRow base 5 1 v n (l.map u8v)) (hn : 0 < n) : ∃ g cap tail, v = .slice (some ⟨g, 0, none⟩) n cap ∧ base ≤ g ∧ n ≤ cap ∧ Obj w g 5 (rowT l tail) ∧ cap ≤ maxLen ∧ n + tail.length = cap := by
 obtain ⟨h1, h2⟩ := h
 rcases h2 with ⟨rfl, rfl⟩ | ⟨g, cap, cur, rfl, hb, hg, hnc, hc, hs, ht⟩
 ·omega
 ·refine ⟨g, cap, cur.toList.drop n, rfl, hb, hnc, ?_, hc, by simp; omega⟩
  have e : cur = rowT l (cur.toList.drop n) := by
   apply Array.ext'
   unfold rowT
   rw [← ht, Nat.mul_one, List.take_append_drop]
  exact hg.trans (by rw [← e])
theorem row_own {w : World} {base n : Nat} {l : List Nat} {g cap : Nat} {tail : List Value} (hl : l.length = n) (hb : base ≤ g) (h : Obj w g 5 (rowT l tail)) (hc : cap ≤ maxLen) (ht : n + tail.length = cap) :
  w.ownsRow base 5 1 (.slice (some ⟨g, 0, none⟩) n cap) n (l.map u8v) :=
 ⟨by simp [hl], .inr ⟨g, cap, _, rfl, hb, h, by omega, hc, by simp [rowT]; omega, by simp [rowT]; rw [List.take_left' (by simp [hl])]⟩⟩
theorem own_base {w : World} {base base' n : Nat} {v : Value} {xs : List Value} (h : w.ownsRow base' 5 1 v n xs) (hb : base ≤ base') : w.ownsRow base 5 1 v n xs := by
 obtain ⟨h1, h2⟩ := h
 refine ⟨h1, ?_⟩
 rcases h2 with h2 | ⟨g, cap, cur, e, hg, r⟩
 ·exact .inl h2
 ·exact .inr ⟨g, cap, cur, e, Nat.le_trans hb hg, r⟩
theorem slice12 (g : Nat) (w : World) :
  (Instr.sliceAt 26 (.pointer (some ⟨g, 0, none⟩)) (some (.int .i64 12)) none none).run Tryd.prog w = .ok (.slice (some ⟨g, 12, none⟩) 4 4) w := slice16l g 12 (by decide) w
/-- So many places of a text are enciphered at the head of a round. -/
def upd (n i : Nat) : Nat := min n (16 * ((i + 15) / 16))
def strm (w first text : List Nat) (d : Nat) : List Nat := Ae.upto (fun k => text.getD k 0 ^^^ Ae.pad w first k) text d
set_option maxRecDepth 100000 in
set_option maxHeartbeats 1000000 in
theorem stream_any (key first : List Nat) (A : Option Addr) (c : Nat) (text : List Nat) (w : World) (hk : key.length = 16) (hf : first.length = 16) (qk : Ae.bytes key) (qf : Ae.bytes first) (ht : Rd w A text) (qt : Ae.bytes text) (hm : text.length ≤ 1000000) :
  Calls Tryd.prog 57 #[.agg (cellsN key), .agg (cellsN first), .slice A text.length c] w fun e w' => ∃ v, e = .returned v ∧ w'.ownsRow w.heap.size 5 1 v text.length ((Ae.stream (Ae.sched key) first text).map u8v) ∧ Below w.heap.size w w' := by
 have HK := Lib.hid hk
 have HT := Lib.hid ht
 have HM := Lib.hid hm
 obtain ⟨S, hS⟩ : ∃ S, Ae.sched key = S := ⟨_, rfl⟩
 have HSK := Lib.hid hS
 have hz := (zero_of_info zero176).1
 have HIK := Lib.hid (size16 hk)
 have HLC : Hid (∀ i, (Ae.ctr first i).length = 16) := fun i => (Ae.ctr_len first i).trans hf
 have HLS : Hid (S.length = 176) := by rw [← hS]; exact Ae.sched_len key
 have HIS := Lib.hid (size176 HLS.out)
 have HSZ : Hid ((cellsN z176).size = (cellsN S).size) := by unfold Hid; rw [cellsN_size, cellsN_size, z176_len, HLS.out]
 have qs : Ae.bytes S := by rw [← hS]; exact Ae.sched_bytes qk
 have HQ : Hid (∀ i, Ae.bytes (Ae.ctr first i)) := fun i => Ae.ctr_bytes qf i
 have HSD : Hid (Ae.stream (Ae.sched key) first text = (List.range text.length).map (fun k => text.getD k 0 ^^^ Ae.pad S first k)) := by unfold Hid; rw [hS]; rfl
 have HPD : Hid (∀ k, Ae.pad S first k = (Ae.enc S (Ae.ctr first (k / 16))).getD (k % 16) 0) := fun k => rfl
 have HCN : Hid (∀ i, Ae.ctr first (i + 1) = Ae.next (Ae.ctr first i)) := fun i => rfl
 rw [HSD.out]
 clear hS hf hk ht
 have O0 : Obj ((w.alloc (.cells (cellsN key) 26)).alloc (.cells (cellsN first) 26)) w.heap.size 26 (cellsN key) := (Obj.new w _ _).alloc _
 have O1 : Obj ((w.alloc (.cells (cellsN key) 26)).alloc (.cells (cellsN first) 26)) (w.heap.size + 1) 26 (cellsN first) := new2 w _ _ _
 have L0 : Below w.heap.size w ((w.alloc (.cells (cellsN key) 26)).alloc (.cells (cellsN first) 26)) := ((Below.refl _ w).alloc (Nat.le_refl _) _).alloc (by simp) _
 have P0 := Lib.hid O0
 have P1 := Lib.hid O1
 have PL := Lib.hid L0
 clear O0 O1 L0
 go_enter Tryd.func57, Tryd.ntmps57
 go_wp2_with (refine wpList_load_row rfl 26 (.tmp 3) rfl _ rfl _ _ _ _ P0.out Tryd.underlying26 rfl HIK.out ?_)
 refine (keys_any key _ HK.out qk).mono ?_
 rintro e w1 ⟨rfl, hb1⟩
 rw [HSK.out]
 have O1 := P1.out.kept hb1
 have L1 := PL.out.trans (hb1.mono PL.out.size)
 have ON := Lib.hid (Obj.new w1 101 (cellsN z176))
 clear P0 P1 PL hb1
 go_wp2_with (refine wpList_store_row rfl 101 (.tmp 7) (.tmp 13) rfl _ _ rfl rfl _ _ ON.out HIS.out HSZ.out (one_cellsN _) ?_)
 have U2 := (Upd.refl w1.heap.size (w1.alloc (.cells (cellsN z176) 101))).row (cellsN S)
 have hw1 := O1.lt
 have O2 := (O1.alloc (.cells (cellsN z176) 101)).upd U2 (by omega)
 have K2 := ON.out.row (cellsN S)
 have L2 := Upd.below (L1.alloc L1.size (.cells (cellsN z176) 101)) L1.size U2
 have hs2 : ((w1.alloc (.cells (cellsN z176) 101)).setRow w1.heap.size (cellsN S)).heap.size = w1.heap.size + 1 := by simp
 have HT2 := Rd.below HT.out L2
 clear ON U2 O1 L1 hz
 refine (clone_any A c text _ HT2 HM.out).mono ?_
 rintro e w3 ⟨v, rfl, hv, hb3⟩
 have O3 := O2.kept hb3
 have K3 := K2.kept hb3
 have L3 := L2.trans (hb3.mono L2.size)
 rw [hs2] at hv
 clear HT2 HT hb3 O2 K2 L2
 obtain ⟨n, hn⟩ : ∃ n, text.length = n := ⟨_, rfl⟩
 have HN := Lib.hid hn
 rw [hn] at hv hm
 rw [hn]
 clear hn hs2
 generalize w1.heap.size = kb at *
 rcases Nat.eq_zero_or_pos n with h0 | hpos
 ·obtain ⟨A', c', rfl, hlt', hnc', _⟩ := own_rd hv
  have hv2 := own_base hv (show w.heap.size ≤ kb + 1 by omega)
  have htx : text = [] := by rcases text with _ | ⟨x, r⟩; rfl; rw [h0] at hlt'; simp at hlt'
  have HV := Lib.hid hv2
  have HTX := Lib.hid htx
  subst h0
  clear hv hv2 htx hlt' hnc'
  have P3 := Lib.hid L3
  clear O3 K3 L3
  go_wp2
  go_loopw [18] (fun i wr => i = .int .i64 0 ∧ wr = w3) (fun i _ => 0)
  case atStart => exact ⟨rfl, rfl⟩
  case round =>
   obtain ⟨rfl, rfl⟩ := hrel
   go_wp2
   go_ret
   refine ⟨_, rfl, ?_, P3.out⟩
   have := HV.out
   rw [HTX.out] at this ⊢
   exact this
 ·obtain ⟨g, cap, tail, rfl, hg, hnc, HG, hcap, htl⟩ := own_row hv hpos
  clear hv
  have hg1 : w.heap.size + 1 < g := by omega
  have hg2 : kb < g := by omega
  have hk1 : w.heap.size + 1 < kb := hw1
  have HCAP := Lib.hid (And.intro hcap htl)
  clear hg hw1 hcap htl
  have HST0 := Lib.hid (show strm S first text (upd n 0) = text from by unfold strm upd; rw [show min n (16 * ((0 + 15) / 16)) = 0 by omega]; exact Ae.upto_zero _ _)
  go_wp2
  go_loopw [18] (fun i wr => ∃ k : Nat, k ≤ n ∧ i = .int .i64 k ∧ Obj wr (w.heap.size + 1) 26 (cellsN (Ae.ctr first ((k - 1) / 16))) ∧ Obj wr kb 101 (cellsN S) ∧ Obj wr g 5 (rowT (strm S first text (upd n k)) tail) ∧ Below w.heap.size w wr) (fun i _ => n - (intOf i).toNat)
  case atStart => exact ⟨0, by omega, rfl, O3, K3, (by rw [HST0.out]; exact HG), L3⟩
  case round =>
   clear O3 K3 HG L3
   obtain ⟨k, hk, rfl, HF1, HK1, HG1, HL1⟩ := hrel
   by_cases hlt : k < n
   ·by_cases h16 : k % 16 = 0
    ·have hmi : ((k : Int) % 16 == 0) = true := by rw [show (k : Int) % 16 = 0 by omega]; rfl
     by_cases h0 : 0 < k
     ·have h0i : (0 : Int) < (k : Int) := by omega
      have hsl := fun w' => slice12 (w.heap.size + 1) w'
      have HNX := Lib.hid (show Ae.next (Ae.ctr first ((k - 1) / 16)) = Ae.ctr first (k / 16) by rw [← HCN.out, show (k - 1) / 16 + 1 = k / 16 by omega])
      go_wp2_with fail
      refine (next_any (w.heap.size + 1) _ _ HF1 (HLC.out _) (HQ.out _)).mono ?_
      rintro e w4 ⟨rfl, hf4, u4⟩
      rw [HNX.out] at hf4
      have HK4 := HK1.upd u4 (by omega)
      have HG4 := HG1.upd u4 (by omega)
      have HL4 := Upd.below HL1 (by omega) u4
      clear HF1 HK1 HG1 HL1 hsl u4
      have HF1 := hf4
      have HK1 := HK4
      have HG1 := HG4
      have HL1 := HL4
      clear hf4 HK4 HG4 HL4
      have qc := HQ.out (k / 16)
      have HLc := Lib.hid (HLC.out (k / 16))
      have HIc := Lib.hid (size16 (HLC.out (k / 16)))
      have HLE := Lib.hid (Ae.enc_len S (Ae.ctr first (k / 16)))
      have HIE := Lib.hid (size16 HLE.out)
      have qE := Ae.enc_bytes qc qs
      have HPE : Hid (∀ m, m / 16 = k / 16 → Ae.pad S first m = (Ae.enc S (Ae.ctr first (k / 16))).getD (m % 16) 0) := fun m hm => by rw [HPD.out, hm]
      have HSE : Hid ((#[.int .u8 0, .int .u8 0, .int .u8 0, .int .u8 0, .int .u8 0, .int .u8 0, .int .u8 0, .int .u8 0, .int .u8 0, .int .u8 0, .int .u8 0, .int .u8 0, .int .u8 0, .int .u8 0, .int .u8 0, .int .u8 0] : Array Value).size = (cellsN (Ae.enc S (Ae.ctr first (k / 16)))).size) := by unfold Hid; rw [cellsN_size, HLE.out]; rfl
      go_wp2_with (first
       | (refine wpList_load_row rfl 101 (.tmp 7) rfl _ rfl _ _ _ _ HK1 Tryd.underlying101 rfl HIS.out ?_)
       | (refine wpList_load_row rfl 26 (.tmp 4) rfl _ rfl _ _ _ _ HF1 Tryd.underlying26 rfl HIc.out ?_))
      refine (enciphered_any S (Ae.ctr first (k / 16)) _ HLS.out HLc.out qs qc).mono ?_
      rintro e w5 ⟨rfl, hb5⟩
      have HF5 := HF1.kept hb5
      have HK5 := HK1.kept hb5
      have HG5 := HG1.kept hb5
      have HL5 := HL1.trans (hb5.mono HL1.size)
      have ON : Obj (w5.alloc (.cells #[.int .u8 0, .int .u8 0, .int .u8 0, .int .u8 0, .int .u8 0, .int .u8 0, .int .u8 0, .int .u8 0, .int .u8 0, .int .u8 0, .int .u8 0, .int .u8 0, .int .u8 0, .int .u8 0, .int .u8 0, .int .u8 0] 26)) w5.heap.size 26 #[.int .u8 0, .int .u8 0, .int .u8 0, .int .u8 0, .int .u8 0, .int .u8 0, .int .u8 0, .int .u8 0, .int .u8 0, .int .u8 0, .int .u8 0, .int .u8 0, .int .u8 0, .int .u8 0, .int .u8 0, .int .u8 0] := Obj.new w5 _ _
      have HON := Lib.hid ON
      have B5 : Below w5.heap.size w5 (w5.alloc (.cells #[.int .u8 0, .int .u8 0, .int .u8 0, .int .u8 0, .int .u8 0, .int .u8 0, .int .u8 0, .int .u8 0, .int .u8 0, .int .u8 0, .int .u8 0, .int .u8 0, .int .u8 0, .int .u8 0, .int .u8 0, .int .u8 0] 26)) := (Below.refl _ _).alloc (Nat.le_refl _) _
      have HF6 := HF5.kept B5
      have HK6 := HK5.kept B5
      have HG6 := HG5.kept B5
      have HL6 := HL5.trans (B5.mono HL5.size)
      have l1 := HF5.lt
      have l2 := HK5.lt
      have l3 : g < w5.heap.size := HG5.lt
      clear HF5 HK5 HG5 HL5 hb5 HF1 HK1 HG1 HL1 B5 ON
      generalize Ae.enc S (Ae.ctr first (k / 16)) = E at *
      go_wp2_with (refine wpList_store_row rfl 26 (.tmp 10) (.tmp 35) rfl _ _ rfl rfl _ _ HON.out HIE.out HSE.out (one_cellsN _) ?_)
      have U7 := (Upd.refl w5.heap.size (w5.alloc (.cells #[.int .u8 0, .int .u8 0, .int .u8 0, .int .u8 0, .int .u8 0, .int .u8 0, .int .u8 0, .int .u8 0, .int .u8 0, .int .u8 0, .int .u8 0, .int .u8 0, .int .u8 0, .int .u8 0, .int .u8 0, .int .u8 0] 26))).row (cellsN E)
      have HF7 := HF6.upd U7 (by omega)
      have HK7 := HK6.upd U7 (by omega)
      have HG7 := HG6.upd U7 (by omega)
      have HE7 := HON.out.row (cellsN E)
      have HL7 := Upd.below HL6 (by omega) U7
      clear HF6 HK6 HG6 HL6 U7 HON
      generalize w5.heap.size = bb at *
      obtain ⟨M, hM⟩ : ∃ M, min (k + 16) n = M := ⟨_, rfl⟩
      have hmin : (if (n : Int) < (k : Int) + 16 then (n : Int) else (k : Int) + 16) = (M : Int) := by split <;> omega
      have hk16 : (k : Int) + 16 ≤ 9000000 := by omega
      have hup0 : upd n k = k := by unfold upd; omega
      have hup1 : upd n (k + 1) = M := by unfold upd; omega
      have HU0 := Lib.hid hup0
      have HU1 := Lib.hid hup1
      have hkM : k < M := by omega
      have hMn : M ≤ n := by omega
      have hM16 : M ≤ k + 16 := by omega
      clear hM hup0 hup1
      have H16 := Lib.hid h16
      clear h16
      go_loopw [11] (fun i wr => ∃ m : Nat, k ≤ m ∧ m ≤ M ∧ i = .int .i64 m ∧ Obj wr (w.heap.size + 1) 26 (cellsN (Ae.ctr first (k / 16))) ∧ Obj wr kb 101 (cellsN S) ∧ Obj wr bb 26 (cellsN E) ∧ Obj wr g 5 (rowT (strm S first text m) tail) ∧ Below w.heap.size w wr) (fun i _ => M - (intOf i).toNat)
      case atStart => exact ⟨k, Nat.le_refl _, by omega, rfl, HF7, HK7, HE7, (by rw [HU0.out] at HG7; exact HG7), HL7⟩
      case round =>
       clear HF7 HK7 HG7 HL7 HE7
       obtain ⟨m, hm1, hm2, rfl, HF, HK, HE, HG, HL⟩ := hrel
       by_cases hmM : m < M
       ·have hlt2 : (m : Int) < (M : Int) := by omega
        obtain ⟨p, hp⟩ : ∃ p, m - k = p := ⟨_, rfl⟩
        have g1 : IntKind.i64.wrap ((m : Int) - (k : Int)) = (p : Int) := by rw [IntWalk.i64_in _ (by omega)]; omega
        have gp : (p : Int) < 16 := by omega
        have gm : (m : Int) < (n : Int) := by omega
        have fx : wr.cell? ⟨g, m, none⟩ = some (.int .u8 ((text.getD m 0 : Nat) : Int)) := by
         rw [HG.getT m (by unfold strm; rw [Ae.upto_len, HN.out]; omega)]
         unfold strm
         rw [Ae.upto_get _ _ _ _ (by rw [HN.out]; omega), if_neg (by omega)]
        have fy : wr.cell? ⟨bb, p, none⟩ = some (.int .u8 ((E.getD p 0 : Nat) : Int)) := HE.getN p (by rw [HLE.out]; omega)
        have z0 := HG.free m
        have hx := Ae.bytes_get qt m
        have hy := Ae.bytes_get qE p
        have HS2 : Hid ((strm S first text m).set m (text.getD m 0 ^^^ E.getD p 0) = strm S first text (m + 1)) := by
         have := Ae.upto_set (fun k => text.getD k 0 ^^^ Ae.pad S first k) text m (by rw [HN.out]; omega)
         rw [HPE.out m (by have := H16.out; omega), show m % 16 = p by have := H16.out; omega] at this
         exact this
        have HLM : Hid (m < (strm S first text m).length) := by unfold Hid strm; rw [Ae.upto_len, HN.out]; omega
        clear hp
        generalize text.getD m 0 = x at *
        generalize E.getD p 0 = y at *
        have HXY := Lib.hid (u8_xor_nat x y hx hy)
        go_wp2
        refine wp_region_still_tail 11 (by kernel_rfl) (by kernel_rfl) ?_
        simp only [List.take_succ_cons, List.take_zero, List.drop_succ_cons, List.drop_zero]
        change wpStill _ _ (World.drew _) (fun a' => wpList _ _ _ _ a' (World.drew _)) _ _
        iterate 11 still_step
        refine wpStill_nil ?_
        clear g1 hmin
        go_wp2
        go_roundw
        case rel =>
         rw [HXY.out]
         exact ⟨m + 1, by omega, by omega, by go_num, (HF.far (by simp; omega) _).drew, (HK.far (by simp; omega) _).drew, (HE.far (by simp; omega) _).drew, ((HG.setT _ _ HLM.out).drew).as (by rw [HS2.out]), (HL.setCell (by simp; omega) _).drew⟩
        case measure => simp [intOf]; omega
       ·obtain rfl : m = M := by omega
        rw [← HU1.out] at HG
        clear hmM
        go_wp2
        go_roundw
        case rel => exact ⟨k + 1, by omega, by go_num, (by rw [show (k + 1 - 1) / 16 = k / 16 by omega]; exact HF), HK, HG, HL⟩
        case measure => simp [intOf]; omega
     ·rw [show (k - 1) / 16 = k / 16 by omega] at HF1
      have hd0 : decide ((0 : Int) < (k : Int)) = false := by simp; omega
      have hd1 : decide (0 < k) = false := by simp; omega
      clear h0
      go_upto_region 9 with fail
      have qc := HQ.out (k / 16)
      have HLc := Lib.hid (HLC.out (k / 16))
      have HIc := Lib.hid (size16 (HLC.out (k / 16)))
      have HLE := Lib.hid (Ae.enc_len S (Ae.ctr first (k / 16)))
      have HIE := Lib.hid (size16 HLE.out)
      have qE := Ae.enc_bytes qc qs
      have HPE : Hid (∀ m, m / 16 = k / 16 → Ae.pad S first m = (Ae.enc S (Ae.ctr first (k / 16))).getD (m % 16) 0) := fun m hm => by rw [HPD.out, hm]
      have HSE : Hid ((#[.int .u8 0, .int .u8 0, .int .u8 0, .int .u8 0, .int .u8 0, .int .u8 0, .int .u8 0, .int .u8 0, .int .u8 0, .int .u8 0, .int .u8 0, .int .u8 0, .int .u8 0, .int .u8 0, .int .u8 0, .int .u8 0] : Array Value).size = (cellsN (Ae.enc S (Ae.ctr first (k / 16)))).size) := by unfold Hid; rw [cellsN_size, HLE.out]; rfl
      go_wp2_with (first
       | (refine wpList_load_row rfl 101 (.tmp 7) rfl _ rfl _ _ _ _ HK1 Tryd.underlying101 rfl HIS.out ?_)
       | (refine wpList_load_row rfl 26 (.tmp 4) rfl _ rfl _ _ _ _ HF1 Tryd.underlying26 rfl HIc.out ?_))
      refine (enciphered_any S (Ae.ctr first (k / 16)) _ HLS.out HLc.out qs qc).mono ?_
      rintro e w5 ⟨rfl, hb5⟩
      have HF5 := HF1.kept hb5
      have HK5 := HK1.kept hb5
      have HG5 := HG1.kept hb5
      have HL5 := HL1.trans (hb5.mono HL1.size)
      have ON : Obj (w5.alloc (.cells #[.int .u8 0, .int .u8 0, .int .u8 0, .int .u8 0, .int .u8 0, .int .u8 0, .int .u8 0, .int .u8 0, .int .u8 0, .int .u8 0, .int .u8 0, .int .u8 0, .int .u8 0, .int .u8 0, .int .u8 0, .int .u8 0] 26)) w5.heap.size 26 #[.int .u8 0, .int .u8 0, .int .u8 0, .int .u8 0, .int .u8 0, .int .u8 0, .int .u8 0, .int .u8 0, .int .u8 0, .int .u8 0, .int .u8 0, .int .u8 0, .int .u8 0, .int .u8 0, .int .u8 0, .int .u8 0] := Obj.new w5 _ _
      have HON := Lib.hid ON
      have B5 : Below w5.heap.size w5 (w5.alloc (.cells #[.int .u8 0, .int .u8 0, .int .u8 0, .int .u8 0, .int .u8 0, .int .u8 0, .int .u8 0, .int .u8 0, .int .u8 0, .int .u8 0, .int .u8 0, .int .u8 0, .int .u8 0, .int .u8 0, .int .u8 0, .int .u8 0] 26)) := (Below.refl _ _).alloc (Nat.le_refl _) _
      have HF6 := HF5.kept B5
      have HK6 := HK5.kept B5
      have HG6 := HG5.kept B5
      have HL6 := HL5.trans (B5.mono HL5.size)
      have l1 := HF5.lt
      have l2 := HK5.lt
      have l3 : g < w5.heap.size := HG5.lt
      clear HF5 HK5 HG5 HL5 hb5 HF1 HK1 HG1 HL1 B5 ON
      generalize Ae.enc S (Ae.ctr first (k / 16)) = E at *
      go_wp2_with (refine wpList_store_row rfl 26 (.tmp 10) (.tmp 35) rfl _ _ rfl rfl _ _ HON.out HIE.out HSE.out (one_cellsN _) ?_)
      have U7 := (Upd.refl w5.heap.size (w5.alloc (.cells #[.int .u8 0, .int .u8 0, .int .u8 0, .int .u8 0, .int .u8 0, .int .u8 0, .int .u8 0, .int .u8 0, .int .u8 0, .int .u8 0, .int .u8 0, .int .u8 0, .int .u8 0, .int .u8 0, .int .u8 0, .int .u8 0] 26))).row (cellsN E)
      have HF7 := HF6.upd U7 (by omega)
      have HK7 := HK6.upd U7 (by omega)
      have HG7 := HG6.upd U7 (by omega)
      have HE7 := HON.out.row (cellsN E)
      have HL7 := Upd.below HL6 (by omega) U7
      clear HF6 HK6 HG6 HL6 U7 HON
      generalize w5.heap.size = bb at *
      obtain ⟨M, hM⟩ : ∃ M, min (k + 16) n = M := ⟨_, rfl⟩
      have hmin : (if (n : Int) < (k : Int) + 16 then (n : Int) else (k : Int) + 16) = (M : Int) := by split <;> omega
      have hk16 : (k : Int) + 16 ≤ 9000000 := by omega
      have hup0 : upd n k = k := by unfold upd; omega
      have hup1 : upd n (k + 1) = M := by unfold upd; omega
      have HU0 := Lib.hid hup0
      have HU1 := Lib.hid hup1
      have hkM : k < M := by omega
      have hMn : M ≤ n := by omega
      have hM16 : M ≤ k + 16 := by omega
      clear hM hup0 hup1
      have H16 := Lib.hid h16
      clear h16
      go_loopw [11] (fun i wr => ∃ m : Nat, k ≤ m ∧ m ≤ M ∧ i = .int .i64 m ∧ Obj wr (w.heap.size + 1) 26 (cellsN (Ae.ctr first (k / 16))) ∧ Obj wr kb 101 (cellsN S) ∧ Obj wr bb 26 (cellsN E) ∧ Obj wr g 5 (rowT (strm S first text m) tail) ∧ Below w.heap.size w wr) (fun i _ => M - (intOf i).toNat)
      case atStart => exact ⟨k, Nat.le_refl _, by omega, rfl, HF7, HK7, HE7, (by rw [HU0.out] at HG7; exact HG7), HL7⟩
      case round =>
       clear HF7 HK7 HG7 HL7 HE7
       obtain ⟨m, hm1, hm2, rfl, HF, HK, HE, HG, HL⟩ := hrel
       by_cases hmM : m < M
       ·have hlt2 : (m : Int) < (M : Int) := by omega
        obtain ⟨p, hp⟩ : ∃ p, m - k = p := ⟨_, rfl⟩
        have g1 : IntKind.i64.wrap ((m : Int) - (k : Int)) = (p : Int) := by rw [IntWalk.i64_in _ (by omega)]; omega
        have gp : (p : Int) < 16 := by omega
        have gm : (m : Int) < (n : Int) := by omega
        have fx : wr.cell? ⟨g, m, none⟩ = some (.int .u8 ((text.getD m 0 : Nat) : Int)) := by
         rw [HG.getT m (by unfold strm; rw [Ae.upto_len, HN.out]; omega)]
         unfold strm
         rw [Ae.upto_get _ _ _ _ (by rw [HN.out]; omega), if_neg (by omega)]
        have fy : wr.cell? ⟨bb, p, none⟩ = some (.int .u8 ((E.getD p 0 : Nat) : Int)) := HE.getN p (by rw [HLE.out]; omega)
        have z0 := HG.free m
        have hx := Ae.bytes_get qt m
        have hy := Ae.bytes_get qE p
        have HS2 : Hid ((strm S first text m).set m (text.getD m 0 ^^^ E.getD p 0) = strm S first text (m + 1)) := by
         have := Ae.upto_set (fun k => text.getD k 0 ^^^ Ae.pad S first k) text m (by rw [HN.out]; omega)
         rw [HPE.out m (by have := H16.out; omega), show m % 16 = p by have := H16.out; omega] at this
         exact this
        have HLM : Hid (m < (strm S first text m).length) := by unfold Hid strm; rw [Ae.upto_len, HN.out]; omega
        clear hp
        generalize text.getD m 0 = x at *
        generalize E.getD p 0 = y at *
        have HXY := Lib.hid (u8_xor_nat x y hx hy)
        go_wp2
        refine wp_region_still_tail 11 (by kernel_rfl) (by kernel_rfl) ?_
        simp only [List.take_succ_cons, List.take_zero, List.drop_succ_cons, List.drop_zero]
        change wpStill _ _ (World.drew _) (fun a' => wpList _ _ _ _ a' (World.drew _)) _ _
        iterate 11 still_step
        refine wpStill_nil ?_
        clear g1 hmin
        go_wp2
        go_roundw
        case rel =>
         rw [HXY.out]
         exact ⟨m + 1, by omega, by omega, by go_num, (HF.far (by simp; omega) _).drew, (HK.far (by simp; omega) _).drew, (HE.far (by simp; omega) _).drew, ((HG.setT _ _ HLM.out).drew).as (by rw [HS2.out]), (HL.setCell (by simp; omega) _).drew⟩
        case measure => simp [intOf]; omega
       ·obtain rfl : m = M := by omega
        rw [← HU1.out] at HG
        clear hmM
        go_wp2
        go_roundw
        case rel => exact ⟨k + 1, by omega, by go_num, (by rw [show (k + 1 - 1) / 16 = k / 16 by omega]; exact HF), HK, HG, HL⟩
        case measure => simp [intOf]; omega
    ·have hmi : ((k : Int) % 16 == 0) = false := by
      have : (k : Int) % 16 ≠ 0 := by omega
      simp [this]
     have HU := Lib.hid (show upd n k = upd n (k + 1) by unfold upd; omega)
     have HC := Lib.hid (show (k - 1) / 16 = (k + 1 - 1) / 16 by omega)
     rw [HU.out] at HG1
     rw [HC.out] at HF1
     clear h16
     go_wp2
     go_roundw
     case rel => exact ⟨k + 1, by omega, by go_num, HF1, HK1, HG1, HL1⟩
     case measure => simp [intOf]; omega
   ·obtain rfl : k = n := by omega
    have HFE := Lib.hid (show strm S first text (upd k k) = (List.range text.length).map (fun k => text.getD k 0 ^^^ Ae.pad S first k) by
     unfold strm; rw [show upd k k = k by unfold upd; omega]; exact Ae.upto_full _ _ _ (by rw [HN.out]; omega))
    rw [HFE.out] at HG1
    go_wp2
    go_ret
    rw [← HN.out]
    exact ⟨_, rfl, row_own (by simp) (by omega) HG1 HCAP.out.1 (by rw [HN.out]; exact HCAP.out.2), HL1⟩
end Go.Proofs.YtabfcaidioohfaaDoor
namespace Go.Proofs.YtabfcaidioohfaaDoor
open List (getElem?_toArray getElem?_cons_zero getElem?_cons_succ setIfInBounds_toArray set_cons_zero set_cons_succ)
set_option maxRecDepth 100000
open Go.RowKit
set_option linter.unusedVariables false
set_option linter.unusedSimpArgs false
theorem cellsN_u8 {l : List Nat} (h : Ae.bytes l) : cellsN l = ((l.map UInt8.ofNat).map Extern.Stop.cell).toArray := by
 unfold cellsN
 rw [List.map_map]
 congr 1
 refine List.map_congr_left fun c hc => ?_
 have := h c hc
 show Value.int .u8 (c : Int) = Extern.Stop.cell (UInt8.ofNat c)
 unfold Extern.Stop.cell
 rw [UInt8.toNat_ofNat', Nat.mod_eq_of_lt (by omega)]
 rfl
theorem eq16 {x y : List Nat} (hx : x.length = 16) (hy : y.length = 16) (qx : Ae.bytes x) (qy : Ae.bytes y) (w : World) :
  (binOp .eql 26 (.agg (cellsN x)) (.agg (cellsN y))).run Tryd.prog w = .ok (.bool (decide (x = y))) w := by
 rw [cellsN_u8 qx, cellsN_u8 qy, run_eql_bytes w 26 5 16 Tryd.underlying26 Tryd.underlying5 (fun w => by kernel_rfl) _ _ (by simpa using hx) (by simpa using hy)]
 congr 2
 rw [Bool.eq_iff_iff]
 simp only [beq_iff_eq, decide_eq_true_eq]
 constructor
 ·intro h
  have hm : ∀ l : List Nat, Ae.bytes l → (l.map UInt8.ofNat).map UInt8.toNat = l := fun l ql => by
   rw [List.map_map]
   conv => rhs; rw [← List.map_id l]
   refine List.map_congr_left fun c hc => ?_
   have := ql c hc
   show (UInt8.ofNat c).toNat = c
   rw [UInt8.toNat_ofNat', Nat.mod_eq_of_lt (by omega)]
  rw [← hm x qx, h, hm y qy]
 ·rintro rfl; rfl
theorem el8 : Tryd.prog.underlying 24 = some (.slice (Tryd.prog.elem 24)) := by kernel_rfl
theorem sz8 (w : World) : (sizeOf (Tryd.prog.elem 24)).run Tryd.prog w = .ok 1 w := by kernel_rfl
theorem slice8_h (A : Option Addr) (n c K : Nat) (hK : K ≤ c) (w : World) :
  (Instr.slice 24 (.slice A n c) none (some (.int .i64 (K : Int))) none).run Tryd.prog w = .ok (.slice A K c) w := by
 rw [run_slice_h w 24 A n c el8 .i64 (K : Int) (by omega) (by omega), sz8]
 have hA : A.map (fun x => x.add (0 * 1)) = A := by cases A <;> simp [Addr.add]
 simp only [Result.andThen, sliced, Int.toNat_natCast, Nat.sub_zero, hA]
 split <;> rfl
theorem slice8_at (A : Option Addr) (n c K : Nat) (hK : K ≤ c) (w : World) :
  (Instr.sliceAt 24 (.slice A n c) none (some (.int .i64 (K : Int))) none).run Tryd.prog w = .ok (.slice A K c) w := by
 rw [run_sliceAt_slice w 24 _ _ _ _ el8]; exact slice8_h A n c K hK w
theorem Rd.take {w : World} {A : Option Addr} {l : List Nat} (h : Rd w A l) (K : Nat) (hK : K ≤ l.length) : Rd w A (l.take K) := fun hp => by
 rw [List.length_take] at hp
 obtain ⟨b, off, rfl, hlt, hc⟩ := h (by omega)
 refine ⟨b, off, rfl, hlt, fun j hj => ?_⟩
 rw [List.length_take] at hj
 rw [hc j (by omega)]
 simp [List.getD_eq_getElem?_getD, show j < K by omega]
theorem below_drewN' {w w' : World} {q : Nat} (h : w' = w.drewN q) : Below w.heap.size w w' := by subst h; exact ⟨rfl, rfl, rfl, Nat.le_refl _, fun _ _ => rfl⟩
theorem bytes_take {l : List Nat} (h : Ae.bytes l) (K : Nat) : Ae.bytes (l.take K) := fun c hc => h c (List.mem_of_mem_take hc)
theorem made_zeros (n : Nat) : madeCells #[Value.int .u8 0] n = cellsN (List.replicate n 0) := by
 apply Array.ext
 ·rw [size_madeCells, cellsN_size, List.length_replicate]
 ·intro i h1 h2
  simp [madeCells, cellsN, Nat.mod_one]
theorem mk16 (N : Nat) (hN : N ≤ 1000) (w : World) :
  (Instr.makeSlice 24 (.int .i64 (N : Int)) (.int .i64 (N : Int))).run Tryd.prog w = .ok (.slice (some ⟨w.heap.size, 0, none⟩) N N) (w.alloc (.cells (cellsN (List.replicate N 0)) 5)) := by
 rw [run_make_row' 24 5 (.int .u8 0) 1 Tryd.underlying24 info8 rfl .i64 .i64 N (by omega) (by omega) w, made_zeros]
theorem Rd.new (w : World) (l : List Nat) (t : TypeId) : Rd (w.alloc (.cells (cellsN l) t)) (some ⟨w.heap.size, 0, none⟩) l := fun hp =>
 ⟨_, 0, rfl, by simp, fun j hj => by rw [Nat.zero_add]; exact Obj.getN (Obj.new w t (cellsN l)) j hj⟩
theorem slice8_l (b o n c K : Nat) (hK : K < c) (hn : K ≤ n) (hc : n ≤ c) (w : World) :
  (Instr.slice 24 (.slice (some ⟨b, o, none⟩) n c) (some (.int .i64 (K : Int))) none none).run Tryd.prog w = .ok (.slice (some ⟨b, o + K, none⟩) (n - K) (c - K)) w := by
 rw [run_slice_l w 24 (some ⟨b, o, none⟩) n c el8 .i64 (K : Int) (by omega) (by omega), sz8]
 have h1 : ¬ c = K := by omega
 simp [Result.andThen, sliced, h1, Addr.add_mid]
theorem slice16all (g : Nat) (w : World) :
  (Instr.sliceAt 26 (.pointer (some ⟨g, 0, none⟩)) none none none).run Tryd.prog w = .ok (.slice (some ⟨g, 0, none⟩) 16 16) w := by
 rw [run_sliceAt_array_all w 26 ⟨g, 0, none⟩ el16, sz16, al16]
 simp [Result.andThen, slicedAt, Addr.add]
theorem stream_at (k f : List Nat) (B : Option Addr) (d N : Nat) (x : List Nat) (W : World) (hk : k.length = 16) (hf : f.length = 16) (qk : Ae.bytes k) (qf : Ae.bytes f) (hN : x.length = N) (h1 : Rd W B x) (h2 : Ae.bytes x) (h3 : N ≤ 1000000) :
  Calls Tryd.prog 57 #[.agg (cellsN k), .agg (cellsN f), .slice B N d] W fun e w' => ∃ A' c', e = .returned (.slice A' N c') ∧ N ≤ c' ∧ Rd w' A' (Ae.stream (Ae.sched k) f x) ∧ Below W.heap.size W w' := by
 subst hN
 exact (stream_any k f B d x W hk hf qk qf h1 h2 h3).mono fun e w' ⟨v, he, hv, hb⟩ => by
  obtain ⟨A', c', rfl, _, h4, h5⟩ := own_rd hv
  exact ⟨A', c', he, h4, h5, hb⟩
theorem Rd.drop {w : World} {b o : Nat} {l : List Nat} (h : Rd w (some ⟨b, o, none⟩) l) (K : Nat) : Rd w (some ⟨b, o + K, none⟩) (l.drop K) := fun hp => by
 rw [List.length_drop] at hp
 obtain ⟨b', off, e, hlt, hc⟩ := h (by omega)
 obtain ⟨rfl, rfl⟩ : b = b' ∧ o = off := by cases e; exact ⟨rfl, rfl⟩
 refine ⟨b, o + K, rfl, hlt, fun j hj => ?_⟩
 rw [List.length_drop] at hj
 rw [show o + K + j = o + (K + j) by omega, hc (K + j) (by omega)]
 simp [List.getD_eq_getElem?_getD]
theorem Rd.far {w : World} {g o : Nat} {l : List Nat} (h : Rd w (some ⟨g, o, none⟩) l) {p : Addr} (hp : g ≠ p.block) (v : Value) : Rd (w.setCell p v) (some ⟨g, o, none⟩) l := fun hl => by
 obtain ⟨b', off, e, hlt, hc⟩ := h hl
 obtain ⟨rfl, rfl⟩ : g = b' ∧ o = off := by cases e; exact ⟨rfl, rfl⟩
 exact ⟨g, o, rfl, by simpa [World.setCell] using hlt, fun j hj => by rw [World.cell?_setCell_far _ _ _ _ (fun e => hp e.symm)]; exact hc j hj⟩
theorem Obj.rd {w : World} {g : Nat} {t : TypeId} {l : List Nat} (h : Obj w g t (cellsN l)) : Rd w (some ⟨g, 0, none⟩) l := fun _ => ⟨g, 0, rfl, h.lt, fun j hj => by rw [Nat.zero_add]; exact h.getN j hj⟩
end Go.Proofs.YtabfcaidioohfaaDoor
