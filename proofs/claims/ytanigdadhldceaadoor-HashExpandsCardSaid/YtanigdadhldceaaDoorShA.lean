/- Layer 7's words, walked: RotateLeft32, right, mix, word, four. -/
import Derived.Test.YtanigdadhldceaaDoorRows
import Derived.Test.YtanigdadhldceaaDoorAid
import Derived.Test.YtanigdadhldceaaDoorPlainSh
import Derived.WalkKit
import Derived.Laws.BitsAllLaws
import Derived.WalkSpells
import Derived.WalkLawsBesides
import Derived.Deep.QuietTactic
import Derived.BigQuiet
import Derived.Handy
import Derived.Lib.Hide
import Derived.IntWalk
namespace Go.Proofs.YtanigdadhldceaaDoor
open Go.RowKit
set_option linter.unusedVariables false
set_option linter.unusedSimpArgs false

theorem u32_rot (n : Nat) (x : Nat) (hx : x < 4294967296) : bits .or .u32 ((x : Int) * 2 ^ (32 - n) % 4294967296) ((x : Int) / 2 ^ n) = ((Sh.rr x n : Nat) : Int) := by
  have e1 : (x : Int) * 2 ^ (32 - n) % 4294967296 = ((x * 2 ^ (32 - n) % 4294967296 : Nat) : Int) := by simp
  have e2 : (x : Int) / 2 ^ n = ((x / 2 ^ n : Nat) : Int) := by simp
  rw [e1, e2, u32_or_nat _ _ (Nat.mod_lt _ (by decide)) (Sh.div_lt _ _ hx), Nat.or_comm]
  rfl
theorem u64_right (n : Nat) (hn : 1 ≤ n) (x : Nat) (hx : x < 4294967296) : bits .or .u64 ((x : Int) / 2 ^ n) ((x : Int) * 2 ^ (32 - n)) % 4294967296 = ((Sh.rr x n : Nat) : Int) := by
  have e1 : (x : Int) * 2 ^ (32 - n) = ((x * 2 ^ (32 - n) : Nat) : Int) := by simp
  have e2 : (x : Int) / 2 ^ n = ((x / 2 ^ n : Nat) : Int) := by simp
  have hp : 2 ^ (32 - n) ≤ 2 ^ 31 := Nat.pow_le_pow_right (by decide) (by omega)
  have hm : x * 2 ^ (32 - n) ≤ x * 2 ^ 31 := Nat.mul_le_mul_left _ hp
  have := Sh.div_lt x (2 ^ n) hx
  rw [e1, e2, u64_or_nat _ _ (by omega) (by omega), ← Sh.rr_ref x n hx]
  simp
set_option maxHeartbeats 400000 in
theorem rot7_any (x : Nat) (w : World) (hx : x < 4294967296) :
    Calls Tryd.prog 27 #[.int .u32 (x : Int), .int .i64 (-7)] w fun e w' => e = .returned (.int .u32 (Sh.rr x 7 : Nat)) ∧ w = w' := by
  have hb : bits .and .u64 (IntKind.u64.wrap (-7)) 31 = 25 := by decide
  have HR := Lib.hid (u32_rot 7 x hx)
  go_enter Tryd.func27, Tryd.ntmps27
  go_wp2
  go_ret
  exact ⟨(ret_int HR.out.symm).symm, rfl⟩
set_option maxHeartbeats 400000 in
theorem right7_any (x : Nat) (w : World) (hx : x < 4294967296) :
    Calls Tryd.prog 29 #[.int .u64 (x : Int), .int .i64 7] w fun e w' => e = .returned (.int .u64 (Sh.rr x 7 : Nat)) ∧ w = w' := by
  have HR := Lib.hid (u64_right 7 (by omega) x hx)
  go_enter Tryd.func29, Tryd.ntmps29
  go_wp2
  go_ret
  exact ⟨(ret_int HR.out.symm).symm, rfl⟩
set_option maxHeartbeats 400000 in
theorem rot18_any (x : Nat) (w : World) (hx : x < 4294967296) :
    Calls Tryd.prog 27 #[.int .u32 (x : Int), .int .i64 (-18)] w fun e w' => e = .returned (.int .u32 (Sh.rr x 18 : Nat)) ∧ w = w' := by
  have hb : bits .and .u64 (IntKind.u64.wrap (-18)) 31 = 14 := by decide
  have HR := Lib.hid (u32_rot 18 x hx)
  go_enter Tryd.func27, Tryd.ntmps27
  go_wp2
  go_ret
  exact ⟨(ret_int HR.out.symm).symm, rfl⟩
set_option maxHeartbeats 400000 in
theorem right18_any (x : Nat) (w : World) (hx : x < 4294967296) :
    Calls Tryd.prog 29 #[.int .u64 (x : Int), .int .i64 18] w fun e w' => e = .returned (.int .u64 (Sh.rr x 18 : Nat)) ∧ w = w' := by
  have HR := Lib.hid (u64_right 18 (by omega) x hx)
  go_enter Tryd.func29, Tryd.ntmps29
  go_wp2
  go_ret
  exact ⟨(ret_int HR.out.symm).symm, rfl⟩
set_option maxHeartbeats 400000 in
theorem rot17_any (x : Nat) (w : World) (hx : x < 4294967296) :
    Calls Tryd.prog 27 #[.int .u32 (x : Int), .int .i64 (-17)] w fun e w' => e = .returned (.int .u32 (Sh.rr x 17 : Nat)) ∧ w = w' := by
  have hb : bits .and .u64 (IntKind.u64.wrap (-17)) 31 = 15 := by decide
  have HR := Lib.hid (u32_rot 17 x hx)
  go_enter Tryd.func27, Tryd.ntmps27
  go_wp2
  go_ret
  exact ⟨(ret_int HR.out.symm).symm, rfl⟩
set_option maxHeartbeats 400000 in
theorem right17_any (x : Nat) (w : World) (hx : x < 4294967296) :
    Calls Tryd.prog 29 #[.int .u64 (x : Int), .int .i64 17] w fun e w' => e = .returned (.int .u64 (Sh.rr x 17 : Nat)) ∧ w = w' := by
  have HR := Lib.hid (u64_right 17 (by omega) x hx)
  go_enter Tryd.func29, Tryd.ntmps29
  go_wp2
  go_ret
  exact ⟨(ret_int HR.out.symm).symm, rfl⟩
set_option maxHeartbeats 400000 in
theorem rot19_any (x : Nat) (w : World) (hx : x < 4294967296) :
    Calls Tryd.prog 27 #[.int .u32 (x : Int), .int .i64 (-19)] w fun e w' => e = .returned (.int .u32 (Sh.rr x 19 : Nat)) ∧ w = w' := by
  have hb : bits .and .u64 (IntKind.u64.wrap (-19)) 31 = 13 := by decide
  have HR := Lib.hid (u32_rot 19 x hx)
  go_enter Tryd.func27, Tryd.ntmps27
  go_wp2
  go_ret
  exact ⟨(ret_int HR.out.symm).symm, rfl⟩
set_option maxHeartbeats 400000 in
theorem right19_any (x : Nat) (w : World) (hx : x < 4294967296) :
    Calls Tryd.prog 29 #[.int .u64 (x : Int), .int .i64 19] w fun e w' => e = .returned (.int .u64 (Sh.rr x 19 : Nat)) ∧ w = w' := by
  have HR := Lib.hid (u64_right 19 (by omega) x hx)
  go_enter Tryd.func29, Tryd.ntmps29
  go_wp2
  go_ret
  exact ⟨(ret_int HR.out.symm).symm, rfl⟩
set_option maxHeartbeats 400000 in
theorem rot6_any (x : Nat) (w : World) (hx : x < 4294967296) :
    Calls Tryd.prog 27 #[.int .u32 (x : Int), .int .i64 (-6)] w fun e w' => e = .returned (.int .u32 (Sh.rr x 6 : Nat)) ∧ w = w' := by
  have hb : bits .and .u64 (IntKind.u64.wrap (-6)) 31 = 26 := by decide
  have HR := Lib.hid (u32_rot 6 x hx)
  go_enter Tryd.func27, Tryd.ntmps27
  go_wp2
  go_ret
  exact ⟨(ret_int HR.out.symm).symm, rfl⟩
set_option maxHeartbeats 400000 in
theorem right6_any (x : Nat) (w : World) (hx : x < 4294967296) :
    Calls Tryd.prog 29 #[.int .u64 (x : Int), .int .i64 6] w fun e w' => e = .returned (.int .u64 (Sh.rr x 6 : Nat)) ∧ w = w' := by
  have HR := Lib.hid (u64_right 6 (by omega) x hx)
  go_enter Tryd.func29, Tryd.ntmps29
  go_wp2
  go_ret
  exact ⟨(ret_int HR.out.symm).symm, rfl⟩
set_option maxHeartbeats 400000 in
theorem rot11_any (x : Nat) (w : World) (hx : x < 4294967296) :
    Calls Tryd.prog 27 #[.int .u32 (x : Int), .int .i64 (-11)] w fun e w' => e = .returned (.int .u32 (Sh.rr x 11 : Nat)) ∧ w = w' := by
  have hb : bits .and .u64 (IntKind.u64.wrap (-11)) 31 = 21 := by decide
  have HR := Lib.hid (u32_rot 11 x hx)
  go_enter Tryd.func27, Tryd.ntmps27
  go_wp2
  go_ret
  exact ⟨(ret_int HR.out.symm).symm, rfl⟩
set_option maxHeartbeats 400000 in
theorem right11_any (x : Nat) (w : World) (hx : x < 4294967296) :
    Calls Tryd.prog 29 #[.int .u64 (x : Int), .int .i64 11] w fun e w' => e = .returned (.int .u64 (Sh.rr x 11 : Nat)) ∧ w = w' := by
  have HR := Lib.hid (u64_right 11 (by omega) x hx)
  go_enter Tryd.func29, Tryd.ntmps29
  go_wp2
  go_ret
  exact ⟨(ret_int HR.out.symm).symm, rfl⟩
set_option maxHeartbeats 400000 in
theorem rot25_any (x : Nat) (w : World) (hx : x < 4294967296) :
    Calls Tryd.prog 27 #[.int .u32 (x : Int), .int .i64 (-25)] w fun e w' => e = .returned (.int .u32 (Sh.rr x 25 : Nat)) ∧ w = w' := by
  have hb : bits .and .u64 (IntKind.u64.wrap (-25)) 31 = 7 := by decide
  have HR := Lib.hid (u32_rot 25 x hx)
  go_enter Tryd.func27, Tryd.ntmps27
  go_wp2
  go_ret
  exact ⟨(ret_int HR.out.symm).symm, rfl⟩
set_option maxHeartbeats 400000 in
theorem right25_any (x : Nat) (w : World) (hx : x < 4294967296) :
    Calls Tryd.prog 29 #[.int .u64 (x : Int), .int .i64 25] w fun e w' => e = .returned (.int .u64 (Sh.rr x 25 : Nat)) ∧ w = w' := by
  have HR := Lib.hid (u64_right 25 (by omega) x hx)
  go_enter Tryd.func29, Tryd.ntmps29
  go_wp2
  go_ret
  exact ⟨(ret_int HR.out.symm).symm, rfl⟩
set_option maxHeartbeats 400000 in
theorem rot2_any (x : Nat) (w : World) (hx : x < 4294967296) :
    Calls Tryd.prog 27 #[.int .u32 (x : Int), .int .i64 (-2)] w fun e w' => e = .returned (.int .u32 (Sh.rr x 2 : Nat)) ∧ w = w' := by
  have hb : bits .and .u64 (IntKind.u64.wrap (-2)) 31 = 30 := by decide
  have HR := Lib.hid (u32_rot 2 x hx)
  go_enter Tryd.func27, Tryd.ntmps27
  go_wp2
  go_ret
  exact ⟨(ret_int HR.out.symm).symm, rfl⟩
set_option maxHeartbeats 400000 in
theorem right2_any (x : Nat) (w : World) (hx : x < 4294967296) :
    Calls Tryd.prog 29 #[.int .u64 (x : Int), .int .i64 2] w fun e w' => e = .returned (.int .u64 (Sh.rr x 2 : Nat)) ∧ w = w' := by
  have HR := Lib.hid (u64_right 2 (by omega) x hx)
  go_enter Tryd.func29, Tryd.ntmps29
  go_wp2
  go_ret
  exact ⟨(ret_int HR.out.symm).symm, rfl⟩
set_option maxHeartbeats 400000 in
theorem rot13_any (x : Nat) (w : World) (hx : x < 4294967296) :
    Calls Tryd.prog 27 #[.int .u32 (x : Int), .int .i64 (-13)] w fun e w' => e = .returned (.int .u32 (Sh.rr x 13 : Nat)) ∧ w = w' := by
  have hb : bits .and .u64 (IntKind.u64.wrap (-13)) 31 = 19 := by decide
  have HR := Lib.hid (u32_rot 13 x hx)
  go_enter Tryd.func27, Tryd.ntmps27
  go_wp2
  go_ret
  exact ⟨(ret_int HR.out.symm).symm, rfl⟩
set_option maxHeartbeats 400000 in
theorem right13_any (x : Nat) (w : World) (hx : x < 4294967296) :
    Calls Tryd.prog 29 #[.int .u64 (x : Int), .int .i64 13] w fun e w' => e = .returned (.int .u64 (Sh.rr x 13 : Nat)) ∧ w = w' := by
  have HR := Lib.hid (u64_right 13 (by omega) x hx)
  go_enter Tryd.func29, Tryd.ntmps29
  go_wp2
  go_ret
  exact ⟨(ret_int HR.out.symm).symm, rfl⟩
set_option maxHeartbeats 400000 in
theorem rot22_any (x : Nat) (w : World) (hx : x < 4294967296) :
    Calls Tryd.prog 27 #[.int .u32 (x : Int), .int .i64 (-22)] w fun e w' => e = .returned (.int .u32 (Sh.rr x 22 : Nat)) ∧ w = w' := by
  have hb : bits .and .u64 (IntKind.u64.wrap (-22)) 31 = 10 := by decide
  have HR := Lib.hid (u32_rot 22 x hx)
  go_enter Tryd.func27, Tryd.ntmps27
  go_wp2
  go_ret
  exact ⟨(ret_int HR.out.symm).symm, rfl⟩
set_option maxHeartbeats 400000 in
theorem right22_any (x : Nat) (w : World) (hx : x < 4294967296) :
    Calls Tryd.prog 29 #[.int .u64 (x : Int), .int .i64 22] w fun e w' => e = .returned (.int .u64 (Sh.rr x 22 : Nat)) ∧ w = w' := by
  have HR := Lib.hid (u64_right 22 (by omega) x hx)
  go_enter Tryd.func29, Tryd.ntmps29
  go_wp2
  go_ret
  exact ⟨(ret_int HR.out.symm).symm, rfl⟩
end Go.Proofs.YtanigdadhldceaaDoor
