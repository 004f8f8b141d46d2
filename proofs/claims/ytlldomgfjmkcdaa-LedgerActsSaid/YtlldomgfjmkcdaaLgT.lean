/- Sums of times, of the program and of the document, walked (as in layer 11). -/
import Derived.Test.YtlldomgfjmkcdaaRows
import Derived.Test.YtlldomgfjmkcdaaPlainTk
import Derived.Test.YtlldomgfjmkcdaaAid
import Derived.WalkKit
import Derived.WalkSpells
import Derived.WalkLawsBesides
import Derived.Deep.QuietTactic
import Derived.BigQuiet
import Derived.Handy
import Derived.Lib.Hide
import Derived.Laws.Externs
namespace Go.Proofs.Ytlldomgfjmkcdaa
open Go.RowKit
set_option linter.unusedVariables false

theorem add64 (x y : Int) (hx : 0 ≤ x) (hy : 0 ≤ y) (w : World) : (callFunc 42 #[.int .u64 x, .int .u64 y, .int .u64 0]).run Try.prog w =
    .ok (.value (.tuple #[.int .u64 ((x + y) % 18446744073709551616), .int .u64 ((x + y) / 18446744073709551616)])) w := by
  rw [run_callFunc_extern Try.func42 (by kernel_rfl) (by kernel_rfl) (by kernel_rfl) (e := add64Entry) (by kernel_rfl), run_add64 x y 0 hx hy (by omega) (by omega)]
  simp [Result.andThen]

set_option maxHeartbeats 400000 in
theorem add_any (a b : Int) (w : World) (ha : 0 ≤ a) (ha1 : a ≤ 18446744073709551615) (hb : 0 ≤ b) (hb1 : b ≤ 18446744073709551615) :
    Calls Try.prog 32 #[.int .u64 a, .int .u64 b] w fun e w' => e = .returned (.int .u64 (Tk.add a b)) ∧ Below w.heap.size w w' := by
  by_cases h : 18446744073709551615 < a + b
  · have HF := Lib.hid (show Tk.add a b = _ from Tk.sat_high _ (by omega))
    have q1 : (a + b) / 18446744073709551616 = 1 := by omega
    go_enter Try.func32, Try.ntmps32
    go_wp2_with (simp only [add64 a b ha hb])
    go_wp2
    go_ret
    exact ⟨(ret_int HF.out).symm, by go_grown⟩
  · have HF := Lib.hid (show Tk.add a b = _ from Tk.sat_low _ (by omega))
    have q1 : (a + b) / 18446744073709551616 = 0 := by omega
    have q2 : (a + b) % 18446744073709551616 = a + b := by omega
    go_enter Try.func32, Try.ntmps32
    go_wp2_with (simp only [add64 a b ha hb])
    go_wp2
    go_ret
    exact ⟨(ret_int HF.out).symm, by go_grown⟩

set_option maxHeartbeats 400000 in
theorem refAdd_any (a b : Int) (w : World) (ha : 0 ≤ a) (ha1 : a ≤ 18446744073709551615) (hb : 0 ≤ b) (hb1 : b ≤ 18446744073709551615) :
    Calls Try.prog 38 #[.int .u64 a, .int .u64 b] w fun e w' => e = .returned (.int .u64 (Tk.add a b)) ∧ w = w' := by
  by_cases h : 18446744073709551615 - a < b
  · have HF := Lib.hid (show Tk.add a b = _ from Tk.sat_high _ (by omega))
    go_enter Try.func38, Try.ntmps38
    go_wp2
    go_ret
    exact ⟨(ret_int HF.out).symm, rfl⟩
  · have HF := Lib.hid (show Tk.add a b = _ from Tk.sat_low _ (by omega))
    go_enter Try.func38, Try.ntmps38
    go_wp2
    go_ret
    exact ⟨(ret_int HF.out).symm, rfl⟩


/-- A sum of times. -/
def tadd (a b : Nat) : Nat := if 18446744073709551615 < a + b then 18446744073709551615 else a + b
theorem tadd_le (a b : Nat) : tadd a b ≤ 18446744073709551615 := by unfold tadd; split <;> omega
theorem tadd_int (a b : Nat) : Tk.add (a : Int) (b : Int) = ((tadd a b : Nat) : Int) := by
  unfold Tk.add Tk.sat tadd
  split <;> split <;> omega
theorem tadd_any (a b : Nat) (w : World) (ha : a ≤ 18446744073709551615) (hb : b ≤ 18446744073709551615) :
    Calls Try.prog 32 #[.int .u64 (a : Int), .int .u64 (b : Int)] w fun e w' => e = .returned (.int .u64 ((tadd a b : Nat) : Int)) ∧ Below w.heap.size w w' := by
  have := add_any (a : Int) (b : Int) w (by omega) (by omega) (by omega) (by omega)
  rw [tadd_int] at this
  exact this
theorem rtadd_any (a b : Nat) (w : World) (ha : a ≤ 18446744073709551615) (hb : b ≤ 18446744073709551615) :
    Calls Try.prog 38 #[.int .u64 (a : Int), .int .u64 (b : Int)] w fun e w' => e = .returned (.int .u64 ((tadd a b : Nat) : Int)) ∧ w = w' := by
  have := refAdd_any (a : Int) (b : Int) w (by omega) (by omega) (by omega) (by omega)
  rw [tadd_int] at this
  exact this
end Go.Proofs.Ytlldomgfjmkcdaa
