/- Layer 15's ledger, walked: what Ack asks of one range. -/
import Derived.Test.YtlldomgfjmkcdaaRows
import Derived.Test.YtlldomgfjmkcdaaAid
import Derived.Test.YtlldomgfjmkcdaaLgW
import Derived.Test.YtlldomgfjmkcdaaLgE
namespace Go.Proofs.Ytlldomgfjmkcdaa
open Go Go.RowKit
set_option linter.unusedVariables false
set_option linter.unusedSimpArgs false

/-- Is a number in a range? -/
def inR (num : Nat) (r : Nat × Nat) : Bool := decide (r.1 ≤ num) && decide (num ≤ r.2)

set_option maxHeartbeats 1000000 in
theorem ack11_any (b num lo hi : Nat) (W : World) (h0 : W.cell? ⟨b, 0, none⟩ = some (.int .i64 (num : Int))) (hn : num ≤ 1000000) (hlo : lo ≤ 18446744073709551615) (hhi : hi ≤ 18446744073709551615) :
    Calls Try.prog 30 (#[.agg #[.int .u64 (lo : Int), .int .u64 (hi : Int)]] ++ #[.pointer (some ⟨b, 0, none⟩)]) W fun e W' => e = .returned (.bool (inR num (lo, hi))) ∧ Below W.heap.size W W' := by
  have hbl : b < W.heap.size := World.block_lt_of_cell? W _ h0
  have hne : b ≠ W.heap.size := by omega
  have e0 : IntKind.u64.wrap (num : Int) = (num : Int) := by rw [IntKind.wrap_u64]; omega
  have hb : Below W.heap.size W (W.alloc (.cells #[.int .u64 (lo : Int), .int .u64 (hi : Int)] 49)) := (Below.refl _ W).alloc (Nat.le_refl _) _
  have HB := Lib.hid hb
  clear hb
  by_cases c1 : lo ≤ num
  · have d1 : decide ((lo : Int) ≤ (num : Int)) = true := by simp; omega
    by_cases c2 : num ≤ hi
    · have d2 : decide ((num : Int) ≤ (hi : Int)) = true := by simp; omega
      have HR : Hid (inR num (lo, hi) = true) := by unfold Hid inR; simp [c1, c2]
      rw [HR.out]
      go_enter Try.func30, Try.ntmps30
      go_wp2
      go_ret
      exact ⟨by first | rfl | simp [c1, c2], HB.out⟩
    · have d2 : decide ((num : Int) ≤ (hi : Int)) = false := by simp; omega
      have HR : Hid (inR num (lo, hi) = false) := by unfold Hid inR; simp [c1, c2]
      rw [HR.out]
      go_enter Try.func30, Try.ntmps30
      go_wp2
      go_ret
      exact ⟨by first | rfl | simp [c1, c2], HB.out⟩
  · have d1 : decide ((lo : Int) ≤ (num : Int)) = false := by simp; omega
    have HR : Hid (inR num (lo, hi) = false) := by unfold Hid inR; simp [c1]
    rw [HR.out]
    go_enter Try.func30, Try.ntmps30
    go_wp2
    go_ret
    exact ⟨by first | rfl | simp [c1], HB.out⟩
end Go.Proofs.Ytlldomgfjmkcdaa
