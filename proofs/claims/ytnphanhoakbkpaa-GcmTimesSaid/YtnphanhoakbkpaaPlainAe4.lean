/- Layer 8: the document's search for an inverse: no program in sight. -/
import Derived.Test.YtnphanhoakbkpaaPlainAe
namespace Go.Proofs.Ytnphanhoakbkpaa.Ae
/-- The last of the first m bytes whose product with a is 1. -/
def srch (a : Nat) : Nat → Nat
  | 0 => 0
  | m + 1 => if mul a (m + 1) = 1 then m + 1 else srch a m
theorem srch_inv : ∀ a, a < 256 → srch a 255 = inv a := by decide +kernel
theorem srch_le (a : Nat) : ∀ m, srch a m ≤ m
  | 0 => Nat.le_refl _
  | m + 1 => by have := srch_le a m; unfold srch; split <;> omega
theorem rot_zero (x : Nat) (h : x < 256) : rot x 0 = x := by unfold rot; simp; omega
theorem rot_next : ∀ k, k < 4 → ∀ x, x < 256 → rot x k * 2 % 256 + rot x k / 128 = rot x (k + 1) := by decide +kernel
theorem rot_small : ∀ k, k < 5 → ∀ x, x < 256 → rot x k < 256 := by decide +kernel
end Go.Proofs.Ytnphanhoakbkpaa.Ae
