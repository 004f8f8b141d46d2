/- Layer 8: products are commutative: no program in sight. -/
import Derived.Test.YtbkobmfakkbfcaaPlainAe
namespace Go.Proofs.Ytbkobmfakkbfcaa.Ae
theorem mul_comm : ∀ a, a < 256 → ∀ b, b < 256 → mul a b = mul b a := by decide +kernel
end Go.Proofs.Ytbkobmfakkbfcaa.Ae
