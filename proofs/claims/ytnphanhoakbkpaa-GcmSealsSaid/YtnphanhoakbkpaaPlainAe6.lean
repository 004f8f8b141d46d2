/- Layer 8: a byte of the next word, as the document reckons it: no program in sight. -/
import Derived.Test.YtnphanhoakbkpaaPlainAe
import Derived.Test.YtnphanhoakbkpaaPlainAe2
namespace Go.Proofs.Ytnphanhoakbkpaa.Ae
theorem tmpW_get (l : List Nat) (i k : Nat) (hi : 4 ≤ i) (hk : k < 4) : (tmpW l i).getD k 0 =
    if i % 4 = 0 then (if k = 0 then box (l.getD (4 * i - 4 + (k + 1) % 4) 0) ^^^ pwr (i / 4 - 1) else box (l.getD (4 * i - 4 + (k + 1) % 4) 0)) else l.getD (4 * i - 4 + k) 0 := by
  have hk4 : k = 0 ∨ k = 1 ∨ k = 2 ∨ k = 3 := by omega
  unfold tmpW
  by_cases h4 : i % 4 = 0
  · rw [if_pos h4, if_pos h4]
    rcases hk4 with rfl | rfl | rfl | rfl
    · rw [if_pos rfl, show 4 * i - 4 + (0 + 1) % 4 = 4 * i - 3 by omega]; rfl
    · rw [if_neg (by omega), show 4 * i - 4 + (1 + 1) % 4 = 4 * i - 2 by omega]; rfl
    · rw [if_neg (by omega), show 4 * i - 4 + (2 + 1) % 4 = 4 * i - 1 by omega]; rfl
    · rw [if_neg (by omega), show 4 * i - 4 + (3 + 1) % 4 = 4 * i - 4 by omega]; rfl
  · rw [if_neg h4, if_neg h4]
    rcases hk4 with rfl | rfl | rfl | rfl
    · rfl
    · rw [show 4 * i - 4 + 1 = 4 * i - 3 by omega]; rfl
    · rw [show 4 * i - 4 + 2 = 4 * i - 2 by omega]; rfl
    · rw [show 4 * i - 4 + 3 = 4 * i - 1 by omega]; rfl
end Go.Proofs.Ytnphanhoakbkpaa.Ae
