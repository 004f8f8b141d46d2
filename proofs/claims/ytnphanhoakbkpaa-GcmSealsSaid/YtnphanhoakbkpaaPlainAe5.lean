/- Layer 8: the document's table of boxes, round by round: no program in sight. -/
import Derived.Test.YtnphanhoakbkpaaPlainAe
import Derived.Test.YtnphanhoakbkpaaPlainAe4
namespace Go.Proofs.Ytnphanhoakbkpaa.Ae
/-- Powers of 3 and of its inverse, and the inverses so far. -/
def tq : Nat → Nat × Nat × List Nat
  | 0 => (1, 1, List.replicate 256 0)
  | i + 1 => (mul (tq i).1 3, mul (tq i).2.1 246, (tq i).2.2.set (mul (tq i).1 3) (mul (tq i).2.1 246))
def tqS (s : Nat × Nat × List Nat) : Nat × Nat × List Nat := (mul s.1 3, mul s.2.1 246, s.2.2.set (mul s.1 3) (mul s.2.1 246))
def tqI : Nat → (Nat × Nat × List Nat) → (Nat × Nat × List Nat)
  | 0, s => s
  | i + 1, s => tqI i (tqS s)
theorem tqI_next : ∀ (i : Nat) (s : Nat × Nat × List Nat), tqI (i + 1) s = tqS (tqI i s)
  | 0, _ => rfl
  | i + 1, s => by rw [tqI, tqI_next i (tqS s)]; rfl
theorem tq_tqI : ∀ i, tq i = tqI i (1, 1, List.replicate 256 0)
  | 0 => rfl
  | i + 1 => by rw [tqI_next, ← tq_tqI i]; rfl
theorem tq_end : (tqI 255 (1, 1, List.replicate 256 0)).2.2 = (List.range 256).map inv := by decide +kernel
theorem tq_inv : (tq 255).2.2 = (List.range 256).map inv := by rw [tq_tqI]; exact tq_end
theorem tq_lt : ∀ i, (tq i).1 < 256 ∧ (tq i).2.1 < 256
  | 0 => by decide
  | i + 1 => ⟨mul_lt _ _ (tq_lt i).1, mul_lt _ _ (tq_lt i).2⟩
theorem tq_len : ∀ i, (tq i).2.2.length = 256
  | 0 => by unfold tq; exact List.length_replicate
  | i + 1 => by unfold tq; rw [List.length_set]; exact tq_len i
end Go.Proofs.Ytnphanhoakbkpaa.Ae
