/- A region that draws its order, whose operations only read, and whose callees keep a condition S: walked once, in the text's order. -/
import Derived.Test.YtgbgdbadifagcaaRows
import Derived.Deep.QuietTactic
import Derived.Tactics
import Derived.BigQuiet
namespace Go.Proofs.Ytgbgdbadifagcaa
/-- A world of which S holds. -/
structure HeldW (S : World → Prop) where
  W : World
  ok : S W
theorem wp_region_heldC (S : World → Prop) {P : Program} {id : Nat} {Q : Exit → Act → World → Prop} {a : Act} {w : World} {l : List Oper} (hm : P.follows .mixedOrders = true) (hB : Region.lexB .any l.toArray = true) (hS : S w.drew)
    (h : wpQuiet P l.toArray (fun w' => ∃ p : HeldW S, w' = p.W) (fun a' => ∀ w', (∃ p : HeldW S, w' = p.W) → Q .normal a' w') l a) : (Code.region id l.toArray true).wp P Q a w :=
  wp_region_quiet (C := fun w' => ∃ p : HeldW S, w' = p.W) hm hB ⟨⟨_, hS⟩, rfl⟩ (by simpa using h)
end Go.Proofs.Ytgbgdbadifagcaa
