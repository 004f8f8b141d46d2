/- A region that draws its order, whose operations only read, and whose callees keep a condition S: walked once, in the text's order. -/
import Derived.Test.YtgbgdbadifagcaaRows
import Derived.Deep.QuietTactic
import Derived.Tactics
import Derived.BigQuiet
namespace Go.Proofs.Ytgbgdbadifagcaa
/-- A world of which S holds. -/
structure HeldW (S : World → Prop) where
  W : World
  ok : S W
theorem wp_region_heldC (S : World → Prop) {P : Program} {id : Nat} {Q : Exit → Act → World → Prop} {a : Act} {w : World} {l : List Oper} (hm : P.follows .mixedOrders = true) (hB : Region.lexB .any l.toArray = true) (hS : S w.drew)
    (h : wpQuiet P l.toArray (fun w' => ∃ p : HeldW S, w' = p.W) (fun a' => ∀ w', (∃ p : HeldW S, w' = p.W) → Q .normal a' w') l a) : (Code.region id l.toArray true).wp P Q a w :=
  wp_region_quiet (C := fun w' => ∃ p : HeldW S, w' = p.W) hm hB ⟨⟨_, hS⟩, rfl⟩ (by simpa using h)
macro "go_quiet_heldC " S:term:max h:term:max "(" tac:tactic ")" : tactic => `(tactic|
  (have $(Lean.mkIdent `neH):ident : Nonempty (HeldW $S) := ⟨⟨_, $h⟩⟩
   refine wp_region_heldC $S (by kernel_rfl) (by kernel_rfl) $h ?_
   repeat (go_big_quiet_step ($tac:tactic))
   refine wpQuiet_nil ?_
   intro _ hw'
   obtain ⟨$(Lean.mkIdent `pH):ident, hw''⟩ := hw'
   subst hw''))
end Go.Proofs.Ytgbgdbadifagcaa
