/-
  No cell of these rows narrows 'for every input' (looked for: loops, veiled, ifaces, maps, wideKeys, modest, calm, conditions, laid).
  DERIVED. THE GIVEN ROWS OF THIS SEAT. 7 by the template 'for every input the law returns true; each argument reads behind the call as it read before'; 0 by the template 'total and deterministic' (their statements: YtjgoeakhodpcaaaTotals.lean).
  GIVEN WITH THE SEED: the statements are not yours to turn. If you find one false, say at which input.
  Laid BY PROGRAM, IN A SANDBOX (cutbox-rows.mjs): the forced cells as the released guide's own fill.sh prints them over the translation 2a58a59f09b542e2… (all of the seat's roots in one cut). By AI agents, Wed Nov 11 2026. No macro, syntax, notation, axiom, sorry.
-/
import Derived.Test.YtjgoeakhodpcaaaChecked
import GoSem.Claim
import GoSem.ClaimJoined
import GoSem.ClaimMapViews
import Derived.JoinedTies
import Derived.KernelRfl
namespace Go.Proofs.Ytjgoeakhodpcaaa
/- THE CELL 'sum', in the pinned program and in every row, IS THE sha256 OF THE DUMP (.gsa) THAT YtjgoeakhodpcaaaProg.lean LOADS. Nothing in Lean hashes anything: it is a label: what it is worth is what the hold of that sum in a sandbox is worth. -/
noncomputable def Try.pinned : Pinned := { name := "ytjgoeakhodpcaaa", sum := "2a58a59f09b542e2a3e8f6a03a89a2718546208b55eadd1e09c409b3900af74f", checked := Try.checked }
namespace Rows
def none {H : Type} : Left H := { results := [], args := [] }

/-- 'doorwardlaw11.TicksSums': WHATEVER THE INPUT: true; the input reads as it did. -/
def ticksSumsSpec : ChangeSpec := { name := "ticksSums", fn := fun _ => fun
  | [d1, d2, d3] => { results := [.lit (.bool true)], args := [d1, d2, d3] }
  | _ => none }
def ticksSumsRow : OpenClaim := { program := "ytjgoeakhodpcaaa", sum := "2a58a59f09b542e2a3e8f6a03a89a2718546208b55eadd1e09c409b3900af74f", func := "doorward/doorwardlaw11.TicksSums", spec := "ticksSums", inPlace := ["math/bits.Add64"], unfollowed := true, recurses := true, apart := false }
def TicksSumsSaid : Prop := ticksSumsRow.holds Try.pinned (OpenSpec.ofChange ticksSumsSpec)

/-- ITS FALSE NEIGHBOUR: 'it returns false'. Refute it at one input. -/
def ticksSumsWrong : ChangeSpec := { name := "ticksSums", fn := fun _ => fun
  | [d1, d2, d3] => { results := [.lit (.bool false)], args := [d1, d2, d3] }
  | _ => none }
def TicksSumsWrongFalsely : Prop := ticksSumsRow.holds Try.pinned (OpenSpec.ofChange ticksSumsWrong)

/-- 'doorwardlaw11.TicksBuckets': WHATEVER THE INPUT: true; the input reads as it did. -/
def ticksBucketsSpec : ChangeSpec := { name := "ticksBuckets", fn := fun _ => fun
  | [d1, d2, d3] => { results := [.lit (.bool true)], args := [d1, d2, d3] }
  | _ => none }
def ticksBucketsRow : OpenClaim := { program := "ytjgoeakhodpcaaa", sum := "2a58a59f09b542e2a3e8f6a03a89a2718546208b55eadd1e09c409b3900af74f", func := "doorward/doorwardlaw11.TicksBuckets", spec := "ticksBuckets", inPlace := ["math/bits.Add64"], unfollowed := true, recurses := true, apart := false }
def TicksBucketsSaid : Prop := ticksBucketsRow.holds Try.pinned (OpenSpec.ofChange ticksBucketsSpec)

/-- ITS FALSE NEIGHBOUR: 'it returns false'. Refute it at one input. -/
def ticksBucketsWrong : ChangeSpec := { name := "ticksBuckets", fn := fun _ => fun
  | [d1, d2, d3] => { results := [.lit (.bool false)], args := [d1, d2, d3] }
  | _ => none }
def TicksBucketsWrongFalsely : Prop := ticksBucketsRow.holds Try.pinned (OpenSpec.ofChange ticksBucketsWrong)

/-- 'doorwardlaw11.TicksSlow': WHATEVER THE INPUT: true; the input reads as it did. -/
def ticksSlowSpec : ChangeSpec := { name := "ticksSlow", fn := fun _ => fun
  | [d1, d2, d3] => { results := [.lit (.bool true)], args := [d1, d2, d3] }
  | _ => none }
def ticksSlowRow : OpenClaim := { program := "ytjgoeakhodpcaaa", sum := "2a58a59f09b542e2a3e8f6a03a89a2718546208b55eadd1e09c409b3900af74f", func := "doorward/doorwardlaw11.TicksSlow", spec := "ticksSlow", inPlace := ["math/bits.Add64"], unfollowed := true, recurses := true, apart := false }
def TicksSlowSaid : Prop := ticksSlowRow.holds Try.pinned (OpenSpec.ofChange ticksSlowSpec)

/-- ITS FALSE NEIGHBOUR: 'it returns false'. Refute it at one input. -/
def ticksSlowWrong : ChangeSpec := { name := "ticksSlow", fn := fun _ => fun
  | [d1, d2, d3] => { results := [.lit (.bool false)], args := [d1, d2, d3] }
  | _ => none }
def TicksSlowWrongFalsely : Prop := ticksSlowRow.holds Try.pinned (OpenSpec.ofChange ticksSlowWrong)

/-- 'doorwardlaw11.TicksPowers': WHATEVER THE INPUT: true; the input reads as it did. -/
def ticksPowersSpec : ChangeSpec := { name := "ticksPowers", fn := fun _ => fun
  | [d] => { results := [.lit (.bool true)], args := [d] }
  | _ => none }
def ticksPowersRow : OpenClaim := { program := "ytjgoeakhodpcaaa", sum := "2a58a59f09b542e2a3e8f6a03a89a2718546208b55eadd1e09c409b3900af74f", func := "doorward/doorwardlaw11.TicksPowers", spec := "ticksPowers", inPlace := ["math/bits.Add64"], unfollowed := true, recurses := true, apart := false }
def TicksPowersSaid : Prop := ticksPowersRow.holds Try.pinned (OpenSpec.ofChange ticksPowersSpec)

/-- ITS FALSE NEIGHBOUR: 'it returns false'. Refute it at one input. -/
def ticksPowersWrong : ChangeSpec := { name := "ticksPowers", fn := fun _ => fun
  | [d] => { results := [.lit (.bool false)], args := [d] }
  | _ => none }
def TicksPowersWrongFalsely : Prop := ticksPowersRow.holds Try.pinned (OpenSpec.ofChange ticksPowersWrong)

/-- 'doorwardlaw11.TicksOrder': WHATEVER THE INPUT: true; the input reads as it did. -/
def ticksOrderSpec : ChangeSpec := { name := "ticksOrder", fn := fun _ => fun
  | [d1, d2, d3] => { results := [.lit (.bool true)], args := [d1, d2, d3] }
  | _ => none }
def ticksOrderRow : OpenClaim := { program := "ytjgoeakhodpcaaa", sum := "2a58a59f09b542e2a3e8f6a03a89a2718546208b55eadd1e09c409b3900af74f", func := "doorward/doorwardlaw11.TicksOrder", spec := "ticksOrder", inPlace := ["math/bits.Add64"], unfollowed := true, recurses := true, apart := false }
def TicksOrderSaid : Prop := ticksOrderRow.holds Try.pinned (OpenSpec.ofChange ticksOrderSpec)

/-- ITS FALSE NEIGHBOUR: 'it returns false'. Refute it at one input. -/
def ticksOrderWrong : ChangeSpec := { name := "ticksOrder", fn := fun _ => fun
  | [d1, d2, d3] => { results := [.lit (.bool false)], args := [d1, d2, d3] }
  | _ => none }
def TicksOrderWrongFalsely : Prop := ticksOrderRow.holds Try.pinned (OpenSpec.ofChange ticksOrderWrong)

/-- 'doorwardlaw11.TicksBack': WHATEVER THE INPUT: true; the input reads as it did. -/
def ticksBackSpec : ChangeSpec := { name := "ticksBack", fn := fun _ => fun
  | [d1, d2, d3] => { results := [.lit (.bool true)], args := [d1, d2, d3] }
  | _ => none }
def ticksBackRow : OpenClaim := { program := "ytjgoeakhodpcaaa", sum := "2a58a59f09b542e2a3e8f6a03a89a2718546208b55eadd1e09c409b3900af74f", func := "doorward/doorwardlaw11.TicksBack", spec := "ticksBack", inPlace := ["math/bits.Add64"], unfollowed := true, recurses := true, apart := false }
def TicksBackSaid : Prop := ticksBackRow.holds Try.pinned (OpenSpec.ofChange ticksBackSpec)

/-- ITS FALSE NEIGHBOUR: 'it returns false'. Refute it at one input. -/
def ticksBackWrong : ChangeSpec := { name := "ticksBack", fn := fun _ => fun
  | [d1, d2, d3] => { results := [.lit (.bool false)], args := [d1, d2, d3] }
  | _ => none }
def TicksBackWrongFalsely : Prop := ticksBackRow.holds Try.pinned (OpenSpec.ofChange ticksBackWrong)

/-- 'doorwardlaw11.TicksLeft': WHATEVER THE INPUT: true; the input reads as it did. -/
def ticksLeftSpec : ChangeSpec := { name := "ticksLeft", fn := fun _ => fun
  | [d1, d2, d3] => { results := [.lit (.bool true)], args := [d1, d2, d3] }
  | _ => none }
def ticksLeftRow : OpenClaim := { program := "ytjgoeakhodpcaaa", sum := "2a58a59f09b542e2a3e8f6a03a89a2718546208b55eadd1e09c409b3900af74f", func := "doorward/doorwardlaw11.TicksLeft", spec := "ticksLeft", inPlace := ["math/bits.Add64"], unfollowed := true, recurses := true, apart := false }
def TicksLeftSaid : Prop := ticksLeftRow.holds Try.pinned (OpenSpec.ofChange ticksLeftSpec)

/-- ITS FALSE NEIGHBOUR: 'it returns false'. Refute it at one input. -/
def ticksLeftWrong : ChangeSpec := { name := "ticksLeft", fn := fun _ => fun
  | [d1, d2, d3] => { results := [.lit (.bool false)], args := [d1, d2, d3] }
  | _ => none }
def TicksLeftWrongFalsely : Prop := ticksLeftRow.holds Try.pinned (OpenSpec.ofChange ticksLeftWrong)

/- THE SECOND FORM. 'bulk': how many values and letters a reading holds, each counted each time it is reached (what is shared counts as often as it is met; a slice's spare places count too). A statement '..UptoSaid' is the law's where the arguments, and the package variables that the reading takes, are together of bulk at most 1048576: NARROWER than '..Said'. Prove '..Said' where nothing that the law and all that it calls make is longer than what came in: it says more and counts as full. Else prove '..UptoSaid'. A law counts once. -/
mutual
def uptoBulk {H : Type} : DataW H → Nat
  | .lit (.string bytes) => bytes.length + 1
  | .lit _ => 1
  | .nil => 1
  | .ptr d => uptoBulk d + 1
  | .slice elems spare => uptoBulkAll elems + uptoBulkAll spare + 1
  | .agg parts => uptoBulkAll parts + 1
  | .iface _ d => uptoBulk d + 1
  | .map entries => uptoBulkEntries entries + 1
  | .held _ => 1
def uptoBulkAll {H : Type} : List (DataW H) → Nat
  | [] => 0
  | d :: r => uptoBulk d + uptoBulkAll r
def uptoBulkEntries {H : Type} : List (Lit × DataW H) → Nat
  | [] => 0
  | x :: r => uptoBulkEntry x + uptoBulkEntries r
def uptoBulkEntry {H : Type} : Lit × DataW H → Nat
  | (.string bytes, d) => bytes.length + uptoBulk d + 1
  | (_, d) => uptoBulk d + 1
 end
def uptoSmall : (H : Type) → List (DataW H) → Bool := fun _ ds => decide (uptoBulkAll ds ≤ 1048576)
def OpenSpec.upto (s : _root_.Go.ChangeSpec) : _root_.Go.OpenSpec := { _root_.Go.OpenSpec.ofChange s with cond := some uptoSmall }

/-- 'doorwardlaw11.TicksSums', WHERE WHAT IT READS IS OF BULK AT MOST 1048576: true; the input reads as it did. -/
def ticksSumsUptoRow : OpenClaim := { program := "ytjgoeakhodpcaaa", sum := "2a58a59f09b542e2a3e8f6a03a89a2718546208b55eadd1e09c409b3900af74f", func := "doorward/doorwardlaw11.TicksSums", spec := "ticksSums", inPlace := ["math/bits.Add64"], unfollowed := true, recurses := true, apart := false, narrowed := true }
def TicksSumsUptoSaid : Prop := ticksSumsUptoRow.holds Try.pinned (OpenSpec.upto ticksSumsSpec)

/-- 'doorwardlaw11.TicksBuckets', WHERE WHAT IT READS IS OF BULK AT MOST 1048576: true; the input reads as it did. -/
def ticksBucketsUptoRow : OpenClaim := { program := "ytjgoeakhodpcaaa", sum := "2a58a59f09b542e2a3e8f6a03a89a2718546208b55eadd1e09c409b3900af74f", func := "doorward/doorwardlaw11.TicksBuckets", spec := "ticksBuckets", inPlace := ["math/bits.Add64"], unfollowed := true, recurses := true, apart := false, narrowed := true }
def TicksBucketsUptoSaid : Prop := ticksBucketsUptoRow.holds Try.pinned (OpenSpec.upto ticksBucketsSpec)

/-- 'doorwardlaw11.TicksSlow', WHERE WHAT IT READS IS OF BULK AT MOST 1048576: true; the input reads as it did. -/
def ticksSlowUptoRow : OpenClaim := { program := "ytjgoeakhodpcaaa", sum := "2a58a59f09b542e2a3e8f6a03a89a2718546208b55eadd1e09c409b3900af74f", func := "doorward/doorwardlaw11.TicksSlow", spec := "ticksSlow", inPlace := ["math/bits.Add64"], unfollowed := true, recurses := true, apart := false, narrowed := true }
def TicksSlowUptoSaid : Prop := ticksSlowUptoRow.holds Try.pinned (OpenSpec.upto ticksSlowSpec)

/-- 'doorwardlaw11.TicksPowers', WHERE WHAT IT READS IS OF BULK AT MOST 1048576: true; the input reads as it did. -/
def ticksPowersUptoRow : OpenClaim := { program := "ytjgoeakhodpcaaa", sum := "2a58a59f09b542e2a3e8f6a03a89a2718546208b55eadd1e09c409b3900af74f", func := "doorward/doorwardlaw11.TicksPowers", spec := "ticksPowers", inPlace := ["math/bits.Add64"], unfollowed := true, recurses := true, apart := false, narrowed := true }
def TicksPowersUptoSaid : Prop := ticksPowersUptoRow.holds Try.pinned (OpenSpec.upto ticksPowersSpec)

/-- 'doorwardlaw11.TicksOrder', WHERE WHAT IT READS IS OF BULK AT MOST 1048576: true; the input reads as it did. -/
def ticksOrderUptoRow : OpenClaim := { program := "ytjgoeakhodpcaaa", sum := "2a58a59f09b542e2a3e8f6a03a89a2718546208b55eadd1e09c409b3900af74f", func := "doorward/doorwardlaw11.TicksOrder", spec := "ticksOrder", inPlace := ["math/bits.Add64"], unfollowed := true, recurses := true, apart := false, narrowed := true }
def TicksOrderUptoSaid : Prop := ticksOrderUptoRow.holds Try.pinned (OpenSpec.upto ticksOrderSpec)

/-- 'doorwardlaw11.TicksBack', WHERE WHAT IT READS IS OF BULK AT MOST 1048576: true; the input reads as it did. -/
def ticksBackUptoRow : OpenClaim := { program := "ytjgoeakhodpcaaa", sum := "2a58a59f09b542e2a3e8f6a03a89a2718546208b55eadd1e09c409b3900af74f", func := "doorward/doorwardlaw11.TicksBack", spec := "ticksBack", inPlace := ["math/bits.Add64"], unfollowed := true, recurses := true, apart := false, narrowed := true }
def TicksBackUptoSaid : Prop := ticksBackUptoRow.holds Try.pinned (OpenSpec.upto ticksBackSpec)

/-- 'doorwardlaw11.TicksLeft', WHERE WHAT IT READS IS OF BULK AT MOST 1048576: true; the input reads as it did. -/
def ticksLeftUptoRow : OpenClaim := { program := "ytjgoeakhodpcaaa", sum := "2a58a59f09b542e2a3e8f6a03a89a2718546208b55eadd1e09c409b3900af74f", func := "doorward/doorwardlaw11.TicksLeft", spec := "ticksLeft", inPlace := ["math/bits.Add64"], unfollowed := true, recurses := true, apart := false, narrowed := true }
def TicksLeftUptoSaid : Prop := ticksLeftUptoRow.holds Try.pinned (OpenSpec.upto ticksLeftSpec)

end Rows
end Go.Proofs.Ytjgoeakhodpcaaa
