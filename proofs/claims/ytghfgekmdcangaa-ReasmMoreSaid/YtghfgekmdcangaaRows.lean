/-
  No cell of these rows narrows 'for every input' (looked for: loops, veiled, ifaces, maps, wideKeys, modest, calm, conditions, laid).
  DERIVED. THE GIVEN ROWS OF THIS SEAT. 5 by the template 'for every input the law returns true; each argument reads behind the call as it read before'; 0 by the template 'total and deterministic' (their statements: YtghfgekmdcangaaTotals.lean).
  GIVEN WITH THE SEED: the statements are not yours to turn. If you find one false, say at which input.
  Laid BY PROGRAM, IN A SANDBOX (cutbox-rows.mjs): the forced cells as the released guide's own fill.sh prints them over the translation 6cb422b40fa53731… (all of the seat's roots in one cut). By AI agents, Wed Nov 11 2026. No macro, syntax, notation, axiom, sorry.
-/
import Derived.Test.YtghfgekmdcangaaChecked
import GoSem.Claim
import GoSem.ClaimJoined
import GoSem.ClaimMapViews
import Derived.JoinedTies
import Derived.KernelRfl
namespace Go.Proofs.Ytghfgekmdcangaa
/- THE CELL 'sum', in the pinned program and in every row, IS THE sha256 OF THE DUMP (.gsa) THAT YtghfgekmdcangaaProg.lean LOADS. Nothing in Lean hashes anything: it is a label: what it is worth is what the hold of that sum in a sandbox is worth. -/
noncomputable def Try.pinned : Pinned := { name := "ytghfgekmdcangaa", sum := "6cb422b40fa5373145ed9b454d9b31e5aa84f3b19e77f6457f4de5e403b5c691", checked := Try.checked }
namespace Rows
def none {H : Type} : Left H := { results := [], args := [] }

/-- 'doorwardlaw16.ReasmPrefix': WHATEVER THE INPUT: true; the input reads as it did. -/
def reasmPrefixSpec : ChangeSpec := { name := "reasmPrefix", fn := fun _ => fun
  | [d1, d2, d3] => { results := [.lit (.bool true)], args := [d1, d2, d3] }
  | _ => none }
def reasmPrefixRow : OpenClaim := { program := "ytghfgekmdcangaa", sum := "6cb422b40fa5373145ed9b454d9b31e5aa84f3b19e77f6457f4de5e403b5c691", func := "doorward/doorwardlaw16.ReasmPrefix", spec := "reasmPrefix", unfollowed := true, recurses := true, apart := false }
def ReasmPrefixSaid : Prop := reasmPrefixRow.holds Try.pinned (OpenSpec.ofChange reasmPrefixSpec)

/-- ITS FALSE NEIGHBOUR: 'it returns false'. Refute it at one input. -/
def reasmPrefixWrong : ChangeSpec := { name := "reasmPrefix", fn := fun _ => fun
  | [d1, d2, d3] => { results := [.lit (.bool false)], args := [d1, d2, d3] }
  | _ => none }
def ReasmPrefixWrongFalsely : Prop := reasmPrefixRow.holds Try.pinned (OpenSpec.ofChange reasmPrefixWrong)

/-- 'doorwardlaw16.ReasmFlow': WHATEVER THE INPUT: true; the input reads as it did. -/
def reasmFlowSpec : ChangeSpec := { name := "reasmFlow", fn := fun _ => fun
  | [d1, d2] => { results := [.lit (.bool true)], args := [d1, d2] }
  | _ => none }
def reasmFlowRow : OpenClaim := { program := "ytghfgekmdcangaa", sum := "6cb422b40fa5373145ed9b454d9b31e5aa84f3b19e77f6457f4de5e403b5c691", func := "doorward/doorwardlaw16.ReasmFlow", spec := "reasmFlow", unfollowed := true, recurses := true, apart := false }
def ReasmFlowSaid : Prop := reasmFlowRow.holds Try.pinned (OpenSpec.ofChange reasmFlowSpec)

/-- ITS FALSE NEIGHBOUR: 'it returns false'. Refute it at one input. -/
def reasmFlowWrong : ChangeSpec := { name := "reasmFlow", fn := fun _ => fun
  | [d1, d2] => { results := [.lit (.bool false)], args := [d1, d2] }
  | _ => none }
def ReasmFlowWrongFalsely : Prop := reasmFlowRow.holds Try.pinned (OpenSpec.ofChange reasmFlowWrong)

/-- 'doorwardlaw16.ReasmFirst': WHATEVER THE INPUT: true; the input reads as it did. -/
def reasmFirstSpec : ChangeSpec := { name := "reasmFirst", fn := fun _ => fun
  | [d1, d2] => { results := [.lit (.bool true)], args := [d1, d2] }
  | _ => none }
def reasmFirstRow : OpenClaim := { program := "ytghfgekmdcangaa", sum := "6cb422b40fa5373145ed9b454d9b31e5aa84f3b19e77f6457f4de5e403b5c691", func := "doorward/doorwardlaw16.ReasmFirst", spec := "reasmFirst", unfollowed := true, recurses := true, apart := false }
def ReasmFirstSaid : Prop := reasmFirstRow.holds Try.pinned (OpenSpec.ofChange reasmFirstSpec)

/-- ITS FALSE NEIGHBOUR: 'it returns false'. Refute it at one input. -/
def reasmFirstWrong : ChangeSpec := { name := "reasmFirst", fn := fun _ => fun
  | [d1, d2] => { results := [.lit (.bool false)], args := [d1, d2] }
  | _ => none }
def ReasmFirstWrongFalsely : Prop := reasmFirstRow.holds Try.pinned (OpenSpec.ofChange reasmFirstWrong)

/-- 'doorwardlaw16.ReasmMore': WHATEVER THE INPUT: true; the input reads as it did. -/
def reasmMoreSpec : ChangeSpec := { name := "reasmMore", fn := fun _ => fun
  | [d1, d2] => { results := [.lit (.bool true)], args := [d1, d2] }
  | _ => none }
def reasmMoreRow : OpenClaim := { program := "ytghfgekmdcangaa", sum := "6cb422b40fa5373145ed9b454d9b31e5aa84f3b19e77f6457f4de5e403b5c691", func := "doorward/doorwardlaw16.ReasmMore", spec := "reasmMore", unfollowed := true, recurses := true, apart := false }
def ReasmMoreSaid : Prop := reasmMoreRow.holds Try.pinned (OpenSpec.ofChange reasmMoreSpec)

/-- ITS FALSE NEIGHBOUR: 'it returns false'. Refute it at one input. -/
def reasmMoreWrong : ChangeSpec := { name := "reasmMore", fn := fun _ => fun
  | [d1, d2] => { results := [.lit (.bool false)], args := [d1, d2] }
  | _ => none }
def ReasmMoreWrongFalsely : Prop := reasmMoreRow.holds Try.pinned (OpenSpec.ofChange reasmMoreWrong)

/-- 'doorwardlaw16.ReasmSizes': WHATEVER THE INPUT: true; the input reads as it did. -/
def reasmSizesSpec : ChangeSpec := { name := "reasmSizes", fn := fun _ => fun
  | [d1, d2, d3] => { results := [.lit (.bool true)], args := [d1, d2, d3] }
  | _ => none }
def reasmSizesRow : OpenClaim := { program := "ytghfgekmdcangaa", sum := "6cb422b40fa5373145ed9b454d9b31e5aa84f3b19e77f6457f4de5e403b5c691", func := "doorward/doorwardlaw16.ReasmSizes", spec := "reasmSizes", unfollowed := true, recurses := true, apart := false }
def ReasmSizesSaid : Prop := reasmSizesRow.holds Try.pinned (OpenSpec.ofChange reasmSizesSpec)

/-- ITS FALSE NEIGHBOUR: 'it returns false'. Refute it at one input. -/
def reasmSizesWrong : ChangeSpec := { name := "reasmSizes", fn := fun _ => fun
  | [d1, d2, d3] => { results := [.lit (.bool false)], args := [d1, d2, d3] }
  | _ => none }
def ReasmSizesWrongFalsely : Prop := reasmSizesRow.holds Try.pinned (OpenSpec.ofChange reasmSizesWrong)

/- THE SECOND FORM. 'bulk': how many values and letters a reading holds, each counted each time it is reached (what is shared counts as often as it is met; a slice's spare places count too). A statement '..UptoSaid' is the law's where the arguments, and the package variables that the reading takes, are together of bulk at most 1048576: NARROWER than '..Said'. Prove '..Said' where nothing that the law and all that it calls make is longer than what came in: it says more and counts as full. Else prove '..UptoSaid'. A law counts once. -/
mutual
def uptoBulk {H : Type} : DataW H → Nat
  | .lit (.string bytes) => bytes.length + 1
  | .lit _ => 1
  | .nil => 1
  | .ptr d => uptoBulk d + 1
  | .slice elems spare => uptoBulkAll elems + uptoBulkAll spare + 1
  | .agg parts => uptoBulkAll parts + 1
  | .iface _ d => uptoBulk d + 1
  | .map entries => uptoBulkEntries entries + 1
  | .held _ => 1
def uptoBulkAll {H : Type} : List (DataW H) → Nat
  | [] => 0
  | d :: r => uptoBulk d + uptoBulkAll r
def uptoBulkEntries {H : Type} : List (Lit × DataW H) → Nat
  | [] => 0
  | x :: r => uptoBulkEntry x + uptoBulkEntries r
def uptoBulkEntry {H : Type} : Lit × DataW H → Nat
  | (.string bytes, d) => bytes.length + uptoBulk d + 1
  | (_, d) => uptoBulk d + 1
 end
def uptoSmall : (H : Type) → List (DataW H) → Bool := fun _ ds => decide (uptoBulkAll ds ≤ 1048576)
def OpenSpec.upto (s : _root_.Go.ChangeSpec) : _root_.Go.OpenSpec := { _root_.Go.OpenSpec.ofChange s with cond := some uptoSmall }

/-- 'doorwardlaw16.ReasmPrefix', WHERE WHAT IT READS IS OF BULK AT MOST 1048576: true; the input reads as it did. -/
def reasmPrefixUptoRow : OpenClaim := { program := "ytghfgekmdcangaa", sum := "6cb422b40fa5373145ed9b454d9b31e5aa84f3b19e77f6457f4de5e403b5c691", func := "doorward/doorwardlaw16.ReasmPrefix", spec := "reasmPrefix", unfollowed := true, recurses := true, apart := false, narrowed := true }
def ReasmPrefixUptoSaid : Prop := reasmPrefixUptoRow.holds Try.pinned (OpenSpec.upto reasmPrefixSpec)

/-- 'doorwardlaw16.ReasmFlow', WHERE WHAT IT READS IS OF BULK AT MOST 1048576: true; the input reads as it did. -/
def reasmFlowUptoRow : OpenClaim := { program := "ytghfgekmdcangaa", sum := "6cb422b40fa5373145ed9b454d9b31e5aa84f3b19e77f6457f4de5e403b5c691", func := "doorward/doorwardlaw16.ReasmFlow", spec := "reasmFlow", unfollowed := true, recurses := true, apart := false, narrowed := true }
def ReasmFlowUptoSaid : Prop := reasmFlowUptoRow.holds Try.pinned (OpenSpec.upto reasmFlowSpec)

/-- 'doorwardlaw16.ReasmFirst', WHERE WHAT IT READS IS OF BULK AT MOST 1048576: true; the input reads as it did. -/
def reasmFirstUptoRow : OpenClaim := { program := "ytghfgekmdcangaa", sum := "6cb422b40fa5373145ed9b454d9b31e5aa84f3b19e77f6457f4de5e403b5c691", func := "doorward/doorwardlaw16.ReasmFirst", spec := "reasmFirst", unfollowed := true, recurses := true, apart := false, narrowed := true }
def ReasmFirstUptoSaid : Prop := reasmFirstUptoRow.holds Try.pinned (OpenSpec.upto reasmFirstSpec)

/-- 'doorwardlaw16.ReasmMore', WHERE WHAT IT READS IS OF BULK AT MOST 1048576: true; the input reads as it did. -/
def reasmMoreUptoRow : OpenClaim := { program := "ytghfgekmdcangaa", sum := "6cb422b40fa5373145ed9b454d9b31e5aa84f3b19e77f6457f4de5e403b5c691", func := "doorward/doorwardlaw16.ReasmMore", spec := "reasmMore", unfollowed := true, recurses := true, apart := false, narrowed := true }
def ReasmMoreUptoSaid : Prop := reasmMoreUptoRow.holds Try.pinned (OpenSpec.upto reasmMoreSpec)

/-- 'doorwardlaw16.ReasmSizes', WHERE WHAT IT READS IS OF BULK AT MOST 1048576: true; the input reads as it did. -/
def reasmSizesUptoRow : OpenClaim := { program := "ytghfgekmdcangaa", sum := "6cb422b40fa5373145ed9b454d9b31e5aa84f3b19e77f6457f4de5e403b5c691", func := "doorward/doorwardlaw16.ReasmSizes", spec := "reasmSizes", unfollowed := true, recurses := true, apart := false, narrowed := true }
def ReasmSizesUptoSaid : Prop := reasmSizesUptoRow.holds Try.pinned (OpenSpec.upto reasmSizesSpec)

end Rows
end Go.Proofs.Ytghfgekmdcangaa
