/-
  No cell of these rows narrows 'for every input' (looked for: loops, veiled, ifaces, maps, wideKeys, modest, calm, conditions, laid).
  DERIVED. THE GIVEN ROWS OF THIS SEAT. 6 by the template 'for every input the law returns true; each argument reads behind the call as it read before'; 0 by the template 'total and deterministic' (their statements: YtnphanhoakbkpaaTotals.lean).
  GIVEN WITH THE SEED: the statements are not yours to turn. If you find one false, say at which input.
  Laid BY PROGRAM, IN A SANDBOX (cutbox-rows.mjs): the forced cells as the released guide's own fill.sh prints them over the translation 2538c5b199dc6e96… (all of the seat's roots in one cut). By AI agents, Wed Nov 11 2026. No macro, syntax, notation, axiom, sorry.
-/
import Derived.Test.YtnphanhoakbkpaaChecked
import GoSem.Claim
import GoSem.ClaimJoined
import GoSem.ClaimMapViews
import Derived.JoinedTies
import Derived.KernelRfl
namespace Go.Proofs.Ytnphanhoakbkpaa
/- THE CELL 'sum', in the pinned program and in every row, IS THE sha256 OF THE DUMP (.gsa) THAT YtnphanhoakbkpaaProg.lean LOADS. Nothing in Lean hashes anything: it is a label: what it is worth is what the hold of that sum in a sandbox is worth. -/
noncomputable def Try.pinned : Pinned := { name := "ytnphanhoakbkpaa", sum := "2538c5b199dc6e96bcfa24cfcc3c12ea2aacdde462f07e9718903aa2b179358a", checked := Try.checked }
namespace Rows
def none {H : Type} : Left H := { results := [], args := [] }

/-- 'doorwardlaw09.GcmTimes': WHATEVER THE INPUT: true; the input reads as it did. -/
def gcmTimesSpec : ChangeSpec := { name := "gcmTimes", fn := fun _ => fun
  | [d1, d2, d3, d4] => { results := [.lit (.bool true)], args := [d1, d2, d3, d4] }
  | _ => none }
def gcmTimesRow : OpenClaim := { program := "ytnphanhoakbkpaa", sum := "2538c5b199dc6e96bcfa24cfcc3c12ea2aacdde462f07e9718903aa2b179358a", func := "doorward/doorwardlaw09.GcmTimes", spec := "gcmTimes", unfollowed := true, recurses := true, apart := false }
def GcmTimesSaid : Prop := gcmTimesRow.holds Try.pinned (OpenSpec.ofChange gcmTimesSpec)

/-- ITS FALSE NEIGHBOUR: 'it returns false'. Refute it at one input. -/
def gcmTimesWrong : ChangeSpec := { name := "gcmTimes", fn := fun _ => fun
  | [d1, d2, d3, d4] => { results := [.lit (.bool false)], args := [d1, d2, d3, d4] }
  | _ => none }
def GcmTimesWrongFalsely : Prop := gcmTimesRow.holds Try.pinned (OpenSpec.ofChange gcmTimesWrong)

/-- 'doorwardlaw09.GcmSeals': WHATEVER THE INPUT: true; the input reads as it did. -/
def gcmSealsSpec : ChangeSpec := { name := "gcmSeals", fn := fun _ => fun
  | [d1, d2, d3, d4] => { results := [.lit (.bool true)], args := [d1, d2, d3, d4] }
  | _ => none }
def gcmSealsRow : OpenClaim := { program := "ytnphanhoakbkpaa", sum := "2538c5b199dc6e96bcfa24cfcc3c12ea2aacdde462f07e9718903aa2b179358a", func := "doorward/doorwardlaw09.GcmSeals", spec := "gcmSeals", unfollowed := true, recurses := true, apart := false }
def GcmSealsSaid : Prop := gcmSealsRow.holds Try.pinned (OpenSpec.ofChange gcmSealsSpec)

/-- ITS FALSE NEIGHBOUR: 'it returns false'. Refute it at one input. -/
def gcmSealsWrong : ChangeSpec := { name := "gcmSeals", fn := fun _ => fun
  | [d1, d2, d3, d4] => { results := [.lit (.bool false)], args := [d1, d2, d3, d4] }
  | _ => none }
def GcmSealsWrongFalsely : Prop := gcmSealsRow.holds Try.pinned (OpenSpec.ofChange gcmSealsWrong)

/-- 'doorwardlaw09.GcmBack': WHATEVER THE INPUT: true; the input reads as it did. -/
def gcmBackSpec : ChangeSpec := { name := "gcmBack", fn := fun _ => fun
  | [d1, d2, d3, d4, d5] => { results := [.lit (.bool true)], args := [d1, d2, d3, d4, d5] }
  | _ => none }
def gcmBackRow : OpenClaim := { program := "ytnphanhoakbkpaa", sum := "2538c5b199dc6e96bcfa24cfcc3c12ea2aacdde462f07e9718903aa2b179358a", func := "doorward/doorwardlaw09.GcmBack", spec := "gcmBack", unfollowed := true, recurses := true, apart := false }
def GcmBackSaid : Prop := gcmBackRow.holds Try.pinned (OpenSpec.ofChange gcmBackSpec)

/-- ITS FALSE NEIGHBOUR: 'it returns false'. Refute it at one input. -/
def gcmBackWrong : ChangeSpec := { name := "gcmBack", fn := fun _ => fun
  | [d1, d2, d3, d4, d5] => { results := [.lit (.bool false)], args := [d1, d2, d3, d4, d5] }
  | _ => none }
def GcmBackWrongFalsely : Prop := gcmBackRow.holds Try.pinned (OpenSpec.ofChange gcmBackWrong)

/-- 'doorwardlaw09.GcmField': WHATEVER THE INPUT: true; the input reads as it did. -/
def gcmFieldSpec : ChangeSpec := { name := "gcmField", fn := fun _ => fun
  | [d1, d2, d3] => { results := [.lit (.bool true)], args := [d1, d2, d3] }
  | _ => none }
def gcmFieldRow : OpenClaim := { program := "ytnphanhoakbkpaa", sum := "2538c5b199dc6e96bcfa24cfcc3c12ea2aacdde462f07e9718903aa2b179358a", func := "doorward/doorwardlaw09.GcmField", spec := "gcmField", unfollowed := true, recurses := true, apart := false }
def GcmFieldSaid : Prop := gcmFieldRow.holds Try.pinned (OpenSpec.ofChange gcmFieldSpec)

/-- ITS FALSE NEIGHBOUR: 'it returns false'. Refute it at one input. -/
def gcmFieldWrong : ChangeSpec := { name := "gcmField", fn := fun _ => fun
  | [d1, d2, d3] => { results := [.lit (.bool false)], args := [d1, d2, d3] }
  | _ => none }
def GcmFieldWrongFalsely : Prop := gcmFieldRow.holds Try.pinned (OpenSpec.ofChange gcmFieldWrong)

/-- 'doorwardlaw09.GcmText': WHATEVER THE INPUT: true; the input reads as it did. -/
def gcmTextSpec : ChangeSpec := { name := "gcmText", fn := fun _ => fun
  | [d1, d2, d3, d4, d5] => { results := [.lit (.bool true)], args := [d1, d2, d3, d4, d5] }
  | _ => none }
def gcmTextRow : OpenClaim := { program := "ytnphanhoakbkpaa", sum := "2538c5b199dc6e96bcfa24cfcc3c12ea2aacdde462f07e9718903aa2b179358a", func := "doorward/doorwardlaw09.GcmText", spec := "gcmText", unfollowed := true, recurses := true, apart := false }
def GcmTextSaid : Prop := gcmTextRow.holds Try.pinned (OpenSpec.ofChange gcmTextSpec)

/-- ITS FALSE NEIGHBOUR: 'it returns false'. Refute it at one input. -/
def gcmTextWrong : ChangeSpec := { name := "gcmText", fn := fun _ => fun
  | [d1, d2, d3, d4, d5] => { results := [.lit (.bool false)], args := [d1, d2, d3, d4, d5] }
  | _ => none }
def GcmTextWrongFalsely : Prop := gcmTextRow.holds Try.pinned (OpenSpec.ofChange gcmTextWrong)

/-- 'doorwardlaw09.GcmShort': WHATEVER THE INPUT: true; the input reads as it did. -/
def gcmShortSpec : ChangeSpec := { name := "gcmShort", fn := fun _ => fun
  | [d1, d2, d3] => { results := [.lit (.bool true)], args := [d1, d2, d3] }
  | _ => none }
def gcmShortRow : OpenClaim := { program := "ytnphanhoakbkpaa", sum := "2538c5b199dc6e96bcfa24cfcc3c12ea2aacdde462f07e9718903aa2b179358a", func := "doorward/doorwardlaw09.GcmShort", spec := "gcmShort", unfollowed := true, recurses := true, apart := false }
def GcmShortSaid : Prop := gcmShortRow.holds Try.pinned (OpenSpec.ofChange gcmShortSpec)

/-- ITS FALSE NEIGHBOUR: 'it returns false'. Refute it at one input. -/
def gcmShortWrong : ChangeSpec := { name := "gcmShort", fn := fun _ => fun
  | [d1, d2, d3] => { results := [.lit (.bool false)], args := [d1, d2, d3] }
  | _ => none }
def GcmShortWrongFalsely : Prop := gcmShortRow.holds Try.pinned (OpenSpec.ofChange gcmShortWrong)

/- THE SECOND FORM. 'bulk': how many values and letters a reading holds, each counted each time it is reached (what is shared counts as often as it is met; a slice's spare places count too). A statement '..UptoSaid' is the law's where the arguments, and the package variables that the reading takes, are together of bulk at most 1048576: NARROWER than '..Said'. Prove '..Said' where nothing that the law and all that it calls make is longer than what came in: it says more and counts as full. Else prove '..UptoSaid'. A law counts once. -/
mutual
def uptoBulk {H : Type} : DataW H → Nat
  | .lit (.string bytes) => bytes.length + 1
  | .lit _ => 1
  | .nil => 1
  | .ptr d => uptoBulk d + 1
  | .slice elems spare => uptoBulkAll elems + uptoBulkAll spare + 1
  | .agg parts => uptoBulkAll parts + 1
  | .iface _ d => uptoBulk d + 1
  | .map entries => uptoBulkEntries entries + 1
  | .held _ => 1
def uptoBulkAll {H : Type} : List (DataW H) → Nat
  | [] => 0
  | d :: r => uptoBulk d + uptoBulkAll r
def uptoBulkEntries {H : Type} : List (Lit × DataW H) → Nat
  | [] => 0
  | x :: r => uptoBulkEntry x + uptoBulkEntries r
def uptoBulkEntry {H : Type} : Lit × DataW H → Nat
  | (.string bytes, d) => bytes.length + uptoBulk d + 1
  | (_, d) => uptoBulk d + 1
 end
def uptoSmall : (H : Type) → List (DataW H) → Bool := fun _ ds => decide (uptoBulkAll ds ≤ 1048576)
def OpenSpec.upto (s : _root_.Go.ChangeSpec) : _root_.Go.OpenSpec := { _root_.Go.OpenSpec.ofChange s with cond := some uptoSmall }

/-- 'doorwardlaw09.GcmTimes', WHERE WHAT IT READS IS OF BULK AT MOST 1048576: true; the input reads as it did. -/
def gcmTimesUptoRow : OpenClaim := { program := "ytnphanhoakbkpaa", sum := "2538c5b199dc6e96bcfa24cfcc3c12ea2aacdde462f07e9718903aa2b179358a", func := "doorward/doorwardlaw09.GcmTimes", spec := "gcmTimes", unfollowed := true, recurses := true, apart := false, narrowed := true }
def GcmTimesUptoSaid : Prop := gcmTimesUptoRow.holds Try.pinned (OpenSpec.upto gcmTimesSpec)

/-- 'doorwardlaw09.GcmSeals', WHERE WHAT IT READS IS OF BULK AT MOST 1048576: true; the input reads as it did. -/
def gcmSealsUptoRow : OpenClaim := { program := "ytnphanhoakbkpaa", sum := "2538c5b199dc6e96bcfa24cfcc3c12ea2aacdde462f07e9718903aa2b179358a", func := "doorward/doorwardlaw09.GcmSeals", spec := "gcmSeals", unfollowed := true, recurses := true, apart := false, narrowed := true }
def GcmSealsUptoSaid : Prop := gcmSealsUptoRow.holds Try.pinned (OpenSpec.upto gcmSealsSpec)

/-- 'doorwardlaw09.GcmBack', WHERE WHAT IT READS IS OF BULK AT MOST 1048576: true; the input reads as it did. -/
def gcmBackUptoRow : OpenClaim := { program := "ytnphanhoakbkpaa", sum := "2538c5b199dc6e96bcfa24cfcc3c12ea2aacdde462f07e9718903aa2b179358a", func := "doorward/doorwardlaw09.GcmBack", spec := "gcmBack", unfollowed := true, recurses := true, apart := false, narrowed := true }
def GcmBackUptoSaid : Prop := gcmBackUptoRow.holds Try.pinned (OpenSpec.upto gcmBackSpec)

/-- 'doorwardlaw09.GcmField', WHERE WHAT IT READS IS OF BULK AT MOST 1048576: true; the input reads as it did. -/
def gcmFieldUptoRow : OpenClaim := { program := "ytnphanhoakbkpaa", sum := "2538c5b199dc6e96bcfa24cfcc3c12ea2aacdde462f07e9718903aa2b179358a", func := "doorward/doorwardlaw09.GcmField", spec := "gcmField", unfollowed := true, recurses := true, apart := false, narrowed := true }
def GcmFieldUptoSaid : Prop := gcmFieldUptoRow.holds Try.pinned (OpenSpec.upto gcmFieldSpec)

/-- 'doorwardlaw09.GcmText', WHERE WHAT IT READS IS OF BULK AT MOST 1048576: true; the input reads as it did. -/
def gcmTextUptoRow : OpenClaim := { program := "ytnphanhoakbkpaa", sum := "2538c5b199dc6e96bcfa24cfcc3c12ea2aacdde462f07e9718903aa2b179358a", func := "doorward/doorwardlaw09.GcmText", spec := "gcmText", unfollowed := true, recurses := true, apart := false, narrowed := true }
def GcmTextUptoSaid : Prop := gcmTextUptoRow.holds Try.pinned (OpenSpec.upto gcmTextSpec)

/-- 'doorwardlaw09.GcmShort', WHERE WHAT IT READS IS OF BULK AT MOST 1048576: true; the input reads as it did. -/
def gcmShortUptoRow : OpenClaim := { program := "ytnphanhoakbkpaa", sum := "2538c5b199dc6e96bcfa24cfcc3c12ea2aacdde462f07e9718903aa2b179358a", func := "doorward/doorwardlaw09.GcmShort", spec := "gcmShort", unfollowed := true, recurses := true, apart := false, narrowed := true }
def GcmShortUptoSaid : Prop := gcmShortUptoRow.holds Try.pinned (OpenSpec.upto gcmShortSpec)

end Rows
end Go.Proofs.Ytnphanhoakbkpaa
