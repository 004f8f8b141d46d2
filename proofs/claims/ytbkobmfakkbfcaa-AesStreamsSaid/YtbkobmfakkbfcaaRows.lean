/-
  No cell of these rows narrows 'for every input' (looked for: loops, veiled, ifaces, maps, wideKeys, modest, calm, conditions, laid).
  DERIVED. THE GIVEN ROWS OF THIS SEAT. 7 by the template 'for every input the law returns true; each argument reads behind the call as it read before'; 0 by the template 'total and deterministic' (their statements: YtbkobmfakkbfcaaTotals.lean).
  GIVEN WITH THE SEED: the statements are not yours to turn. If you find one false, say at which input.
  Laid BY PROGRAM, IN A SANDBOX (cutbox-rows.mjs): the forced cells as the released guide's own fill.sh prints them over the translation a8126e5633eae604… (all of the seat's roots in one cut). By AI agents, Wed Nov 11 2026. No macro, syntax, notation, axiom, sorry.
-/
import Derived.Test.YtbkobmfakkbfcaaChecked
import GoSem.Claim
import GoSem.ClaimJoined
import GoSem.ClaimMapViews
import Derived.JoinedTies
import Derived.KernelRfl
namespace Go.Proofs.Ytbkobmfakkbfcaa
/- THE CELL 'sum', in the pinned program and in every row, IS THE sha256 OF THE DUMP (.gsa) THAT YtbkobmfakkbfcaaProg.lean LOADS. Nothing in Lean hashes anything: it is a label: what it is worth is what the hold of that sum in a sandbox is worth. -/
noncomputable def Try.pinned : Pinned := { name := "ytbkobmfakkbfcaa", sum := "a8126e5633eae604bc56c5247dc70b51eb21b234c0f0bc5252085bfae691888c", checked := Try.checked }
namespace Rows
def none {H : Type} : Left H := { results := [], args := [] }

/-- 'doorwardlaw08.AesBytes': WHATEVER THE INPUT: true; the input reads as it did. -/
def aesBytesSpec : ChangeSpec := { name := "aesBytes", fn := fun _ => fun
  | [d1, d2] => { results := [.lit (.bool true)], args := [d1, d2] }
  | _ => none }
def aesBytesRow : OpenClaim := { program := "ytbkobmfakkbfcaa", sum := "a8126e5633eae604bc56c5247dc70b51eb21b234c0f0bc5252085bfae691888c", func := "doorward/doorwardlaw08.AesBytes", spec := "aesBytes", unfollowed := true, recurses := true, apart := false }
def AesBytesSaid : Prop := aesBytesRow.holds Try.pinned (OpenSpec.ofChange aesBytesSpec)

/-- ITS FALSE NEIGHBOUR: 'it returns false'. Refute it at one input. -/
def aesBytesWrong : ChangeSpec := { name := "aesBytes", fn := fun _ => fun
  | [d1, d2] => { results := [.lit (.bool false)], args := [d1, d2] }
  | _ => none }
def AesBytesWrongFalsely : Prop := aesBytesRow.holds Try.pinned (OpenSpec.ofChange aesBytesWrong)

/-- 'doorwardlaw08.AesBlocks': WHATEVER THE INPUT: true; the input reads as it did. -/
def aesBlocksSpec : ChangeSpec := { name := "aesBlocks", fn := fun _ => fun
  | [d1, d2] => { results := [.lit (.bool true)], args := [d1, d2] }
  | _ => none }
def aesBlocksRow : OpenClaim := { program := "ytbkobmfakkbfcaa", sum := "a8126e5633eae604bc56c5247dc70b51eb21b234c0f0bc5252085bfae691888c", func := "doorward/doorwardlaw08.AesBlocks", spec := "aesBlocks", unfollowed := true, recurses := true, apart := false }
def AesBlocksSaid : Prop := aesBlocksRow.holds Try.pinned (OpenSpec.ofChange aesBlocksSpec)

/-- ITS FALSE NEIGHBOUR: 'it returns false'. Refute it at one input. -/
def aesBlocksWrong : ChangeSpec := { name := "aesBlocks", fn := fun _ => fun
  | [d1, d2] => { results := [.lit (.bool false)], args := [d1, d2] }
  | _ => none }
def AesBlocksWrongFalsely : Prop := aesBlocksRow.holds Try.pinned (OpenSpec.ofChange aesBlocksWrong)

/-- 'doorwardlaw08.AesStreams': WHATEVER THE INPUT: true; the input reads as it did. -/
def aesStreamsSpec : ChangeSpec := { name := "aesStreams", fn := fun _ => fun
  | [d1, d2, d3] => { results := [.lit (.bool true)], args := [d1, d2, d3] }
  | _ => none }
def aesStreamsRow : OpenClaim := { program := "ytbkobmfakkbfcaa", sum := "a8126e5633eae604bc56c5247dc70b51eb21b234c0f0bc5252085bfae691888c", func := "doorward/doorwardlaw08.AesStreams", spec := "aesStreams", unfollowed := true, recurses := true, apart := false }
def AesStreamsSaid : Prop := aesStreamsRow.holds Try.pinned (OpenSpec.ofChange aesStreamsSpec)

/-- ITS FALSE NEIGHBOUR: 'it returns false'. Refute it at one input. -/
def aesStreamsWrong : ChangeSpec := { name := "aesStreams", fn := fun _ => fun
  | [d1, d2, d3] => { results := [.lit (.bool false)], args := [d1, d2, d3] }
  | _ => none }
def AesStreamsWrongFalsely : Prop := aesStreamsRow.holds Try.pinned (OpenSpec.ofChange aesStreamsWrong)

/-- 'doorwardlaw08.AesBack': WHATEVER THE INPUT: true; the input reads as it did. -/
def aesBackSpec : ChangeSpec := { name := "aesBack", fn := fun _ => fun
  | [d1, d2, d3, d4] => { results := [.lit (.bool true)], args := [d1, d2, d3, d4] }
  | _ => none }
def aesBackRow : OpenClaim := { program := "ytbkobmfakkbfcaa", sum := "a8126e5633eae604bc56c5247dc70b51eb21b234c0f0bc5252085bfae691888c", func := "doorward/doorwardlaw08.AesBack", spec := "aesBack", unfollowed := true, recurses := true, apart := false }
def AesBackSaid : Prop := aesBackRow.holds Try.pinned (OpenSpec.ofChange aesBackSpec)

/-- ITS FALSE NEIGHBOUR: 'it returns false'. Refute it at one input. -/
def aesBackWrong : ChangeSpec := { name := "aesBack", fn := fun _ => fun
  | [d1, d2, d3, d4] => { results := [.lit (.bool false)], args := [d1, d2, d3, d4] }
  | _ => none }
def AesBackWrongFalsely : Prop := aesBackRow.holds Try.pinned (OpenSpec.ofChange aesBackWrong)

/-- 'doorwardlaw08.AesApart': WHATEVER THE INPUT: true; the input reads as it did. -/
def aesApartSpec : ChangeSpec := { name := "aesApart", fn := fun _ => fun
  | [d1, d2, d3] => { results := [.lit (.bool true)], args := [d1, d2, d3] }
  | _ => none }
def aesApartRow : OpenClaim := { program := "ytbkobmfakkbfcaa", sum := "a8126e5633eae604bc56c5247dc70b51eb21b234c0f0bc5252085bfae691888c", func := "doorward/doorwardlaw08.AesApart", spec := "aesApart", unfollowed := true, recurses := true, apart := false }
def AesApartSaid : Prop := aesApartRow.holds Try.pinned (OpenSpec.ofChange aesApartSpec)

/-- ITS FALSE NEIGHBOUR: 'it returns false'. Refute it at one input. -/
def aesApartWrong : ChangeSpec := { name := "aesApart", fn := fun _ => fun
  | [d1, d2, d3] => { results := [.lit (.bool false)], args := [d1, d2, d3] }
  | _ => none }
def AesApartWrongFalsely : Prop := aesApartRow.holds Try.pinned (OpenSpec.ofChange aesApartWrong)

/-- 'doorwardlaw08.AesCounter': WHATEVER THE INPUT: true; the input reads as it did. -/
def aesCounterSpec : ChangeSpec := { name := "aesCounter", fn := fun _ => fun
  | [d1, d2, d3] => { results := [.lit (.bool true)], args := [d1, d2, d3] }
  | _ => none }
def aesCounterRow : OpenClaim := { program := "ytbkobmfakkbfcaa", sum := "a8126e5633eae604bc56c5247dc70b51eb21b234c0f0bc5252085bfae691888c", func := "doorward/doorwardlaw08.AesCounter", spec := "aesCounter", unfollowed := true, recurses := true, apart := false }
def AesCounterSaid : Prop := aesCounterRow.holds Try.pinned (OpenSpec.ofChange aesCounterSpec)

/-- ITS FALSE NEIGHBOUR: 'it returns false'. Refute it at one input. -/
def aesCounterWrong : ChangeSpec := { name := "aesCounter", fn := fun _ => fun
  | [d1, d2, d3] => { results := [.lit (.bool false)], args := [d1, d2, d3] }
  | _ => none }
def AesCounterWrongFalsely : Prop := aesCounterRow.holds Try.pinned (OpenSpec.ofChange aesCounterWrong)

/-- 'doorwardlaw08.AesOnce': WHATEVER THE INPUT: true; the input reads as it did. -/
def aesOnceSpec : ChangeSpec := { name := "aesOnce", fn := fun _ => fun
  | [d1, d2, d3] => { results := [.lit (.bool true)], args := [d1, d2, d3] }
  | _ => none }
def aesOnceRow : OpenClaim := { program := "ytbkobmfakkbfcaa", sum := "a8126e5633eae604bc56c5247dc70b51eb21b234c0f0bc5252085bfae691888c", func := "doorward/doorwardlaw08.AesOnce", spec := "aesOnce", unfollowed := true, recurses := true, apart := false }
def AesOnceSaid : Prop := aesOnceRow.holds Try.pinned (OpenSpec.ofChange aesOnceSpec)

/-- ITS FALSE NEIGHBOUR: 'it returns false'. Refute it at one input. -/
def aesOnceWrong : ChangeSpec := { name := "aesOnce", fn := fun _ => fun
  | [d1, d2, d3] => { results := [.lit (.bool false)], args := [d1, d2, d3] }
  | _ => none }
def AesOnceWrongFalsely : Prop := aesOnceRow.holds Try.pinned (OpenSpec.ofChange aesOnceWrong)

/- THE SECOND FORM. 'bulk': how many values and letters a reading holds, each counted each time it is reached (what is shared counts as often as it is met; a slice's spare places count too). A statement '..UptoSaid' is the law's where the arguments, and the package variables that the reading takes, are together of bulk at most 1048576: NARROWER than '..Said'. Prove '..Said' where nothing that the law and all that it calls make is longer than what came in: it says more and counts as full. Else prove '..UptoSaid'. A law counts once. -/
mutual
def uptoBulk {H : Type} : DataW H → Nat
  | .lit (.string bytes) => bytes.length + 1
  | .lit _ => 1
  | .nil => 1
  | .ptr d => uptoBulk d + 1
  | .slice elems spare => uptoBulkAll elems + uptoBulkAll spare + 1
  | .agg parts => uptoBulkAll parts + 1
  | .iface _ d => uptoBulk d + 1
  | .map entries => uptoBulkEntries entries + 1
  | .held _ => 1
def uptoBulkAll {H : Type} : List (DataW H) → Nat
  | [] => 0
  | d :: r => uptoBulk d + uptoBulkAll r
def uptoBulkEntries {H : Type} : List (Lit × DataW H) → Nat
  | [] => 0
  | x :: r => uptoBulkEntry x + uptoBulkEntries r
def uptoBulkEntry {H : Type} : Lit × DataW H → Nat
  | (.string bytes, d) => bytes.length + uptoBulk d + 1
  | (_, d) => uptoBulk d + 1
 end
def uptoSmall : (H : Type) → List (DataW H) → Bool := fun _ ds => decide (uptoBulkAll ds ≤ 1048576)
def OpenSpec.upto (s : _root_.Go.ChangeSpec) : _root_.Go.OpenSpec := { _root_.Go.OpenSpec.ofChange s with cond := some uptoSmall }

/-- 'doorwardlaw08.AesBytes', WHERE WHAT IT READS IS OF BULK AT MOST 1048576: true; the input reads as it did. -/
def aesBytesUptoRow : OpenClaim := { program := "ytbkobmfakkbfcaa", sum := "a8126e5633eae604bc56c5247dc70b51eb21b234c0f0bc5252085bfae691888c", func := "doorward/doorwardlaw08.AesBytes", spec := "aesBytes", unfollowed := true, recurses := true, apart := false, narrowed := true }
def AesBytesUptoSaid : Prop := aesBytesUptoRow.holds Try.pinned (OpenSpec.upto aesBytesSpec)

/-- 'doorwardlaw08.AesBlocks', WHERE WHAT IT READS IS OF BULK AT MOST 1048576: true; the input reads as it did. -/
def aesBlocksUptoRow : OpenClaim := { program := "ytbkobmfakkbfcaa", sum := "a8126e5633eae604bc56c5247dc70b51eb21b234c0f0bc5252085bfae691888c", func := "doorward/doorwardlaw08.AesBlocks", spec := "aesBlocks", unfollowed := true, recurses := true, apart := false, narrowed := true }
def AesBlocksUptoSaid : Prop := aesBlocksUptoRow.holds Try.pinned (OpenSpec.upto aesBlocksSpec)

/-- 'doorwardlaw08.AesStreams', WHERE WHAT IT READS IS OF BULK AT MOST 1048576: true; the input reads as it did. -/
def aesStreamsUptoRow : OpenClaim := { program := "ytbkobmfakkbfcaa", sum := "a8126e5633eae604bc56c5247dc70b51eb21b234c0f0bc5252085bfae691888c", func := "doorward/doorwardlaw08.AesStreams", spec := "aesStreams", unfollowed := true, recurses := true, apart := false, narrowed := true }
def AesStreamsUptoSaid : Prop := aesStreamsUptoRow.holds Try.pinned (OpenSpec.upto aesStreamsSpec)

/-- 'doorwardlaw08.AesBack', WHERE WHAT IT READS IS OF BULK AT MOST 1048576: true; the input reads as it did. -/
def aesBackUptoRow : OpenClaim := { program := "ytbkobmfakkbfcaa", sum := "a8126e5633eae604bc56c5247dc70b51eb21b234c0f0bc5252085bfae691888c", func := "doorward/doorwardlaw08.AesBack", spec := "aesBack", unfollowed := true, recurses := true, apart := false, narrowed := true }
def AesBackUptoSaid : Prop := aesBackUptoRow.holds Try.pinned (OpenSpec.upto aesBackSpec)

/-- 'doorwardlaw08.AesApart', WHERE WHAT IT READS IS OF BULK AT MOST 1048576: true; the input reads as it did. -/
def aesApartUptoRow : OpenClaim := { program := "ytbkobmfakkbfcaa", sum := "a8126e5633eae604bc56c5247dc70b51eb21b234c0f0bc5252085bfae691888c", func := "doorward/doorwardlaw08.AesApart", spec := "aesApart", unfollowed := true, recurses := true, apart := false, narrowed := true }
def AesApartUptoSaid : Prop := aesApartUptoRow.holds Try.pinned (OpenSpec.upto aesApartSpec)

/-- 'doorwardlaw08.AesCounter', WHERE WHAT IT READS IS OF BULK AT MOST 1048576: true; the input reads as it did. -/
def aesCounterUptoRow : OpenClaim := { program := "ytbkobmfakkbfcaa", sum := "a8126e5633eae604bc56c5247dc70b51eb21b234c0f0bc5252085bfae691888c", func := "doorward/doorwardlaw08.AesCounter", spec := "aesCounter", unfollowed := true, recurses := true, apart := false, narrowed := true }
def AesCounterUptoSaid : Prop := aesCounterUptoRow.holds Try.pinned (OpenSpec.upto aesCounterSpec)

/-- 'doorwardlaw08.AesOnce', WHERE WHAT IT READS IS OF BULK AT MOST 1048576: true; the input reads as it did. -/
def aesOnceUptoRow : OpenClaim := { program := "ytbkobmfakkbfcaa", sum := "a8126e5633eae604bc56c5247dc70b51eb21b234c0f0bc5252085bfae691888c", func := "doorward/doorwardlaw08.AesOnce", spec := "aesOnce", unfollowed := true, recurses := true, apart := false, narrowed := true }
def AesOnceUptoSaid : Prop := aesOnceUptoRow.holds Try.pinned (OpenSpec.upto aesOnceSpec)

end Rows
end Go.Proofs.Ytbkobmfakkbfcaa
