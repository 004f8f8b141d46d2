/-
  No cell of these rows narrows 'for every input' (looked for: loops, veiled, ifaces, maps, wideKeys, modest, calm, conditions, laid).
  DERIVED. THE GIVEN ROWS OF THIS SEAT. 5 by the template 'for every input the law returns true; each argument reads behind the call as it read before'; 0 by the template 'total and deterministic' (their statements: YtgbgdbadifagcaaTotals.lean).
  GIVEN WITH THE SEED: the statements are not yours to turn. If you find one false, say at which input.
  Laid BY PROGRAM, IN A SANDBOX (cutbox-rows.mjs): the forced cells as the released guide's own fill.sh prints them over the translation bb58cdc27a085d0b… (all of the seat's roots in one cut). By AI agents, Wed Nov 11 2026. No macro, syntax, notation, axiom, sorry.
-/
import Derived.Test.YtgbgdbadifagcaaChecked
import GoSem.Claim
import GoSem.ClaimJoined
import GoSem.ClaimMapViews
import Derived.JoinedTies
import Derived.KernelRfl
namespace Go.Proofs.Ytgbgdbadifagcaa
/- THE CELL 'sum', in the pinned program and in every row, IS THE sha256 OF THE DUMP (.gsa) THAT YtgbgdbadifagcaaProg.lean LOADS. Nothing in Lean hashes anything: it is a label: what it is worth is what the hold of that sum in a sandbox is worth. -/
noncomputable def Try.pinned : Pinned := { name := "ytgbgdbadifagcaa", sum := "bb58cdc27a085d0ba98bb9b4be9ec27c1eb646504566efeef4504f6c7c7e2ea6", checked := Try.checked }
namespace Rows
def none {H : Type} : Left H := { results := [], args := [] }

/-- 'doorwardlaw13.RangesActs': WHATEVER THE INPUT: true; the input reads as it did. -/
def rangesActsSpec : ChangeSpec := { name := "rangesActs", fn := fun _ => fun
  | [d] => { results := [.lit (.bool true)], args := [d] }
  | _ => none }
def rangesActsRow : OpenClaim := { program := "ytgbgdbadifagcaa", sum := "bb58cdc27a085d0ba98bb9b4be9ec27c1eb646504566efeef4504f6c7c7e2ea6", func := "doorward/doorwardlaw13.RangesActs", spec := "rangesActs", inPlace := ["slices.overlaps[doorward/api.Range]"], unfollowed := true, recurses := true, apart := false }
def RangesActsSaid : Prop := rangesActsRow.holds Try.pinned (OpenSpec.ofChange rangesActsSpec)

/-- ITS FALSE NEIGHBOUR: 'it returns false'. Refute it at one input. -/
def rangesActsWrong : ChangeSpec := { name := "rangesActs", fn := fun _ => fun
  | [d] => { results := [.lit (.bool false)], args := [d] }
  | _ => none }
def RangesActsWrongFalsely : Prop := rangesActsRow.holds Try.pinned (OpenSpec.ofChange rangesActsWrong)

/-- 'doorwardlaw13.RangesOnce': WHATEVER THE INPUT: true; the input reads as it did. -/
def rangesOnceSpec : ChangeSpec := { name := "rangesOnce", fn := fun _ => fun
  | [d] => { results := [.lit (.bool true)], args := [d] }
  | _ => none }
def rangesOnceRow : OpenClaim := { program := "ytgbgdbadifagcaa", sum := "bb58cdc27a085d0ba98bb9b4be9ec27c1eb646504566efeef4504f6c7c7e2ea6", func := "doorward/doorwardlaw13.RangesOnce", spec := "rangesOnce", inPlace := ["slices.overlaps[doorward/api.Range]"], unfollowed := true, recurses := true, apart := false }
def RangesOnceSaid : Prop := rangesOnceRow.holds Try.pinned (OpenSpec.ofChange rangesOnceSpec)

/-- ITS FALSE NEIGHBOUR: 'it returns false'. Refute it at one input. -/
def rangesOnceWrong : ChangeSpec := { name := "rangesOnce", fn := fun _ => fun
  | [d] => { results := [.lit (.bool false)], args := [d] }
  | _ => none }
def RangesOnceWrongFalsely : Prop := rangesOnceRow.holds Try.pinned (OpenSpec.ofChange rangesOnceWrong)

/-- 'doorwardlaw13.RangesOrder': WHATEVER THE INPUT: true; the input reads as it did. -/
def rangesOrderSpec : ChangeSpec := { name := "rangesOrder", fn := fun _ => fun
  | [d1, d2] => { results := [.lit (.bool true)], args := [d1, d2] }
  | _ => none }
def rangesOrderRow : OpenClaim := { program := "ytgbgdbadifagcaa", sum := "bb58cdc27a085d0ba98bb9b4be9ec27c1eb646504566efeef4504f6c7c7e2ea6", func := "doorward/doorwardlaw13.RangesOrder", spec := "rangesOrder", inPlace := ["slices.overlaps[doorward/api.Range]"], unfollowed := true, recurses := true, apart := false }
def RangesOrderSaid : Prop := rangesOrderRow.holds Try.pinned (OpenSpec.ofChange rangesOrderSpec)

/-- ITS FALSE NEIGHBOUR: 'it returns false'. Refute it at one input. -/
def rangesOrderWrong : ChangeSpec := { name := "rangesOrder", fn := fun _ => fun
  | [d1, d2] => { results := [.lit (.bool false)], args := [d1, d2] }
  | _ => none }
def RangesOrderWrongFalsely : Prop := rangesOrderRow.holds Try.pinned (OpenSpec.ofChange rangesOrderWrong)

/-- 'doorwardlaw13.RangesForgets': WHATEVER THE INPUT: true; the input reads as it did. -/
def rangesForgetsSpec : ChangeSpec := { name := "rangesForgets", fn := fun _ => fun
  | [d1, d2] => { results := [.lit (.bool true)], args := [d1, d2] }
  | _ => none }
def rangesForgetsRow : OpenClaim := { program := "ytgbgdbadifagcaa", sum := "bb58cdc27a085d0ba98bb9b4be9ec27c1eb646504566efeef4504f6c7c7e2ea6", func := "doorward/doorwardlaw13.RangesForgets", spec := "rangesForgets", inPlace := ["slices.overlaps[doorward/api.Range]"], unfollowed := true, recurses := true, apart := false }
def RangesForgetsSaid : Prop := rangesForgetsRow.holds Try.pinned (OpenSpec.ofChange rangesForgetsSpec)

/-- ITS FALSE NEIGHBOUR: 'it returns false'. Refute it at one input. -/
def rangesForgetsWrong : ChangeSpec := { name := "rangesForgets", fn := fun _ => fun
  | [d1, d2] => { results := [.lit (.bool false)], args := [d1, d2] }
  | _ => none }
def RangesForgetsWrongFalsely : Prop := rangesForgetsRow.holds Try.pinned (OpenSpec.ofChange rangesForgetsWrong)

/-- 'doorwardlaw13.RangesRuns': WHATEVER THE INPUT: true; the input reads as it did. -/
def rangesRunsSpec : ChangeSpec := { name := "rangesRuns", fn := fun _ => fun
  | [d1, d2] => { results := [.lit (.bool true)], args := [d1, d2] }
  | _ => none }
def rangesRunsRow : OpenClaim := { program := "ytgbgdbadifagcaa", sum := "bb58cdc27a085d0ba98bb9b4be9ec27c1eb646504566efeef4504f6c7c7e2ea6", func := "doorward/doorwardlaw13.RangesRuns", spec := "rangesRuns", inPlace := ["slices.overlaps[doorward/api.Range]"], unfollowed := true, recurses := true, apart := false }
def RangesRunsSaid : Prop := rangesRunsRow.holds Try.pinned (OpenSpec.ofChange rangesRunsSpec)

/-- ITS FALSE NEIGHBOUR: 'it returns false'. Refute it at one input. -/
def rangesRunsWrong : ChangeSpec := { name := "rangesRuns", fn := fun _ => fun
  | [d1, d2] => { results := [.lit (.bool false)], args := [d1, d2] }
  | _ => none }
def RangesRunsWrongFalsely : Prop := rangesRunsRow.holds Try.pinned (OpenSpec.ofChange rangesRunsWrong)

/- THE SECOND FORM. 'bulk': how many values and letters a reading holds, each counted each time it is reached (what is shared counts as often as it is met; a slice's spare places count too). A statement '..UptoSaid' is the law's where the arguments, and the package variables that the reading takes, are together of bulk at most 1048576: NARROWER than '..Said'. Prove '..Said' where nothing that the law and all that it calls make is longer than what came in: it says more and counts as full. Else prove '..UptoSaid'. A law counts once. -/
mutual
def uptoBulk {H : Type} : DataW H → Nat
  | .lit (.string bytes) => bytes.length + 1
  | .lit _ => 1
  | .nil => 1
  | .ptr d => uptoBulk d + 1
  | .slice elems spare => uptoBulkAll elems + uptoBulkAll spare + 1
  | .agg parts => uptoBulkAll parts + 1
  | .iface _ d => uptoBulk d + 1
  | .map entries => uptoBulkEntries entries + 1
  | .held _ => 1
def uptoBulkAll {H : Type} : List (DataW H) → Nat
  | [] => 0
  | d :: r => uptoBulk d + uptoBulkAll r
def uptoBulkEntries {H : Type} : List (Lit × DataW H) → Nat
  | [] => 0
  | x :: r => uptoBulkEntry x + uptoBulkEntries r
def uptoBulkEntry {H : Type} : Lit × DataW H → Nat
  | (.string bytes, d) => bytes.length + uptoBulk d + 1
  | (_, d) => uptoBulk d + 1
 end
def uptoSmall : (H : Type) → List (DataW H) → Bool := fun _ ds => decide (uptoBulkAll ds ≤ 1048576)
def OpenSpec.upto (s : _root_.Go.ChangeSpec) : _root_.Go.OpenSpec := { _root_.Go.OpenSpec.ofChange s with cond := some uptoSmall }

/-- 'doorwardlaw13.RangesActs', WHERE WHAT IT READS IS OF BULK AT MOST 1048576: true; the input reads as it did. -/
def rangesActsUptoRow : OpenClaim := { program := "ytgbgdbadifagcaa", sum := "bb58cdc27a085d0ba98bb9b4be9ec27c1eb646504566efeef4504f6c7c7e2ea6", func := "doorward/doorwardlaw13.RangesActs", spec := "rangesActs", inPlace := ["slices.overlaps[doorward/api.Range]"], unfollowed := true, recurses := true, apart := false, narrowed := true }
def RangesActsUptoSaid : Prop := rangesActsUptoRow.holds Try.pinned (OpenSpec.upto rangesActsSpec)

/-- 'doorwardlaw13.RangesOnce', WHERE WHAT IT READS IS OF BULK AT MOST 1048576: true; the input reads as it did. -/
def rangesOnceUptoRow : OpenClaim := { program := "ytgbgdbadifagcaa", sum := "bb58cdc27a085d0ba98bb9b4be9ec27c1eb646504566efeef4504f6c7c7e2ea6", func := "doorward/doorwardlaw13.RangesOnce", spec := "rangesOnce", inPlace := ["slices.overlaps[doorward/api.Range]"], unfollowed := true, recurses := true, apart := false, narrowed := true }
def RangesOnceUptoSaid : Prop := rangesOnceUptoRow.holds Try.pinned (OpenSpec.upto rangesOnceSpec)

/-- 'doorwardlaw13.RangesOrder', WHERE WHAT IT READS IS OF BULK AT MOST 1048576: true; the input reads as it did. -/
def rangesOrderUptoRow : OpenClaim := { program := "ytgbgdbadifagcaa", sum := "bb58cdc27a085d0ba98bb9b4be9ec27c1eb646504566efeef4504f6c7c7e2ea6", func := "doorward/doorwardlaw13.RangesOrder", spec := "rangesOrder", inPlace := ["slices.overlaps[doorward/api.Range]"], unfollowed := true, recurses := true, apart := false, narrowed := true }
def RangesOrderUptoSaid : Prop := rangesOrderUptoRow.holds Try.pinned (OpenSpec.upto rangesOrderSpec)

/-- 'doorwardlaw13.RangesForgets', WHERE WHAT IT READS IS OF BULK AT MOST 1048576: true; the input reads as it did. -/
def rangesForgetsUptoRow : OpenClaim := { program := "ytgbgdbadifagcaa", sum := "bb58cdc27a085d0ba98bb9b4be9ec27c1eb646504566efeef4504f6c7c7e2ea6", func := "doorward/doorwardlaw13.RangesForgets", spec := "rangesForgets", inPlace := ["slices.overlaps[doorward/api.Range]"], unfollowed := true, recurses := true, apart := false, narrowed := true }
def RangesForgetsUptoSaid : Prop := rangesForgetsUptoRow.holds Try.pinned (OpenSpec.upto rangesForgetsSpec)

/-- 'doorwardlaw13.RangesRuns', WHERE WHAT IT READS IS OF BULK AT MOST 1048576: true; the input reads as it did. -/
def rangesRunsUptoRow : OpenClaim := { program := "ytgbgdbadifagcaa", sum := "bb58cdc27a085d0ba98bb9b4be9ec27c1eb646504566efeef4504f6c7c7e2ea6", func := "doorward/doorwardlaw13.RangesRuns", spec := "rangesRuns", inPlace := ["slices.overlaps[doorward/api.Range]"], unfollowed := true, recurses := true, apart := false, narrowed := true }
def RangesRunsUptoSaid : Prop := rangesRunsUptoRow.holds Try.pinned (OpenSpec.upto rangesRunsSpec)

end Rows
end Go.Proofs.Ytgbgdbadifagcaa
