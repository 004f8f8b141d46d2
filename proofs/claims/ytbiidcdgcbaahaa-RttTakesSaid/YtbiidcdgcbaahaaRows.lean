/-
  No cell of these rows narrows 'for every input' (looked for: loops, veiled, ifaces, maps, wideKeys, modest, calm, conditions, laid).
  DERIVED. THE GIVEN ROWS OF THIS SEAT. 6 by the template 'for every input the law returns true; each argument reads behind the call as it read before'; 0 by the template 'total and deterministic' (their statements: YtbiidcdgcbaahaaTotals.lean).
  GIVEN WITH THE SEED: the statements are not yours to turn. If you find one false, say at which input.
  Laid BY PROGRAM, IN A SANDBOX (cutbox-rows.mjs): the forced cells as the released guide's own fill.sh prints them over the translation abe4a8b01e981023… (all of the seat's roots in one cut). By AI agents, Wed Nov 11 2026. No macro, syntax, notation, axiom, sorry.
-/
import Derived.Test.YtbiidcdgcbaahaaChecked
import GoSem.Claim
import GoSem.ClaimJoined
import GoSem.ClaimMapViews
import Derived.JoinedTies
import Derived.KernelRfl
namespace Go.Proofs.Ytbiidcdgcbaahaa
/- THE CELL 'sum', in the pinned program and in every row, IS THE sha256 OF THE DUMP (.gsa) THAT YtbiidcdgcbaahaaProg.lean LOADS. Nothing in Lean hashes anything: it is a label: what it is worth is what the hold of that sum in a sandbox is worth. -/
noncomputable def Try.pinned : Pinned := { name := "ytbiidcdgcbaahaa", sum := "abe4a8b01e9810234aa0d735eff1405358d6df0b3989d34d0c42cfbc44c7585b", checked := Try.checked }
namespace Rows
def none {H : Type} : Left H := { results := [], args := [] }

/-- 'doorwardlaw14.RttTakes': WHATEVER THE INPUT: true; the input reads as it did. -/
def rttTakesSpec : ChangeSpec := { name := "rttTakes", fn := fun _ => fun
  | [d1, d2, d3, d4] => { results := [.lit (.bool true)], args := [d1, d2, d3, d4] }
  | _ => none }
def rttTakesRow : OpenClaim := { program := "ytbiidcdgcbaahaa", sum := "abe4a8b01e9810234aa0d735eff1405358d6df0b3989d34d0c42cfbc44c7585b", func := "doorward/doorwardlaw14.RttTakes", spec := "rttTakes", apart := false }
def RttTakesSaid : Prop := rttTakesRow.holds Try.pinned (OpenSpec.ofChange rttTakesSpec)

/-- ITS FALSE NEIGHBOUR: 'it returns false'. Refute it at one input. -/
def rttTakesWrong : ChangeSpec := { name := "rttTakes", fn := fun _ => fun
  | [d1, d2, d3, d4] => { results := [.lit (.bool false)], args := [d1, d2, d3, d4] }
  | _ => none }
def RttTakesWrongFalsely : Prop := rttTakesRow.holds Try.pinned (OpenSpec.ofChange rttTakesWrong)

/-- 'doorwardlaw14.RttBetween': WHATEVER THE INPUT: true; the input reads as it did. -/
def rttBetweenSpec : ChangeSpec := { name := "rttBetween", fn := fun _ => fun
  | [d1, d2] => { results := [.lit (.bool true)], args := [d1, d2] }
  | _ => none }
def rttBetweenRow : OpenClaim := { program := "ytbiidcdgcbaahaa", sum := "abe4a8b01e9810234aa0d735eff1405358d6df0b3989d34d0c42cfbc44c7585b", func := "doorward/doorwardlaw14.RttBetween", spec := "rttBetween", apart := false }
def RttBetweenSaid : Prop := rttBetweenRow.holds Try.pinned (OpenSpec.ofChange rttBetweenSpec)

/-- ITS FALSE NEIGHBOUR: 'it returns false'. Refute it at one input. -/
def rttBetweenWrong : ChangeSpec := { name := "rttBetween", fn := fun _ => fun
  | [d1, d2] => { results := [.lit (.bool false)], args := [d1, d2] }
  | _ => none }
def RttBetweenWrongFalsely : Prop := rttBetweenRow.holds Try.pinned (OpenSpec.ofChange rttBetweenWrong)

/-- 'doorwardlaw14.RttSame': WHATEVER THE INPUT: true; the input reads as it did. -/
def rttSameSpec : ChangeSpec := { name := "rttSame", fn := fun _ => fun
  | [d1, d2] => { results := [.lit (.bool true)], args := [d1, d2] }
  | _ => none }
def rttSameRow : OpenClaim := { program := "ytbiidcdgcbaahaa", sum := "abe4a8b01e9810234aa0d735eff1405358d6df0b3989d34d0c42cfbc44c7585b", func := "doorward/doorwardlaw14.RttSame", spec := "rttSame", apart := false }
def RttSameSaid : Prop := rttSameRow.holds Try.pinned (OpenSpec.ofChange rttSameSpec)

/-- ITS FALSE NEIGHBOUR: 'it returns false'. Refute it at one input. -/
def rttSameWrong : ChangeSpec := { name := "rttSame", fn := fun _ => fun
  | [d1, d2] => { results := [.lit (.bool false)], args := [d1, d2] }
  | _ => none }
def RttSameWrongFalsely : Prop := rttSameRow.holds Try.pinned (OpenSpec.ofChange rttSameWrong)

/-- 'doorwardlaw14.RttProbes': WHATEVER THE INPUT: true; the input reads as it did. -/
def rttProbesSpec : ChangeSpec := { name := "rttProbes", fn := fun _ => fun
  | [d1, d2, d3, d4] => { results := [.lit (.bool true)], args := [d1, d2, d3, d4] }
  | _ => none }
def rttProbesRow : OpenClaim := { program := "ytbiidcdgcbaahaa", sum := "abe4a8b01e9810234aa0d735eff1405358d6df0b3989d34d0c42cfbc44c7585b", func := "doorward/doorwardlaw14.RttProbes", spec := "rttProbes", apart := false }
def RttProbesSaid : Prop := rttProbesRow.holds Try.pinned (OpenSpec.ofChange rttProbesSpec)

/-- ITS FALSE NEIGHBOUR: 'it returns false'. Refute it at one input. -/
def rttProbesWrong : ChangeSpec := { name := "rttProbes", fn := fun _ => fun
  | [d1, d2, d3, d4] => { results := [.lit (.bool false)], args := [d1, d2, d3, d4] }
  | _ => none }
def RttProbesWrongFalsely : Prop := rttProbesRow.holds Try.pinned (OpenSpec.ofChange rttProbesWrong)

/-- 'doorwardlaw14.RttDelay': WHATEVER THE INPUT: true; the input reads as it did. -/
def rttDelaySpec : ChangeSpec := { name := "rttDelay", fn := fun _ => fun
  | [d1, d2, d3] => { results := [.lit (.bool true)], args := [d1, d2, d3] }
  | _ => none }
def rttDelayRow : OpenClaim := { program := "ytbiidcdgcbaahaa", sum := "abe4a8b01e9810234aa0d735eff1405358d6df0b3989d34d0c42cfbc44c7585b", func := "doorward/doorwardlaw14.RttDelay", spec := "rttDelay", apart := false }
def RttDelaySaid : Prop := rttDelayRow.holds Try.pinned (OpenSpec.ofChange rttDelaySpec)

/-- ITS FALSE NEIGHBOUR: 'it returns false'. Refute it at one input. -/
def rttDelayWrong : ChangeSpec := { name := "rttDelay", fn := fun _ => fun
  | [d1, d2, d3] => { results := [.lit (.bool false)], args := [d1, d2, d3] }
  | _ => none }
def RttDelayWrongFalsely : Prop := rttDelayRow.holds Try.pinned (OpenSpec.ofChange rttDelayWrong)

/-- 'doorwardlaw14.RttFirst': WHATEVER THE INPUT: true; the input reads as it did. -/
def rttFirstSpec : ChangeSpec := { name := "rttFirst", fn := fun _ => fun
  | [d1, d2, d3] => { results := [.lit (.bool true)], args := [d1, d2, d3] }
  | _ => none }
def rttFirstRow : OpenClaim := { program := "ytbiidcdgcbaahaa", sum := "abe4a8b01e9810234aa0d735eff1405358d6df0b3989d34d0c42cfbc44c7585b", func := "doorward/doorwardlaw14.RttFirst", spec := "rttFirst", apart := false }
def RttFirstSaid : Prop := rttFirstRow.holds Try.pinned (OpenSpec.ofChange rttFirstSpec)

/-- ITS FALSE NEIGHBOUR: 'it returns false'. Refute it at one input. -/
def rttFirstWrong : ChangeSpec := { name := "rttFirst", fn := fun _ => fun
  | [d1, d2, d3] => { results := [.lit (.bool false)], args := [d1, d2, d3] }
  | _ => none }
def RttFirstWrongFalsely : Prop := rttFirstRow.holds Try.pinned (OpenSpec.ofChange rttFirstWrong)

/- THE SECOND FORM. 'bulk': how many values and letters a reading holds, each counted each time it is reached (what is shared counts as often as it is met; a slice's spare places count too). A statement '..UptoSaid' is the law's where the arguments, and the package variables that the reading takes, are together of bulk at most 1048576: NARROWER than '..Said'. Prove '..Said' where nothing that the law and all that it calls make is longer than what came in: it says more and counts as full. Else prove '..UptoSaid'. A law counts once. -/
mutual
def uptoBulk {H : Type} : DataW H → Nat
  | .lit (.string bytes) => bytes.length + 1
  | .lit _ => 1
  | .nil => 1
  | .ptr d => uptoBulk d + 1
  | .slice elems spare => uptoBulkAll elems + uptoBulkAll spare + 1
  | .agg parts => uptoBulkAll parts + 1
  | .iface _ d => uptoBulk d + 1
  | .map entries => uptoBulkEntries entries + 1
  | .held _ => 1
def uptoBulkAll {H : Type} : List (DataW H) → Nat
  | [] => 0
  | d :: r => uptoBulk d + uptoBulkAll r
def uptoBulkEntries {H : Type} : List (Lit × DataW H) → Nat
  | [] => 0
  | x :: r => uptoBulkEntry x + uptoBulkEntries r
def uptoBulkEntry {H : Type} : Lit × DataW H → Nat
  | (.string bytes, d) => bytes.length + uptoBulk d + 1
  | (_, d) => uptoBulk d + 1
 end
def uptoSmall : (H : Type) → List (DataW H) → Bool := fun _ ds => decide (uptoBulkAll ds ≤ 1048576)
def OpenSpec.upto (s : _root_.Go.ChangeSpec) : _root_.Go.OpenSpec := { _root_.Go.OpenSpec.ofChange s with cond := some uptoSmall }

/-- 'doorwardlaw14.RttTakes', WHERE WHAT IT READS IS OF BULK AT MOST 1048576: true; the input reads as it did. -/
def rttTakesUptoRow : OpenClaim := { program := "ytbiidcdgcbaahaa", sum := "abe4a8b01e9810234aa0d735eff1405358d6df0b3989d34d0c42cfbc44c7585b", func := "doorward/doorwardlaw14.RttTakes", spec := "rttTakes", apart := false, narrowed := true }
def RttTakesUptoSaid : Prop := rttTakesUptoRow.holds Try.pinned (OpenSpec.upto rttTakesSpec)

/-- 'doorwardlaw14.RttBetween', WHERE WHAT IT READS IS OF BULK AT MOST 1048576: true; the input reads as it did. -/
def rttBetweenUptoRow : OpenClaim := { program := "ytbiidcdgcbaahaa", sum := "abe4a8b01e9810234aa0d735eff1405358d6df0b3989d34d0c42cfbc44c7585b", func := "doorward/doorwardlaw14.RttBetween", spec := "rttBetween", apart := false, narrowed := true }
def RttBetweenUptoSaid : Prop := rttBetweenUptoRow.holds Try.pinned (OpenSpec.upto rttBetweenSpec)

/-- 'doorwardlaw14.RttSame', WHERE WHAT IT READS IS OF BULK AT MOST 1048576: true; the input reads as it did. -/
def rttSameUptoRow : OpenClaim := { program := "ytbiidcdgcbaahaa", sum := "abe4a8b01e9810234aa0d735eff1405358d6df0b3989d34d0c42cfbc44c7585b", func := "doorward/doorwardlaw14.RttSame", spec := "rttSame", apart := false, narrowed := true }
def RttSameUptoSaid : Prop := rttSameUptoRow.holds Try.pinned (OpenSpec.upto rttSameSpec)

/-- 'doorwardlaw14.RttProbes', WHERE WHAT IT READS IS OF BULK AT MOST 1048576: true; the input reads as it did. -/
def rttProbesUptoRow : OpenClaim := { program := "ytbiidcdgcbaahaa", sum := "abe4a8b01e9810234aa0d735eff1405358d6df0b3989d34d0c42cfbc44c7585b", func := "doorward/doorwardlaw14.RttProbes", spec := "rttProbes", apart := false, narrowed := true }
def RttProbesUptoSaid : Prop := rttProbesUptoRow.holds Try.pinned (OpenSpec.upto rttProbesSpec)

/-- 'doorwardlaw14.RttDelay', WHERE WHAT IT READS IS OF BULK AT MOST 1048576: true; the input reads as it did. -/
def rttDelayUptoRow : OpenClaim := { program := "ytbiidcdgcbaahaa", sum := "abe4a8b01e9810234aa0d735eff1405358d6df0b3989d34d0c42cfbc44c7585b", func := "doorward/doorwardlaw14.RttDelay", spec := "rttDelay", apart := false, narrowed := true }
def RttDelayUptoSaid : Prop := rttDelayUptoRow.holds Try.pinned (OpenSpec.upto rttDelaySpec)

/-- 'doorwardlaw14.RttFirst', WHERE WHAT IT READS IS OF BULK AT MOST 1048576: true; the input reads as it did. -/
def rttFirstUptoRow : OpenClaim := { program := "ytbiidcdgcbaahaa", sum := "abe4a8b01e9810234aa0d735eff1405358d6df0b3989d34d0c42cfbc44c7585b", func := "doorward/doorwardlaw14.RttFirst", spec := "rttFirst", apart := false, narrowed := true }
def RttFirstUptoSaid : Prop := rttFirstUptoRow.holds Try.pinned (OpenSpec.upto rttFirstSpec)

end Rows
end Go.Proofs.Ytbiidcdgcbaahaa
