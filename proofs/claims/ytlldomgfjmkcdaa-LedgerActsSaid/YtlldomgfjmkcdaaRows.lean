/-
  No cell of these rows narrows 'for every input' (looked for: loops, veiled, ifaces, maps, wideKeys, modest, calm, conditions, laid).
  DERIVED. THE GIVEN ROWS OF THIS SEAT. 4 by the template 'for every input the law returns true; each argument reads behind the call as it read before'; 0 by the template 'total and deterministic' (their statements: YtlldomgfjmkcdaaTotals.lean).
  GIVEN WITH THE SEED: the statements are not yours to turn. If you find one false, say at which input.
  Laid BY PROGRAM, IN A SANDBOX (cutbox-rows.mjs): the forced cells as the released guide's own fill.sh prints them over the translation 12c2ae9009215309… (all of the seat's roots in one cut). By AI agents, Wed Nov 11 2026. No macro, syntax, notation, axiom, sorry.
-/
import Derived.Test.YtlldomgfjmkcdaaChecked
import GoSem.Claim
import GoSem.ClaimJoined
import GoSem.ClaimMapViews
import Derived.JoinedTies
import Derived.KernelRfl
namespace Go.Proofs.Ytlldomgfjmkcdaa
/- THE CELL 'sum', in the pinned program and in every row, IS THE sha256 OF THE DUMP (.gsa) THAT YtlldomgfjmkcdaaProg.lean LOADS. Nothing in Lean hashes anything: it is a label: what it is worth is what the hold of that sum in a sandbox is worth. -/
noncomputable def Try.pinned : Pinned := { name := "ytlldomgfjmkcdaa", sum := "12c2ae9009215309a9f9945ed31c8f04848f257d7f296f18a3e10e3d5aa04d00", checked := Try.checked }
namespace Rows
def none {H : Type} : Left H := { results := [], args := [] }

/-- 'doorwardlaw15.LedgerOnce': WHATEVER THE INPUT: true; the input reads as it did. -/
def ledgerOnceSpec : ChangeSpec := { name := "ledgerOnce", fn := fun _ => fun
  | [d] => { results := [.lit (.bool true)], args := [d] }
  | _ => none }
def ledgerOnceRow : OpenClaim := { program := "ytlldomgfjmkcdaa", sum := "12c2ae9009215309a9f9945ed31c8f04848f257d7f296f18a3e10e3d5aa04d00", func := "doorward/doorwardlaw15.LedgerOnce", spec := "ledgerOnce", inPlace := ["math/bits.Add64"], unfollowed := true, recurses := true, apart := false }
def LedgerOnceSaid : Prop := ledgerOnceRow.holds Try.pinned (OpenSpec.ofChange ledgerOnceSpec)

/-- ITS FALSE NEIGHBOUR: 'it returns false'. Refute it at one input. -/
def ledgerOnceWrong : ChangeSpec := { name := "ledgerOnce", fn := fun _ => fun
  | [d] => { results := [.lit (.bool false)], args := [d] }
  | _ => none }
def LedgerOnceWrongFalsely : Prop := ledgerOnceRow.holds Try.pinned (OpenSpec.ofChange ledgerOnceWrong)

/-- 'doorwardlaw15.LedgerLate': WHATEVER THE INPUT: true; the input reads as it did. -/
def ledgerLateSpec : ChangeSpec := { name := "ledgerLate", fn := fun _ => fun
  | [d1, d2, d3, d4] => { results := [.lit (.bool true)], args := [d1, d2, d3, d4] }
  | _ => none }
def ledgerLateRow : OpenClaim := { program := "ytlldomgfjmkcdaa", sum := "12c2ae9009215309a9f9945ed31c8f04848f257d7f296f18a3e10e3d5aa04d00", func := "doorward/doorwardlaw15.LedgerLate", spec := "ledgerLate", inPlace := ["math/bits.Add64"], unfollowed := true, recurses := true, apart := false }
def LedgerLateSaid : Prop := ledgerLateRow.holds Try.pinned (OpenSpec.ofChange ledgerLateSpec)

/-- ITS FALSE NEIGHBOUR: 'it returns false'. Refute it at one input. -/
def ledgerLateWrong : ChangeSpec := { name := "ledgerLate", fn := fun _ => fun
  | [d1, d2, d3, d4] => { results := [.lit (.bool false)], args := [d1, d2, d3, d4] }
  | _ => none }
def LedgerLateWrongFalsely : Prop := ledgerLateRow.holds Try.pinned (OpenSpec.ofChange ledgerLateWrong)

/-- 'doorwardlaw15.LedgerNumbers': WHATEVER THE INPUT: true; the input reads as it did. -/
def ledgerNumbersSpec : ChangeSpec := { name := "ledgerNumbers", fn := fun _ => fun
  | [d1, d2] => { results := [.lit (.bool true)], args := [d1, d2] }
  | _ => none }
def ledgerNumbersRow : OpenClaim := { program := "ytlldomgfjmkcdaa", sum := "12c2ae9009215309a9f9945ed31c8f04848f257d7f296f18a3e10e3d5aa04d00", func := "doorward/doorwardlaw15.LedgerNumbers", spec := "ledgerNumbers", inPlace := ["math/bits.Add64"], unfollowed := true, recurses := true, apart := false }
def LedgerNumbersSaid : Prop := ledgerNumbersRow.holds Try.pinned (OpenSpec.ofChange ledgerNumbersSpec)

/-- ITS FALSE NEIGHBOUR: 'it returns false'. Refute it at one input. -/
def ledgerNumbersWrong : ChangeSpec := { name := "ledgerNumbers", fn := fun _ => fun
  | [d1, d2] => { results := [.lit (.bool false)], args := [d1, d2] }
  | _ => none }
def LedgerNumbersWrongFalsely : Prop := ledgerNumbersRow.holds Try.pinned (OpenSpec.ofChange ledgerNumbersWrong)

/-- 'doorwardlaw15.LedgerActs': WHATEVER THE INPUT: true; the input reads as it did. -/
def ledgerActsSpec : ChangeSpec := { name := "ledgerActs", fn := fun _ => fun
  | [d] => { results := [.lit (.bool true)], args := [d] }
  | _ => none }
def ledgerActsRow : OpenClaim := { program := "ytlldomgfjmkcdaa", sum := "12c2ae9009215309a9f9945ed31c8f04848f257d7f296f18a3e10e3d5aa04d00", func := "doorward/doorwardlaw15.LedgerActs", spec := "ledgerActs", inPlace := ["math/bits.Add64"], unfollowed := true, recurses := true, apart := false }
def LedgerActsSaid : Prop := ledgerActsRow.holds Try.pinned (OpenSpec.ofChange ledgerActsSpec)

/-- ITS FALSE NEIGHBOUR: 'it returns false'. Refute it at one input. -/
def ledgerActsWrong : ChangeSpec := { name := "ledgerActs", fn := fun _ => fun
  | [d] => { results := [.lit (.bool false)], args := [d] }
  | _ => none }
def LedgerActsWrongFalsely : Prop := ledgerActsRow.holds Try.pinned (OpenSpec.ofChange ledgerActsWrong)

/- THE SECOND FORM. 'bulk': how many values and letters a reading holds, each counted each time it is reached (what is shared counts as often as it is met; a slice's spare places count too). A statement '..UptoSaid' is the law's where the arguments, and the package variables that the reading takes, are together of bulk at most 1048576: NARROWER than '..Said'. Prove '..Said' where nothing that the law and all that it calls make is longer than what came in: it says more and counts as full. Else prove '..UptoSaid'. A law counts once. -/
mutual
def uptoBulk {H : Type} : DataW H → Nat
  | .lit (.string bytes) => bytes.length + 1
  | .lit _ => 1
  | .nil => 1
  | .ptr d => uptoBulk d + 1
  | .slice elems spare => uptoBulkAll elems + uptoBulkAll spare + 1
  | .agg parts => uptoBulkAll parts + 1
  | .iface _ d => uptoBulk d + 1
  | .map entries => uptoBulkEntries entries + 1
  | .held _ => 1
def uptoBulkAll {H : Type} : List (DataW H) → Nat
  | [] => 0
  | d :: r => uptoBulk d + uptoBulkAll r
def uptoBulkEntries {H : Type} : List (Lit × DataW H) → Nat
  | [] => 0
  | x :: r => uptoBulkEntry x + uptoBulkEntries r
def uptoBulkEntry {H : Type} : Lit × DataW H → Nat
  | (.string bytes, d) => bytes.length + uptoBulk d + 1
  | (_, d) => uptoBulk d + 1
 end
def uptoSmall : (H : Type) → List (DataW H) → Bool := fun _ ds => decide (uptoBulkAll ds ≤ 1048576)
def OpenSpec.upto (s : _root_.Go.ChangeSpec) : _root_.Go.OpenSpec := { _root_.Go.OpenSpec.ofChange s with cond := some uptoSmall }

/-- 'doorwardlaw15.LedgerOnce', WHERE WHAT IT READS IS OF BULK AT MOST 1048576: true; the input reads as it did. -/
def ledgerOnceUptoRow : OpenClaim := { program := "ytlldomgfjmkcdaa", sum := "12c2ae9009215309a9f9945ed31c8f04848f257d7f296f18a3e10e3d5aa04d00", func := "doorward/doorwardlaw15.LedgerOnce", spec := "ledgerOnce", inPlace := ["math/bits.Add64"], unfollowed := true, recurses := true, apart := false, narrowed := true }
def LedgerOnceUptoSaid : Prop := ledgerOnceUptoRow.holds Try.pinned (OpenSpec.upto ledgerOnceSpec)

/-- 'doorwardlaw15.LedgerLate', WHERE WHAT IT READS IS OF BULK AT MOST 1048576: true; the input reads as it did. -/
def ledgerLateUptoRow : OpenClaim := { program := "ytlldomgfjmkcdaa", sum := "12c2ae9009215309a9f9945ed31c8f04848f257d7f296f18a3e10e3d5aa04d00", func := "doorward/doorwardlaw15.LedgerLate", spec := "ledgerLate", inPlace := ["math/bits.Add64"], unfollowed := true, recurses := true, apart := false, narrowed := true }
def LedgerLateUptoSaid : Prop := ledgerLateUptoRow.holds Try.pinned (OpenSpec.upto ledgerLateSpec)

/-- 'doorwardlaw15.LedgerNumbers', WHERE WHAT IT READS IS OF BULK AT MOST 1048576: true; the input reads as it did. -/
def ledgerNumbersUptoRow : OpenClaim := { program := "ytlldomgfjmkcdaa", sum := "12c2ae9009215309a9f9945ed31c8f04848f257d7f296f18a3e10e3d5aa04d00", func := "doorward/doorwardlaw15.LedgerNumbers", spec := "ledgerNumbers", inPlace := ["math/bits.Add64"], unfollowed := true, recurses := true, apart := false, narrowed := true }
def LedgerNumbersUptoSaid : Prop := ledgerNumbersUptoRow.holds Try.pinned (OpenSpec.upto ledgerNumbersSpec)

/-- 'doorwardlaw15.LedgerActs', WHERE WHAT IT READS IS OF BULK AT MOST 1048576: true; the input reads as it did. -/
def ledgerActsUptoRow : OpenClaim := { program := "ytlldomgfjmkcdaa", sum := "12c2ae9009215309a9f9945ed31c8f04848f257d7f296f18a3e10e3d5aa04d00", func := "doorward/doorwardlaw15.LedgerActs", spec := "ledgerActs", inPlace := ["math/bits.Add64"], unfollowed := true, recurses := true, apart := false, narrowed := true }
def LedgerActsUptoSaid : Prop := ledgerActsUptoRow.holds Try.pinned (OpenSpec.upto ledgerActsSpec)

end Rows
end Go.Proofs.Ytlldomgfjmkcdaa
