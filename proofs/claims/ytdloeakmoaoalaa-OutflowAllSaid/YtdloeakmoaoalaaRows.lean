/-
  No cell of these rows narrows 'for every input' (looked for: loops, veiled, ifaces, maps, wideKeys, modest, calm, conditions, laid).
  DERIVED. THE GIVEN ROWS OF THIS SEAT. 5 by the template 'for every input the law returns true; each argument reads behind the call as it read before'; 0 by the template 'total and deterministic' (their statements: YtdloeakmoaoalaaTotals.lean).
  GIVEN WITH THE SEED: the statements are not yours to turn. If you find one false, say at which input.
  Laid BY PROGRAM, IN A SANDBOX (cutbox-rows.mjs): the forced cells as the released guide's own fill.sh prints them over the translation bb5b3b92ec41f7a0… (all of the seat's roots in one cut). By AI agents, Wed Nov 11 2026. No macro, syntax, notation, axiom, sorry.
-/
import Derived.Test.YtdloeakmoaoalaaChecked
import GoSem.Claim
import GoSem.ClaimJoined
import GoSem.ClaimMapViews
import Derived.JoinedTies
import Derived.KernelRfl
namespace Go.Proofs.Ytdloeakmoaoalaa
/- THE CELL 'sum', in the pinned program and in every row, IS THE sha256 OF THE DUMP (.gsa) THAT YtdloeakmoaoalaaProg.lean LOADS. Nothing in Lean hashes anything: it is a label: what it is worth is what the hold of that sum in a sandbox is worth. -/
noncomputable def Try.pinned : Pinned := { name := "ytdloeakmoaoalaa", sum := "bb5b3b92ec41f7a071cbb744f0639dbb2999e2d854524a8de0f11eb27318c16a", checked := Try.checked }
namespace Rows
def none {H : Type} : Left H := { results := [], args := [] }

/-- 'doorwardlaw17.OutflowActs': WHATEVER THE INPUT: true; the input reads as it did. -/
def outflowActsSpec : ChangeSpec := { name := "outflowActs", fn := fun _ => fun
  | [d1, d2] => { results := [.lit (.bool true)], args := [d1, d2] }
  | _ => none }
def outflowActsRow : OpenClaim := { program := "ytdloeakmoaoalaa", sum := "bb5b3b92ec41f7a071cbb744f0639dbb2999e2d854524a8de0f11eb27318c16a", func := "doorward/doorwardlaw17.OutflowActs", spec := "outflowActs", inPlace := ["internal/bytealg.IndexByte"], unfollowed := true, recurses := true, apart := false }
def OutflowActsSaid : Prop := outflowActsRow.holds Try.pinned (OpenSpec.ofChange outflowActsSpec)

/-- ITS FALSE NEIGHBOUR: 'it returns false'. Refute it at one input. -/
def outflowActsWrong : ChangeSpec := { name := "outflowActs", fn := fun _ => fun
  | [d1, d2] => { results := [.lit (.bool false)], args := [d1, d2] }
  | _ => none }
def OutflowActsWrongFalsely : Prop := outflowActsRow.holds Try.pinned (OpenSpec.ofChange outflowActsWrong)

/-- 'doorwardlaw17.OutflowRight': WHATEVER THE INPUT: true; the input reads as it did. -/
def outflowRightSpec : ChangeSpec := { name := "outflowRight", fn := fun _ => fun
  | [d1, d2] => { results := [.lit (.bool true)], args := [d1, d2] }
  | _ => none }
def outflowRightRow : OpenClaim := { program := "ytdloeakmoaoalaa", sum := "bb5b3b92ec41f7a071cbb744f0639dbb2999e2d854524a8de0f11eb27318c16a", func := "doorward/doorwardlaw17.OutflowRight", spec := "outflowRight", inPlace := ["internal/bytealg.IndexByte"], unfollowed := true, recurses := true, apart := false }
def OutflowRightSaid : Prop := outflowRightRow.holds Try.pinned (OpenSpec.ofChange outflowRightSpec)

/-- ITS FALSE NEIGHBOUR: 'it returns false'. Refute it at one input. -/
def outflowRightWrong : ChangeSpec := { name := "outflowRight", fn := fun _ => fun
  | [d1, d2] => { results := [.lit (.bool false)], args := [d1, d2] }
  | _ => none }
def OutflowRightWrongFalsely : Prop := outflowRightRow.holds Try.pinned (OpenSpec.ofChange outflowRightWrong)

/-- 'doorwardlaw17.OutflowLimit': WHATEVER THE INPUT: true; the input reads as it did. -/
def outflowLimitSpec : ChangeSpec := { name := "outflowLimit", fn := fun _ => fun
  | [d1, d2, d3] => { results := [.lit (.bool true)], args := [d1, d2, d3] }
  | _ => none }
def outflowLimitRow : OpenClaim := { program := "ytdloeakmoaoalaa", sum := "bb5b3b92ec41f7a071cbb744f0639dbb2999e2d854524a8de0f11eb27318c16a", func := "doorward/doorwardlaw17.OutflowLimit", spec := "outflowLimit", inPlace := ["internal/bytealg.IndexByte"], unfollowed := true, recurses := true, apart := false }
def OutflowLimitSaid : Prop := outflowLimitRow.holds Try.pinned (OpenSpec.ofChange outflowLimitSpec)

/-- ITS FALSE NEIGHBOUR: 'it returns false'. Refute it at one input. -/
def outflowLimitWrong : ChangeSpec := { name := "outflowLimit", fn := fun _ => fun
  | [d1, d2, d3] => { results := [.lit (.bool false)], args := [d1, d2, d3] }
  | _ => none }
def OutflowLimitWrongFalsely : Prop := outflowLimitRow.holds Try.pinned (OpenSpec.ofChange outflowLimitWrong)

/-- 'doorwardlaw17.OutflowAcks': WHATEVER THE INPUT: true; the input reads as it did. -/
def outflowAcksSpec : ChangeSpec := { name := "outflowAcks", fn := fun _ => fun
  | [d1, d2, d3] => { results := [.lit (.bool true)], args := [d1, d2, d3] }
  | _ => none }
def outflowAcksRow : OpenClaim := { program := "ytdloeakmoaoalaa", sum := "bb5b3b92ec41f7a071cbb744f0639dbb2999e2d854524a8de0f11eb27318c16a", func := "doorward/doorwardlaw17.OutflowAcks", spec := "outflowAcks", inPlace := ["internal/bytealg.IndexByte"], unfollowed := true, recurses := true, apart := false }
def OutflowAcksSaid : Prop := outflowAcksRow.holds Try.pinned (OpenSpec.ofChange outflowAcksSpec)

/-- ITS FALSE NEIGHBOUR: 'it returns false'. Refute it at one input. -/
def outflowAcksWrong : ChangeSpec := { name := "outflowAcks", fn := fun _ => fun
  | [d1, d2, d3] => { results := [.lit (.bool false)], args := [d1, d2, d3] }
  | _ => none }
def OutflowAcksWrongFalsely : Prop := outflowAcksRow.holds Try.pinned (OpenSpec.ofChange outflowAcksWrong)

/-- 'doorwardlaw17.OutflowAll': WHATEVER THE INPUT: true; the input reads as it did. -/
def outflowAllSpec : ChangeSpec := { name := "outflowAll", fn := fun _ => fun
  | [d1, d2, d3] => { results := [.lit (.bool true)], args := [d1, d2, d3] }
  | _ => none }
def outflowAllRow : OpenClaim := { program := "ytdloeakmoaoalaa", sum := "bb5b3b92ec41f7a071cbb744f0639dbb2999e2d854524a8de0f11eb27318c16a", func := "doorward/doorwardlaw17.OutflowAll", spec := "outflowAll", inPlace := ["internal/bytealg.IndexByte"], unfollowed := true, recurses := true, apart := false }
def OutflowAllSaid : Prop := outflowAllRow.holds Try.pinned (OpenSpec.ofChange outflowAllSpec)

/-- ITS FALSE NEIGHBOUR: 'it returns false'. Refute it at one input. -/
def outflowAllWrong : ChangeSpec := { name := "outflowAll", fn := fun _ => fun
  | [d1, d2, d3] => { results := [.lit (.bool false)], args := [d1, d2, d3] }
  | _ => none }
def OutflowAllWrongFalsely : Prop := outflowAllRow.holds Try.pinned (OpenSpec.ofChange outflowAllWrong)

/- THE SECOND FORM. 'bulk': how many values and letters a reading holds, each counted each time it is reached (what is shared counts as often as it is met; a slice's spare places count too). A statement '..UptoSaid' is the law's where the arguments, and the package variables that the reading takes, are together of bulk at most 1048576: NARROWER than '..Said'. Prove '..Said' where nothing that the law and all that it calls make is longer than what came in: it says more and counts as full. Else prove '..UptoSaid'. A law counts once. -/
mutual
def uptoBulk {H : Type} : DataW H → Nat
  | .lit (.string bytes) => bytes.length + 1
  | .lit _ => 1
  | .nil => 1
  | .ptr d => uptoBulk d + 1
  | .slice elems spare => uptoBulkAll elems + uptoBulkAll spare + 1
  | .agg parts => uptoBulkAll parts + 1
  | .iface _ d => uptoBulk d + 1
  | .map entries => uptoBulkEntries entries + 1
  | .held _ => 1
def uptoBulkAll {H : Type} : List (DataW H) → Nat
  | [] => 0
  | d :: r => uptoBulk d + uptoBulkAll r
def uptoBulkEntries {H : Type} : List (Lit × DataW H) → Nat
  | [] => 0
  | x :: r => uptoBulkEntry x + uptoBulkEntries r
def uptoBulkEntry {H : Type} : Lit × DataW H → Nat
  | (.string bytes, d) => bytes.length + uptoBulk d + 1
  | (_, d) => uptoBulk d + 1
 end
def uptoSmall : (H : Type) → List (DataW H) → Bool := fun _ ds => decide (uptoBulkAll ds ≤ 1048576)
def OpenSpec.upto (s : _root_.Go.ChangeSpec) : _root_.Go.OpenSpec := { _root_.Go.OpenSpec.ofChange s with cond := some uptoSmall }

/-- 'doorwardlaw17.OutflowActs', WHERE WHAT IT READS IS OF BULK AT MOST 1048576: true; the input reads as it did. -/
def outflowActsUptoRow : OpenClaim := { program := "ytdloeakmoaoalaa", sum := "bb5b3b92ec41f7a071cbb744f0639dbb2999e2d854524a8de0f11eb27318c16a", func := "doorward/doorwardlaw17.OutflowActs", spec := "outflowActs", inPlace := ["internal/bytealg.IndexByte"], unfollowed := true, recurses := true, apart := false, narrowed := true }
def OutflowActsUptoSaid : Prop := outflowActsUptoRow.holds Try.pinned (OpenSpec.upto outflowActsSpec)

/-- 'doorwardlaw17.OutflowRight', WHERE WHAT IT READS IS OF BULK AT MOST 1048576: true; the input reads as it did. -/
def outflowRightUptoRow : OpenClaim := { program := "ytdloeakmoaoalaa", sum := "bb5b3b92ec41f7a071cbb744f0639dbb2999e2d854524a8de0f11eb27318c16a", func := "doorward/doorwardlaw17.OutflowRight", spec := "outflowRight", inPlace := ["internal/bytealg.IndexByte"], unfollowed := true, recurses := true, apart := false, narrowed := true }
def OutflowRightUptoSaid : Prop := outflowRightUptoRow.holds Try.pinned (OpenSpec.upto outflowRightSpec)

/-- 'doorwardlaw17.OutflowLimit', WHERE WHAT IT READS IS OF BULK AT MOST 1048576: true; the input reads as it did. -/
def outflowLimitUptoRow : OpenClaim := { program := "ytdloeakmoaoalaa", sum := "bb5b3b92ec41f7a071cbb744f0639dbb2999e2d854524a8de0f11eb27318c16a", func := "doorward/doorwardlaw17.OutflowLimit", spec := "outflowLimit", inPlace := ["internal/bytealg.IndexByte"], unfollowed := true, recurses := true, apart := false, narrowed := true }
def OutflowLimitUptoSaid : Prop := outflowLimitUptoRow.holds Try.pinned (OpenSpec.upto outflowLimitSpec)

/-- 'doorwardlaw17.OutflowAcks', WHERE WHAT IT READS IS OF BULK AT MOST 1048576: true; the input reads as it did. -/
def outflowAcksUptoRow : OpenClaim := { program := "ytdloeakmoaoalaa", sum := "bb5b3b92ec41f7a071cbb744f0639dbb2999e2d854524a8de0f11eb27318c16a", func := "doorward/doorwardlaw17.OutflowAcks", spec := "outflowAcks", inPlace := ["internal/bytealg.IndexByte"], unfollowed := true, recurses := true, apart := false, narrowed := true }
def OutflowAcksUptoSaid : Prop := outflowAcksUptoRow.holds Try.pinned (OpenSpec.upto outflowAcksSpec)

/-- 'doorwardlaw17.OutflowAll', WHERE WHAT IT READS IS OF BULK AT MOST 1048576: true; the input reads as it did. -/
def outflowAllUptoRow : OpenClaim := { program := "ytdloeakmoaoalaa", sum := "bb5b3b92ec41f7a071cbb744f0639dbb2999e2d854524a8de0f11eb27318c16a", func := "doorward/doorwardlaw17.OutflowAll", spec := "outflowAll", inPlace := ["internal/bytealg.IndexByte"], unfollowed := true, recurses := true, apart := false, narrowed := true }
def OutflowAllUptoSaid : Prop := outflowAllUptoRow.holds Try.pinned (OpenSpec.upto outflowAllSpec)

end Rows
end Go.Proofs.Ytdloeakmoaoalaa
