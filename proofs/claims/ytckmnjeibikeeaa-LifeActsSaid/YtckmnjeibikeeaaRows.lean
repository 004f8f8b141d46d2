/-
  No cell of these rows narrows 'for every input' (looked for: loops, veiled, ifaces, maps, wideKeys, modest, calm, conditions, laid).
  DERIVED. THE GIVEN ROWS OF THIS SEAT. 7 by the template 'for every input the law returns true; each argument reads behind the call as it read before'; 0 by the template 'total and deterministic' (their statements: YtckmnjeibikeeaaTotals.lean).
  GIVEN WITH THE SEED: the statements are not yours to turn. If you find one false, say at which input.
  Laid BY PROGRAM, IN A SANDBOX (cutbox-rows.mjs): the forced cells as the released guide's own fill.sh prints them over the translation 0e332a76bef69c60… (all of the seat's roots in one cut). By AI agents, Wed Nov 11 2026. No macro, syntax, notation, axiom, sorry.
-/
import Derived.Test.YtckmnjeibikeeaaChecked
import GoSem.Claim
import GoSem.ClaimJoined
import GoSem.ClaimMapViews
import Derived.JoinedTies
import Derived.KernelRfl
namespace Go.Proofs.Ytckmnjeibikeeaa
/- THE CELL 'sum', in the pinned program and in every row, IS THE sha256 OF THE DUMP (.gsa) THAT YtckmnjeibikeeaaProg.lean LOADS. Nothing in Lean hashes anything: it is a label: what it is worth is what the hold of that sum in a sandbox is worth. -/
noncomputable def Try.pinned : Pinned := { name := "ytckmnjeibikeeaa", sum := "0e332a76bef69c60db704b68b4f78944c5f2a7cc2791a230cf5673654db33959", checked := Try.checked }
namespace Rows
def none {H : Type} : Left H := { results := [], args := [] }

/-- 'doorwardlaw19.LifeIdle': WHATEVER THE INPUT: true; the input reads as it did. -/
def lifeIdleSpec : ChangeSpec := { name := "lifeIdle", fn := fun _ => fun
  | [d1, d2, d3, d4, d5] => { results := [.lit (.bool true)], args := [d1, d2, d3, d4, d5] }
  | _ => none }
def lifeIdleRow : OpenClaim := { program := "ytckmnjeibikeeaa", sum := "0e332a76bef69c60db704b68b4f78944c5f2a7cc2791a230cf5673654db33959", func := "doorward/doorwardlaw19.LifeIdle", spec := "lifeIdle", inPlace := ["math/bits.Add64"], unfollowed := true, recurses := true, apart := false }
def LifeIdleSaid : Prop := lifeIdleRow.holds Try.pinned (OpenSpec.ofChange lifeIdleSpec)

/-- ITS FALSE NEIGHBOUR: 'it returns false'. Refute it at one input. -/
def lifeIdleWrong : ChangeSpec := { name := "lifeIdle", fn := fun _ => fun
  | [d1, d2, d3, d4, d5] => { results := [.lit (.bool false)], args := [d1, d2, d3, d4, d5] }
  | _ => none }
def LifeIdleWrongFalsely : Prop := lifeIdleRow.holds Try.pinned (OpenSpec.ofChange lifeIdleWrong)

/-- 'doorwardlaw19.LifeNever': WHATEVER THE INPUT: true; the input reads as it did. -/
def lifeNeverSpec : ChangeSpec := { name := "lifeNever", fn := fun _ => fun
  | [d1, d2] => { results := [.lit (.bool true)], args := [d1, d2] }
  | _ => none }
def lifeNeverRow : OpenClaim := { program := "ytckmnjeibikeeaa", sum := "0e332a76bef69c60db704b68b4f78944c5f2a7cc2791a230cf5673654db33959", func := "doorward/doorwardlaw19.LifeNever", spec := "lifeNever", inPlace := ["math/bits.Add64"], unfollowed := true, recurses := true, apart := false }
def LifeNeverSaid : Prop := lifeNeverRow.holds Try.pinned (OpenSpec.ofChange lifeNeverSpec)

/-- ITS FALSE NEIGHBOUR: 'it returns false'. Refute it at one input. -/
def lifeNeverWrong : ChangeSpec := { name := "lifeNever", fn := fun _ => fun
  | [d1, d2] => { results := [.lit (.bool false)], args := [d1, d2] }
  | _ => none }
def LifeNeverWrongFalsely : Prop := lifeNeverRow.holds Try.pinned (OpenSpec.ofChange lifeNeverWrong)

/-- 'doorwardlaw19.LifeRestarts': WHATEVER THE INPUT: true; the input reads as it did. -/
def lifeRestartsSpec : ChangeSpec := { name := "lifeRestarts", fn := fun _ => fun
  | [d1, d2] => { results := [.lit (.bool true)], args := [d1, d2] }
  | _ => none }
def lifeRestartsRow : OpenClaim := { program := "ytckmnjeibikeeaa", sum := "0e332a76bef69c60db704b68b4f78944c5f2a7cc2791a230cf5673654db33959", func := "doorward/doorwardlaw19.LifeRestarts", spec := "lifeRestarts", inPlace := ["math/bits.Add64"], unfollowed := true, recurses := true, apart := false }
def LifeRestartsSaid : Prop := lifeRestartsRow.holds Try.pinned (OpenSpec.ofChange lifeRestartsSpec)

/-- ITS FALSE NEIGHBOUR: 'it returns false'. Refute it at one input. -/
def lifeRestartsWrong : ChangeSpec := { name := "lifeRestarts", fn := fun _ => fun
  | [d1, d2] => { results := [.lit (.bool false)], args := [d1, d2] }
  | _ => none }
def LifeRestartsWrongFalsely : Prop := lifeRestartsRow.holds Try.pinned (OpenSpec.ofChange lifeRestartsWrong)

/-- 'doorwardlaw19.LifeKeeps': WHATEVER THE INPUT: true; the input reads as it did. -/
def lifeKeepsSpec : ChangeSpec := { name := "lifeKeeps", fn := fun _ => fun
  | [d1, d2, d3] => { results := [.lit (.bool true)], args := [d1, d2, d3] }
  | _ => none }
def lifeKeepsRow : OpenClaim := { program := "ytckmnjeibikeeaa", sum := "0e332a76bef69c60db704b68b4f78944c5f2a7cc2791a230cf5673654db33959", func := "doorward/doorwardlaw19.LifeKeeps", spec := "lifeKeeps", inPlace := ["math/bits.Add64"], unfollowed := true, recurses := true, apart := false }
def LifeKeepsSaid : Prop := lifeKeepsRow.holds Try.pinned (OpenSpec.ofChange lifeKeepsSpec)

/-- ITS FALSE NEIGHBOUR: 'it returns false'. Refute it at one input. -/
def lifeKeepsWrong : ChangeSpec := { name := "lifeKeeps", fn := fun _ => fun
  | [d1, d2, d3] => { results := [.lit (.bool false)], args := [d1, d2, d3] }
  | _ => none }
def LifeKeepsWrongFalsely : Prop := lifeKeepsRow.holds Try.pinned (OpenSpec.ofChange lifeKeepsWrong)

/-- 'doorwardlaw19.LifeAnswers': WHATEVER THE INPUT: true; the input reads as it did. -/
def lifeAnswersSpec : ChangeSpec := { name := "lifeAnswers", fn := fun _ => fun
  | [d1, d2] => { results := [.lit (.bool true)], args := [d1, d2] }
  | _ => none }
def lifeAnswersRow : OpenClaim := { program := "ytckmnjeibikeeaa", sum := "0e332a76bef69c60db704b68b4f78944c5f2a7cc2791a230cf5673654db33959", func := "doorward/doorwardlaw19.LifeAnswers", spec := "lifeAnswers", inPlace := ["math/bits.Add64"], unfollowed := true, recurses := true, apart := false }
def LifeAnswersSaid : Prop := lifeAnswersRow.holds Try.pinned (OpenSpec.ofChange lifeAnswersSpec)

/-- ITS FALSE NEIGHBOUR: 'it returns false'. Refute it at one input. -/
def lifeAnswersWrong : ChangeSpec := { name := "lifeAnswers", fn := fun _ => fun
  | [d1, d2] => { results := [.lit (.bool false)], args := [d1, d2] }
  | _ => none }
def LifeAnswersWrongFalsely : Prop := lifeAnswersRow.holds Try.pinned (OpenSpec.ofChange lifeAnswersWrong)

/-- 'doorwardlaw19.LifeEnds': WHATEVER THE INPUT: true; the input reads as it did. -/
def lifeEndsSpec : ChangeSpec := { name := "lifeEnds", fn := fun _ => fun
  | [d1, d2, d3, d4, d5] => { results := [.lit (.bool true)], args := [d1, d2, d3, d4, d5] }
  | _ => none }
def lifeEndsRow : OpenClaim := { program := "ytckmnjeibikeeaa", sum := "0e332a76bef69c60db704b68b4f78944c5f2a7cc2791a230cf5673654db33959", func := "doorward/doorwardlaw19.LifeEnds", spec := "lifeEnds", inPlace := ["math/bits.Add64"], unfollowed := true, recurses := true, apart := false }
def LifeEndsSaid : Prop := lifeEndsRow.holds Try.pinned (OpenSpec.ofChange lifeEndsSpec)

/-- ITS FALSE NEIGHBOUR: 'it returns false'. Refute it at one input. -/
def lifeEndsWrong : ChangeSpec := { name := "lifeEnds", fn := fun _ => fun
  | [d1, d2, d3, d4, d5] => { results := [.lit (.bool false)], args := [d1, d2, d3, d4, d5] }
  | _ => none }
def LifeEndsWrongFalsely : Prop := lifeEndsRow.holds Try.pinned (OpenSpec.ofChange lifeEndsWrong)

/-- 'doorwardlaw19.LifeActs': WHATEVER THE INPUT: true; the input reads as it did. -/
def lifeActsSpec : ChangeSpec := { name := "lifeActs", fn := fun _ => fun
  | [d1, d2, d3, d4] => { results := [.lit (.bool true)], args := [d1, d2, d3, d4] }
  | _ => none }
def lifeActsRow : OpenClaim := { program := "ytckmnjeibikeeaa", sum := "0e332a76bef69c60db704b68b4f78944c5f2a7cc2791a230cf5673654db33959", func := "doorward/doorwardlaw19.LifeActs", spec := "lifeActs", inPlace := ["math/bits.Add64"], unfollowed := true, recurses := true, apart := false }
def LifeActsSaid : Prop := lifeActsRow.holds Try.pinned (OpenSpec.ofChange lifeActsSpec)

/-- ITS FALSE NEIGHBOUR: 'it returns false'. Refute it at one input. -/
def lifeActsWrong : ChangeSpec := { name := "lifeActs", fn := fun _ => fun
  | [d1, d2, d3, d4] => { results := [.lit (.bool false)], args := [d1, d2, d3, d4] }
  | _ => none }
def LifeActsWrongFalsely : Prop := lifeActsRow.holds Try.pinned (OpenSpec.ofChange lifeActsWrong)

/- THE SECOND FORM. 'bulk': how many values and letters a reading holds, each counted each time it is reached (what is shared counts as often as it is met; a slice's spare places count too). A statement '..UptoSaid' is the law's where the arguments, and the package variables that the reading takes, are together of bulk at most 1048576: NARROWER than '..Said'. Prove '..Said' where nothing that the law and all that it calls make is longer than what came in: it says more and counts as full. Else prove '..UptoSaid'. A law counts once. -/
mutual
def uptoBulk {H : Type} : DataW H → Nat
  | .lit (.string bytes) => bytes.length + 1
  | .lit _ => 1
  | .nil => 1
  | .ptr d => uptoBulk d + 1
  | .slice elems spare => uptoBulkAll elems + uptoBulkAll spare + 1
  | .agg parts => uptoBulkAll parts + 1
  | .iface _ d => uptoBulk d + 1
  | .map entries => uptoBulkEntries entries + 1
  | .held _ => 1
def uptoBulkAll {H : Type} : List (DataW H) → Nat
  | [] => 0
  | d :: r => uptoBulk d + uptoBulkAll r
def uptoBulkEntries {H : Type} : List (Lit × DataW H) → Nat
  | [] => 0
  | x :: r => uptoBulkEntry x + uptoBulkEntries r
def uptoBulkEntry {H : Type} : Lit × DataW H → Nat
  | (.string bytes, d) => bytes.length + uptoBulk d + 1
  | (_, d) => uptoBulk d + 1
 end
def uptoSmall : (H : Type) → List (DataW H) → Bool := fun _ ds => decide (uptoBulkAll ds ≤ 1048576)
def OpenSpec.upto (s : _root_.Go.ChangeSpec) : _root_.Go.OpenSpec := { _root_.Go.OpenSpec.ofChange s with cond := some uptoSmall }

/-- 'doorwardlaw19.LifeIdle', WHERE WHAT IT READS IS OF BULK AT MOST 1048576: true; the input reads as it did. -/
def lifeIdleUptoRow : OpenClaim := { program := "ytckmnjeibikeeaa", sum := "0e332a76bef69c60db704b68b4f78944c5f2a7cc2791a230cf5673654db33959", func := "doorward/doorwardlaw19.LifeIdle", spec := "lifeIdle", inPlace := ["math/bits.Add64"], unfollowed := true, recurses := true, apart := false, narrowed := true }
def LifeIdleUptoSaid : Prop := lifeIdleUptoRow.holds Try.pinned (OpenSpec.upto lifeIdleSpec)

/-- 'doorwardlaw19.LifeNever', WHERE WHAT IT READS IS OF BULK AT MOST 1048576: true; the input reads as it did. -/
def lifeNeverUptoRow : OpenClaim := { program := "ytckmnjeibikeeaa", sum := "0e332a76bef69c60db704b68b4f78944c5f2a7cc2791a230cf5673654db33959", func := "doorward/doorwardlaw19.LifeNever", spec := "lifeNever", inPlace := ["math/bits.Add64"], unfollowed := true, recurses := true, apart := false, narrowed := true }
def LifeNeverUptoSaid : Prop := lifeNeverUptoRow.holds Try.pinned (OpenSpec.upto lifeNeverSpec)

/-- 'doorwardlaw19.LifeRestarts', WHERE WHAT IT READS IS OF BULK AT MOST 1048576: true; the input reads as it did. -/
def lifeRestartsUptoRow : OpenClaim := { program := "ytckmnjeibikeeaa", sum := "0e332a76bef69c60db704b68b4f78944c5f2a7cc2791a230cf5673654db33959", func := "doorward/doorwardlaw19.LifeRestarts", spec := "lifeRestarts", inPlace := ["math/bits.Add64"], unfollowed := true, recurses := true, apart := false, narrowed := true }
def LifeRestartsUptoSaid : Prop := lifeRestartsUptoRow.holds Try.pinned (OpenSpec.upto lifeRestartsSpec)

/-- 'doorwardlaw19.LifeKeeps', WHERE WHAT IT READS IS OF BULK AT MOST 1048576: true; the input reads as it did. -/
def lifeKeepsUptoRow : OpenClaim := { program := "ytckmnjeibikeeaa", sum := "0e332a76bef69c60db704b68b4f78944c5f2a7cc2791a230cf5673654db33959", func := "doorward/doorwardlaw19.LifeKeeps", spec := "lifeKeeps", inPlace := ["math/bits.Add64"], unfollowed := true, recurses := true, apart := false, narrowed := true }
def LifeKeepsUptoSaid : Prop := lifeKeepsUptoRow.holds Try.pinned (OpenSpec.upto lifeKeepsSpec)

/-- 'doorwardlaw19.LifeAnswers', WHERE WHAT IT READS IS OF BULK AT MOST 1048576: true; the input reads as it did. -/
def lifeAnswersUptoRow : OpenClaim := { program := "ytckmnjeibikeeaa", sum := "0e332a76bef69c60db704b68b4f78944c5f2a7cc2791a230cf5673654db33959", func := "doorward/doorwardlaw19.LifeAnswers", spec := "lifeAnswers", inPlace := ["math/bits.Add64"], unfollowed := true, recurses := true, apart := false, narrowed := true }
def LifeAnswersUptoSaid : Prop := lifeAnswersUptoRow.holds Try.pinned (OpenSpec.upto lifeAnswersSpec)

/-- 'doorwardlaw19.LifeEnds', WHERE WHAT IT READS IS OF BULK AT MOST 1048576: true; the input reads as it did. -/
def lifeEndsUptoRow : OpenClaim := { program := "ytckmnjeibikeeaa", sum := "0e332a76bef69c60db704b68b4f78944c5f2a7cc2791a230cf5673654db33959", func := "doorward/doorwardlaw19.LifeEnds", spec := "lifeEnds", inPlace := ["math/bits.Add64"], unfollowed := true, recurses := true, apart := false, narrowed := true }
def LifeEndsUptoSaid : Prop := lifeEndsUptoRow.holds Try.pinned (OpenSpec.upto lifeEndsSpec)

/-- 'doorwardlaw19.LifeActs', WHERE WHAT IT READS IS OF BULK AT MOST 1048576: true; the input reads as it did. -/
def lifeActsUptoRow : OpenClaim := { program := "ytckmnjeibikeeaa", sum := "0e332a76bef69c60db704b68b4f78944c5f2a7cc2791a230cf5673654db33959", func := "doorward/doorwardlaw19.LifeActs", spec := "lifeActs", inPlace := ["math/bits.Add64"], unfollowed := true, recurses := true, apart := false, narrowed := true }
def LifeActsUptoSaid : Prop := lifeActsUptoRow.holds Try.pinned (OpenSpec.upto lifeActsSpec)

end Rows
end Go.Proofs.Ytckmnjeibikeeaa
