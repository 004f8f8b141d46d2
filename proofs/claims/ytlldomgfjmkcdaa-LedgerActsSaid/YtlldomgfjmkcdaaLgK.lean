/- Layer 15's ledger, walked: Drop. -/
import Derived.Test.YtlldomgfjmkcdaaRows
import Derived.Test.YtlldomgfjmkcdaaAid
import Derived.Test.YtlldomgfjmkcdaaLgW
import Derived.Test.YtlldomgfjmkcdaaLgE
import Derived.Test.YtlldomgfjmkcdaaLgJ
import Derived.Shelf.Abstract
namespace Go.Proofs.Ytlldomgfjmkcdaa
open Go Go.RowKit
set_option linter.unusedVariables false
set_option linter.unusedSimpArgs false

set_option maxHeartbeats 1000000 in
theorem drop1_any (cs : Array Value) (w : World) : Calls Try.prog 34 (#[.agg cs] ++ #[]) w fun e w' => e = .returned (.bool true) ∧ Below w.heap.size w w' := by
  go_enter Try.func34, Try.ntmps34
  go_wp2
  go_ret
  exact ⟨rfl, by first | exact Below.refl _ _ | exact (Below.refl _ _).alloc (Nat.le_refl _) _⟩

set_option maxHeartbeats 1000000 in
theorem drop_any (a base : Nat) (v : Value) (x : LS) (w : World) (h : StV w base a v x) (hn : x.l.length ≤ 1000) :
    Calls Try.prog 16 #[.pointer (some ⟨a, 0, none⟩)] w fun e w' => e = .returned (.int .i64 (x.l.length : Int)) ∧ ∃ gv, PartR w w' base a v x (fun _ => true) gv := by
  have eg : ∀ args w, (callFunc 34 args).run Try.prog w = .ok (.enter 34 args) w := enters_of Try.func34 (by kernel_rfl) rfl
  have HP := Lib.hid (part_any a base 34 #[] (fun _ => true) v x w eg h hn (fun p _ gR _ V _ _ _ _ => drop1_any _ V))
  have hf : (x.l.filter fun _ => true).length = x.l.length := by rw [List.filter_eq_self.2 (fun _ _ => rfl)]
  have HF := Lib.hid hf
  clear h hf eg
  go_enter Try.func16, Try.ntmps16
  go_wp2_with fail
  refine HP.out.mono ?_
  rintro e w' ⟨gv, rfl, hR⟩
  obtain ⟨A, c, rfl, _, _, _, _, _⟩ := ownS_rb hR.gone
  have HR := Lib.hid hR
  rw [HF.out] at HR ⊢
  clear hR
  go_wp2
  go_ret
  exact ⟨rfl, _, HR.out⟩
end Go.Proofs.Ytlldomgfjmkcdaa
