/- Layer 15's ledger, walked: slices.Clone at packets, List, Next, Acked. -/
import Derived.Test.YtlldomgfjmkcdaaRows
import Derived.Test.YtlldomgfjmkcdaaAid
import Derived.Test.YtlldomgfjmkcdaaLgW
import Derived.Lib.SliceRun
import Derived.Lib.AppendZeros
import Derived.BigQuiet
namespace Go.Proofs.Ytlldomgfjmkcdaa
open Go Go.RowKit
set_option linter.unusedVariables false
set_option linter.unusedSimpArgs false

theorem eqNilS (w : World) (a : Option Addr) (n c n' c' : Nat) : (binOp .eql 25 (.slice a n c) (.slice none n' c')).run Try.prog w = .ok (.bool a.isNone) w := Lib.run_eql_slice_nil w _ _ a n c n' c' Try.underlying25

set_option maxHeartbeats 1000000 in
theorem clone_any (A : Option Addr) (n c : Nat) (l : List PS) (w : World) (hl : l.length = n) (hR : RbS w A l) (hn : n ≤ 1000) :
    Calls Try.prog 33 #[.slice A n c] w fun e w' => ∃ v, e = .returned v ∧ w'.ownsRow w.heap.size 32 5 v n (flatS l) ∧ Below w.heap.size w w' := by
  cases A with
  | none =>
    have h0 : l = [] := by
      rcases l with _ | ⟨p, t⟩
      · rfl
      · obtain ⟨_, _, e, _⟩ := hR (by simp); cases e
    subst h0
    obtain rfl : n = 0 := by simpa using hl.symm
    have hq := fun w => eqNilS w none 0 c 0 0
    clear hR hl
    go_enter Try.func33, Try.ntmps33
    go_wp2
    go_ret
    exact ⟨_, rfl, World.ownsRow_nil _ _ _ _, Below.refl _ _⟩
  | some ad =>
    have hq := fun w => eqNilS w (some ad) n c 0 0
    have hb1 : Below w.heap.size w (w.alloc (.cells #[] 32)) := (Below.refl _ w).alloc (Nat.le_refl _) _
    have hm : (w.alloc (.cells #[] 32)).ownsRow w.heap.size 32 5 (.slice (some ⟨w.heap.size, 0, none⟩) 0 0) 0 (flatS []) := World.ownsRow_made w #[] 0 (Nat.le_refl _) (Nat.zero_le _) rfl
    obtain ⟨v', w', h1, h2, h3⟩ := ownS_app (w.alloc (.cells #[] 32)) 25 hm ad n c l hl (by
      intro j u hj
      have hp : 0 < l.length := by
        rcases l with _ | ⟨p, t⟩
        · simp [flatS] at hj
        · simp
      obtain ⟨ad', e, hs⟩ := (hR.below hb1).src hp
      cases e
      exact hs j u hj) (by omega) (by simp)
    rw [Nat.zero_add, List.nil_append] at h2
    have hb2 := hb1.grown h3 (by simp) (fun k e => by cases e; exact Nat.le_refl _)
    have HR := Lib.hid h1
    have HO := Lib.hid h2
    have HB := Lib.hid hb2
    clear hR hl hb1 hm h1 h2 h3 hb2
    go_enter Try.func33, Try.ntmps33
    go_wp2_with (at_builtin; refine Lib.wpList_append_run _ rfl (.tmp 5) (.tmp 6) _ _ rfl _ _ rfl rfl _ _ HR.out ?_)
    go_ret
    exact ⟨_, rfl, HO.out, HB.out⟩

set_option maxHeartbeats 1000000 in
theorem list_any (a base : Nat) (v : Value) (x : LS) (w : World) (h : StV w base a v x) (hn : x.l.length ≤ 1000) :
    Calls Try.prog 12 #[.pointer (some ⟨a, 0, none⟩)] w fun e w' => ∃ v', e = .returned v' ∧ w'.ownsRow w.heap.size 32 5 v' x.l.length (flatS x.l) ∧ Below w.heap.size w w' := by
  have f0 : w.cell? ⟨a, 0, none⟩ = some v := by rw [h.obj.cell]; rfl
  obtain ⟨A, c, rfl, _, _, _, hR, _⟩ := ownS_rb h.own
  have HC := Lib.hid (clone_any A x.l.length c x.l w rfl hR hn)
  clear h hR
  go_enter Try.func12, Try.ntmps12
  go_wp2_with fail
  refine HC.out.mono ?_
  rintro e w1 ⟨v1, rfl, ho, hb⟩
  go_wp2
  go_ret
  exact ⟨_, rfl, ho, hb⟩

set_option maxHeartbeats 400000 in
theorem next_any (a base : Nat) (v : Value) (x : LS) (w : World) (h : StV w base a v x) :
    Calls Try.prog 13 #[.pointer (some ⟨a, 0, none⟩)] w fun e w' => e = .returned (.int .i64 (x.next : Int)) ∧ w = w' := by
  have f0 : w.cell? ⟨a, 1, none⟩ = some (.int .i64 (x.next : Int)) := by rw [h.obj.cell]; rfl
  clear h
  go_enter Try.func13, Try.ntmps13
  go_wp2
  go_ret
  exact ⟨rfl, rfl⟩

set_option maxHeartbeats 400000 in
theorem acked_any (a base : Nat) (v : Value) (x : LS) (w : World) (h : StV w base a v x) (hx : x.acked ≤ 1000000) :
    Calls Try.prog 18 #[.pointer (some ⟨a, 0, none⟩)] w fun e w' => e = .returned (.int .i64 ((x.acked : Int) - 1)) ∧ w = w' := by
  have f0 : w.cell? ⟨a, 2, none⟩ = some (.int .i64 (x.acked : Int)) := by rw [h.obj.cell]; rfl
  have e0 : IntKind.i64.wrap ((x.acked : Int) - 1) = (x.acked : Int) - 1 := by rw [IntKind.wrap_i64]; omega
  clear h
  go_enter Try.func18, Try.ntmps18
  go_wp2
  go_ret
  exact ⟨rfl, rfl⟩
end Go.Proofs.Ytlldomgfjmkcdaa
