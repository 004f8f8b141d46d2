/- Layer 15's ledger, walked: Lost. -/
import Derived.Test.YtlldomgfjmkcdaaRows
import Derived.Test.YtlldomgfjmkcdaaAid
import Derived.Test.YtlldomgfjmkcdaaLgW
import Derived.Test.YtlldomgfjmkcdaaLgE
import Derived.Test.YtlldomgfjmkcdaaLgJ
import Derived.Test.YtlldomgfjmkcdaaLgL
import Derived.Shelf.Abstract
namespace Go.Proofs.Ytlldomgfjmkcdaa
open Go Go.RowKit
set_option linter.unusedVariables false
set_option linter.unusedSimpArgs false

theorem PartR.from {w w1 w' : World} {base a : Nat} {v : Value} {x : LS} {Pd : PS → Bool} {gv : Value} (h : PartR w1 w' base a v x Pd gv) (hb : Below w.heap.size w w1) : PartR w w' base a v x Pd gv := by
  obtain ⟨v', h1, h2⟩ := h.ex
  exact ⟨own_base h.gone hb.size, ⟨v', h1, Fresh.mono h2 hb.size⟩, UpdO.below hb h.upd⟩

set_option maxHeartbeats 1000000 in
theorem lost_any (a base nw d : Nat) (v : Value) (x : LS) (w : World) (h : StV w base a v x) (hn : x.l.length ≤ 1000) (hak : x.acked ≤ 1000000) (hp : ∀ p ∈ x.l, p.num ≤ 1000000 ∧ p.tm ≤ 18446744073709551615) (hd : d ≤ 18446744073709551615) :
    Calls Try.prog 11 #[.pointer (some ⟨a, 0, none⟩), .int .u64 (nw : Int), .int .u64 (d : Int)] w fun e w' => ∃ gv, e = .returned gv ∧ PartR w w' base a v x (lostP x.acked d nw) gv := by
  have eg : ∀ args w, (callFunc 31 args).run Try.prog w = .ok (.enter 31 args) w := enters_of Try.func31 (by kernel_rfl) rfl
  obtain ⟨S, hS⟩ : ∃ S, w.heap.size = S := ⟨_, rfl⟩
  obtain ⟨W3, hW3⟩ : ∃ W3, ((w.alloc (.cells #[.pointer (some ⟨a, 0, none⟩)] 55)).alloc (.cells #[.int .u64 (nw : Int)] 29)).alloc (.cells #[.int .u64 (d : Int)] 29) = W3 := ⟨_, rfl⟩
  have hb : Below w.heap.size w W3 := hW3 ▸ (((Below.refl _ w).alloc (Nat.le_refl _) _).alloc (by simp) _).alloc (by simp; omega) _
  have hs3 : W3.heap.size = S + 3 := by rw [← hW3, ← hS]; simp
  have o0 : Obj W3 S 55 #[.pointer (some ⟨a, 0, none⟩)] := hW3 ▸ hS ▸ ((Obj.new w _ _).alloc _).alloc _
  have o1 : Obj W3 (S + 1) 29 #[.int .u64 (nw : Int)] := by
    have := (Obj.new (w.alloc (.cells #[.pointer (some ⟨a, 0, none⟩)] 55)) 29 #[.int .u64 (nw : Int)]).alloc (.cells #[.int .u64 (d : Int)] 29)
    rw [World.size_alloc, hS] at this
    exact hW3 ▸ this
  have o2 : Obj W3 (S + 1 + 1) 29 #[.int .u64 (d : Int)] := by
    have := Obj.new ((w.alloc (.cells #[.pointer (some ⟨a, 0, none⟩)] 55)).alloc (.cells #[.int .u64 (nw : Int)] 29)) 29 #[.int .u64 (d : Int)]
    simp only [World.size_alloc, hS] at this
    exact hW3 ▸ this
  have h3 := h.kept hb
  have hla := h.obj.lt
  have k0 : W3.cell? ⟨S, 0, none⟩ = some (.pointer (some ⟨a, 0, none⟩)) := by rw [o0.cell]; rfl
  have HP := Lib.hid (part_any a base 31 #[.pointer (some ⟨S, 0, none⟩), .pointer (some ⟨S + 1 + 1, 0, none⟩), .pointer (some ⟨S + 1, 0, none⟩)] (lostP x.acked d nw) v x W3 eg h3 hn (fun p hpm gR hg V e1 e2 e3 e4 => by
    have hgR := (h.own.lt gR hg)
    have hlt := h.lt
    have tr : ∀ (b : Nat) (T : TypeId) (cs : Array Value), Obj W3 b T cs → b ≠ gR → Obj V b T cs := fun b T cs ho hne => (e1 b ho.lt hne).trans ho
    exact lost1_any S (S + 1 + 1) (S + 1) a x.acked d nw p V (by rw [(tr _ _ _ o0 (by omega)).cell]; rfl) (by rw [(tr _ _ _ o2 (by omega)).cell]; rfl) (by rw [(tr _ _ _ o1 (by omega)).cell]; rfl) (by rw [(tr _ _ _ h3.obj (by omega)).cell]; rfl) hak (hp p hpm).1 (hp p hpm).2 hd))
  have HB := Lib.hid hb
  clear h h3 hp eg hb o0 o1 o2 hs3
  go_enter Try.func11, Try.ntmps11
  go_wp2_with fail
  refine HP.out.mono ?_
  rintro e w' ⟨gv, rfl, hR⟩
  have HR := Lib.hid (hR.from HB.out)
  clear hR
  go_wp2
  go_ret
  exact ⟨_, rfl, HR.out⟩
end Go.Proofs.Ytlldomgfjmkcdaa
