/- Layer 15's ledger, walked: what Ack asks of a packet. -/
import Derived.Test.YtlldomgfjmkcdaaRows
import Derived.Test.YtlldomgfjmkcdaaAid
import Derived.Test.YtlldomgfjmkcdaaLgW
import Derived.Test.YtlldomgfjmkcdaaLgE
import Derived.Test.YtlldomgfjmkcdaaLgN
import Derived.Test.YtlldomgfjmkcdaaLgO
import Derived.Shelf.Abstract
namespace Go.Proofs.Ytlldomgfjmkcdaa
open Go Go.RowKit
set_option linter.unusedVariables false
set_option linter.unusedSimpArgs false

set_option maxHeartbeats 1000000 in
theorem containsF_any (b num : Nat) (A : Option Addr) (n c : Nat) (l : List (Nat × Nat)) (W : World) (h0 : W.cell? ⟨b, 0, none⟩ = some (.int .i64 (num : Int))) (hnum : num ≤ 1000000) (hl : l.length = n) (hn : n ≤ 1000000) (hR : RbR W A l) (hb : ∀ r ∈ l, r.1 ≤ 18446744073709551615 ∧ r.2 ≤ 18446744073709551615) :
    Calls Try.prog 29 #[.slice A n c, .func (.func 30) #[] #[.pointer (some ⟨b, 0, none⟩)]] W fun e W' => e = .returned (.bool (l.any (inR num))) ∧ Below W.heap.size W W' := by
  have HI := Lib.hid (containsR_any b num A n c l W h0 hnum hl hn hR hb)
  clear h0 hR hb hl
  go_enter Try.func29, Try.ntmps29
  go_wp2_with fail
  refine HI.out.mono ?_
  rintro e W2 ⟨q, rfl, hq, q1, q2, hb2⟩
  have HQ := Lib.hid hq
  clear hq
  go_wp2
  go_ret
  exact ⟨by rw [← HQ.out]; first | rfl | simp, hb2⟩

set_option maxHeartbeats 1000000 in
theorem ack1_any (br : Nat) (p : PS) (A : Option Addr) (n c : Nat) (l : List (Nat × Nat)) (W : World) (h0 : W.cell? ⟨br, 0, none⟩ = some (.slice A n c)) (hnum : p.num ≤ 1000000) (hl : l.length = n) (hn : n ≤ 1000000) (hR : RbR W A l) (hb : ∀ r ∈ l, r.1 ≤ 18446744073709551615 ∧ r.2 ≤ 18446744073709551615) :
    Calls Try.prog 28 (#[.agg #[.int .i64 (p.num : Int), .int .u64 (p.tm : Int), .int .i64 (p.sz : Int), .bool p.ask, .slice p.fa p.fn p.fc]] ++ #[.pointer (some ⟨br, 0, none⟩)]) W fun e W' => e = .returned (.bool (l.any (inR p.num))) ∧ Below W.heap.size W W' := by
  obtain ⟨num, tm, sz, ask, fa, fn, fc⟩ := p
  dsimp only at hnum ⊢
  obtain ⟨S, hS⟩ : ∃ S, W.heap.size = S := ⟨_, rfl⟩
  obtain ⟨V1, hV1⟩ : ∃ V1, W.alloc (.cells #[.int .i64 (num : Int), .int .u64 (tm : Int), .int .i64 (sz : Int), .bool ask, .slice fa fn fc] 32) = V1 := ⟨_, rfl⟩
  have hb1 : Below W.heap.size W V1 := hV1 ▸ (Below.refl _ W).alloc (Nat.le_refl _) _
  have o1 : Obj V1 S 32 #[.int .i64 (num : Int), .int .u64 (tm : Int), .int .i64 (sz : Int), .bool ask, .slice fa fn fc] := hV1 ▸ hS ▸ Obj.new W _ _
  have k0 : V1.cell? ⟨br, 0, none⟩ = some (.slice A n c) := (World.cell?_of_block (a := ⟨br, 0, none⟩) (hb1.block br (World.block_lt_of_cell? W _ h0))).trans h0
  have HC := Lib.hid (containsF_any S num A n c l V1 (by rw [o1.cell]; rfl) hnum hl hn (hR.below hb1) hb)
  have HB := Lib.hid hb1
  clear h0 hR hb hl hb1 o1
  go_enter Try.func28, Try.ntmps28
  go_wp2_with fail
  refine HC.out.mono ?_
  rintro e W2 ⟨rfl, hb2⟩
  go_wp2
  go_ret
  exact ⟨rfl, HB.out.trans (hb2.mono HB.out.size)⟩
end Go.Proofs.Ytlldomgfjmkcdaa
