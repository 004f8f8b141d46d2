/- Layer 15's ledger, walked: Due. -/
import Derived.Test.YtlldomgfjmkcdaaRows
import Derived.Test.YtlldomgfjmkcdaaAid
import Derived.Test.YtlldomgfjmkcdaaLgW
import Derived.Test.YtlldomgfjmkcdaaLgA
import Derived.Test.YtlldomgfjmkcdaaLgB
import Derived.Test.YtlldomgfjmkcdaaLgT
import Derived.Deep.QuietTactic
import Derived.BigQuiet
namespace Go.Proofs.Ytlldomgfjmkcdaa
open Go Go.RowKit
set_option linter.unusedVariables false
set_option linter.unusedSimpArgs false

/-- The least time at which one would be lost. -/
def dueS (ak d : Nat) (t : Nat) (p : PS) : Nat := if p.num + 1 < ak then min t (tadd p.tm d) else t
def dueL (l : List PS) (ak d : Nat) : Nat := l.foldl (dueS ak d) 18446744073709551615
theorem below_drewN {B : Nat} {w0 w : World} (h : Below B w0 w) (q : Nat) : Below B w0 (w.drewN q) := ⟨h.os, h.tape, h.output, h.size, h.block⟩
theorem dueL_le (l : List PS) (ak d : Nat) : dueL l ak d ≤ 18446744073709551615 := by
  unfold dueL
  suffices ∀ t, t ≤ 18446744073709551615 → l.foldl (dueS ak d) t ≤ 18446744073709551615 from this _ (Nat.le_refl _)
  induction l with
  | nil => exact fun t h => h
  | cons p r ih =>
    intro t h
    refine ih _ ?_
    unfold dueS
    split
    · exact Nat.le_trans (Nat.min_le_left ..) h
    · exact h

set_option maxHeartbeats 2000000 in
theorem due_any (a base d : Nat) (v : Value) (x : LS) (w : World) (h : StV w base a v x) (hn : x.l.length ≤ 1000) (hd : d ≤ 18446744073709551615) (ht : ∀ p ∈ x.l, p.tm ≤ 18446744073709551615 ∧ p.num ≤ 1000000) (hx : x.acked ≤ 1000000) :
    Calls Try.prog 15 #[.pointer (some ⟨a, 0, none⟩), .int .u64 (d : Int)] w fun e w' => e = .returned (.int .u64 ((dueL x.l x.acked d : Nat) : Int)) ∧ Below w.heap.size w w' := by
  have HC := Lib.hid (list_any a base v x w h hn)
  have HS := Lib.hid ht
  have HA := Lib.hid h.obj
  clear h ht
  obtain ⟨l, hl⟩ : ∃ l, x.l = l := ⟨_, rfl⟩
  rw [hl] at HC HS hn ⊢
  clear hl
  obtain ⟨nx, hnx⟩ : ∃ nx, x.next = nx := ⟨_, rfl⟩
  obtain ⟨ak, hak⟩ : ∃ ak, x.acked = ak := ⟨_, rfl⟩
  rw [hak] at HA hx ⊢
  rw [hnx] at HA
  clear hnx hak
  obtain ⟨n, hln⟩ : ∃ n, l.length = n := ⟨_, rfl⟩
  rw [hln] at HC hn
  have HLN := Lib.hid hln
  have HD := Lib.hid hd
  clear hln hd
  go_enter Try.func15, Try.ntmps15
  go_wp2_with fail
  refine HC.out.mono ?_
  rintro e w1 ⟨v1, rfl, ho, hb⟩
  obtain ⟨A, c, rfl, _, _, _, _, _⟩ := ownS_rb ho
  have HO := Lib.hid ho
  have HB := Lib.hid hb
  have HA1 := Lib.hid (HA.out.kept hb)
  clear ho hb
  go_wp2
  go_loopw [5, 7, 11] (fun t _ i wr => ∃ k : Nat, k ≤ n ∧ i = .int .i64 (k : Int) ∧ t = .int .u64 ((dueL (l.take k) ak d : Nat) : Int) ∧ Below w1.heap.size w1 wr) (fun _ _ i _ => n - (intOf i).toNat)
  case atStart => exact ⟨0, by omega, rfl, by rfl, Below.refl _ _⟩
  case round =>
    obtain ⟨k, hk, rfl, rfl, hbr⟩ := hrel
    have HBR := Lib.hid hbr
    by_cases hlt : k < n
    · have hki : (k : Int) < (n : Int) := by omega
      have hkl : k < l.length := by rw [HLN.out]; exact hlt
      obtain ⟨g, c', e, _, hg, f0, f1, f2, f3, f4⟩ := ownS_cells (ownS_kept HO.out hbr) hkl
      cases e
      have hmem : l.getD k default ∈ l := by rw [List.getD_eq_getElem?_getD, List.getElem?_eq_getElem hkl]; exact List.getElem_mem _
      have hsz := HS.out _ hmem
      have hc1 : dueL (l.take (k + 1)) ak d = dueS ak d (dueL (l.take k) ak d) (l.getD k default) := by unfold dueL; rw [take_next l k hkl, List.foldl_append]; rfl
      have htb := dueL_le (l.take k) ak d
      have fa : (wr.alloc (.cells #[.int .i64 ((l.getD k default).num : Int), .int .u64 ((l.getD k default).tm : Int), .int .i64 ((l.getD k default).sz : Int), .bool (l.getD k default).ask, .slice (l.getD k default).fa (l.getD k default).fn (l.getD k default).fc] 32)).cell? ⟨a, 2, none⟩ = some (.int .i64 (ak : Int)) := by
        rw [((HA1.out.kept hbr).alloc _).cell]; rfl
      have fa0 : wr.cell? ⟨a, 2, none⟩ = some (.int .i64 (ak : Int)) := by rw [(HA1.out.kept hbr).cell]; rfl
      have hal : a < wr.heap.size := (HA1.out.kept hbr).lt
      have hBA : Below w1.heap.size w1 (wr.alloc (.cells #[.int .i64 ((l.getD k default).num : Int), .int .u64 ((l.getD k default).tm : Int), .int .i64 ((l.getD k default).sz : Int), .bool (l.getD k default).ask, .slice (l.getD k default).fa (l.getD k default).fn (l.getD k default).fc] 32)) := hbr.alloc hbr.size _
      have HBA := Lib.hid hBA
      generalize l.getD k default = p at *
      clear hbr hmem hBA
      obtain ⟨num, tm, sz, ask, fa', fn, fc⟩ := p
      dsimp only at f0 f1 f2 f3 f4 hsz HBA fa
      unfold dueS at hc1
      dsimp only at hc1
      generalize dueL (l.take k) ak d = t at *
      have e1 : IntKind.i64.wrap ((ak : Int) - 1) = (ak : Int) - 1 := by rw [IntKind.wrap_i64]; omega
      by_cases hlo : num + 1 < ak
      · rw [if_pos hlo] at hc1
        have hloi : (num : Int) < (ak : Int) - 1 := by omega
        have HT := Lib.hid (fun w => tadd_any tm d w hsz.1 HD.out)
        have htl := tadd_le tm d
        generalize tadd tm d = s at *
        have hmin : (if s < t then (s : Int) else (t : Int)) = ((min t s : Nat) : Int) := by split <;> omega
        have HC1 := Lib.hid hc1
        clear hc1
        go_wp2
        go_quiet (fail)
        rename_i nq
        have HB2 := Lib.hid (below_drewN HBA.out nq)
        clear HBA fa fa0
        have g1 : ((wr.alloc (.cells #[.int .i64 (num : Int), .int .u64 (tm : Int), .int .i64 (sz : Int), .bool ask, .slice fa' fn fc] 32)).drewN nq).cell? ⟨wr.heap.size, 1, none⟩ = some (.int .u64 (tm : Int)) := by
          rw [((Obj.new wr 32 #[.int .i64 (num : Int), .int .u64 (tm : Int), .int .i64 (sz : Int), .bool ask, .slice fa' fn fc]).drewN nq).cell]; rfl
        generalize (wr.alloc (.cells #[.int .i64 (num : Int), .int .u64 (tm : Int), .int .i64 (sz : Int), .bool ask, .slice fa' fn fc] 32)).drewN nq = w2 at *
        go_wp2_with (go_at_call 32; refine (HT.out _).mono ?_; rintro e w3 ⟨rfl, hb3⟩)
        go_roundw
        case rel => exact ⟨k + 1, by omega, by go_num, by rw [HC1.out, ← hmin], HB2.out.trans (hb3.mono HB2.out.size)⟩
        case measure => simp [intOf]; omega
      · rw [if_neg hlo] at hc1
        have hloi : ¬ (num : Int) < (ak : Int) - 1 := by omega
        have HC1 := Lib.hid hc1
        clear hc1
        go_wp2
        go_quiet (fail)
        rename_i nq
        have HB2 := Lib.hid (below_drewN HBA.out nq)
        clear HBA fa fa0
        generalize (wr.alloc (.cells #[.int .i64 (num : Int), .int .u64 (tm : Int), .int .i64 (sz : Int), .bool ask, .slice fa' fn fc] 32)).drewN nq = w2 at *
        go_wp2
        go_roundw
        case rel => exact ⟨k + 1, by omega, by go_num, by rw [HC1.out], HB2.out⟩
        case measure => simp [intOf]; omega
    · obtain rfl : k = n := by omega
      have ht : l.take k = l := List.take_of_length_le (by rw [HLN.out]; exact Nat.le_refl _)
      rw [ht]
      clear hbr ht
      go_wp2
      go_ret
      exact ⟨rfl, HB.out.trans (HBR.out.mono HB.out.size)⟩
end Go.Proofs.Ytlldomgfjmkcdaa
