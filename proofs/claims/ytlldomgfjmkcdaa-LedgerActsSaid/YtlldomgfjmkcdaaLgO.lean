/- Layer 15's ledger, walked: is a number in ranges. -/
import Derived.Test.YtlldomgfjmkcdaaRows
import Derived.Test.YtlldomgfjmkcdaaAid
import Derived.Test.YtlldomgfjmkcdaaLgW
import Derived.Test.YtlldomgfjmkcdaaLgE
import Derived.Test.YtlldomgfjmkcdaaLgN
import Derived.Shelf.Abstract
namespace Go.Proofs.Ytlldomgfjmkcdaa
open Go Go.RowKit
set_option linter.unusedVariables false
set_option linter.unusedSimpArgs false

/-- Ranges that lie at an address. -/
def RbR (w : World) (A : Option Addr) (l : List (Nat × Nat)) : Prop := 0 < l.length → ∃ b o, A = some ⟨b, o, none⟩ ∧ b < w.heap.size ∧ ∀ i, i < l.length → w.cell? ⟨b, o + i * 2, none⟩ = some (.int .u64 (((l.getD i (0, 0)).1 : Nat) : Int)) ∧ w.cell? ⟨b, o + i * 2 + 1, none⟩ = some (.int .u64 (((l.getD i (0, 0)).2 : Nat) : Int))
theorem RbR.below {w w' : World} {A : Option Addr} {l : List (Nat × Nat)} (h : RbR w A l) (hb : Below w.heap.size w w') : RbR w' A l := fun hp => by
  obtain ⟨b, o, e, h1, h2⟩ := h hp
  exact ⟨b, o, e, Nat.lt_of_lt_of_le h1 hb.size, fun i hi => ⟨(World.cell?_of_block (a := ⟨b, o + i * 2, none⟩) (hb.block b h1)).trans (h2 i hi).1, (World.cell?_of_block (a := ⟨b, o + i * 2 + 1, none⟩) (hb.block b h1)).trans (h2 i hi).2⟩⟩

set_option maxHeartbeats 2000000 in
theorem containsR_any (b num : Nat) (A : Option Addr) (n c : Nat) (l : List (Nat × Nat)) (W : World) (h0 : W.cell? ⟨b, 0, none⟩ = some (.int .i64 (num : Int))) (hnum : num ≤ 1000000) (hl : l.length = n) (hn : n ≤ 1000000) (hR : RbR W A l) (hb : ∀ r ∈ l, r.1 ≤ 18446744073709551615 ∧ r.2 ≤ 18446744073709551615) :
    Calls Try.prog 41 #[.slice A n c, .func (.func 30) #[] #[.pointer (some ⟨b, 0, none⟩)]] W fun e W' => ∃ q : Int, e = .returned (.int .i64 q) ∧ (decide (0 ≤ q) = l.any (inR num)) ∧ q ≤ 1000000 ∧ -1 ≤ q ∧ Below W.heap.size W W' := by
  have ep : ∀ args w, (callFunc 30 args).run Try.prog w = .ok (.enter 30 args) w := enters_of Try.func30 (by kernel_rfl) rfl
  have H0 := Lib.hid h0
  have HR := Lib.hid hR
  have HB := Lib.hid hb
  have HLN := Lib.hid hl
  clear h0 hR hb hl
  go_enter Try.func41, Try.ntmps41
  go_wp2
  go_loopw [5, 8] (fun _ i wr => ∃ k : Nat, k ≤ n ∧ i = .int .i64 (k : Int) ∧ (l.take k).any (inR num) = false ∧ Below W.heap.size W wr) (fun _ i _ => n - (intOf i).toNat)
  case atStart => exact ⟨0, by omega, rfl, rfl, Below.refl _ _⟩
  case round =>
    obtain ⟨k, hk, rfl, hf, hbr⟩ := hrel
    have HF := Lib.hid hf
    have HBR := Lib.hid hbr
    by_cases hlt : k < n
    · have hki : (k : Int) < (n : Int) := by omega
      have hkl : k < l.length := by rw [HLN.out]; exact hlt
      obtain ⟨g, o, rfl, hg, hcell⟩ := (HR.out.below hbr) (by omega)
      obtain ⟨f0, f1⟩ := hcell k hkl
      have hmem : l.getD k (0, 0) ∈ l := by rw [List.getD_eq_getElem?_getD, List.getElem?_eq_getElem hkl]; exact List.getElem_mem _
      have hbd := HB.out _ hmem
      have htk : l.take (k + 1) = l.take k ++ [l.getD k (0, 0)] := by rw [List.take_succ_eq_append_getElem hkl, List.getD_eq_getElem?_getD, List.getElem?_eq_getElem hkl]; rfl
      have hany : ∀ h : inR num (l.getD k (0, 0)) = true, l.any (inR num) = true := fun h => List.any_eq_true.2 ⟨_, hmem, h⟩
      have hc0 : wr.cell? ⟨b, 0, none⟩ = some (.int .i64 (num : Int)) := (World.cell?_of_block (a := ⟨b, 0, none⟩) (hbr.block b (World.block_lt_of_cell? W _ H0.out))).trans H0.out
      generalize l.getD k (0, 0) = r at *
      obtain ⟨lo, hi⟩ := r
      dsimp only at f0 f1 hbd
      have HP := Lib.hid (ack11_any b num lo hi wr hc0 hnum hbd.1 hbd.2)
      have HTK := Lib.hid htk
      have HAN := Lib.hid hany
      clear hmem htk hany hc0 hcell hf hbr
      cases hq : inR num (lo, hi) with
      | true =>
        rw [hq] at HP
        have HQ := Lib.hid hq
        clear hq
        go_wp2_with fail
        refine HP.out.mono ?_
        rintro e W2 ⟨rfl, hb2⟩
        go_wp2
        go_ret
        exact ⟨_, rfl, by rw [HAN.out HQ.out]; simp, by omega, by omega, HBR.out.trans (hb2.mono HBR.out.size)⟩
      | false =>
        rw [hq] at HP
        have HQ := Lib.hid hq
        clear hq
        go_wp2_with fail
        refine HP.out.mono ?_
        rintro e W2 ⟨rfl, hb2⟩
        go_wp2
        go_roundw
        case rel => exact ⟨k + 1, by omega, by go_num, by rw [HTK.out, List.any_append, HF.out]; simp [HQ.out], HBR.out.trans (hb2.mono HBR.out.size)⟩
        case measure => simp [intOf]; omega
    · obtain rfl : k = n := by omega
      have ht : l.take k = l := List.take_of_length_le (by rw [HLN.out]; exact Nat.le_refl _)
      rw [ht] at HF
      clear hf hbr ht
      go_wp2
      go_ret
      exact ⟨-1, rfl, by rw [HF.out]; decide, by omega, by omega, HBR.out⟩
end Go.Proofs.Ytlldomgfjmkcdaa
