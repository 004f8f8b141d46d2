/- Layer 15's ledger, walked: slices.IndexFunc at packets with the closure that parts them. -/
import Derived.Test.YtlldomgfjmkcdaaRows
import Derived.Test.YtlldomgfjmkcdaaAid
import Derived.Test.YtlldomgfjmkcdaaLgW
import Derived.Test.YtlldomgfjmkcdaaLgA
import Derived.Test.YtlldomgfjmkcdaaLgB
import Derived.Test.YtlldomgfjmkcdaaLgC
import Derived.Test.YtlldomgfjmkcdaaLgD
import Derived.Test.YtlldomgfjmkcdaaLgE
import Derived.Shelf.Abstract
namespace Go.Proofs.Ytlldomgfjmkcdaa
open Go Go.RowKit
set_option linter.unusedVariables false
set_option linter.unusedSimpArgs false

/-- The packets' cells in a row. -/
def RowC (W : World) (gR : Nat) (l : List PS) : Prop := ∀ i, i < l.length → W.cell? ⟨gR, i * 5, none⟩ = some (.int .i64 ((l.getD i default).num : Int)) ∧ W.cell? ⟨gR, i * 5 + 1, none⟩ = some (.int .u64 ((l.getD i default).tm : Int)) ∧
      W.cell? ⟨gR, i * 5 + 2, none⟩ = some (.int .i64 ((l.getD i default).sz : Int)) ∧ W.cell? ⟨gR, i * 5 + 3, none⟩ = some (.bool (l.getD i default).ask) ∧ W.cell? ⟨gR, i * 5 + 4, none⟩ = some (.slice (l.getD i default).fa (l.getD i default).fn (l.getD i default).fc)
theorem RowC.to {W W' : World} {gR : Nat} {l : List PS} (h : RowC W gR l) (hk : W'.heap[gR]? = W.heap[gR]?) : RowC W' gR l := fun i hi => by
  obtain ⟨f0, f1, f2, f3, f4⟩ := h i hi
  exact ⟨(World.cell?_of_block (a := ⟨gR, i * 5, none⟩) hk).trans f0, (World.cell?_of_block (a := ⟨gR, i * 5 + 1, none⟩) hk).trans f1, (World.cell?_of_block (a := ⟨gR, i * 5 + 2, none⟩) hk).trans f2, (World.cell?_of_block (a := ⟨gR, i * 5 + 3, none⟩) hk).trans f3, (World.cell?_of_block (a := ⟨gR, i * 5 + 4, none⟩) hk).trans f4⟩
theorem PJ.row {wp W W' : World} {D gR bx bg : Nat} {gV gv : Value} {gone : List PS} (h : PJ wp D gR bx bg gV gone gv W) (u : UpdO bg gv.ownBlock W W') : W'.heap[gR]? = W.heap[gR]? :=
  u.block gR (Nat.lt_of_lt_of_le h.lt.2.2.2.2.2 h.le) h.lt.2.2.2.1 (fun e => by have := (h.own.lt gR e.symm).1; have := h.lt.2.2.2.2.2; omega)

set_option maxRecDepth 100000 in
set_option maxHeartbeats 2000000 in
theorem index_any (wp : World) (D gR bx bg gid : Nat) (cap : Array Value) (Pd : PS → Bool) (l : List PS) (n c : Nat) (gv : Value) (W : World) (eg : ∀ args w, (callFunc gid args).run Try.prog w = .ok (.enter gid args) w)
    (h : PJ wp D gR bx bg (.func (.func gid) #[] cap) [] gv W) (hl : l.length = n) (hn : n ≤ 1000) (hr : RowC W gR l) (ha : ∀ p ∈ l, Asks wp D gR bg gid cap Pd p) :
    Calls Try.prog 46 #[.slice (some ⟨gR, 0, none⟩) n c, .func (.func 40) #[] #[.pointer (some ⟨bx, 0, none⟩), .pointer (some ⟨bg, 0, none⟩)]] W fun e W' =>
      ∃ k gv', (∀ j, j < k → Pd (l.getD j default) = false) ∧ W'.heap[gR]? = W.heap[gR]? ∧
        ((k = n ∧ e = .returned (.int .i64 (-1)) ∧ PJ wp D gR bx bg (.func (.func gid) #[] cap) [] gv' W') ∨
         (k < n ∧ e = .returned (.int .i64 (k : Int)) ∧ Pd (l.getD k default) = true ∧ PJ wp D gR bx bg (.func (.func gid) #[] cap) [l.getD k default] gv' W')) := by
  have ep : ∀ args w, (callFunc 40 args).run Try.prog w = .ok (.enter 40 args) w := enters_of Try.func40 (by kernel_rfl) rfl
  have HJ := Lib.hid h
  have HR := Lib.hid hr
  have HA := Lib.hid ha
  have HEG := Lib.hid eg
  have HLN := Lib.hid hl
  clear h hr ha eg hl
  go_enter Try.func46, Try.ntmps46
  go_wp2
  go_loopw [5, 8] (fun _ i wr => ∃ (k : Nat) (gv' : Value), k ≤ n ∧ i = .int .i64 (k : Int) ∧ (∀ j, j < k → Pd (l.getD j default) = false) ∧ wr.heap[gR]? = W.heap[gR]? ∧ PJ wp D gR bx bg (.func (.func gid) #[] cap) [] gv' wr) (fun _ i _ => n - (intOf i).toNat)
  case atStart => exact ⟨0, gv, by omega, rfl, fun j hj => by omega, rfl, HJ.out⟩
  case round =>
    obtain ⟨k, gv', hk, rfl, hf, hrow, hJ⟩ := hrel
    have HF := Lib.hid hf
    have HROW := Lib.hid hrow
    have HJ2 := Lib.hid hJ
    clear hf hrow hJ
    by_cases hlt : k < n
    · have hki : (k : Int) < (n : Int) := by omega
      have hkl : k < l.length := by rw [HLN.out]; exact hlt
      obtain ⟨f0, f1, f2, f3, f4⟩ := (HR.out.to HROW.out) k hkl
      have hmem : l.getD k default ∈ l := by rw [List.getD_eq_getElem?_getD, List.getElem?_eq_getElem hkl]; exact List.getElem_mem _
      have HP := Lib.hid (part1_any wp D gR bx bg gid cap Pd (l.getD k default) [] gv' wr HEG.out HJ2.out (HA.out _ hmem) (by simp))
      obtain ⟨p, hp⟩ : ∃ p, l.getD k default = p := ⟨_, rfl⟩
      rw [hp] at f0 f1 f2 f3 f4 HP
      have HPP := Lib.hid hp
      obtain ⟨b, hb⟩ : ∃ b, Pd p = b := ⟨_, rfl⟩
      rw [hb] at HP
      have HB := Lib.hid hb
      clear hmem hp hb
      cases b with
      | true =>
        go_wp2_with fail
        refine HP.out.mono ?_
        rintro e W2 ⟨rfl, gv2, h2, hu, hf2⟩
        go_wp2
        go_ret
        exact ⟨k, gv2, HF.out, (HJ2.out.row hu).trans HROW.out, .inr ⟨hlt, rfl, by rw [HPP.out]; exact HB.out, by rw [HPP.out]; exact h2⟩⟩
      | false =>
        go_wp2_with fail
        refine HP.out.mono ?_
        rintro e W2 ⟨rfl, gv2, h2, hu, hf2⟩
        go_wp2
        go_roundw
        case rel => exact ⟨k + 1, gv2, by omega, by go_num, fun j hj => by
          by_cases e : j = k
          · subst e; rw [HPP.out]; exact HB.out
          · exact HF.out j (by omega), (HJ2.out.row hu).trans HROW.out, h2⟩
        case measure => simp [intOf]; omega
    · obtain rfl : k = n := by omega
      go_wp2
      go_ret
      exact ⟨k, gv', HF.out, HROW.out, .inl ⟨rfl, rfl, HJ2.out⟩⟩
end Go.Proofs.Ytlldomgfjmkcdaa
