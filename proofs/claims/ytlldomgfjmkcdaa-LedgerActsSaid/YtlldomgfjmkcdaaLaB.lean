/- Layer 15: lists of frames that are the same, for the document. -/
import Derived.Test.YtlldomgfjmkcdaaRows
import Derived.Test.YtlldomgfjmkcdaaAid
import Derived.Test.YtlldomgfjmkcdaaLgW
import Derived.Test.YtlldomgfjmkcdaaLgD
import Derived.Test.YtlldomgfjmkcdaaLgO
import Derived.Test.YtlldomgfjmkcdaaLgZ
import Derived.Test.YtlldomgfjmkcdaaLgF2
import Derived.Test.YtlldomgfjmkcdaaLaA
import Derived.Test.YtlldomgfjmkcdaaTk
import Derived.BigQuiet
import Derived.Deep.QuietTactic
import Derived.Deep.RegionHeld3
import Derived.Deep.WholeRow
import Derived.Deep.MidRow
import Derived.Lib.Hide
namespace Go.Proofs.Ytlldomgfjmkcdaa
open Go Go.RowKit
set_option linter.unusedVariables false
set_option linter.unusedSimpArgs false

theorem FOk.beloww {w w' : World} {f : Frm} (h : FOk w f) (hb : Below w.heap.size w w') : FOk w' f := ⟨h.kind, h.nums, h.tl, h.toks, h.dl, h.bytes, h.db.below hb, h.dc, h.rl, h.rb.below hb, h.rng, h.rc⟩
theorem rangeAt_below {w w' : World} {b o : Nat} {cs : List Value} (h : w.rangeAt b o cs) (hb : Below w.heap.size w w') (hl : b < w.heap.size) : w'.rangeAt b o cs := fun j v hv => (World.cell?_of_block (a := ⟨b, o + j, none⟩) (hb.block b hl)).trans (h j v hv)
/-- Frames that lie at an address, one by one. -/
structure Fsl (w : World) (A : Option Addr) (n : Nat) (l : List Frm) : Prop where
  len : l.length = n
  at0 : 0 < n → ∃ b o, A = some ⟨b, o, none⟩ ∧ b < w.heap.size ∧ ∀ i, i < n → w.rangeAt b (o + i * 24) (fcells (l.getD i default))
theorem Fsl.below {w w' : World} {A : Option Addr} {n : Nat} {l : List Frm} (h : Fsl w A n l) (hb : Below w.heap.size w w') : Fsl w' A n l :=
  ⟨h.len, fun hp => by
    obtain ⟨b, o, e, h1, h2⟩ := h.at0 hp
    exact ⟨b, o, e, Nat.lt_of_lt_of_le h1 hb.size, fun i hi => rangeAt_below (h2 i hi) hb h1⟩⟩
theorem fcells_24 {f : Frm} (h : f.tok.length = 16) : (fcells f).length = 24 := by simp [fcells, h]
theorem flatF_get : ∀ l : List Frm, (∀ f ∈ l, f.tok.length = 16) → ∀ i, i < l.length → ∀ j, j < 24 → (flatF l)[i * 24 + j]? = (fcells (l.getD i default))[j]?
  | [], _, i, hi, _, _ => by simp at hi
  | f :: t, h, i, hi, j, hj => by
    have h16 := h f (by simp)
    have hfl : (fcells f).length = 24 := by simp [fcells, h16]
    cases i with
    | zero => rw [Nat.zero_mul, Nat.zero_add, flatF, List.getElem?_append_left (by omega)]; rfl
    | succ i =>
      rw [flatF, List.getElem?_append_right (by omega), hfl, show (i + 1) * 24 + j - 24 = i * 24 + j by omega, flatF_get t (fun g hg => h g (by simp [hg])) i (by simpa using hi) j hj]
      rfl
theorem Fsl.of {w : World} {A : Option Addr} {n : Nat} {l : List Frm} (h : FrAt w A n (flatF l)) (hl : l.length = n) (ht : ∀ f ∈ l, f.tok.length = 16) : Fsl w A n l :=
  ⟨hl, fun hp => by
    obtain ⟨b, o, e, h1, h2⟩ := h.at0 hp
    refine ⟨b, o, e, h1, fun i hi j v hv => ?_⟩
    have hj := (List.getElem?_eq_some_iff.1 hv).1
    have hm : l.getD i default ∈ l := getD_mem (by omega)
    have h24 : (fcells (l.getD i default)).length = 24 := fcells_24 (ht _ hm)
    rw [h24] at hj
    rw [← flatF_get l ht i (by omega) j hj] at hv
    rw [Nat.add_assoc]
    exact h2 _ v hv⟩
theorem info24 {w : World} {f : Frm} (h : FOk w f) : (Try.prog.info? 70).map (·.size) = some (fcells f).length := by rw [fcells_len h]; kernel_rfl

set_option maxRecDepth 100000 in
set_option maxHeartbeats 2000000 in
theorem list03_any (A B : Option Addr) (n c d : Nat) (l : List Frm) (w : World) (hA : Fsl w A n l) (hB : Fsl w B n l) (ho : ∀ f ∈ l, FOk w f ∧ FewF f) (hn : n ≤ 5) :
    Calls Try.prog 37 #[.slice A n c, .slice B n d] w fun e w' => e = .returned (.bool true) ∧ Below w.heap.size w w' := by
  have HA := Lib.hid hA
  have HB := Lib.hid hB
  have HO := Lib.hid ho
  clear hA hB ho
  go_enter Try.func37, Try.ntmps37
  go_wp2
  go_loopw [5] (fun i wr => ∃ k : Nat, k ≤ n ∧ i = .int .i64 k ∧ Below w.heap.size w wr) (fun i _ => n - (intOf i).toNat)
  case atStart => exact ⟨0, by omega, rfl, Below.refl _ _⟩
  case round =>
    obtain ⟨k, hk, rfl, hb⟩ := hrel
    have HBL := Lib.hid hb
    clear hb
    by_cases hlt : k < n
    · have HAL := Lib.hid (HA.out.below HBL.out)
      have HBB := Lib.hid (HB.out.below HBL.out)
      obtain ⟨b, o, rfl, hb, hc⟩ := HAL.out.at0 (by omega)
      obtain ⟨b', o', rfl, hb', hc'⟩ := HBB.out.at0 (by omega)
      have HC := Lib.hid (hc k hlt)
      have HC' := Lib.hid (hc' k hlt)
      obtain ⟨hf, hq⟩ := HO.out _ (getD_mem (l := l) (k := k) (by rw [HA.out.len]; exact hlt))
      have HBD : Hid (Below wr.heap.size wr wr.drew) := (Below.refl _ wr).drew
      generalize l.getD k default = f at *
      have HIF := Lib.hid (info24 hf)
      have HS := Lib.hid (same03_any f wr.drew (hf.beloww (HBL.out.trans (HBD.out.mono HBL.out.size))) hq)
      have HBb := Lib.hid hb
      have HBb' := Lib.hid hb'
      have hki : (k : Int) < (n : Int) := by omega
      clear hc hc' hf hq HAL HBB hb hb'
      go_wp2
      refine wp_region_held_drew (S := (fun wq => wq.rangeAt b (o + k * 24) (fcells f) ∧ wq.rangeAt b' (o' + k * 24) (fcells f))) (by kernel_rfl) ⟨rangeAt_below HC.out HBD.out HBb.out, rangeAt_below HC'.out HBD.out HBb'.out⟩ (fun hHeld => ?_)
      refine tkH 0 ?_
      refine tkH 1 ?_
      refine tkH 2 ?_
      refine tkH 3 (v := .agg (fcells f).toArray) ?_ (hy := by
        refine yieldsIf_load_mid (by rfl) 70 (.tmp 19) rfl b (o + k * 24) rfl (fcells f) _ (fun w hSw => hSw.1) Try.underlying70 rfl HIF.out)
      refine tkH 4 ?_
      refine tkH 5 ?_
      refine tkH 6 ?_
      refine tkH 7 (v := .agg (fcells f).toArray) ?_ (hy := by
        refine yieldsIf_load_mid (by rfl) 70 (.tmp 23) rfl b' (o' + k * 24) rfl (fcells f) _ (fun w hSw => hSw.2) Try.underlying70 rfl HIF.out)
      refine onH 8 (fun KK hKK => ?_)
      go_simp
      refine HS.out.mono ?_
      rintro e w4 ⟨rfl, hb4⟩
      have HB4 := Lib.hid (HBD.out.trans (hb4.mono HBD.out.size))
      clear hb4
      try go_wp2_with fail
      refine hKK.out _ _ ?_ (fun hh => ?_)
      · (try dsimp only)
        exact ⟨rangeAt_below HC.out HB4.out HBb.out, rangeAt_below HC'.out HB4.out HBb'.out⟩
      clear hKK KK
      try simp only [Act.put, List.setIfInBounds_toArray, List.set_cons_zero, List.set_cons_succ]
      refine tkH 9 ?_
      refine wpAnyH_done (by kernel_rfl) ?_ _
      go_wp2
      go_roundw
      case rel => exact ⟨k + 1, by omega, by go_num, HBL.out.trans (HB4.out.mono HBL.out.size)⟩
      case measure => simp [intOf]; omega
    · obtain rfl : k = n := by omega
      go_wp2
      go_ret
      exact ⟨rfl, HBL.out⟩
end Go.Proofs.Ytlldomgfjmkcdaa
