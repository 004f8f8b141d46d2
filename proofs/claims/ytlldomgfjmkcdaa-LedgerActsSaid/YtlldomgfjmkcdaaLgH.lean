/- Layer 15's ledger, walked: slices.DeleteFunc at packets with the closure that parts them. -/
import Derived.Test.YtlldomgfjmkcdaaRows
import Derived.Test.YtlldomgfjmkcdaaAid
import Derived.Test.YtlldomgfjmkcdaaLgW
import Derived.Test.YtlldomgfjmkcdaaLgB
import Derived.Test.YtlldomgfjmkcdaaLgD
import Derived.Test.YtlldomgfjmkcdaaLgE
import Derived.Test.YtlldomgfjmkcdaaLgF
import Derived.Test.YtlldomgfjmkcdaaLgG
import Derived.Shelf.Abstract
namespace Go.Proofs.Ytlldomgfjmkcdaa
open Go Go.RowKit
set_option linter.unusedVariables false
set_option linter.unusedSimpArgs false

theorem PJ.updR {wp W W' : World} {D gR bx bg : Nat} {gV gv : Value} {gone : List PS} (h : PJ wp D gR bx bg gV gone gv W) (u : Upd gR W W') : PJ wp D gR bx bg gV gone gv W' := by
  have hlt := h.lt
  exact ⟨h.xO.upd u (by omega), h.gO.upd u (by omega), own_updG h.own u (fun e => by have := (h.own.lt gR e).1; omega), fun k h1 h2 h3 => (u.block k (Nat.lt_of_lt_of_le h1 h.le) h2).trans (h.keep k h1 h2 h3), u.os.trans h.os, u.tape.trans h.tape, u.output.trans h.output, Nat.le_trans h.le u.size, hlt⟩
theorem rowC_of {W : World} {gR : Nat} {X : List PS} {rest : List Value} (h : Obj W gR 32 (flatS X ++ rest).toArray) : RowC W gR X := fun i hi => by
  have hl := flatS_length X
  have key : ∀ k, k < 5 → W.cell? ⟨gR, i * 5 + k, none⟩ = (pc (X.getD i default))[k]? := fun k hk => by
    rw [h.cell, List.getElem?_toArray, List.getElem?_append_left (by omega), flatS_get X i hi k hk]
  exact ⟨by have := key 0 (by omega); rw [Nat.add_zero] at this; exact this, key 1 (by omega), key 2 (by omega), key 3 (by omega), key 4 (by omega)⟩
/-- The list so far. -/
structure DJ (l : List PS) (Pd : PS → Bool) (n i j : Nat) (X : List PS) : Prop where
  len : X.length = n
  i0 : (l.take j).filter (fun p => !Pd p) = X.take i
  il : i < j
  ie : ((l.take j).filter (fun p => !Pd p)).length = i
  dr : X.drop j = l.drop j
theorem DJ.get {l X : List PS} {Pd : PS → Bool} {n i j : Nat} (h : DJ l Pd n i j X) (hj : j < n) (hl : l.length = n) : X.getD j default = l.getD j default := by
  have := congrArg (fun q => q.getD 0 default) h.dr
  simpa [List.getD_eq_getElem?_getD] using this
theorem DJ.skip {l X : List PS} {Pd : PS → Bool} {n i j : Nat} (h : DJ l Pd n i j X) (hj : j < n) (hl : l.length = n) (hp : Pd (l.getD j default) = true) : DJ l Pd n i (j + 1) X := by
  have e := take_next l j (by omega)
  have hf : (l.take (j + 1)).filter (fun p => !Pd p) = (l.take j).filter (fun p => !Pd p) := by rw [e, List.filter_append]; simp [hp, -List.getD_eq_getElem?_getD]
  refine ⟨h.len, by rw [hf]; exact h.i0, by have := h.il; omega, by rw [hf]; exact h.ie, ?_⟩
  have := congrArg (List.drop 1) h.dr
  simpa [List.drop_drop, Nat.add_comm] using this
theorem DJ.put {l X : List PS} {Pd : PS → Bool} {n i j : Nat} (h : DJ l Pd n i j X) (hj : j < n) (hl : l.length = n) (hp : Pd (l.getD j default) = false) : DJ l Pd n (i + 1) (j + 1) (X.set i (l.getD j default)) := by
  have e := take_next l j (by omega)
  have hf : (l.take (j + 1)).filter (fun p => !Pd p) = (l.take j).filter (fun p => !Pd p) ++ [l.getD j default] := by rw [e, List.filter_append]; simp [hp, -List.getD_eq_getElem?_getD]
  have hil := h.il
  have hlen := h.len
  refine ⟨by rw [List.length_set]; exact h.len, ?_, by omega, by rw [hf, List.length_append, h.ie]; rfl, ?_⟩
  · rw [hf, h.i0, List.take_succ_eq_append_getElem (by rw [List.length_set]; omega), List.getElem_set_self]
    congr 1
    rw [List.take_set, List.set_eq_of_length_le (by rw [List.length_take]; omega)]
  · rw [List.drop_set, if_pos (by omega)]
    have := congrArg (List.drop 1) h.dr
    simpa [List.drop_drop, Nat.add_comm] using this
theorem DJ.start {l : List PS} {Pd : PS → Bool} {n k : Nat} (hl : l.length = n) (hk : k < n) (hf : ∀ j, j < k → Pd (l.getD j default) = false) (hp : Pd (l.getD k default) = true) : DJ l Pd n k (k + 1) l ∧ (l.take (k + 1)).filter Pd = [l.getD k default] := by
  have key : ∀ m, m ≤ k → (l.take m).filter (fun p => !Pd p) = l.take m ∧ (l.take m).filter Pd = [] := by
    intro m
    induction m with
    | zero => intro _; simp
    | succ m ih =>
      intro hm
      have h1 := ih (by omega)
      have h2 := hf m (by omega)
      rw [take_next l m (by omega), List.filter_append, List.filter_append, h1.1, h1.2]
      simp [h2, -List.getD_eq_getElem?_getD]
  have h1 := key k (Nat.le_refl _)
  have e := take_next l k (by omega)
  have hf1 : (l.take (k + 1)).filter (fun p => !Pd p) = l.take k := by rw [e, List.filter_append, h1.1]; simp [hp, -List.getD_eq_getElem?_getD]
  refine ⟨⟨hl, hf1, by omega, by rw [hf1, List.length_take]; omega, rfl⟩, ?_⟩
  rw [e, List.filter_append, h1.2]; simp [hp, -List.getD_eq_getElem?_getD]
theorem none_filter {l : List PS} {Pd : PS → Bool} {n : Nat} (hl : l.length = n) (hf : ∀ j, j < n → Pd (l.getD j default) = false) : l.filter (fun p => !Pd p) = l ∧ l.filter Pd = [] := by
  have hm : ∀ p ∈ l, Pd p = false := fun p hp => by
    obtain ⟨i, hi, rfl⟩ := List.getElem_of_mem hp
    have := hf i (by omega)
    rwa [List.getD_eq_getElem?_getD, List.getElem?_eq_getElem hi] at this
  refine ⟨List.filter_eq_self.2 (fun p hp => by simp [hm p hp]), List.filter_eq_nil_iff.2 (fun p hp => by simp [hm p hp])⟩
end Go.Proofs.Ytlldomgfjmkcdaa
