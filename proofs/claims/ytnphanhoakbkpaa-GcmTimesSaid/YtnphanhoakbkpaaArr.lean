/- An array of sixteen bytes that came in by value. -/
import Derived.Test.YtnphanhoakbkpaaRows
import Derived.Test.YtnphanhoakbkpaaAid
import Derived.Test.YtnphanhoakbkpaaPlainAe2
import Derived.Test.YtnphanhoakbkpaaAesW
import Derived.WideShapes
import Derived.ChangeShapes
import Derived.OpenShut
namespace Go.Proofs.Ytnphanhoakbkpaa
open Go.ChangeShapes Go.WideShapes Go.RowKit
set_option linter.unusedVariables false
set_option linter.unusedSimpArgs false

theorem list_ofN (R : Nat → Nat → Prop) : ∀ n : Nat, (∀ i, i < n → ∃ a, R i a) → ∃ l : List Nat, l.length = n ∧ ∀ i, i < n → R i (l.getD i 0)
  | 0, _ => ⟨[], rfl, fun i h => absurd h (by omega)⟩
  | n + 1, h => by
    obtain ⟨l, hl, hr⟩ := list_ofN R n fun i hi => h i (by omega)
    obtain ⟨a, ha⟩ := h n (by omega)
    refine ⟨l ++ [a], by simp [hl], fun i hi => ?_⟩
    by_cases hin : i < n
    · have := hr i hin
      rwa [List.getD_eq_getElem?_getD, List.getElem?_append_left (by omega), ← List.getD_eq_getElem?_getD]
    · obtain rfl : i = n := by omega
      rw [List.getD_eq_getElem?_getD, ← hl, List.getElem?_concat_length]
      rw [hl]; exact ha

theorem open_arr16 {H : Type} {enc : TypeId × Value → H} {w : World} {base b0 : Nat} {spare : Nat → Bool} {held : Bool} {r : Reach} {v : Value} {d : DataW H} {ps : List MemPlace}
    (hval : Value.okWide Try.prog w r b0 22 v) (h : DataW.Trod enc Try.prog w base spare held 22 v d ps) :
    ∃ l : List Nat, v = .agg (cellsN l) ∧ l.length = 16 ∧ Ae.bytes l := by
  have hv : ∃ xs : Array Value, v = .agg xs := by
    simp only [Value.okWide, Try.underlying22] at hval
    obtain ⟨cs, h1, _⟩ := hval
    exact ⟨cs, h1⟩
  obtain ⟨xs, rfl⟩ := hv
  obtain ⟨fuel, hf⟩ := h
  obtain ⟨ys, m, _, _, hl, hn, hg⟩ := DataW.trod_array Try.underlying22 hf
  have c16 : Try.prog.cellsOf 22 = 16 := by kernel_rfl
  have c1 : Try.prog.cellsOf 5 = 1 := by kernel_rfl
  rw [c16] at hl
  rw [c1] at hg
  simp only [Value.cells] at hl hg
  obtain ⟨l, hll, hr⟩ := list_ofN (fun i a => a < 256 ∧ xs.toList[i]? = some (.int .u8 (a : Int))) 16 (by
    intro i hi
    have h1 := hg i hi
    have hil : i < xs.toList.length := by simpa using (by rw [← hl] at hi; simpa using hi : i < xs.size)
    rw [Nat.mul_one, List.drop_eq_getElem_cons hil, List.take_succ_cons, List.take_zero, List.getElem?_eq_getElem (by omega)] at h1
    obtain ⟨z, e, _, wz⟩ := DataW.trod_int Try.underlying5 h1
    have hb := bounds_u8 wz
    simp only [List.cons.injEq, and_true] at e
    refine ⟨z.toNat, by omega, ?_⟩
    rw [List.getElem?_eq_getElem hil, e]
    congr 2
    omega)
  refine ⟨l, ?_, hll, fun c hc => ?_⟩
  · congr 1
    apply Array.ext'
    refine List.ext_getElem? fun i => ?_
    by_cases hi : i < 16
    · rw [(hr i hi).2]
      simp [cellsN, List.getD_eq_getElem?_getD, hll, hi]
    · have h1 : xs.toList.length ≤ i := by simp at hl ⊢; omega
      rw [List.getElem?_eq_none h1, List.getElem?_eq_none (by simp [cellsN, hll]; omega)]
  · obtain ⟨i, hi, rfl⟩ := List.getElem_of_mem hc
    have := (hr i (by omega)).1
    simpa [List.getD_eq_getElem?_getD, hi] using this
end Go.Proofs.Ytnphanhoakbkpaa
