/- An array of twelve bytes that came in by value. -/
import Derived.Test.YtnphanhoakbkpaaRows
import Derived.Test.YtnphanhoakbkpaaAid
import Derived.Test.YtnphanhoakbkpaaPlainAe2
import Derived.Test.YtnphanhoakbkpaaAesW
import Derived.Test.YtnphanhoakbkpaaArr
import Derived.WideShapes
import Derived.ChangeShapes
import Derived.OpenShut
namespace Go.Proofs.Ytnphanhoakbkpaa
open Go.ChangeShapes Go.WideShapes Go.RowKit
set_option linter.unusedVariables false
set_option linter.unusedSimpArgs false

theorem open_arr12 {H : Type} {enc : TypeId × Value → H} {w : World} {base b0 : Nat} {spare : Nat → Bool} {held : Bool} {r : Reach} {v : Value} {d : DataW H} {ps : List MemPlace}
    (hval : Value.okWide Try.prog w r b0 28 v) (h : DataW.Trod enc Try.prog w base spare held 28 v d ps) :
    ∃ l : List Nat, v = .agg (cellsN l) ∧ l.length = 12 ∧ Ae.bytes l := by
  have hv : ∃ xs : Array Value, v = .agg xs := by
    simp only [Value.okWide, Try.underlying28] at hval
    obtain ⟨cs, h1, _⟩ := hval
    exact ⟨cs, h1⟩
  obtain ⟨xs, rfl⟩ := hv
  obtain ⟨fuel, hf⟩ := h
  obtain ⟨ys, m, _, _, hl, hn, hg⟩ := DataW.trod_array Try.underlying28 hf
  have c12 : Try.prog.cellsOf 28 = 12 := by kernel_rfl
  have c1 : Try.prog.cellsOf 5 = 1 := by kernel_rfl
  rw [c12] at hl
  rw [c1] at hg
  simp only [Value.cells] at hl hg
  obtain ⟨l, hll, hr⟩ := list_ofN (fun i a => a < 256 ∧ xs.toList[i]? = some (.int .u8 (a : Int))) 12 (by
    intro i hi
    have h1 := hg i hi
    have hil : i < xs.toList.length := by simpa using (by rw [← hl] at hi; simpa using hi : i < xs.size)
    rw [Nat.mul_one, List.drop_eq_getElem_cons hil, List.take_succ_cons, List.take_zero, List.getElem?_eq_getElem (by omega)] at h1
    obtain ⟨z, e, _, wz⟩ := DataW.trod_int Try.underlying5 h1
    have hb := bounds_u8 wz
    simp only [List.cons.injEq, and_true] at e
    refine ⟨z.toNat, by omega, ?_⟩
    rw [List.getElem?_eq_getElem hil, e]
    congr 2
    omega)
  refine ⟨l, ?_, hll, fun c hc => ?_⟩
  · congr 1
    apply Array.ext'
    refine List.ext_getElem? fun i => ?_
    by_cases hi : i < 12
    · rw [(hr i hi).2]
      simp [cellsN, List.getD_eq_getElem?_getD, hll, hi]
    · have h1 : xs.toList.length ≤ i := by simp at hl ⊢; omega
      rw [List.getElem?_eq_none h1, List.getElem?_eq_none (by simp [cellsN, hll]; omega)]
  · obtain ⟨i, hi, rfl⟩ := List.getElem_of_mem hc
    have := (hr i (by omega)).1
    simpa [List.getD_eq_getElem?_getD, hi] using this
end Go.Proofs.Ytnphanhoakbkpaa
