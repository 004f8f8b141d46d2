/- A slice of answers that came in reads as pairs of numbers. -/
import Derived.Test.YtbiidcdgcbaahaaRows
import Derived.Test.YtbiidcdgcbaahaaAid
import Derived.Test.YtbiidcdgcbaahaaOpen
import Derived.Test.YtbiidcdgcbaahaaRttRef
namespace Go.Proofs.Ytbiidcdgcbaahaa
open Go.ChangeShapes Go.WideShapes Go.Deep Go.RowKit

theorem answers_open {H : Type} {enc : TypeId × Value → H} {w : World} {base : Nat} {spare : Nat → Bool} {held : Bool} {fuel n c : Nat} {A : Option Addr} {x : DataW H × List MemPlace}
    (h : DataW.trod enc Try.prog w base spare held fuel 23 [.slice A n c] = some x) : ∃ l, Answers w A n l ∧ n ≤ c ∧ c ≤ maxLen := by
  obtain ⟨hl, hm, hc⟩ := rows_open Try.underlying23 Try.underlying36 (by kernel_rfl) (by kernel_rfl) (by decide) h
  by_cases hn : n = 0
  · subst hn
    exact ⟨[], ⟨rfl, by simp, fun h => absurd h (by omega)⟩, hl, hm⟩
  · obtain ⟨b, off, rfl, hb, hc⟩ := hc (by omega)
    obtain ⟨l, hll, hr⟩ := list_of (α := Int × Int) (fun i a => (0 ≤ a.1 ∧ a.1 ≤ 18446744073709551615 ∧ 0 ≤ a.2 ∧ a.2 ≤ 18446744073709551615) ∧ w.cell? ⟨b, off + i * 2, none⟩ = some (.int .u64 a.1) ∧ w.cell? ⟨b, off + i * 2 + 1, none⟩ = some (.int .u64 a.2)) n (by
      intro i hi
      obtain ⟨v0, y0, m0, h0, t0⟩ := hc i 0 _ hi rfl
      obtain ⟨v1, y1, m1, h1, t1⟩ := hc i 1 _ hi rfl
      obtain ⟨p, e0, _, wp⟩ := DataW.trod_int Try.underlying22 t0
      obtain ⟨q, e1, _, wq⟩ := DataW.trod_int Try.underlying22 t1
      simp only [List.cons.injEq, and_true] at e0 e1
      subst e0 e1
      have bp := bounds_u64 wp
      have bq := bounds_u64 wq
      exact ⟨(p, q), ⟨bp.1, bp.2, bq.1, bq.2⟩, h0, h1⟩)
    refine ⟨l, ⟨hll, fun a ha => ?_, fun _ => ⟨b, off, rfl, hb, fun j hj => (hr j hj).2⟩⟩, hl, hm⟩
    obtain ⟨j, hj, rfl⟩ := List.mem_iff_getElem.1 ha
    have := (hr j (by omega)).1
    rwa [List.getD_eq_getElem?_getD, List.getElem?_eq_getElem hj] at this

end Go.Proofs.Ytbiidcdgcbaahaa
