/- The tables of layer 7 out of the row's condition; an array of 32 bytes that came in by value. -/
import Derived.Test.YtanigdadhldceaaDoorRows
import Derived.Test.YtanigdadhldceaaDoorAid
import Derived.Test.YtanigdadhldceaaDoorPlainSh
import Derived.Test.YtanigdadhldceaaDoorShW
import Derived.ProofKit
import Derived.LaidMore
import Derived.LaidLaws
import Derived.Lib.LaidTab
import Derived.OpenShut
import Derived.WideShapes
import Derived.ChangeShapes
import Derived.Stop.Joined
namespace Go.Proofs.YtanigdadhldceaaDoor
open Go Go.ChangeShapes Go.WideShapes Go.RowKit
set_option linter.unusedVariables false
set_option linter.unusedSimpArgs false

def zsK : List Int := Sh.kz.map fun n : Nat => (n : Int)
def zsF : List Int := Sh.first.map fun n : Nat => (n : Int)
def laid2 : List (String × DataW Unit) := [("doorward/api.K", Rows.laid_doorward_api_K), ("doorward/api.First", Rows.laid_doorward_api_First)]
theorem gK : Tryd.prog.globalNamed "doorward/api.K" = some 1 := by kernel_rfl
theorem gF : Tryd.prog.globalNamed "doorward/api.First" = some 0 := by kernel_rfl
theorem tK : (Tryd.prog.globals[1]?).map (·.type) = some 49 := by kernel_rfl
theorem tF : (Tryd.prog.globals[0]?).map (·.type) = some 40 := by kernel_rfl
theorem dK : Rows.laid_doorward_api_K = Lib.tabData (H := Unit) .u32 zsK := by kernel_rfl
theorem dF : Rows.laid_doorward_api_First = Lib.tabData (H := Unit) .u32 zsF := by kernel_rfl
/-- The door's own heap meets the condition. -/
theorem door_met (os : Os) (args : Array Value) : laidMetH Tryd.prog laid2 ((World.doorLaid Tryd.prog 400 os).forCall (fun _ _ => 0) ⟨#[], args, []⟩).memory :=
  laidMetH_of_parts3 (fuel := 8) (laidMet_of_run' 8 (by kernel_rfl) (by kernel_rfl)) (by kernel_rfl) (by kernel_rfl)
theorem getD_cast (l : List Nat) (i : Nat) : (l.map fun n : Nat => (n : Int)).getD i 0 = ((l.getD i 0 : Nat) : Int) := by
  rw [List.getD_eq_getElem?_getD, List.getD_eq_getElem?_getD, List.getElem?_map]
  cases l[i]? <;> rfl
theorem tabs_of_laid {W : World} (h : laidMetH Tryd.prog laid2 W) : Tabs W := by
  rw [MakeChecks.laidMetH_plain _ _ _ (by kernel_rfl)] at h
  unfold laid2 at h
  obtain ⟨ps, ⟨g0, t0, cs0, f0, p0, q0, hg0, ht0, hv0, hd0, ⟨g1, t1, cs1, f1, p1, q1, hg1, ht1, hv1, hd1, _, _⟩, _⟩, _, _⟩ := h
  obtain rfl := Option.some.inj (gK.symm.trans hg0)
  obtain rfl := Option.some.inj (gF.symm.trans hg1)
  obtain rfl := Option.some.inj (tK.symm.trans ht0)
  obtain rfl := Option.some.inj (tF.symm.trans ht1)
  rw [dK] at hd0
  rw [dF] at hd1
  have hK : Lib.TabIs Tryd.prog W "doorward/api.K" .u32 zsK := by
    unfold Lib.TabIs
    rw [hv0, ← Lib.cells_of_tab Tryd.underlying49 Tryd.underlying38 (by kernel_rfl) (by kernel_rfl) hd0]
  have hF : Lib.TabIs Tryd.prog W "doorward/api.First" .u32 zsF := by
    unfold Lib.TabIs
    rw [hv1, ← Lib.cells_of_tab Tryd.underlying40 Tryd.underlying38 (by kernel_rfl) (by kernel_rfl) hd1]
  have k : ∀ i, i < 64 → W.cell? ⟨1, i, none⟩ = some (.int .u32 ((Sh.kz.getD i 0 : Nat) : Int)) := fun i hi => by
    rw [hK.cell gK i (by unfold zsK; rw [List.length_map, Sh.kz_lt.1]; exact hi)]
    unfold zsK; rw [getD_cast]
  have f : ∀ i, i < 8 → W.cell? ⟨0, i, none⟩ = some (.int .u32 ((Sh.first.getD i 0 : Nat) : Int)) := fun i hi => by
    rw [hF.cell gF i (by unfold zsF; rw [List.length_map, Sh.first_lt.1]; exact hi)]
    unfold zsF; rw [getD_cast]
  exact ⟨⟨World.block_lt_of_cell? W ⟨1, 0, none⟩ (k 0 (by omega)), World.block_lt_of_cell? W ⟨0, 0, none⟩ (f 0 (by omega))⟩, k, f⟩

theorem list_ofN (R : Nat → Nat → Prop) : ∀ n : Nat, (∀ i, i < n → ∃ a, R i a) → ∃ l : List Nat, l.length = n ∧ ∀ i, i < n → R i (l.getD i 0)
  | 0, _ => ⟨[], rfl, fun i h => absurd h (by omega)⟩
  | n + 1, h => by
    obtain ⟨l, hl, hr⟩ := list_ofN R n fun i hi => h i (by omega)
    obtain ⟨a, ha⟩ := h n (by omega)
    refine ⟨l ++ [a], by simp [hl], fun i hi => ?_⟩
    by_cases hin : i < n
    · have := hr i hin
      rwa [List.getD_eq_getElem?_getD, List.getElem?_append_left (by omega), ← List.getD_eq_getElem?_getD]
    · obtain rfl : i = n := by omega
      rw [List.getD_eq_getElem?_getD, ← hl, List.getElem?_concat_length]
      rw [hl]; exact ha
theorem open_arr32 {H : Type} {enc : TypeId × Value → H} {w : World} {base b0 : Nat} {spare : Nat → Bool} {held : Bool} {r : Reach} {v : Value} {d : DataW H} {ps : List MemPlace}
    (hval : Value.okWide Tryd.prog w r b0 25 v) (h : DataW.Trod enc Tryd.prog w base spare held 25 v d ps) :
    ∃ l : List Nat, v = .agg (cellsK .u8 l) ∧ l.length = 32 ∧ ∀ x ∈ l, x < 256 := by
  have hv : ∃ xs : Array Value, v = .agg xs := by
    simp only [Value.okWide, Tryd.underlying25] at hval
    obtain ⟨cs, h1, _⟩ := hval
    exact ⟨cs, h1⟩
  obtain ⟨xs, rfl⟩ := hv
  obtain ⟨fuel, hf⟩ := h
  obtain ⟨ys, m, _, _, hl, hn, hg⟩ := DataW.trod_array Tryd.underlying25 hf
  have c32 : Tryd.prog.cellsOf 25 = 32 := by kernel_rfl
  have c1 : Tryd.prog.cellsOf 5 = 1 := by kernel_rfl
  rw [c32] at hl
  rw [c1] at hg
  simp only [Value.cells] at hl hg
  obtain ⟨l, hll, hr⟩ := list_ofN (fun i a => a < 256 ∧ xs.toList[i]? = some (.int .u8 (a : Int))) 32 (by
    intro i hi
    have h1 := hg i hi
    have hil : i < xs.toList.length := by simpa using (by rw [← hl] at hi; simpa using hi : i < xs.size)
    rw [Nat.mul_one, List.drop_eq_getElem_cons hil, List.take_succ_cons, List.take_zero, List.getElem?_eq_getElem (by omega)] at h1
    obtain ⟨z, e, _, wz⟩ := DataW.trod_int Tryd.underlying5 h1
    have hb := bounds_u8 wz
    simp only [List.cons.injEq, and_true] at e
    refine ⟨z.toNat, by omega, ?_⟩
    rw [List.getElem?_eq_getElem hil, e]
    congr 2
    omega)
  refine ⟨l, ?_, hll, fun c hc => ?_⟩
  · congr 1
    apply Array.ext'
    refine List.ext_getElem? fun i => ?_
    by_cases hi : i < 32
    · rw [(hr i hi).2]
      simp [cellsK, List.getD_eq_getElem?_getD, hll, hi]
    · have h1 : xs.toList.length ≤ i := by simp at hl ⊢; omega
      rw [List.getElem?_eq_none h1, List.getElem?_eq_none (by simp [cellsK, hll]; omega)]
  · obtain ⟨i, hi, rfl⟩ := List.getElem_of_mem hc
    have := (hr i (by omega)).1
    simpa [List.getD_eq_getElem?_getD, hi] using this
end Go.Proofs.YtanigdadhldceaaDoor
