/- Layer 13's document, walked: Has, Largest, Ranges. -/
import Derived.Test.YtgbgdbadifagcaaRows
import Derived.Test.YtgbgdbadifagcaaAid
import Derived.Test.YtgbgdbadifagcaaPlainRg
import Derived.Test.YtgbgdbadifagcaaPlainRg2
import Derived.Test.YtgbgdbadifagcaaPlainRg3
import Derived.Test.YtgbgdbadifagcaaPlainRg4
import Derived.Test.YtgbgdbadifagcaaRgW
import Derived.Test.YtgbgdbadifagcaaRgX
import Derived.Test.YtgbgdbadifagcaaRgI
import Derived.Test.YtgbgdbadifagcaaRgF
import Derived.Test.YtgbgdbadifagcaaRgA
import Derived.Test.YtgbgdbadifagcaaRgB
import Derived.Test.YtgbgdbadifagcaaRgL
import Derived.WalkKit
import Derived.OwnWalk
import Derived.Laws.Rows
import Derived.Laws.Tables
import Derived.Laws.AppendOwn
import Derived.Laws.OwnMore
import Derived.WalkSpells
import Derived.WalkLawsBesides
import Derived.BigQuiet
import Derived.Handy
import Derived.StillTailTactics
import Derived.Lib.Hide
import Derived.IntWalk
namespace Go.Proofs.Ytgbgdbadifagcaa
open Go.RowKit Go.Shelf Go.Lib Go.Sort
set_option linter.unusedVariables false
set_option linter.unusedSimpArgs false

/-- The document's set in memory. -/
def DocAt (N M : Nat) (w : World) (a : Nat) (s : Rg.S) : Prop :=
  N ≤ a ∧ ∃ (L : List Nat) (v : Value), L.length ≤ M ∧ Obj w a 35 #[v, u64v s.old] ∧ w.ownsRow N 26 1 v L.length (L.map u64v) ∧ Rg.Tie s L
/-- The same, its slice by name. -/
def DocV (N M : Nat) (w : World) (a : Nat) (s : Rg.S) (v : Value) : Prop :=
  N ≤ a ∧ ∃ L : List Nat, L.length ≤ M ∧ Obj w a 35 #[v, u64v s.old] ∧ w.ownsRow N 26 1 v L.length (L.map u64v) ∧ Rg.Tie s L
theorem DocV.at {N M : Nat} {w : World} {a : Nat} {s : Rg.S} {v : Value} (h : DocV N M w a s v) : DocAt N M w a s := by
  obtain ⟨h1, L, h2⟩ := h
  exact ⟨h1, L, v, h2⟩
theorem own_u64 {w : World} {N : Nat} {v : Value} {L : List Nat} (h : w.ownsRow N 26 1 v L.length (L.map u64v)) :
    ∃ g base c, v = .slice base L.length c ∧ L.length ≤ c ∧ c ≤ maxLen ∧ (∀ i, i < L.length → base = some ⟨g, 0, none⟩ ∧ w.cell? ⟨g, i, none⟩ = some (u64v (L.getD i 0))) := by
  rcases h.2 with ⟨rfl, h0⟩ | ⟨g, cap, cur, rfl, hb, hg, hnc, hcm, hcs, ht⟩
  · exact ⟨0, none, 0, by rw [h0], by omega, Nat.zero_le _, fun i hi => by omega⟩
  · refine ⟨g, _, cap, rfl, hnc, hcm, fun i hi => ⟨rfl, ?_⟩⟩
    rw [h.cellAt i (by omega)]
    simp [List.getD_eq_getElem?_getD, hi]

set_option maxHeartbeats 2000000 in
theorem refHas_any (N M a n : Nat) (s : Rg.S) (w : World) (h : DocAt N M w a s) :
    Calls Try.prog 17 #[.pointer (some ⟨a, 0, none⟩), .int .u64 (n : Int)] w fun e w' => e = .returned (.bool (Rg.has n s.l)) ∧ w = w' := by
  obtain ⟨_, L, v, _, hO, hR, hT⟩ := h
  obtain ⟨g, base, c, rfl, _, hcm, hc⟩ := own_u64 hR
  have f0 : w.cell? ⟨a, 0, none⟩ = some (.slice base L.length c) := by rw [hO.cell]; rfl
  have HC := Lib.hid hc
  have HH := Lib.hid (Rg.tie_has hT n)
  have HM : Hid (L.length ≤ maxLen) := by unfold Hid; omega
  have hlm : L.length ≤ 9223372036854775807 := by have : L.length ≤ maxLen := HM.out; simp only [maxLen] at this; omega
  clear hO hR hc hT
  generalize hm : L.length = m at *
  have HLM := Lib.hid hm
  clear hm
  go_enter Try.func17, Try.ntmps17
  go_wp2
  go_loopw [5] (fun i wr => ∃ k : Nat, k ≤ m ∧ i = .int .i64 k ∧ wr = w ∧ ∀ t, t < k → L.getD t 0 ≠ n) (fun i _ => m - (intOf i).toNat)
  case atStart => exact ⟨0, Nat.zero_le _, rfl, rfl, fun t ht => absurd ht (Nat.not_lt_zero _)⟩
  case round =>
    obtain ⟨k, hk, rfl, rfl, hno⟩ := hrel
    by_cases hkm : k < m
    · obtain ⟨rfl, e1⟩ := HC.out k hkm
      have hkz : (k : Int) < (m : Int) := by omega
      have HNO := Lib.hid hno
      have hmemk : L.getD k 0 ∈ L := by
        have hl : k < L.length := by rw [HLM.out]; exact hkm
        rw [List.getD_eq_getElem?_getD, List.getElem?_eq_getElem hl]; exact List.getElem_mem _
      have HMK := Lib.hid hmemk
      unfold u64v at e1
      clear hno hmemk
      obtain ⟨x, hxe⟩ : ∃ x, L.getD k 0 = x := ⟨_, rfl⟩
      rw [hxe] at e1 HMK
      have HXE := Lib.hid hxe
      clear hxe
      by_cases hx : x = n
      · subst hx
        go_wp2
        go_ret
        refine ⟨?_, rfl⟩
        rw [HH.out, decide_eq_true HMK.out]
        rfl
      · have hxz : ((x : Int) == (n : Int)) = false := by simp; omega
        have HX := Lib.hid hx
        clear hx
        go_wp2
        go_roundw
        case rel => exact ⟨k + 1, by omega, by go_num, by trivial, fun t ht => by
          by_cases h : t < k
          · exact HNO.out t h
          · obtain rfl : t = k := by omega
            rw [HXE.out]; exact HX.out⟩
        case measure => simp [intOf]; omega
    · obtain rfl : m = k := by omega
      have HNO := Lib.hid hno
      clear hkm hk hno
      go_wp2
      go_ret
      refine ⟨?_, rfl⟩
      have hnm : ¬ n ∈ L := fun hm => by
        obtain ⟨i, hi, e⟩ := List.getElem_of_mem hm
        refine HNO.out i (by rw [← HLM.out]; exact hi) ?_
        rw [List.getD_eq_getElem?_getD, List.getElem?_eq_getElem hi, Option.getD_some, e]
      rw [HH.out, decide_eq_false hnm]
      rfl

set_option maxHeartbeats 2000000 in
theorem refLargest_any (N M a : Nat) (s : Rg.S) (w : World) (h : DocAt N M w a s) :
    Calls Try.prog 18 #[.pointer (some ⟨a, 0, none⟩)] w fun e w' => e = .returned (.int .i64 (topOf s.l)) ∧ ∃ q, w' = w.drewN q := by
  obtain ⟨_, L, v, _, hO, hR, hT⟩ := h
  obtain ⟨g, base, c, rfl, _, hcm, hc⟩ := own_u64 hR
  have f0 : w.cell? ⟨a, 0, none⟩ = some (.slice base L.length c) := by rw [hO.cell]; rfl
  have hlm : L.length ≤ 9223372036854775807 := by simp only [maxLen] at hcm; omega
  by_cases h0 : L = []
  · subst h0
    have HT : Hid (topOf s.l = -1) := by
      have : s.l = [] := by
        cases hs : s.l with
        | nil => rfl
        | cons r t => exact absurd ((hT.mem r.1).1 (by rw [hs]; exact (Rg.mem_cons _ _ _).2 (Or.inl ⟨Nat.le_refl _, by have := hT.ok.norm; rw [hs] at this; exact this.1⟩))) (by simp)
      unfold Hid; rw [this]; rfl
    clear hO hR hc hT
    simp only [List.length_nil] at f0
    go_enter Try.func18, Try.ntmps18
    go_wp2
    go_ret
    exact ⟨by rw [HT.out]; rfl, 0, rfl⟩
  · obtain ⟨t1, t2⟩ := Rg.top_last hT h0
    have hpos : 0 < L.length := List.length_pos_iff.2 h0
    obtain ⟨rfl, e1⟩ := hc (L.length - 1) (by omega)
    have hx : L.getD (L.length - 1) 0 ≤ 4611686018427387903 := hT.ok.le _ ((hT.mem _).2 (by
      rw [List.getD_eq_getElem?_getD, List.getElem?_eq_getElem (by omega)]; exact List.getElem_mem _))
    have HT : Hid (topOf s.l = (L.getD (L.length - 1) 0 : Nat)) := by
      unfold Hid topOf; rw [if_neg (fun h => t1 (List.length_eq_zero_iff.1 h)), t2]
    obtain ⟨k, hk⟩ : ∃ k, L.length = k + 1 := ⟨L.length - 1, by omega⟩
    rw [hk] at f0 hlm
    rw [hk, Nat.add_sub_cancel] at e1 HT hx
    generalize L.getD k 0 = x at *
    have hw : IntKind.i64.wrap (x : Int) = (x : Int) := by rw [IntKind.wrap_i64]; omega
    have k4 : ¬ (k : Int) + 1 = 0 := by omega
    have k5 : (k : Int) < (k : Int) + 1 := by omega
    unfold u64v at e1
    clear hO hR hc hT t1 t2 h0 hpos hk
    go_enter Try.func18, Try.ntmps18
    go_wp2
    go_quiet (fail)
    go_wp2
    go_ret
    exact ⟨by rw [HT.out]; rfl, _, rfl⟩
end Go.Proofs.Ytgbgdbadifagcaa
