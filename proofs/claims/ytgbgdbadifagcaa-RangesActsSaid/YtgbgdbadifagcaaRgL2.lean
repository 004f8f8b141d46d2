/- The laws of layer 13's ranges, walked: RangesOnce. -/
import Derived.Test.YtgbgdbadifagcaaRows
import Derived.Test.YtgbgdbadifagcaaAid
import Derived.Test.YtgbgdbadifagcaaPlainRg
import Derived.Test.YtgbgdbadifagcaaPlainRg2
import Derived.Test.YtgbgdbadifagcaaPlainRg3
import Derived.Test.YtgbgdbadifagcaaRgW
import Derived.Test.YtgbgdbadifagcaaRgX
import Derived.Test.YtgbgdbadifagcaaRgF
import Derived.Test.YtgbgdbadifagcaaRgA
import Derived.Test.YtgbgdbadifagcaaRgB
import Derived.Test.YtgbgdbadifagcaaRgL
import Derived.WalkKit
import Derived.Laws.Rows
import Derived.Laws.Tables
import Derived.WalkSpells
import Derived.WalkLawsBesides
import Derived.BigQuiet
import Derived.Handy
import Derived.StillTailTactics
import Derived.Lib.Hide
import Derived.IntWalk
namespace Go.Proofs.Ytgbgdbadifagcaa
open Go.RowKit Go.Shelf Go.Lib Go.Sort
set_option linter.unusedVariables false
set_option linter.unusedSimpArgs false

theorem below_undrew {w w' : World} {n : Nat} (h : Below (w.drewN n).heap.size (w.drewN n) w') : Below w.heap.size w w' := ⟨h.os, h.tape, h.output, h.size, h.block⟩
/-- The numbers of a slice of the caller's. -/
structure Nums (w : World) (A : Option Addr) (n : Nat) (xs : List Nat) : Prop where
  len : xs.length = n
  lt : ∀ t, xs.getD t 0 < 18446744073709551616
  cell : 0 < n → ∃ b off, A = some ⟨b, off, none⟩ ∧ b < w.heap.size ∧ ∀ t, t < n → w.cell? ⟨b, off + t, none⟩ = some (.int .u64 ((xs.getD t 0 : Nat) : Int))
theorem Nums.of {w : World} {A : Option Addr} {n : Nat} {l : List Int} (h : Ints .u64 w A n l) : Nums w A n (l.map Int.toNat) := by
  obtain ⟨h1, h2, h3⟩ := h
  have hb : ∀ t, t < n → 0 ≤ l.getD t 0 ∧ l.getD t 0 < 18446744073709551616 := fun t ht => by
    have hm : l.getD t 0 ∈ l := by
      rw [List.getD_eq_getElem?_getD, List.getElem?_eq_getElem (by omega)]; exact List.getElem_mem _
    have := bounds_u64 (h2 _ hm)
    omega
  have hg : ∀ t, t < n → (((l.map Int.toNat).getD t 0 : Nat) : Int) = l.getD t 0 := fun t ht => by
    have := hb t ht
    simp only [List.getD_eq_getElem?_getD, List.getElem?_map, List.getElem?_eq_getElem (show t < l.length by omega), Option.map_some, Option.getD_some] at this ⊢
    omega
  refine ⟨by simp [h1], fun t => ?_, fun hn => ?_⟩
  · rcases Nat.lt_or_ge t n with ht | ht
    · have := hb t ht
      have := hg t ht
      omega
    · simp [List.getD_eq_getElem?_getD, h1, Nat.not_lt.2 ht]
  · obtain ⟨b, off, e, hlt, hc⟩ := h3 hn
    exact ⟨b, off, e, hlt, fun t ht => by rw [hg t ht]; exact hc t ht⟩

set_option maxHeartbeats 4000000 in
theorem rangesOnce_walk (A0 : Option Addr) (n0 c0 : Nat) (z : List Int) (w : World) (w0 : Ints .u64 w A0 n0 z) (x0 : n0 ≤ maxLen) :
    Calls Try.prog 4 #[.slice A0 n0 c0] w fun e w' => e = .returned (.bool true) ∧ Below w.heap.size w w' := by
  have hN := Nums.of w0
  generalize z.map Int.toNat = xs at hN
  have HN := Lib.hid hN
  have HAL := Lib.hid (alive_true w)
  clear w0 hN
  by_cases h150 : 150 < n0
  · have hd : decide ((150 : Int) < (n0 : Int)) = true := by simp; omega
    go_enter Try.func4, Try.ntmps4
    go_wp2_with fail
    refine HAL.out.mono ?_
    rintro e w1 ⟨rfl, hb1⟩
    have HB := Lib.hid hb1
    clear hb1
    go_wp2
    go_ret
    exact ⟨rfl, HB.out⟩
  have hd : decide ((150 : Int) < (n0 : Int)) = false := by simp; omega
  have hn0 : n0 ≤ 150 := by omega
  go_enter Try.func4, Try.ntmps4
  go_wp2_with fail
  refine HAL.out.mono ?_
  rintro e w1 ⟨rfl, hb1⟩
  have H0 := Lib.hid (SetAt.new w1 w.heap.size hb1.size)
  have B0 : Hid (Below w.heap.size w (w1.alloc (.cells #[.slice none 0 0, .int .u64 0] 32))) := hb1.alloc hb1.size _
  generalize hA : w1.heap.size = A at H0
  have HA := Lib.hid hA
  clear hb1 hA HAL
  go_wp2
  rw [HA.out]
  go_loopw [4] (fun i wr => ∃ (j : Nat) (s : Rg.S) (g : Nat), j ≤ n0 ∧ i = .int .i64 j ∧ SetAt w.heap.size wr A g s ∧ (∀ t, t < j → Rg.seen (xs.getD t 0) s) ∧ Below w.heap.size w wr) (fun i _ => n0 - (intOf i).toNat)
  case atStart =>
    exact ⟨0, ⟨[], 0⟩, _, Nat.zero_le _, rfl, H0.out, fun t h => absurd h (Nat.not_lt_zero _), B0.out⟩
  case round =>
    clear H0 B0
    obtain ⟨j, s, g, hj, rfl, hs, hseen, hL⟩ := hrel
    by_cases hlt : j < n0
    · obtain ⟨b, off, rfl, hbl, hcell⟩ := HN.out.cell (by omega)
      have f0 : wr.cell? ⟨b, off + j, none⟩ = some (.int .u64 ((xs.getD j 0 : Nat) : Int)) := (hL.cell (p := ⟨b, off + j, none⟩) hbl).trans (hcell j hlt)
      have HC := Lib.hid (And.intro hbl hcell)
      have hx := HN.out.lt j
      have HADD := Lib.hid (fun W (hW : SetAt w.heap.size W A g s) => sadd_any w.heap.size A g (xs.getD j 0) s W hW)
      have HNE : Hid ((Rg.add (xs.getD j 0) s).1 = true → ∀ k, k < j → xs.getD k 0 ≠ xs.getD j 0) := fun hok k hk he => by
        have := Rg.seen_no hs.ok (hseen k hk)
        rw [he, hok] at this
        cases this
      have HSE : Hid (∀ t, t < j + 1 → Rg.seen (xs.getD t 0) (Rg.add (xs.getD j 0) s).2) := fun t ht => by
        by_cases h : t < j
        · exact Rg.seen_add hs.ok _ _ (hseen t h)
        · obtain rfl : t = j := by omega
          exact Rg.seen_self hs.ok _
      have HS := Lib.hid hs
      have HL := Lib.hid hL
      have hjz : (j : Int) < (n0 : Int) := by omega
      clear hs hseen hL hbl hcell
      go_wp2_with fail
      refine (HADD.out _ HS.out).mono ?_
      rintro e w2 ⟨rfl, g', h2, -, -, b2⟩
      have H2 := Lib.hid h2
      have B2 := Lib.hid (HL.out.trans b2)
      have fk : ∀ k, k < n0 → w2.cell? ⟨b, off + k, none⟩ = some (.int .u64 ((xs.getD k 0 : Nat) : Int)) := fun k hk => (B2.out.cell (p := ⟨b, off + k, none⟩) HC.out.1).trans (HC.out.2 k hk)
      have FK := Lib.hid fk
      generalize (Rg.add (xs.getD j 0) s).2 = s2 at *
      generalize (Rg.add (xs.getD j 0) s).1 = ok at *
      clear h2 b2 f0 HADD HS HL fk
      go_wp2
      go_loopw [6] (fun i wr2 => ∃ k q : Nat, k ≤ j ∧ i = .int .i64 k ∧ wr2 = w2.drewN q) (fun i _ => j - (intOf i).toNat)
      case atStart => exact ⟨0, 0, Nat.zero_le _, rfl, rfl⟩
      case round =>
        obtain ⟨k, q, hk, rfl, rfl⟩ := hrel
        by_cases hkj : k < j
        · have d2 : (k : Int) < (j : Int) := by omega
          cases ok with
          | false =>
            have HRG := Lib.hid (fun W (hW : SetAt w.heap.size W A g' s2) => sranges_any w.heap.size A g' s2 W hW)
            go_wp2_with fail
            refine (HRG.out _ (H2.out.drewN _)).mono ?_
            rintro e w3 ⟨v, gr, rfl, hr, -, h3, b3⟩
            have H3 := Lib.hid h3
            have B3 := Lib.hid (B2.out.trans ((below_undrew b3).mono B2.out.size))
            obtain ⟨base, c, rfl, _, _⟩ := hr.nilOr
            have HR := Lib.hid hr
            have hl16 : s2.l.length ≤ 16 := H2.out.ok.len
            have hnm := H2.out.ok.norm
            have hhi := H2.out.ok.hi
            have HRC : Hid (∀ k, k < s2.l.length → base = some ⟨gr, 0, none⟩ ∧ w3.cell? ⟨gr, k * 2, none⟩ = some (.int .u64 ((s2.l.getD k (0, 0)).1 : Int)) ∧ w3.cell? ⟨gr, k * 2 + 1, none⟩ = some (.int .u64 ((s2.l.getD k (0, 0)).2 : Int)) ∧ (s2.l.getD k (0, 0)).1 ≤ (s2.l.getD k (0, 0)).2 ∧ (s2.l.getD k (0, 0)).2 ≤ 4611686018427387903) := fun k hk => by
              obtain ⟨c', e1, e2, e3⟩ := hr.cells hk
              simp only [Value.slice.injEq] at e1
              exact ⟨e1.1, e2, e3, Rg.norm_le hnm _ (Rg.getD_mem hk), hhi _ (Rg.getD_mem hk)⟩
            have HRD : Hid (∀ k, k + 1 < s2.l.length → (s2.l.getD (k + 1) (0, 0)).2 + 2 ≤ (s2.l.getD k (0, 0)).1) := fun k hk => Rg.gaps hnm hk
            have HSE2 := HSE
            clear hr h3 b3 hnm hhi HRG HSE
            generalize hml : s2.l.length = m at *
            clear hml
            have hmz : ¬ (16 : Int) < (m : Int) := by omega
            go_wp2
            go_loopw [8] (fun i wr3 => ∃ k q : Nat, k ≤ m ∧ i = .int .i64 k ∧ wr3 = w3.drewN q) (fun i _ => m - (intOf i).toNat)
            case atStart => exact ⟨0, 0, Nat.zero_le _, rfl, rfl⟩
            case round =>
              obtain ⟨k, q3, hk, rfl, rfl⟩ := hrel
              by_cases hkm : k < m
              · obtain ⟨rfl, e2, e3, e4, e5⟩ := HRC.out k hkm
                have hkz : (k : Int) < (m : Int) := by omega
                cases k with
                | zero =>
                  generalize (s2.l.getD 0 (0, 0)).1 = x at *
                  generalize (s2.l.getD 0 (0, 0)).2 = y at *
                  have d1 : decide ((y : Int) < (x : Int)) = false := by rw [decide_eq_false_iff_not]; omega
                  have d1n : decide (y < x) = false := by rw [decide_eq_false_iff_not]; omega
                  clear e4 e5
                  simp only [Nat.zero_mul, Nat.zero_add] at e2 e3
                  go_wp2
                  go_quiet (fail)
                  go_wp2
                  go_roundw
                  case rel => exact ⟨1, q3 + nq, by omega, by go_num, rfl⟩
                  case measure => simp [intOf]; omega
                | succ p =>
                  obtain ⟨_, e6, _, _, e7⟩ := HRC.out p (by omega)
                  have e8 := HRD.out p hkm
                  generalize (s2.l.getD (p + 1) (0, 0)).1 = x at *
                  generalize (s2.l.getD (p + 1) (0, 0)).2 = y at *
                  have d1 : decide ((y : Int) < (x : Int)) = false := by rw [decide_eq_false_iff_not]; omega
                  have d1n : decide (y < x) = false := by rw [decide_eq_false_iff_not]; omega
                  generalize (s2.l.getD p (0, 0)).1 = x1 at *
                  have d2 : decide ((x1 : Int) < (y : Int) + 2) = false := by rw [decide_eq_false_iff_not]; omega
                  have d2n : decide (x1 < y + 2) = false := by rw [decide_eq_false_iff_not]; omega
                  have d3 : IntKind.u64.wrap ((y : Int) + 2) = (y : Int) + 2 := by rw [IntKind.wrap_u64]; omega
                  have d4 : decide ((0 : Int) < (p : Int) + 1) = true := by rw [decide_eq_true_eq]; omega
                  have d5 : (p : Int) < (m : Int) := by omega
                  clear e4 e5 e7 e8
                  go_wp2
                  go_quiet (fail)
                  go_wp2
                  go_roundw
                  case rel => exact ⟨p + 1 + 1, q3 + nq, by omega, by go_num, rfl⟩
                  case measure => simp [intOf]; omega
              · obtain rfl : m = k := by omega
                clear hkm hk
                go_wp2
                go_roundw
                case rel => exact ⟨j + 1, s2, g', by omega, by go_num, H3.out, HSE2.out, below_drewN B3.out _⟩
                case measure => simp [intOf]; omega
          | true =>
            have hne := HNE.out rfl k hkj
            have f1 := FK.out k (by omega)
            have f2 := FK.out j hlt
            generalize xs.getD k 0 = x at *
            generalize xs.getD j 0 = y at *
            have d1 : ((x : Int) == (y : Int)) = false := by simp; omega
            have d3 : (k : Int) < (n0 : Int) := by omega
            clear hne
            go_wp2
            go_quiet (fail)
            go_wp2
            go_roundw
            case rel => exact ⟨k + 1, q + nq, by omega, by go_num, rfl⟩
            case measure => simp [intOf]; omega
        · obtain rfl : j = k := by omega
          clear hkj
          have HRG := Lib.hid (fun W (hW : SetAt w.heap.size W A g' s2) => sranges_any w.heap.size A g' s2 W hW)
          go_wp2_with fail
          refine (HRG.out _ (H2.out.drewN _)).mono ?_
          rintro e w3 ⟨v, gr, rfl, hr, -, h3, b3⟩
          have H3 := Lib.hid h3
          have B3 := Lib.hid (B2.out.trans ((below_undrew b3).mono B2.out.size))
          obtain ⟨base, c, rfl, _, _⟩ := hr.nilOr
          have HR := Lib.hid hr
          have hl16 : s2.l.length ≤ 16 := H2.out.ok.len
          have hnm := H2.out.ok.norm
          have hhi := H2.out.ok.hi
          have HRC : Hid (∀ k, k < s2.l.length → base = some ⟨gr, 0, none⟩ ∧ w3.cell? ⟨gr, k * 2, none⟩ = some (.int .u64 ((s2.l.getD k (0, 0)).1 : Int)) ∧ w3.cell? ⟨gr, k * 2 + 1, none⟩ = some (.int .u64 ((s2.l.getD k (0, 0)).2 : Int)) ∧ (s2.l.getD k (0, 0)).1 ≤ (s2.l.getD k (0, 0)).2 ∧ (s2.l.getD k (0, 0)).2 ≤ 4611686018427387903) := fun k hk => by
            obtain ⟨c', e1, e2, e3⟩ := hr.cells hk
            simp only [Value.slice.injEq] at e1
            exact ⟨e1.1, e2, e3, Rg.norm_le hnm _ (Rg.getD_mem hk), hhi _ (Rg.getD_mem hk)⟩
          have HRD : Hid (∀ k, k + 1 < s2.l.length → (s2.l.getD (k + 1) (0, 0)).2 + 2 ≤ (s2.l.getD k (0, 0)).1) := fun k hk => Rg.gaps hnm hk
          have HSE2 := HSE
          clear hr h3 b3 hnm hhi HRG HSE
          generalize hml : s2.l.length = m at *
          clear hml
          have hmz : ¬ (16 : Int) < (m : Int) := by omega
          go_wp2
          go_loopw [8] (fun i wr3 => ∃ k q : Nat, k ≤ m ∧ i = .int .i64 k ∧ wr3 = w3.drewN q) (fun i _ => m - (intOf i).toNat)
          case atStart => exact ⟨0, 0, Nat.zero_le _, rfl, rfl⟩
          case round =>
            obtain ⟨k, q3, hk, rfl, rfl⟩ := hrel
            by_cases hkm : k < m
            · obtain ⟨rfl, e2, e3, e4, e5⟩ := HRC.out k hkm
              have hkz : (k : Int) < (m : Int) := by omega
              cases k with
              | zero =>
                generalize (s2.l.getD 0 (0, 0)).1 = x at *
                generalize (s2.l.getD 0 (0, 0)).2 = y at *
                have d1 : decide ((y : Int) < (x : Int)) = false := by rw [decide_eq_false_iff_not]; omega
                have d1n : decide (y < x) = false := by rw [decide_eq_false_iff_not]; omega
                clear e4 e5
                simp only [Nat.zero_mul, Nat.zero_add] at e2 e3
                go_wp2
                go_quiet (fail)
                go_wp2
                go_roundw
                case rel => exact ⟨1, q3 + nq, by omega, by go_num, rfl⟩
                case measure => simp [intOf]; omega
              | succ p =>
                obtain ⟨_, e6, _, _, e7⟩ := HRC.out p (by omega)
                have e8 := HRD.out p hkm
                generalize (s2.l.getD (p + 1) (0, 0)).1 = x at *
                generalize (s2.l.getD (p + 1) (0, 0)).2 = y at *
                have d1 : decide ((y : Int) < (x : Int)) = false := by rw [decide_eq_false_iff_not]; omega
                have d1n : decide (y < x) = false := by rw [decide_eq_false_iff_not]; omega
                generalize (s2.l.getD p (0, 0)).1 = x1 at *
                have d2 : decide ((x1 : Int) < (y : Int) + 2) = false := by rw [decide_eq_false_iff_not]; omega
                have d2n : decide (x1 < y + 2) = false := by rw [decide_eq_false_iff_not]; omega
                have d3 : IntKind.u64.wrap ((y : Int) + 2) = (y : Int) + 2 := by rw [IntKind.wrap_u64]; omega
                have d4 : decide ((0 : Int) < (p : Int) + 1) = true := by rw [decide_eq_true_eq]; omega
                have d5 : (p : Int) < (m : Int) := by omega
                clear e4 e5 e7 e8
                go_wp2
                go_quiet (fail)
                go_wp2
                go_roundw
                case rel => exact ⟨p + 1 + 1, q3 + nq, by omega, by go_num, rfl⟩
                case measure => simp [intOf]; omega
            · obtain rfl : m = k := by omega
              clear hkm hk
              go_wp2
              go_roundw
              case rel => exact ⟨j + 1, s2, g', by omega, by go_num, H3.out, HSE2.out, below_drewN B3.out _⟩
              case measure => simp [intOf]; omega
    · obtain rfl : n0 = j := by omega
      clear hlt hj hseen hs
      have HL := Lib.hid hL
      clear hL
      go_wp2
      go_ret
      exact ⟨rfl, HL.out⟩
end Go.Proofs.Ytgbgdbadifagcaa
