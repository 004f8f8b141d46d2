/- The laws of layer 13's ranges, walked: RangesRuns, RangesOnce. -/
import Derived.Test.YtgbgdbadifagcaaRows
import Derived.Test.YtgbgdbadifagcaaAid
import Derived.Test.YtgbgdbadifagcaaPlainRg
import Derived.Test.YtgbgdbadifagcaaPlainRg2
import Derived.Test.YtgbgdbadifagcaaPlainRg3
import Derived.Test.YtgbgdbadifagcaaRgW
import Derived.Test.YtgbgdbadifagcaaRgX
import Derived.Test.YtgbgdbadifagcaaRgF
import Derived.Test.YtgbgdbadifagcaaRgA
import Derived.Test.YtgbgdbadifagcaaRgB
import Derived.WalkKit
import Derived.Laws.Rows
import Derived.Laws.Tables
import Derived.WalkSpells
import Derived.WalkLawsBesides
import Derived.BigQuiet
import Derived.Handy
import Derived.StillTailTactics
import Derived.Lib.Hide
import Derived.IntWalk
namespace Go.Proofs.Ytgbgdbadifagcaa
open Go.RowKit Go.Shelf Go.Lib Go.Sort
set_option linter.unusedVariables false
set_option linter.unusedSimpArgs false

theorem below_drewN {N : Nat} {w w' : World} (h : Below N w w') (n : Nat) : Below N w (w'.drewN n) := ⟨h.os, h.tape, h.output, h.size, h.block⟩
theorem sadd_z (N a g n : Nat) (z : Int) (hz : z = n) (s : Rg.S) (w : World) (h : SetAt N w a g s) :
    Calls Try.prog 9 #[.pointer (some ⟨a, 0, none⟩), .int .u64 z] w fun e w' => e = .returned (.bool (Rg.add n s).1) ∧ ∃ g', SetAt N w' a g' (Rg.add n s).2 ∧ (g' = g ∨ w.heap.size ≤ g') ∧ Upd2 a g w w' ∧ Below N w w' := by
  subst hz; exact sadd_any N a g n s w h

set_option maxHeartbeats 4000000 in
theorem rangesRuns_walk (a0 a1 : Int) (w : World) (w0 : (Lit.int .u32 a0).wf = true) (w1 : (Lit.int .u8 a1).wf = true) :
    Calls Try.prog 7 #[.int .u32 a0, .int .u8 a1] w fun e w' => e = .returned (.bool true) ∧ Below w.heap.size w w' := by
  obtain ⟨b0, c0⟩ := bounds_u32 w0
  obtain ⟨b1, c1⟩ := bounds_u8 w1
  clear w0 w1
  obtain ⟨lo, rfl⟩ := Int.eq_ofNat_of_zero_le b0
  obtain ⟨m, rfl⟩ := Int.eq_ofNat_of_zero_le b1
  obtain ⟨q, hq⟩ : ∃ q, m % 16 = q := ⟨_, rfl⟩
  have e1 : (m : Int) % 16 = (q : Int) := by omega
  have e2 : (m : Int).tmod 16 = (q : Int) := by rw [Int.tmod_eq_emod_of_nonneg (by omega)]; omega
  obtain ⟨K, hK⟩ : ∃ K, 1 + q = K := ⟨_, rfl⟩
  have e3 : (1 : Int) + (q : Int) = (K : Int) := by omega
  have e4 : IntKind.i64.wrap (K : Int) = (K : Int) := by rw [IntKind.wrap_i64]; omega
  have hK16 : K ≤ 16 := by omega
  have hK0 : 0 < K := by omega
  have hlo : lo < 4294967296 := by omega
  have hm : m < 256 := by omega
  clear hq hK b0 c0 b1 c1
  have HAL := Lib.hid (alive_true w)
  go_enter Try.func7, Try.ntmps7
  go_wp2_with fail
  refine HAL.out.mono ?_
  rintro e w1 ⟨rfl, hb1⟩
  have H0 := Lib.hid (SetAt.new w1 w.heap.size hb1.size)
  have B0 : Hid (Below w.heap.size w (w1.alloc (.cells #[.slice none 0 0, .int .u64 0] 32))) := hb1.alloc hb1.size _
  generalize hA : w1.heap.size = A at H0
  have HA := Lib.hid hA
  clear hb1 hA HAL
  go_wp2
  rw [HA.out]
  go_loopw [7] (fun i wr => ∃ (j : Nat) (s : Rg.S) (g : Nat), j ≤ K ∧ i = .int .i64 j ∧ SetAt w.heap.size wr A g s ∧ s.old = 0 ∧ (∀ x, Rg.mem x s.l → lo ≤ x ∧ x < lo + K) ∧ Below w.heap.size w wr) (fun i _ => K - (intOf i).toNat)
  case atStart =>
    exact ⟨0, ⟨[], 0⟩, _, Nat.zero_le _, rfl, H0.out, rfl, fun x h => absurd h (Rg.mem_nil x), B0.out⟩
  case round =>
    obtain ⟨j, s, g, hj, rfl, hs, hold, hmem, hL⟩ := hrel
    have HS := Lib.hid hs
    have HOLD := Lib.hid hold
    have HM := Lib.hid hmem
    have HL := Lib.hid hL
    clear hs hold hmem hL
    by_cases hlt : j < K
    · obtain ⟨p, hp⟩ : ∃ p, (j * 7 + 3) % K = p := ⟨_, rfl⟩
      have hpK : p < K := by rw [← hp]; exact Nat.mod_lt _ hK0
      have g1 : ((j : Int) * 7 + 3).tmod (K : Int) = (p : Int) := by
        rw [Int.tmod_eq_emod_of_nonneg (by omega), ← hp]; simp
      have g2 : ((j : Int) * 7 + 3) % (K : Int) = (p : Int) := by rw [← hp]; simp
      have g3 : IntKind.u64.wrap ((lo : Int) + (p : Int)) = (lo : Int) + (p : Int) := by rw [IntKind.wrap_u64]; omega
      have g4 : IntKind.u64.wrap (p : Int) = (p : Int) := by rw [IntKind.wrap_u64]; omega
      have g5 : IntKind.u64.wrap (lo : Int) = (lo : Int) := by rw [IntKind.wrap_u64]; omega
      have HADD := Lib.hid (fun W (hW : SetAt w.heap.size W A g s) => sadd_z w.heap.size A g (lo + p) ((lo : Int) + (p : Int)) (by omega) s W hW)
      have HP := Lib.hid (Rg.add_span HS.out.ok HOLD.out hK16 (n := lo + p) (lo := lo) (k := K) (by unfold Rg.top; omega) (by omega) (by omega) HM.out)
      have hj16 : j ≤ 16 := by omega
      clear hp
      go_wp2_with fail
      refine (HADD.out _ HS.out).mono ?_
      rintro e w2 ⟨rfl, g', h2, -, -, b2⟩
      have H2 := Lib.hid h2
      have B2 := Lib.hid (HL.out.trans b2)
      clear h2 b2 g1 g2 g3 g4 g5
      go_wp2
      go_roundw
      case rel => exact ⟨j + 1, _, g', by omega, by go_num, H2.out, HP.out.1, HP.out.2.2, B2.out⟩
      case measure => simp [intOf]; omega
    · obtain rfl : K = j := by omega
      clear hlt hj
      go_wp2
      go_loopw [8] (fun i wr => ∃ (j : Nat) (s : Rg.S) (g : Nat), j ≤ K ∧ i = .int .i64 j ∧ SetAt w.heap.size wr A g s ∧ s.old = 0 ∧ (∀ x, Rg.mem x s.l → lo ≤ x ∧ x < lo + K) ∧ (∀ t, t < j → Rg.mem (lo + (K - 1 - t)) s.l) ∧ Below w.heap.size w wr) (fun i _ => K - (intOf i).toNat)
      case atStart =>
        exact ⟨0, s, _, Nat.zero_le _, rfl, HS.out, HOLD.out, HM.out, fun t ht => absurd ht (Nat.not_lt_zero _), HL.out⟩
      case round =>
        clear HS HOLD HM HL s g
        obtain ⟨j, s, g, hj, rfl, hs, hold, hmem, hin, hL⟩ := hrel
        have HS := Lib.hid hs
        have HOLD := Lib.hid hold
        have HM := Lib.hid hmem
        have HIN := Lib.hid hin
        have HL := Lib.hid hL
        clear hs hold hmem hL hin
        by_cases hlt : j < K
        · obtain ⟨p, hp⟩ : ∃ p, K - 1 - j = p := ⟨_, rfl⟩
          have g1 : (K : Int) - 1 - (j : Int) = (p : Int) := by omega
          have g3 : IntKind.u64.wrap ((lo : Int) + (p : Int)) = (lo : Int) + (p : Int) := by rw [IntKind.wrap_u64]; omega
          have g4 : IntKind.u64.wrap (p : Int) = (p : Int) := by rw [IntKind.wrap_u64]; omega
          have g5 : IntKind.u64.wrap (lo : Int) = (lo : Int) := by rw [IntKind.wrap_u64]; omega
          have g6 : IntKind.i64.wrap (p : Int) = (p : Int) := by rw [IntKind.wrap_i64]; omega
          have HADD := Lib.hid (fun W (hW : SetAt w.heap.size W A g s) => sadd_z w.heap.size A g (lo + p) ((lo : Int) + (p : Int)) (by omega) s W hW)
          have HP := Lib.hid (Rg.add_span HS.out.ok HOLD.out hK16 (n := lo + p) (lo := lo) (k := K) (by unfold Rg.top; omega) (by omega) (by omega) HM.out)
          have HIN2 : Hid (∀ t, t < j + 1 → Rg.mem (lo + (K - 1 - t)) (Rg.add (lo + p) s).2.l) := fun t ht => by
            rw [HP.out.2.1]
            by_cases h : t < j
            · exact Or.inr (HIN.out t h)
            · left; omega
          have hj16 : j ≤ 16 := by omega
          clear hp
          go_wp2_with fail
          refine (HADD.out _ HS.out).mono ?_
          rintro e w2 ⟨rfl, g', h2, -, -, b2⟩
          have H2 := Lib.hid h2
          have B2 := Lib.hid (HL.out.trans b2)
          clear h2 b2 g1 g3 g4 g5 g6
          go_wp2
          go_roundw
          case rel => exact ⟨j + 1, _, g', by omega, by go_num, H2.out, HP.out.1, HP.out.2.2, HIN2.out, B2.out⟩
          case measure => simp [intOf]; omega
        · obtain rfl : K = j := by omega
          clear hlt hj
          have hone : s.l = [(lo, lo + K - 1)] := Rg.one_range HS.out.ok.norm hK0 fun x => ⟨HM.out x, fun h => by
            have := HIN.out (lo + K - 1 - x) (by omega)
            rwa [show lo + (K - 1 - (lo + K - 1 - x)) = x by omega] at this⟩
          obtain ⟨T, hT⟩ : ∃ T, lo + K - 1 = T := ⟨_, rfl⟩
          obtain ⟨p, hp⟩ : ∃ p, K - 1 = p := ⟨_, rfl⟩
          rw [hT] at hone
          have HRG := Lib.hid (fun W (hW : SetAt w.heap.size W A g s) => sranges_any w.heap.size A g s W hW)
          have HLG := Lib.hid (fun W (hW : SetAt w.heap.size W A g s) => slargest_any w.heap.size A g s W hW)
          have HONE := Lib.hid hone
          rw [hone] at HRG HLG
          have ht : topOf [(lo, T)] = (T : Int) := by unfold topOf; simp
          rw [ht] at HLG
          have g2 : (K : Int) - 1 = (p : Int) := by omega
          have g1 : (lo : Int) + (p : Int) = (T : Int) := by omega
          have g3 : IntKind.u64.wrap (T : Int) = (T : Int) := by rw [IntKind.wrap_u64]; omega
          have g5 : IntKind.u64.wrap (lo : Int) = (lo : Int) := by rw [IntKind.wrap_u64]; omega
          have g6 : IntKind.u64.wrap (p : Int) = (p : Int) := by rw [IntKind.wrap_u64]; omega
          have g7 : IntKind.i64.wrap (T : Int) = (T : Int) := by rw [IntKind.wrap_i64]; omega
          clear hone ht HM HIN hT hp
          go_wp2_with fail
          refine (HRG.out _ HS.out).mono ?_
          rintro e w2 ⟨v, gr, rfl, hr, -, h2, b2⟩
          obtain ⟨c, rfl, f1, f2⟩ := hr.cells (i := 0) (by simp)
          simp only [Nat.zero_mul, Nat.zero_add, List.getD_cons_zero, u64v] at f1 f2
          have H2 := Lib.hid h2
          have B2 := Lib.hid (HL.out.trans (b2.mono HL.out.size))
          clear h2 b2 hr
          go_wp2
          go_quiet ((go_at_call 13; exact quiet1 (HLG.out _ (H2.out.drewN _))))
          go_wp2
          go_ret
          exact ⟨rfl, below_drewN B2.out _⟩
end Go.Proofs.Ytgbgdbadifagcaa
