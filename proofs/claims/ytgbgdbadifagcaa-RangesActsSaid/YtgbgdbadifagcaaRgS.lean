/- The document's Same, walked, and RangesOrder. -/
import Derived.Test.YtgbgdbadifagcaaRows
import Derived.Test.YtgbgdbadifagcaaAid
import Derived.Test.YtgbgdbadifagcaaPlainRg
import Derived.Test.YtgbgdbadifagcaaPlainRg2
import Derived.Test.YtgbgdbadifagcaaPlainRg3
import Derived.Test.YtgbgdbadifagcaaRgW
import Derived.Test.YtgbgdbadifagcaaRgX
import Derived.Test.YtgbgdbadifagcaaRgF
import Derived.Test.YtgbgdbadifagcaaRgA
import Derived.Test.YtgbgdbadifagcaaRgB
import Derived.Test.YtgbgdbadifagcaaRgL
import Derived.Test.YtgbgdbadifagcaaRgL2
import Derived.WalkKit
import Derived.Laws.Rows
import Derived.Laws.Tables
import Derived.WalkSpells
import Derived.WalkLawsBesides
import Derived.BigQuiet
import Derived.Handy
import Derived.StillTailTactics
import Derived.Lib.Hide
import Derived.IntWalk
namespace Go.Proofs.Ytgbgdbadifagcaa
open Go.RowKit Go.Shelf Go.Lib Go.Sort
set_option linter.unusedVariables false
set_option linter.unusedSimpArgs false

set_option maxHeartbeats 2000000 in
theorem refSame_any (g1 g2 : Nat) (v1 v2 : Value) (l : List Rg.R) (w : World) (h1 : RowR w v1 g1 l) (h2 : RowR w v2 g2 l) (hl : l.length ≤ 1000) :
    Calls Try.prog 19 #[v1, v2] w fun e w' => e = .returned (.bool true) ∧ Below w.heap.size w w' := by
  obtain ⟨base1, c1, rfl, _, _⟩ := h1.nilOr
  obtain ⟨base2, c2, rfl, _, _⟩ := h2.nilOr
  have HC : Hid (∀ k, k < l.length → (base1 = some ⟨g1, 0, none⟩ ∧ w.cell? ⟨g1, k * 2, none⟩ = some (.int .u64 ((l.getD k (0, 0)).1 : Int)) ∧ w.cell? ⟨g1, k * 2 + 1, none⟩ = some (.int .u64 ((l.getD k (0, 0)).2 : Int))) ∧
      (base2 = some ⟨g2, 0, none⟩ ∧ w.cell? ⟨g2, k * 2, none⟩ = some (.int .u64 ((l.getD k (0, 0)).1 : Int)) ∧ w.cell? ⟨g2, k * 2 + 1, none⟩ = some (.int .u64 ((l.getD k (0, 0)).2 : Int)))) := fun k hk => by
    obtain ⟨c', e1, e2, e3⟩ := h1.cells hk
    obtain ⟨c'', e4, e5, e6⟩ := h2.cells hk
    simp only [Value.slice.injEq] at e1 e4
    exact ⟨⟨e1.1, e2, e3⟩, e4.1, e5, e6⟩
  clear h1 h2
  generalize hm : l.length = m at *
  clear hm
  go_enter Try.func19, Try.ntmps19
  go_wp2
  go_loopw [5] (fun i wr => ∃ k q : Nat, k ≤ m ∧ i = .int .i64 k ∧ wr = w.drewN q) (fun i _ => m - (intOf i).toNat)
  case atStart => exact ⟨0, 0, Nat.zero_le _, rfl, rfl⟩
  case round =>
    obtain ⟨k, q, hk, rfl, rfl⟩ := hrel
    by_cases hkm : k < m
    · obtain ⟨⟨rfl, e2, e3⟩, rfl, e5, e6⟩ := HC.out k hkm
      generalize (l.getD k (0, 0)).1 = x at *
      generalize (l.getD k (0, 0)).2 = y at *
      have hkz : (k : Int) < (m : Int) := by omega
      go_wp2
      go_quiet (fail)
      go_wp2
      go_roundw
      case rel => exact ⟨k + 1, q + nq, by omega, by go_num, rfl⟩
      case measure => simp [intOf]; omega
    · obtain rfl : m = k := by omega
      clear hkm hk
      go_wp2
      go_ret
      exact ⟨rfl, below_drewN (Below.refl _ _) _⟩

def addF (f : Nat → Nat) (j : Nat) : Rg.S := Rg.addAll ((List.range j).map f) ⟨[], 0⟩
theorem addF_succ (f : Nat → Nat) (j : Nat) : addF f (j + 1) = (Rg.add (f j) (addF f j)).2 := by
  unfold addF; rw [List.range_succ, List.map_append]; exact Rg.addAll_snoc _ _ _
theorem addF_turn (f : Nat → Nat) (n k : Nat) (hn : n ≤ 16) : (addF f n).l = (addF (fun i => f ((n - 1 - i + k) % n)) n).l := by
  refine Rg.addAll_same (by simpa using hn) (by simpa using hn) fun x => ?_
  simp only [List.mem_map, List.mem_range]
  constructor
  · rintro ⟨p, hp, rfl⟩
    obtain ⟨i, hi⟩ : ∃ i, (n - 1 + k - p) % n = i := ⟨_, rfl⟩
    have hin : i < n := by rw [← hi]; exact Nat.mod_lt _ (by omega)
    refine ⟨i, hin, ?_⟩
    have h1 := Nat.div_add_mod (n - 1 + k - p) n
    rw [hi] at h1
    have h2 : n - 1 - i + k = p + n * ((n - 1 + k - p) / n) := by
      generalize n * ((n - 1 + k - p) / n) = m at *
      omega
    rw [h2, Nat.add_mul_mod_self_left, Nat.mod_eq_of_lt hp]
  · rintro ⟨i, hi, rfl⟩
    exact ⟨_, Nat.mod_lt _ (by omega), rfl⟩

set_option maxHeartbeats 4000000 in
theorem rangesOrder_walk (A0 : Option Addr) (n0 c0 : Nat) (z : List Int) (a1 : Int) (w : World) (w0 : Ints .u64 w A0 n0 z) (x0 : n0 ≤ maxLen) (w1 : (Lit.int .u8 a1).wf = true) :
    Calls Try.prog 5 #[.slice A0 n0 c0, .int .u8 a1] w fun e w' => e = .returned (.bool true) ∧ Below w.heap.size w w' := by
  have hN := Nums.of w0
  generalize z.map Int.toNat = xs at hN
  obtain ⟨b1, c1⟩ := bounds_u8 w1
  obtain ⟨kk, rfl⟩ := Int.eq_ofNat_of_zero_le b1
  have hk : kk < 256 := by omega
  have HN := Lib.hid hN
  have HAL := Lib.hid (fun w => alive_true w)
  clear w0 hN b1 c1 w1
  by_cases h16 : 16 < n0
  · have hd : decide ((16 : Int) < (n0 : Int)) = true := by simp; omega
    go_enter Try.func5, Try.ntmps5
    go_wp2_with fail
    refine (HAL.out w).mono ?_
    rintro e w1 ⟨rfl, hb1⟩
    have HB := Lib.hid hb1
    clear hb1
    go_wp2
    go_ret
    exact ⟨rfl, HB.out⟩
  have hd : decide ((16 : Int) < (n0 : Int)) = false := by simp; omega
  have hn0 : n0 ≤ 16 := by omega
  go_enter Try.func5, Try.ntmps5
  go_wp2_with fail
  refine (HAL.out w).mono ?_
  rintro e w1 ⟨rfl, hb1⟩
  have H0 := Lib.hid ((SetAt.new w1 w.heap.size hb1.size).alloc (.cells #[.slice none 0 0, .int .u64 0] 32))
  have hsz : (w1.alloc (.cells #[.slice none 0 0, .int .u64 0] 32)).heap.size = w1.heap.size + 1 := by simp
  have K0 : Hid (SetAt w.heap.size ((w1.alloc (.cells #[.slice none 0 0, .int .u64 0] 32)).alloc (.cells #[.slice none 0 0, .int .u64 0] 32)) (w1.heap.size + 1) (w1.heap.size + 1) ⟨[], 0⟩) := by
    have := SetAt.new (w1.alloc (.cells #[.slice none 0 0, .int .u64 0] 32)) w.heap.size (by rw [hsz]; have := hb1.size; omega)
    rwa [hsz] at this
  have B0 : Hid (Below w.heap.size w ((w1.alloc (.cells #[.slice none 0 0, .int .u64 0] 32)).alloc (.cells #[.slice none 0 0, .int .u64 0] 32))) := (hb1.alloc hb1.size _).alloc (by rw [hsz]; have := hb1.size; omega) _
  have HZ : Hid (w.heap.size ≤ w1.heap.size) := hb1.size
  obtain ⟨F, hF⟩ : ∃ F : Nat → Nat, (fun t => xs.getD t 0) = F := ⟨_, rfl⟩
  have HFX : Hid (∀ t, xs.getD t 0 = F t) := fun t => by rw [← hF]
  clear hb1 hsz hF
  go_wp2
  generalize hA : w1.heap.size = A at *
  go_loopw [7] (fun i wr => ∃ (j g : Nat), j ≤ n0 ∧ i = .int .i64 j ∧ SetAt w.heap.size wr A g (addF F j) ∧ g ≠ A + 1 ∧ SetAt w.heap.size wr (A + 1) (A + 1) ⟨[], 0⟩ ∧ Below w.heap.size w wr) (fun i _ => n0 - (intOf i).toNat)
  case atStart =>
    exact ⟨0, A, Nat.zero_le _, rfl, H0.out, by omega, K0.out, B0.out⟩
  case round =>
    clear H0 K0 B0
    obtain ⟨j, g, hj, rfl, hs, hg, ht, hL⟩ := hrel
    by_cases hlt : j < n0
    · obtain ⟨b, off, rfl, hbl, hcell⟩ := HN.out.cell (by omega)
      have f0 : wr.cell? ⟨b, off + j, none⟩ = some (.int .u64 ((F j : Nat) : Int)) := by rw [← HFX.out]; exact (hL.cell (p := ⟨b, off + j, none⟩) hbl).trans (hcell j hlt)
      have HADD := Lib.hid (fun W (hW : SetAt w.heap.size W A g (addF F j)) => sadd_any w.heap.size A g (F j) (addF F j) W hW)
      have HS := Lib.hid hs
      have HT := Lib.hid ht
      have HL := Lib.hid hL
      have HG := Lib.hid hg
      have hjz : (j : Int) < (n0 : Int) := by omega
      have HSU : Hid ((Rg.add (F j) (addF F j)).2 = addF F (j + 1)) := (addF_succ F j).symm
      clear hs ht hL hbl hcell hg
      go_wp2_with fail
      refine (HADD.out _ HS.out).mono ?_
      rintro e w2 ⟨rfl, g', h2, hg', u2, b2⟩
      rw [HSU.out] at h2
      have hk2 := HT.out.upd2 u2 (by omega) (fun h => HG.out h.symm) (by omega) (fun h => HG.out h.symm)
      have hg2 : g' ≠ A + 1 := by
        have h1 := HT.out.lt
        have h2 := HG.out
        rcases hg' with h | h <;> omega
      have H2 := Lib.hid h2
      have K2 := Lib.hid hk2
      have G2 := Lib.hid hg2
      have B2 := Lib.hid (HL.out.trans b2)
      clear h2 hk2 hg2 b2 u2 hg' f0 HADD
      generalize (Rg.add (F j) (addF F j)).1 = ok
      go_wp2
      go_roundw
      case rel => exact ⟨j + 1, g', by omega, by go_num, H2.out, G2.out, K2.out, B2.out⟩
      case measure => simp [intOf]; omega
    · obtain rfl : n0 = j := by omega
      clear hlt hj
      have HS := Lib.hid hs
      have HT := Lib.hid ht
      have HL := Lib.hid hL
      have HG := Lib.hid hg
      clear hs ht hL hg
      go_wp2
      go_loopw [8] (fun i wr => ∃ (j h : Nat), j ≤ n0 ∧ i = .int .i64 j ∧ SetAt w.heap.size wr A g (addF F n0) ∧ SetAt w.heap.size wr (A + 1) h (addF (fun i => F ((n0 - 1 - i + kk) % n0)) j) ∧ h ≠ A ∧ h ≠ g ∧ Below w.heap.size w wr) (fun i _ => n0 - (intOf i).toNat)
      case atStart =>
        exact ⟨0, A + 1, Nat.zero_le _, rfl, HS.out, HT.out, by omega, fun h => HG.out h.symm, HL.out⟩
      case round =>
        clear HS HT HL
        obtain ⟨j, h, hj, rfl, hs, ht, hh1, hh2, hL⟩ := hrel
        by_cases hlt : j < n0
        · obtain ⟨b, off, rfl, hbl, hcell⟩ := HN.out.cell (by omega)
          obtain ⟨p, hp⟩ : ∃ p, (n0 - 1 - j + kk) % n0 = p := ⟨_, rfl⟩
          have hpn : p < n0 := by rw [← hp]; exact Nat.mod_lt _ (by omega)
          obtain ⟨q, hq⟩ : ∃ q, n0 - 1 - j + kk = q := ⟨_, rfl⟩
          have f0 : wr.cell? ⟨b, off + p, none⟩ = some (.int .u64 ((F p : Nat) : Int)) := by rw [← HFX.out]; exact (hL.cell (p := ⟨b, off + p, none⟩) hbl).trans (hcell p hpn)
          obtain ⟨t, hT⟩ : ∃ t, addF (fun i => F ((n0 - 1 - i + kk) % n0)) j = t := ⟨_, rfl⟩
          have HSU : Hid ((Rg.add (F p) t).2 = addF (fun i => F ((n0 - 1 - i + kk) % n0)) (j + 1)) := by
            unfold Hid; rw [addF_succ, hT, hp]
          rw [hT] at ht
          have HADD := Lib.hid (fun W (hW : SetAt w.heap.size W (A + 1) h t) => sadd_any w.heap.size (A + 1) h (F p) t W hW)
          have HS := Lib.hid hs
          have HT := Lib.hid ht
          have HL := Lib.hid hL
          have HH := Lib.hid (And.intro hh1 hh2)
          have g1 : (n0 : Int) - 1 - (j : Int) + (kk : Int) = (q : Int) := by omega
          have g2 : (q : Int).tmod (n0 : Int) = (p : Int) := by rw [Int.tmod_eq_emod_of_nonneg (by omega), ← hp, ← hq]; simp
          have g3 : (q : Int) % (n0 : Int) = (p : Int) := by rw [← hp, ← hq]; simp
          have g4 : (p : Int) < (n0 : Int) := by omega
          have g5 : ¬ (n0 : Int) = 0 := by omega
          have hq300 : q < 300 := by omega
          clear hs ht hL hbl hcell hh1 hh2 hp hq hT
          go_wp2_with fail
          refine (HADD.out _ HT.out).mono ?_
          rintro e w2 ⟨rfl, h', h2, hg', u2, b2⟩
          rw [HSU.out] at h2
          have hk2 := HS.out.upd2 u2 (by omega) (fun e => HH.out.1 e.symm) HG.out (fun e => HH.out.2 e.symm)
          have hg2 : h' ≠ A ∧ h' ≠ g := by
            have h1 := HS.out.lt
            have h3 := HS.out.2.2.1
            have h4 := HH.out
            rcases hg' with h | h <;> constructor <;> omega
          have H2 := Lib.hid h2
          have K2 := Lib.hid hk2
          have G2 := Lib.hid hg2
          have B2 := Lib.hid (HL.out.trans b2)
          clear h2 hk2 hg2 b2 u2 hg' f0 HADD g1 g2 g3 g4 g5
          generalize (Rg.add (F p) t).1 = ok
          go_wp2
          go_roundw
          case rel => exact ⟨j + 1, h', by omega, by go_num, K2.out, H2.out, G2.out.1, G2.out.2, B2.out⟩
          case measure => simp [intOf]; omega
        · obtain rfl : n0 = j := by omega
          clear hlt hj
          have HEQ : Hid ((addF (fun i => F ((n0 - 1 - i + kk) % n0)) n0).l = (addF F n0).l) := (addF_turn F n0 kk hn0).symm
          have HS := Lib.hid hs
          have HT := Lib.hid ht
          have HL := Lib.hid hL
          clear hs ht hL
          go_wp2_with fail
          refine (HAL.out _).mono ?_
          rintro e w2 ⟨rfl, b2⟩
          have HS2 := Lib.hid (HS.out.kept b2)
          have HT2 := Lib.hid (HT.out.kept b2)
          have HL2 := Lib.hid (HL.out.trans (b2.mono HL.out.size))
          clear b2 HS HT HL
          go_wp2_with fail
          refine (sranges_any w.heap.size _ _ _ _ HS2.out).mono ?_
          rintro e w3 ⟨v3, g3, rfl, hr3, -, -, b3⟩
          have HR3 := Lib.hid hr3
          have HT3 := Lib.hid (HT2.out.kept b3)
          have HL3 := Lib.hid (HL2.out.trans (b3.mono HL2.out.size))
          clear b3 HS2 HT2 HL2 hr3
          go_wp2_with fail
          refine (sranges_any w.heap.size _ _ _ _ HT3.out).mono ?_
          rintro e w4 ⟨v4, g4, rfl, hr4, -, -, b4⟩
          have HR4 := Lib.hid (HR3.out.kept b4)
          have HQ4 := Lib.hid hr4
          have HLN : Hid ((addF F n0).l.length ≤ 1000) := by have := (Rg.addAll_few ((List.range n0).map F) (by simpa using hn0)).2.2; unfold Hid addF; simp at this; omega
          have HL4 := Lib.hid (HL3.out.trans (b4.mono HL3.out.size))
          clear b4 HR3 HT3 HL3 hr4
          go_wp2_with fail
          refine (refSame_any g3 g4 _ _ _ _ HR4.out (HEQ.out ▸ HQ4.out) HLN.out).mono ?_
          rintro e w5 ⟨rfl, b5⟩
          have HL5 := Lib.hid (HL4.out.trans (b5.mono HL4.out.size))
          clear b5
          go_wp2
          go_ret
          exact ⟨rfl, HL5.out⟩
end Go.Proofs.Ytgbgdbadifagcaa
