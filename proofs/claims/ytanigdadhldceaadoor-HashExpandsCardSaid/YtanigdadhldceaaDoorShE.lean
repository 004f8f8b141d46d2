/- slices.Grow of nil, slices.Concat of slices of bytes, walked. -/
import Derived.Test.YtanigdadhldceaaDoorRows
import Derived.Test.YtanigdadhldceaaDoorAid
import Derived.Test.YtanigdadhldceaaDoorBy
import Derived.WalkKit
import Derived.OwnWalk
import Derived.Laws.Rows
import Derived.Laws.Tables
import Derived.Laws.AppendOwn
import Derived.Lib.AppendZeros
import Derived.WalkSpells
import Derived.WalkLawsBesides
import Derived.BigQuiet
import Derived.Handy
import Derived.Lib.Hide
import Derived.IntWalk
namespace Go.Proofs.YtanigdadhldceaaDoor
open Go.RowKit
set_option linter.unusedVariables false
set_option linter.unusedSimpArgs false

theorem below_grown {w0 w w' : World} {v : Value} {n : Nat} {l : List Value} (h : Below w0.heap.size w0 w) (ho : w.ownsRow w0.heap.size 5 1 v n l) (hg : w.grownBy w' v.ownBlock) : Below w0.heap.size w0 w' :=
  h.grown hg h.size (fun k e => (ho.lt k e).1)
/-- Grow of nil: a slice of its own without elements. -/
theorem grow_any (n : Nat) (w : World) (hn : n ≤ 1000000) :
    Calls Tryd.prog 24 #[.slice none 0 0, .int .i64 n] w fun e w' => ∃ v, e = .returned v ∧ w'.ownsRow w.heap.size 5 1 v 0 (([] : List Nat).map b8) ∧ Below w.heap.size w w' := by
  by_cases h0 : n = 0
  · subst h0
    go_enter Tryd.func24, Tryd.ntmps24
    go_wp2
    go_ret
    exact ⟨_, rfl, World.ownsRow_nil _ _ _ _, Below.refl _ _⟩
  · have hp : 0 < n := by omega
    have h1 : ¬ ((n : Int) < 0) := by omega
    have h2 : 0 < (n : Int) := by omega
    obtain ⟨i0, hi, hz0, hz1, hz2⟩ := info_parts info8
    have hr := Lib.run_append_nil_zeros (P := Tryd.prog) w 22 3 22 5 i0 (.int .u8 0) .i64 .i64 Tryd.underlying22 Tryd.underlying3 hi hz0 n hp (by omega) (by omega) (by rw [hz2]; omega)
    have hcap := grownCap_ge w n 0 5
    have hmax := grownCap_le_maxLen w n 0 5 (by unfold maxLen; omega)
    generalize grownCap w n 0 5 = cp at *
    have hmi : cp ≤ 9223372036854775807 := by simp only [maxLen] at hmax; omega
    obtain ⟨cs, hcs⟩ : ∃ cs, Builtin.zeroCells (Value.int .u8 0).cells n ++ Builtin.zeroCells (Value.int .u8 0).cells (cp - n) = cs := ⟨_, rfl⟩
    have hsz : cs.size = cp := by
      rw [← hcs, Array.size_append, size_zeroCells, size_zeroCells]
      show n * 1 + (cp - n) * 1 = cp
      omega
    rw [hcs] at hr
    have HR := Lib.hid hr
    have HF : Hid ((w.drew.alloc (.cells cs 5)).ownsRow w.heap.size 5 1 (.slice (some ⟨w.heap.size, 0, none⟩) 0 cp) 0 (([] : List Nat).map b8) ∧ Below w.heap.size w (w.drew.alloc (.cells cs 5))) :=
      ⟨World.ownsRow_made w.drew cs cp (Nat.le_refl _) hmax (by rw [hsz]; omega), ((Below.refl _ w).drew).alloc (Nat.le_refl _) _⟩
    clear hr hcs hsz hmax hz0 hz1 hz2 hi
    go_enter Tryd.func24, Tryd.ntmps24
    go_wp2_with (at_builtin; refine Lib.wpList_append_run _ rfl _ _ _ _ rfl _ _ rfl rfl _ _ HR.out ?_)
    go_ret
    exact ⟨_, rfl, HF.out⟩

/-- The first k lists, one behind the other. -/
def catK (L : Nat → List Nat) : Nat → List Nat
  | 0 => []
  | k + 1 => catK L k ++ L k
theorem catK_mono (L : Nat → List Nat) : ∀ m k, k ≤ m → (catK L k).length ≤ (catK L m).length
  | 0, k, h => by rw [Nat.le_zero.1 h]; exact Nat.le_refl _
  | m + 1, k, h => by
    rcases Nat.lt_or_ge m k with h1 | h1
    · rw [show k = m + 1 by omega]; exact Nat.le_refl _
    · exact Nat.le_trans (catK_mono L m k h1) (by show _ ≤ (catK L m ++ L m).length; rw [List.length_append]; omega)
theorem catK_len (L : Nat → List Nat) (k : Nat) : (catK L (k + 1)).length = (catK L k).length + (L k).length := by show (catK L k ++ L k).length = _; rw [List.length_append]

set_option maxHeartbeats 2000000 in
theorem concat_any (g m : Nat) (A : Nat → Option Addr) (N C : Nat → Nat) (L : Nat → List Nat) (w : World) (hm : m ≤ 100) (hg : g < w.heap.size) (hcell : ∀ i, i < m → w.cell? ⟨g, i, none⟩ = some (.slice (A i) (N i) (C i))) (hL : ∀ i, i < m → (L i).length = N i ∧ Rb w (A i) (L i)) (hs : (catK L m).length ≤ 1000000) :
    Calls Tryd.prog 19 #[.slice (some ⟨g, 0, none⟩) m m] w fun e w' => ∃ v, e = .returned v ∧ w'.ownsRow w.heap.size 5 1 v (catK L m).length ((catK L m).map b8) ∧ Below w.heap.size w w' := by
  have HC := Lib.hid hcell
  have HL := Lib.hid hL
  have HG := Lib.hid hg
  have HM : Hid (∀ k, k ≤ m → (catK L k).length ≤ 1000000) := fun k hk => Nat.le_trans (catK_mono L m k hk) hs
  clear hcell hL hs hg
  go_enter Tryd.func19, Tryd.ntmps19
  go_wp2
  go_loop [3, 11] (fun s i => ∃ k : Nat, k ≤ m ∧ i = .int .i64 k ∧ s = .int .i64 ((catK L k).length : Nat)) (fun _ i => m - (intOf i).toNat)
  case atStart => exact ⟨0, by omega, rfl, rfl⟩
  case round =>
    obtain ⟨k, hk, rfl, rfl⟩ := hrel
    by_cases hlt : k < m
    · have c0 := HC.out k hlt
      have e1 := (HL.out k hlt).1
      have e2 := HM.out (k + 1) (by omega)
      have e3 := catK_len L k
      have hki : (k : Int) < (m : Int) := by omega
      have HQ : Hid ((catK L (k + 1)).length = (catK L k).length + N k) := by unfold Hid; omega
      have b1 : (catK L k).length ≤ 1000000 := HM.out k (by omega)
      have b2 : N k ≤ 1000000 := by omega
      clear e1 e2 e3
      generalize (catK L k).length = q at *
      generalize N k = r at *
      generalize A k = aa at *
      generalize C k = cc at *
      go_wp2
      go_round
      case rel => exact ⟨k + 1, by omega, by go_num, by rw [HQ.out]; go_num⟩
      case measure => simp [intOf]; omega
    · obtain rfl : m = k := by omega
      have b1 := HM.out m (Nat.le_refl _)
      have HQ : Hid (∃ q, q = (catK L m).length ∧ q ≤ 1000000) := ⟨_, rfl, b1⟩
      clear b1
      obtain ⟨q, hq, b1⟩ := HQ.out
      rw [← hq]
      clear hq HQ
      go_wp2_with fail
      refine (grow_any q w b1).mono ?_
      rintro e w1 ⟨v, rfl, hown, hbel⟩
      have HO := Lib.hid hown
      have HB := Lib.hid hbel
      clear hown hbel
      go_wp2
      go_loopw [6, 27] (fun s i wr => ∃ k : Nat, k ≤ m ∧ i = .int .i64 k ∧ wr.ownsRow w.heap.size 5 1 s (catK L k).length ((catK L k).map b8) ∧ Below w.heap.size w wr) (fun _ i _ => m - (intOf i).toNat)
      case atStart => exact ⟨0, by omega, rfl, HO.out, HB.out⟩
      case round =>
        clear HO HB
        obtain ⟨k, hk, rfl, hown, hbel⟩ := hrel
        rename_i s _ wr
        have HO := Lib.hid hown
        have HB := Lib.hid hbel
        by_cases hlt : k < m
        · have c0 : wr.cell? ⟨g, k, none⟩ = _ := (hbel.cell (p := ⟨g, k, none⟩) HG.out).trans (HC.out k hlt)
          have HR : Hid ((L k).length = N k ∧ Rb wr (A k) (L k)) := ⟨(HL.out k hlt).1, (HL.out k hlt).2.below hbel⟩
          have HQ : Hid ((catK L k).length + N k ≤ 1000000) := by
            have := HM.out (k + 1) (by omega)
            rw [catK_len, (HL.out k hlt).1] at this
            exact this
          have hki : (k : Int) < (m : Int) := by omega
          clear hown hbel
          generalize hN : N k = r at *
          generalize A k = aa at *
          generalize C k = cc at *
          have HN := Lib.hid hN
          clear hN
          go_wp2_with (at_builtin; refine wpList_appX rfl (.tmp 31) (.tmp 32) rfl _ _ _ _ rfl HO.out _ _ _ (L k) rfl HR.out.1 HR.out.2 (by have := HQ.out; omega) HB.out.size ?_)
          intro v' w' hown' hgr
          have HO' : Hid (w'.ownsRow w.heap.size 5 1 v' (catK L (k + 1)).length ((catK L (k + 1)).map b8)) := by
            rw [catK_len, HR.out.1]
            show w'.ownsRow w.heap.size 5 1 v' _ ((catK L k ++ L k).map b8)
            rw [List.map_append]
            simpa using hown'
          have HB' := Lib.hid (below_grown HB.out HO.out hgr)
          clear hown' hgr
          go_wp2
          go_roundw
          case rel => exact ⟨k + 1, by omega, by go_num, HO'.out, HB'.out⟩
          case measure => simp [intOf]; omega
        · obtain rfl : m = k := by omega
          clear hown hbel
          go_wp2
          go_ret
          exact ⟨_, rfl, HO.out, HB.out⟩
end Go.Proofs.YtanigdadhldceaaDoor
