/- Layer 9's gcm, walked: Same and slices.Equal. -/
import Derived.RangeFuncNested
import Derived.RangeFuncBound
import Derived.RangeFuncCalls
import Derived.RangeFuncLeaves
import Derived.RangeFuncBox
import Derived.Shelf.Abstract
import Derived.Shelf.RegionOpen
import Derived.WalkKit
import Derived.OwnWalkIn
import Derived.TacticsInMore
import Derived.LoopN
import Derived.LoopNIn
import Derived.LoopIn
import Derived.WalkSpells
import Derived.WalkLawsBesides
import Derived.Laws.Rows
import Derived.Laws.EntriesVeiled
import Derived.Laws.BitsAllLaws
import Derived.Handy
import Derived.BigQuiet
import Derived.Deep.QuietTactic
import Derived.IntWalk
import Derived.Lib.Hide
import Derived.Outline
import Derived.Test.YtnphanhoakbkpaaRows
import Derived.Test.YtnphanhoakbkpaaAid
import Derived.Test.YtnphanhoakbkpaaPlainAe
import Derived.Test.YtnphanhoakbkpaaPlainAe2
import Derived.Test.YtnphanhoakbkpaaAesB
import Derived.Test.YtnphanhoakbkpaaAesBox
import Derived.Test.YtnphanhoakbkpaaAesW
import Derived.Test.YtnphanhoakbkpaaAesE
import Derived.Test.YtnphanhoakbkpaaAesK
import Derived.Test.YtnphanhoakbkpaaAesS
namespace Go.Proofs.Ytnphanhoakbkpaa
open Go Go.RowKit Go.Shelf
set_option linter.unusedVariables false
set_option linter.unusedSimpArgs false

set_option maxHeartbeats 1000000 in
theorem same_any (A B : Option Addr) (c d n m : Nat) (l r : List Nat) (w : World) (hA : Rd w A l) (hB : Rd w B r) (hn : l.length = n) (hm : r.length = m) (hk : n ≤ 1000000) :
    Calls Try.prog 16 #[.slice A n c, .slice B m d] w fun e w' => e = .returned (.bool (decide (l = r))) ∧ ∃ q, w' = w.drewN q := by
  have HN := Lib.hid hn
  have HM := Lib.hid hm
  have HA := Lib.hid hA
  have HB := Lib.hid hB
  by_cases hnm : n = m
  · subst hnm
    clear hn hm hA hB
    go_enter Try.func16, Try.ntmps16
    go_wp2
    go_loopw [5] (fun i wr => ∃ k q : Nat, k ≤ n ∧ i = .int .i64 k ∧ wr = w.drewN q ∧ ∀ j, j < k → l.getD j 0 = r.getD j 0) (fun i _ => n - (intOf i).toNat)
    case atStart => exact ⟨0, 0, by omega, rfl, rfl, fun j hj => by omega⟩
    case round =>
      obtain ⟨k, q, hk, rfl, rfl, hsame⟩ := hrel
      have HSA := Lib.hid hsame
      clear hsame
      by_cases hlt : k < n
      · obtain ⟨b, o, rfl, hb, hc⟩ := HA.out (by rw [HN.out]; omega)
        obtain ⟨b', o', rfl, hb', hc'⟩ := HB.out (by rw [HM.out]; omega)
        have f0 := hc k (by rw [HN.out]; exact hlt)
        have f1 := hc' k (by rw [HM.out]; exact hlt)
        have hki : (k : Int) < (n : Int) := by omega
        clear hc hc' hb hb'
        obtain ⟨x, hx⟩ : ∃ x, l.getD k 0 = x := ⟨_, rfl⟩
        obtain ⟨y, hy⟩ : ∃ y, r.getD k 0 = y := ⟨_, rfl⟩
        rw [hx] at f0
        rw [hy] at f1
        have HX := Lib.hid hx
        have HY := Lib.hid hy
        clear hx hy
        by_cases hxy : x = y
        · subst hxy
          go_wp2
          go_quiet (fail)
          go_wp2
          go_roundw
          case rel => exact ⟨k + 1, q + nq, by omega, by go_num, rfl, fun j hj => by
            rcases Nat.lt_or_ge j k with h | h
            · exact HSA.out j h
            · obtain rfl : j = k := by omega
              rw [HX.out, HY.out]⟩
          case measure => simp [intOf]; omega
        · have hxi : ¬ (x : Int) = (y : Int) := by omega
          have hne : decide (l = r) = false := decide_eq_false fun e => hxy (by rw [← HX.out, ← HY.out, e])
          have HE := Lib.hid hne
          clear hne
          go_wp2
          go_quiet (fail)
          go_wp2
          go_ret
          exact ⟨by rw [HE.out]; rfl, q + nq, World.drewN_drewN _ _ _⟩
      · obtain rfl : k = n := by omega
        have HE : Hid (decide (l = r) = true) := decide_eq_true (List.ext_getElem (by rw [HN.out, HM.out]) fun j h1 h2 => by
          have := HSA.out j (by rw [← HN.out]; exact h1)
          simpa [List.getD_eq_getElem?_getD, h1, h2] using this)
        go_wp2
        go_ret
        exact ⟨by rw [HE.out]; rfl, _, rfl⟩
  · have hnmi : ¬ (n : Int) = (m : Int) := by omega
    have HE : Hid (decide (l = r) = false) := decide_eq_false fun e => hnm (by rw [← hn, ← hm, e])
    clear hn hm hA hB
    go_enter Try.func16, Try.ntmps16
    go_wp2
    go_ret
    exact ⟨by rw [HE.out]; rfl, 0, rfl⟩

set_option maxHeartbeats 1000000 in
theorem equal_any (A B : Option Addr) (c d n m : Nat) (l r : List Nat) (w : World) (hA : Rd w A l) (hB : Rd w B r) (hn : l.length = n) (hm : r.length = m) (hk : n ≤ 1000000) :
    Calls Try.prog 28 #[.slice A n c, .slice B m d] w fun e w' => e = .returned (.bool (decide (l = r))) ∧ ∃ q, w' = w.drewN q := by
  have HN := Lib.hid hn
  have HM := Lib.hid hm
  have HA := Lib.hid hA
  have HB := Lib.hid hB
  by_cases hnm : n = m
  · subst hnm
    clear hn hm hA hB
    go_enter Try.func28, Try.ntmps28
    go_wp2
    go_loopw [13] (fun i wr => ∃ k q : Nat, k ≤ n ∧ i = .int .i64 k ∧ wr = w.drewN q ∧ ∀ j, j < k → l.getD j 0 = r.getD j 0) (fun i _ => n - (intOf i).toNat)
    case atStart => exact ⟨0, 0, by omega, rfl, rfl, fun j hj => by omega⟩
    case round =>
      obtain ⟨k, q, hk, rfl, rfl, hsame⟩ := hrel
      have HSA := Lib.hid hsame
      clear hsame
      by_cases hlt : k < n
      · obtain ⟨b, o, rfl, hb, hc⟩ := HA.out (by rw [HN.out]; omega)
        obtain ⟨b', o', rfl, hb', hc'⟩ := HB.out (by rw [HM.out]; omega)
        have f0 := hc k (by rw [HN.out]; exact hlt)
        have f1 := hc' k (by rw [HM.out]; exact hlt)
        have hki : (k : Int) < (n : Int) := by omega
        clear hc hc' hb hb'
        obtain ⟨x, hx⟩ : ∃ x, l.getD k 0 = x := ⟨_, rfl⟩
        obtain ⟨y, hy⟩ : ∃ y, r.getD k 0 = y := ⟨_, rfl⟩
        rw [hx] at f0
        rw [hy] at f1
        have HX := Lib.hid hx
        have HY := Lib.hid hy
        clear hx hy
        by_cases hxy : x = y
        · subst hxy
          go_wp2
          go_quiet (fail)
          go_wp2
          go_roundw
          case rel => exact ⟨k + 1, q + nq, by omega, by go_num, rfl, fun j hj => by
            rcases Nat.lt_or_ge j k with h | h
            · exact HSA.out j h
            · obtain rfl : j = k := by omega
              rw [HX.out, HY.out]⟩
          case measure => simp [intOf]; omega
        · have hxi : ¬ (x : Int) = (y : Int) := by omega
          have hne : decide (l = r) = false := decide_eq_false fun e => hxy (by rw [← HX.out, ← HY.out, e])
          have HE := Lib.hid hne
          clear hne
          go_wp2
          go_quiet (fail)
          go_wp2
          go_ret
          exact ⟨by rw [HE.out]; rfl, q + nq, World.drewN_drewN _ _ _⟩
      · obtain rfl : k = n := by omega
        have HE : Hid (decide (l = r) = true) := decide_eq_true (List.ext_getElem (by rw [HN.out, HM.out]) fun j h1 h2 => by
          have := HSA.out j (by rw [← HN.out]; exact h1)
          simpa [List.getD_eq_getElem?_getD, h1, h2] using this)
        go_wp2
        go_ret
        exact ⟨by rw [HE.out]; rfl, _, rfl⟩
  · have hnmi : ¬ (n : Int) = (m : Int) := by omega
    have HE : Hid (decide (l = r) = false) := decide_eq_false fun e => hnm (by rw [← hn, ← hm, e])
    clear hn hm hA hB
    go_enter Try.func28, Try.ntmps28
    go_wp2
    go_ret
    exact ⟨by rw [HE.out]; rfl, 0, rfl⟩
end Go.Proofs.Ytnphanhoakbkpaa
