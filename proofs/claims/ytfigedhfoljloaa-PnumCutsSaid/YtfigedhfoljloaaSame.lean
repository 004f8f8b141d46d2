/- doorwardref01.Same: the same bytes? For every two slices of bytes. -/
import Derived.Test.YtfigedhfoljloaaRows
import Derived.Test.YtfigedhfoljloaaAid
import Derived.WalkKit
import Derived.WalkSpells
import Derived.WalkLawsBesides
import Derived.Deep.QuietTactic
import Derived.BigQuiet
import Derived.Handy
import Derived.Lib.Hide
namespace Go.Proofs.Ytfigedhfoljloaa
open Go.RowKit
set_option linter.unusedVariables false

set_option maxHeartbeats 1000000 in
/-- The same bytes? -/
theorem same_any (A A' : Option Addr) (n m c c' : Nat) (l l' : List Int) (w : World) (hl : Bytes w A n l) (hl' : Bytes w A' m l') (hn : n ≤ 9223372036854775807) (hm : m ≤ 9223372036854775807) :
    Calls Try.prog 11 #[.slice A n c, .slice A' m c'] w fun e w' => e = .returned (.bool (decide (l = l'))) ∧ ∃ q, w' = w.drewN q := by
  obtain ⟨hl1, hl2, hl3⟩ := hl
  obtain ⟨hr1, hr2, hr3⟩ := hl'
  by_cases hnm : n = m
  · subst hnm
    by_cases h0 : n = 0
    · subst h0
      have e1 := List.eq_nil_of_length_eq_zero hl1
      have e2 := List.eq_nil_of_length_eq_zero hr1
      subst e1 e2
      clear hl1 hl2 hl3 hr1 hr2 hr3
      go_enter Try.func11, Try.ntmps11
      go_wp2
      go_rounds 1
      go_ret
      exact ⟨rfl, 0, rfl⟩
    · obtain ⟨b, off, rfl, hb, hc⟩ := hl3 (by omega)
      obtain ⟨b', off', rfl, hb', hc'⟩ := hr3 (by omega)
      clear hl3 hr3
      have HC := Lib.hid hc
      have HC' := Lib.hid hc'
      have HL := Lib.hid hl1
      have HR := Lib.hid hr1
      have HL2 := Lib.hid hl2
      have HR2 := Lib.hid hr2
      clear hc hc' hl1 hr1 hl2 hr2
      go_enter Try.func11, Try.ntmps11
      go_wp2
      go_loopw [5] (fun i wr => ∃ k q : Nat, k ≤ n ∧ i = .int .i64 k ∧ wr = w.drewN q ∧ Hid (l.take k = l'.take k)) (fun i _ => n - (intOf i).toNat)
      case atStart => exact ⟨0, 0, by omega, rfl, rfl, by unfold Hid; simp⟩
      case round =>
        obtain ⟨k, q, hk, rfl, rfl, ht⟩ := hrel
        by_cases hlt : k < n
        · have g1 := HC.out k hlt
          have g2 := HC'.out k hlt
          have HT : l.take (k + 1) = l'.take (k + 1) ↔ l.getD k 0 = l'.getD k 0 := by
            have a1 : k < l.length := by rw [HL.out]; exact hlt
            have a2 : k < l'.length := by rw [HR.out]; exact hlt
            rw [List.take_succ_eq_append_getElem a1, List.take_succ_eq_append_getElem a2, ht.out, List.append_cancel_left_eq]
            simp [List.getD_eq_getElem?_getD, a1, a2]
          have HT2 := Lib.hid HT
          clear HT
          generalize l.getD k 0 = x at g1 HT2
          generalize l'.getD k 0 = y at g2 HT2
          by_cases hxy : x = y
          · have hxy' : (x != y) = false := by simp [hxy]
            have HX := Lib.hid hxy
            clear hxy
            go_wp2
            go_quiet (fail)
            go_wp2
            go_roundw
            case rel => exact ⟨k + 1, _, by omega, by go_num, rfl, HT2.out.2 HX.out⟩
            case measure => simp [intOf]; omega
          · have hxy' : (x != y) = true := by simp [hxy]
            have hne : l ≠ l' := fun e => hxy (HT2.out.1 (by rw [e]))
            have HN := Lib.hid (decide_eq_false hne)
            have HX := Lib.hid hxy
            clear hxy hne
            go_wp2
            go_quiet (fail)
            go_wp2
            go_ret
            exact ⟨(ret_bool HN.out).symm, q + nq, World.drewN_drewN ..⟩
        · obtain rfl : k = n := by omega
          have he : l = l' := by
            have := ht.out
            rw [List.take_of_length_le (by rw [HL.out]; omega), List.take_of_length_le (by rw [HR.out]; omega)] at this
            exact this
          have HE := Lib.hid he
          clear he hlt
          go_wp2
          go_ret
          exact ⟨by simp [HE.out], _, rfl⟩
  · have hne : l ≠ l' := fun e => hnm (by rw [← hl1, ← hr1, e])
    have HN := Lib.hid (decide_eq_false hne)
    have hd : ((n : Int) != (m : Int)) = true := by simp; omega
    clear hl1 hl2 hl3 hr1 hr2 hr3 hne
    go_enter Try.func11, Try.ntmps11
    go_wp2
    go_ret
    exact ⟨(ret_bool HN.out).symm, 0, rfl⟩

end Go.Proofs.Ytfigedhfoljloaa
