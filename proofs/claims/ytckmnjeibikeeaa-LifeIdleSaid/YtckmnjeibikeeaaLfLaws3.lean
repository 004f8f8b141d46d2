/- LifeIdle, LifeRestarts, walked. -/
import Derived.Test.YtckmnjeibikeeaaRows
import Derived.Test.YtckmnjeibikeeaaPlainTk
import Derived.Test.YtckmnjeibikeeaaPlainPw
import Derived.Test.YtckmnjeibikeeaaPlainLf
import Derived.Test.YtckmnjeibikeeaaAid
import Derived.Test.YtckmnjeibikeeaaTicks2
import Derived.Test.YtckmnjeibikeeaaLife
import Derived.Test.YtckmnjeibikeeaaLife2
import Derived.Test.YtckmnjeibikeeaaLfLaws
import Derived.Test.YtckmnjeibikeeaaLfLaws2
import Derived.StillTailTactics
import Derived.Deep.RegionHeld3
import Derived.WalkKit
import Derived.WalkSpells
import Derived.WalkLawsBesides
import Derived.Deep.QuietTactic
import Derived.BigQuiet
import Derived.Handy
import Derived.Lib.Hide
namespace Go.Proofs.Ytckmnjeibikeeaa
open Go.RowKit
set_option linter.unusedVariables false

/-- The life behind k packets that were sent. -/
def Idl (a0 a1 : Int) (k : Nat) (at_ : Int) (L : Lf.Life) : Prop :=
  (k = 0 → at_ = a1 ∧ L = Lf.new a0 0 a1) ∧ (k ≠ 0 → L = ⟨0, a0, 0, at_, true, 0, 0⟩)
theorem idl_tick (a0 a1 : Int) (k : Nat) (at_ wait p : Int) (L : Lf.Life) (h : Idl a0 a1 k at_ L) (h0 : 0 ≤ a0) (h1 : a0 ≤ 4294967295) (ha : 0 ≤ at_) (hA : at_ ≤ 8589934592) (hw : 0 ≤ wait) (hw1 : wait ≤ 4294967295) (hp : 0 ≤ p) (hp1 : p ≤ 65535) :
    Lf.ticks L (at_ + wait) p = (decide (0 < a0) && decide (max a0 (min (3 * p) 30000) ≤ wait)) := by
  have ht : Lf.three p = min (3 * p) 30000 := by unfold Lf.three; omega
  have hL : L.state = 0 ∧ L.idle = a0 ∧ L.restart = at_ := by
    by_cases hk : k = 0
    · obtain ⟨rfl, rfl⟩ := h.1 hk; exact ⟨rfl, rfl, rfl⟩
    · rw [h.2 hk]; exact ⟨rfl, rfl, rfl⟩
  obtain ⟨l0, l1, l2⟩ := hL
  unfold Lf.ticks Lf.next Lf.never
  rw [if_pos l0, l1, l2, ht]
  by_cases hi : 0 < a0
  · rw [if_pos hi, add_low _ _ (by omega)]
    have e1 : (at_ + max a0 (min (3 * p) 30000) ≠ 18446744073709551615) = True := by simp; omega
    have e2 : (at_ + max a0 (min (3 * p) 30000) ≤ at_ + wait) = (max a0 (min (3 * p) 30000) ≤ wait) := by
      apply propext; omega
    simp only [e1, e2, hi, decide_true]
  · rw [if_neg hi]
    simp [hi]

set_option maxRecDepth 100000 in
set_option maxHeartbeats 4000000 in
theorem lifeIdle_walk (a0 a1 a2 a3 : Int) (A4 : Option Addr) (n4 c4 : Nat) (l4 : List Int) (w : World) (w0 : (Lit.int .u32 a0).wf = true) (w1 : (Lit.int .u32 a1).wf = true) (w2 : (Lit.int .u32 a2).wf = true) (w3 : (Lit.int .u16 a3).wf = true) (i4 : Ints .u8 w A4 n4 l4) (x4 : n4 ≤ maxLen) :
    Calls Try.prog 3 #[.int .u32 a0, .int .u32 a1, .int .u32 a2, .int .u16 a3, .slice A4 n4 c4] w fun e w' => e = .returned (.bool true) ∧ Below w.heap.size w w' := by
  obtain ⟨b0, c0⟩ := bounds_u32 w0
  obtain ⟨b1, c1⟩ := bounds_u32 w1
  obtain ⟨b2, c2⟩ := bounds_u32 w2
  obtain ⟨b3, c3⟩ := bounds_u16 w3
  unfold maxLen at x4
  clear w0 w1 w2 w3
  by_cases hbig : 60 < n4
  · clear i4
    go_enter Try.func3, Try.ntmps3
    go_wp2_with fail
    refine (alive_true _).mono ?_
    rintro e w1 ⟨rfl, hb1⟩
    have HA := Lib.hid hb1
    clear hb1
    go_wp2
    go_ret
    exact ⟨rfl, HA.out⟩
  · have hsm : (n4 : Int) ≤ 60 := by omega
    clear hbig
    go_enter Try.func3, Try.ntmps3
    go_wp2_with fail
    refine (alive_true _).mono ?_
    rintro e w1 ⟨rfl, hb1⟩
    have HA := Lib.hid hb1
    clear hb1
    go_wp2_with fail
    refine (o_new w _ a0 0 a1 (by omega) (by omega) (by omega) (by omega) (by omega) (by omega) HA.out).mono ?_
    rintro e w2 ⟨b, rfl, h0⟩
    go_wp2
    go_loopw [12, 13] (fun p i wr => ∃ (k : Nat) (at_ : Int) (L : Lf.Life), k ≤ n4 ∧ i = .int .i64 k ∧ p = .int .u64 at_ ∧ OwnL w b L wr ∧ 0 ≤ at_ ∧ at_ ≤ 4294967550 ∧ (k = 0 → at_ ≤ 4294967295) ∧ Hid (Idl a0 a1 k at_ L)) (fun _ i _ => n4 - (intOf i).toNat)
    case atStart => exact ⟨0, _, _, by omega, rfl, rfl, h0, by omega, by omega, by omega, fun _ => ⟨rfl, rfl⟩, fun h => absurd rfl h⟩
    case round =>
      obtain ⟨k, at_, L, hk, rfl, rfl, HO, q0, q1, q2, HI⟩ := hrel
      clear h0
      by_cases hlt : k < n4
      · obtain ⟨e1, e2, e3⟩ := i4
        obtain ⟨B, off, rfl, hB, hc⟩ := e3 (by omega)
        have G0 := Lib.hid (hc k hlt)
        have rt := bounds_u8 (e2 (l4.getD k 0) (by
          rw [List.getD_eq_getElem?_getD, List.getElem?_eq_getElem (by omega)]; exact List.getElem_mem _))
        clear hc e2 e3
        generalize l4.getD k 0 = t at *
        obtain ⟨rt0, rt1⟩ := rt
        have g := (HO.below.cell (p := ⟨B, off + k, none⟩) hB).trans G0.out
        by_cases hk0 : k = 0
        · subst hk0
          simp only [Nat.add_zero] at g G0
          obtain ⟨ha, hL⟩ := HI.out.1 rfl
          have q3 := q2 rfl
          have HN : Hid (Lf.sent L (at_ + t) true = ⟨0, a0, 0, at_ + t, true, 0, 0⟩) := by unfold Hid; rw [hL]; rfl
          clear q2 ha hL
          go_wp2_with fail
          refine (o_sent w _ b L (at_ + t) true HO (by omega) (by omega)).mono ?_
          rintro e w4 ⟨rfl, h4⟩
          rw [HN.out] at h4
          have g4 := (h4.below.cell (p := ⟨B, off, none⟩) hB).trans G0.out
          go_wp2
          go_roundw
          case rel => exact ⟨1, _, _, by omega, by go_num, rfl, h4, by omega, by omega, by omega, fun h => by omega, fun _ => rfl⟩
          case measure => simp [intOf]; omega
        · have hk0' : ((k : Int) == 0) = false := by simp; omega
          have hL := HI.out.2 hk0
          have HN : Hid (Lf.sent L (at_ + t) true = ⟨0, a0, 0, at_, true, 0, 0⟩) := by unfold Hid; rw [hL]; rfl
          clear q2 hL
          go_wp2_with fail
          refine (o_sent w _ b L (at_ + t) true HO (by omega) (by omega)).mono ?_
          rintro e w4 ⟨rfl, h4⟩
          rw [HN.out] at h4
          go_wp2
          go_roundw
          case rel => exact ⟨k + 1, _, _, by omega, by go_num, rfl, h4, by omega, by omega, by omega, fun h => by omega, fun _ => rfl⟩
          case measure => simp [intOf]; omega
      · obtain rfl : k = n4 := by omega
        have HT := Lib.hid (idl_tick a0 a1 k at_ a2 a3 L HI.out b0 c0 q0 (by omega) b2 c2 b3 c3)
        clear hlt q2
        by_cases hp : 30000 < 3 * a3
        · by_cases hn : a0 < 30000
          · by_cases hi : 0 < a0
            · by_cases hw : 30000 ≤ a2
              · have HT2 : Hid (Lf.ticks L (at_ + a2) a3 = true) := by unfold Hid; rw [HT.out, show max a0 (min (3 * a3) 30000) = 30000 by omega]; simp [hi, hw]
                go_wp2_with fail
                refine (o_tick w _ b L (at_ + a2) a3 HO (by omega) (by omega) (by omega) (by omega)).mono ?_
                rintro e w5 ⟨rfl, h5⟩
                rw [HT2.out]
                go_wp2_with fail
                refine (alive_true _).mono ?_
                rintro e w6 ⟨rfl, hb6⟩
                have H6 := Lib.hid (h5.below.trans (hb6.mono h5.below.size))
                clear hb6
                go_wp2
                go_ret
                exact ⟨rfl, H6.out⟩
              · have HT2 : Hid (Lf.ticks L (at_ + a2) a3 = false) := by unfold Hid; rw [HT.out, show max a0 (min (3 * a3) 30000) = 30000 by omega]; simp [hw]
                have hw2 : a2 < 30000 := by omega
                have hw3 : decide (30000 ≤ a2) = false := by simp; omega
                clear hw
                go_wp2_with fail
                refine (o_tick w _ b L (at_ + a2) a3 HO (by omega) (by omega) (by omega) (by omega)).mono ?_
                rintro e w5 ⟨rfl, h5⟩
                rw [HT2.out]
                go_wp2_with fail
                refine (alive_true _).mono ?_
                rintro e w6 ⟨rfl, hb6⟩
                have H6 := Lib.hid (h5.below.trans (hb6.mono h5.below.size))
                clear hb6
                go_wp2
                go_ret
                exact ⟨rfl, H6.out⟩
            · have HT2 : Hid (Lf.ticks L (at_ + a2) a3 = false) := by unfold Hid; rw [HT.out]; simp [hi]
              have hz : decide (0 < a0) = false := by simp [hi]
              have hi2 : a0 ≤ 0 := by omega
              clear hi
              go_wp2_with fail
              refine (o_tick w _ b L (at_ + a2) a3 HO (by omega) (by omega) (by omega) (by omega)).mono ?_
              rintro e w5 ⟨rfl, h5⟩
              rw [HT2.out]
              go_wp2_with fail
              refine (alive_true _).mono ?_
              rintro e w6 ⟨rfl, hb6⟩
              have H6 := Lib.hid (h5.below.trans (hb6.mono h5.below.size))
              clear hb6
              go_wp2
              go_ret
              exact ⟨rfl, H6.out⟩
          · have hn2 : 30000 ≤ a0 := by omega
            clear hn
            by_cases hi : 0 < a0
            · by_cases hw : a0 ≤ a2
              · have HT2 : Hid (Lf.ticks L (at_ + a2) a3 = true) := by unfold Hid; rw [HT.out, show max a0 (min (3 * a3) 30000) = a0 by omega]; simp [hi, hw]
                go_wp2_with fail
                refine (o_tick w _ b L (at_ + a2) a3 HO (by omega) (by omega) (by omega) (by omega)).mono ?_
                rintro e w5 ⟨rfl, h5⟩
                rw [HT2.out]
                go_wp2_with fail
                refine (alive_true _).mono ?_
                rintro e w6 ⟨rfl, hb6⟩
                have H6 := Lib.hid (h5.below.trans (hb6.mono h5.below.size))
                clear hb6
                go_wp2
                go_ret
                exact ⟨rfl, H6.out⟩
              · have HT2 : Hid (Lf.ticks L (at_ + a2) a3 = false) := by unfold Hid; rw [HT.out, show max a0 (min (3 * a3) 30000) = a0 by omega]; simp [hw]
                have hw2 : a2 < a0 := by omega
                have hw3 : decide (a0 ≤ a2) = false := by simp; omega
                clear hw
                go_wp2_with fail
                refine (o_tick w _ b L (at_ + a2) a3 HO (by omega) (by omega) (by omega) (by omega)).mono ?_
                rintro e w5 ⟨rfl, h5⟩
                rw [HT2.out]
                go_wp2_with fail
                refine (alive_true _).mono ?_
                rintro e w6 ⟨rfl, hb6⟩
                have H6 := Lib.hid (h5.below.trans (hb6.mono h5.below.size))
                clear hb6
                go_wp2
                go_ret
                exact ⟨rfl, H6.out⟩
            · exact absurd hi (by omega)
        · have hp2 : 3 * a3 ≤ 30000 := by omega
          clear hp
          by_cases hn : a0 < 3 * a3
          · by_cases hi : 0 < a0
            · by_cases hw : 3 * a3 ≤ a2
              · have HT2 : Hid (Lf.ticks L (at_ + a2) a3 = true) := by unfold Hid; rw [HT.out, show max a0 (min (3 * a3) 30000) = 3 * a3 by omega]; simp [hi, hw]
                go_wp2_with fail
                refine (o_tick w _ b L (at_ + a2) a3 HO (by omega) (by omega) (by omega) (by omega)).mono ?_
                rintro e w5 ⟨rfl, h5⟩
                rw [HT2.out]
                go_wp2_with fail
                refine (alive_true _).mono ?_
                rintro e w6 ⟨rfl, hb6⟩
                have H6 := Lib.hid (h5.below.trans (hb6.mono h5.below.size))
                clear hb6
                go_wp2
                go_ret
                exact ⟨rfl, H6.out⟩
              · have HT2 : Hid (Lf.ticks L (at_ + a2) a3 = false) := by unfold Hid; rw [HT.out, show max a0 (min (3 * a3) 30000) = 3 * a3 by omega]; simp [hw]
                have hw2 : a2 < 3 * a3 := by omega
                have hw3 : decide (3 * a3 ≤ a2) = false := by simp; omega
                clear hw
                go_wp2_with fail
                refine (o_tick w _ b L (at_ + a2) a3 HO (by omega) (by omega) (by omega) (by omega)).mono ?_
                rintro e w5 ⟨rfl, h5⟩
                rw [HT2.out]
                go_wp2_with fail
                refine (alive_true _).mono ?_
                rintro e w6 ⟨rfl, hb6⟩
                have H6 := Lib.hid (h5.below.trans (hb6.mono h5.below.size))
                clear hb6
                go_wp2
                go_ret
                exact ⟨rfl, H6.out⟩
            · have HT2 : Hid (Lf.ticks L (at_ + a2) a3 = false) := by unfold Hid; rw [HT.out]; simp [hi]
              have hz : decide (0 < a0) = false := by simp [hi]
              have hi2 : a0 ≤ 0 := by omega
              clear hi
              go_wp2_with fail
              refine (o_tick w _ b L (at_ + a2) a3 HO (by omega) (by omega) (by omega) (by omega)).mono ?_
              rintro e w5 ⟨rfl, h5⟩
              rw [HT2.out]
              go_wp2_with fail
              refine (alive_true _).mono ?_
              rintro e w6 ⟨rfl, hb6⟩
              have H6 := Lib.hid (h5.below.trans (hb6.mono h5.below.size))
              clear hb6
              go_wp2
              go_ret
              exact ⟨rfl, H6.out⟩
          · have hn2 : 3 * a3 ≤ a0 := by omega
            clear hn
            by_cases hi : 0 < a0
            · by_cases hw : a0 ≤ a2
              · have HT2 : Hid (Lf.ticks L (at_ + a2) a3 = true) := by unfold Hid; rw [HT.out, show max a0 (min (3 * a3) 30000) = a0 by omega]; simp [hi, hw]
                go_wp2_with fail
                refine (o_tick w _ b L (at_ + a2) a3 HO (by omega) (by omega) (by omega) (by omega)).mono ?_
                rintro e w5 ⟨rfl, h5⟩
                rw [HT2.out]
                go_wp2_with fail
                refine (alive_true _).mono ?_
                rintro e w6 ⟨rfl, hb6⟩
                have H6 := Lib.hid (h5.below.trans (hb6.mono h5.below.size))
                clear hb6
                go_wp2
                go_ret
                exact ⟨rfl, H6.out⟩
              · have HT2 : Hid (Lf.ticks L (at_ + a2) a3 = false) := by unfold Hid; rw [HT.out, show max a0 (min (3 * a3) 30000) = a0 by omega]; simp [hw]
                have hw2 : a2 < a0 := by omega
                have hw3 : decide (a0 ≤ a2) = false := by simp; omega
                clear hw
                go_wp2_with fail
                refine (o_tick w _ b L (at_ + a2) a3 HO (by omega) (by omega) (by omega) (by omega)).mono ?_
                rintro e w5 ⟨rfl, h5⟩
                rw [HT2.out]
                go_wp2_with fail
                refine (alive_true _).mono ?_
                rintro e w6 ⟨rfl, hb6⟩
                have H6 := Lib.hid (h5.below.trans (hb6.mono h5.below.size))
                clear hb6
                go_wp2
                go_ret
                exact ⟨rfl, H6.out⟩
            · have HT2 : Hid (Lf.ticks L (at_ + a2) a3 = false) := by unfold Hid; rw [HT.out]; simp [hi]
              have hz : decide (0 < a0) = false := by simp [hi]
              have hi2 : a0 ≤ 0 := by omega
              clear hi
              go_wp2_with fail
              refine (o_tick w _ b L (at_ + a2) a3 HO (by omega) (by omega) (by omega) (by omega)).mono ?_
              rintro e w5 ⟨rfl, h5⟩
              rw [HT2.out]
              go_wp2_with fail
              refine (alive_true _).mono ?_
              rintro e w6 ⟨rfl, hb6⟩
              have H6 := Lib.hid (h5.below.trans (hb6.mono h5.below.size))
              clear hb6
              go_wp2
              go_ret
              exact ⟨rfl, H6.out⟩

end Go.Proofs.Ytckmnjeibikeeaa
