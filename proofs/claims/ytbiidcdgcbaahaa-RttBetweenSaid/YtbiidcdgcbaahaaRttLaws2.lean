/- More laws of layer 14, walked. -/
import Derived.Test.YtbiidcdgcbaahaaRows
import Derived.Test.YtbiidcdgcbaahaaPlainTk
import Derived.Test.YtbiidcdgcbaahaaPlainRt
import Derived.Test.YtbiidcdgcbaahaaAid
import Derived.Test.YtbiidcdgcbaahaaTicks
import Derived.Test.YtbiidcdgcbaahaaRtt
import Derived.Test.YtbiidcdgcbaahaaRttLaws
import Derived.WalkKit
import Derived.WalkSpells
import Derived.WalkLawsBesides
import Derived.Deep.QuietTactic
import Derived.BigQuiet
import Derived.Handy
import Derived.Lib.Hide
namespace Go.Proofs.Ytbiidcdgcbaahaa
open Go.RowKit
set_option linter.unusedVariables false

set_option maxHeartbeats 1000000 in
theorem rttProbes_walk (a0 a1 a2 a3 : Int) (w : World) (w0 : (Lit.int .u64 a0).wf = true) (w1 : (Lit.int .u64 a1).wf = true) (w2 : (Lit.int .u64 a2).wf = true) (w3 : (Lit.int .u8 a3).wf = true) :
    Calls Try.prog 6 #[.int .u64 a0, .int .u64 a1, .int .u64 a2, .int .u8 a3] w fun e w' => e = .returned (.bool true) ∧ Below w.heap.size w w' := by
  obtain ⟨b0, c0⟩ := bounds_u64 w0
  obtain ⟨b1, c1⟩ := bounds_u64 w1
  obtain ⟨b2, c2⟩ := bounds_u64 w2
  obtain ⟨b3, c3⟩ := bounds_u8 w3
  clear w0 w1 w2 w3
  have EA := Lib.hid (Rt.take_none (Rt.new a0) a1 0 rfl)
  have bT := Rt.hold_bound a1 b1
  have bD := Rt.hold_bound a2 b2
  obtain ⟨T, hT⟩ : ∃ T, Rt.hold a1 = T := ⟨_, rfl⟩
  rw [hT] at bT
  obtain ⟨bT0, bT1⟩ := bT
  obtain ⟨P, hP⟩ : ∃ P, Rt.probe ⟨T, T / 2, T, T, true⟩ 0 0 = P := ⟨_, rfl⟩
  obtain ⟨Q, hQ⟩ : ∃ Q, Rt.probe ⟨T, T / 2, T, T, true⟩ a2 0 = Q := ⟨_, rfl⟩
  have p1 : T < P ∧ P ≤ 4398046511104 := by
    rw [← hP]; unfold Rt.probe; rw [show Rt.hold 0 = 0 from rfl, Tk.bko_zero _ 0 (by dsimp only; omega) (by dsimp only; omega) (by omega)]; dsimp only; omega
  have p2 : Q = T + max (4 * (T / 2)) 1 + Rt.hold a2 := by
    rw [← hQ]; unfold Rt.probe; rw [Tk.bko_zero _ 0 (by dsimp only; omega) (by dsimp only; omega) (by omega)]
  have p3 : P ≤ Q ∧ Q ≤ 6597069766656 := by
    have : P = T + max (4 * (T / 2)) 1 := by
      rw [← hP]; unfold Rt.probe; rw [show Rt.hold 0 = 0 from rfl, Tk.bko_zero _ 0 (by dsimp only; omega) (by dsimp only; omega) (by omega)]; dsimp only; omega
    omega
  obtain ⟨k, hk⟩ : ∃ k, a3 % 10 = k := ⟨_, rfl⟩
  have k0 : 0 ≤ k ∧ k ≤ 9 := by omega
  have p4 := Rt.bko_small Q k (by omega) (by omega) k0.1 k0.2
  have p5 : Rt.probe ⟨T, T / 2, T, T, true⟩ a2 k = Q * 2 ^ k.toNat := by rw [← p4.1, p2]; rfl
  have p6 : T ≤ Rt.loss ⟨T, T / 2, T, T, true⟩ := by unfold Rt.loss; dsimp only; omega
  have HT := Lib.hid hT
  have HP := Lib.hid hP
  have HQ := Lib.hid hQ
  have H5 := Lib.hid p5
  obtain ⟨_, p7, p8⟩ := p4
  obtain ⟨k00, k01⟩ := k0
  obtain ⟨p10, p11⟩ := p1
  obtain ⟨p30, p31⟩ := p3
  clear hT hP hQ p5 p2 bD
  go_enter Try.func6, Try.ntmps6
  go_wp2_with fail
  refine (alive_true _).mono ?_
  rintro e w1 ⟨rfl, hb1⟩
  have HA := Lib.hid hb1
  clear hb1
  go_wp2_with fail
  refine (own_new w _ a0 b0 c0 HA.out).mono ?_
  rintro e w2 ⟨b, rfl, h2, hwb⟩
  clear hwb
  go_wp2_with fail
  refine (own_take w _ b _ _ _ h2 b1 (by omega)).mono ?_
  rintro e w3 ⟨rfl, h3⟩
  clear h2
  rw [EA.out, HT.out] at h3
  go_wp2_with fail
  refine (own_probe w _ b _ _ _ h3 (by omega) (by omega) (by omega)).mono ?_
  rintro e w4 ⟨rfl, h4⟩
  rw [HP.out]
  clear h3
  go_wp2_with fail
  refine (own_probe w _ b _ _ _ h4 (by omega) (by omega) (by omega)).mono ?_
  rintro e w5 ⟨rfl, h5⟩
  rw [HQ.out]
  clear h4
  go_wp2_with fail
  refine (own_smooth w _ b _ h5).mono ?_
  rintro e w6 ⟨rfl, rfl⟩
  go_wp2_with fail
  refine (own_probe w _ b _ _ _ h5 (by omega) (by omega) (by omega)).mono ?_
  rintro e w6 ⟨rfl, h6⟩
  rw [H5.out]
  clear h5
  go_wp2_with fail
  refine (own_loss w _ b _ h6).mono ?_
  rintro e w7 ⟨rfl, h7⟩
  clear h6
  go_wp2_with fail
  refine (own_smooth w _ b _ h7).mono ?_
  rintro e w8 ⟨rfl, rfl⟩
  go_wp2
  go_ret
  exact ⟨by simp, h7.2.2.2⟩

set_option maxRecDepth 100000 in
set_option maxHeartbeats 1000000 in
theorem rttSame_walk (a0 a1 : Int) (w : World) (w0 : (Lit.int .u64 a0).wf = true) (w1 : (Lit.int .u64 a1).wf = true) :
    Calls Try.prog 5 #[.int .u64 a0, .int .u64 a1] w fun e w' => e = .returned (.bool true) ∧ Below w.heap.size w w' := by
  obtain ⟨b0, c0⟩ := bounds_u64 w0
  obtain ⟨b1, c1⟩ := bounds_u64 w1
  clear w0 w1
  by_cases hbig : 1099511627776 < a1
  · go_enter Try.func5, Try.ntmps5
    go_wp2_with fail
    refine (alive_true _).mono ?_
    rintro e w1 ⟨rfl, hb1⟩
    have HA := Lib.hid hb1
    clear hb1
    go_wp2
    go_ret
    exact ⟨rfl, HA.out⟩
  · have hsm : a1 ≤ 1099511627776 := by omega
    clear hbig
    go_enter Try.func5, Try.ntmps5
    go_wp2_with fail
    refine (alive_true _).mono ?_
    rintro e w1 ⟨rfl, hb1⟩
    have HA := Lib.hid hb1
    clear hb1
    go_wp2_with fail
    refine (own_new w _ a0 b0 c0 HA.out).mono ?_
    rintro e w2 ⟨b, rfl, h2, hwb⟩
    clear hwb
    go_wp2
    go_loopw [6, 7] (fun p i wr => ∃ (k : Nat) (E : Rt.Est) (q : Int), k ≤ 120 ∧ i = .int .i64 k ∧ p = .int .u64 q ∧ Own w b E wr ∧ Hid ((k = 0 → E = Rt.new a0) ∧ ∀ j, k = j + 1 → E = ⟨a1, Rt.dv (a1 / 2) j, a1, a1, true⟩ ∧ q = a1 + max (4 * Rt.dv (a1 / 2) j) 1)) (fun _ i _ => 120 - (intOf i).toNat)
    case atStart => exact ⟨0, _, _, by omega, rfl, rfl, h2, fun _ => rfl, fun j hj => by omega⟩
    case round =>
      obtain ⟨k, E, q, hk, rfl, rfl, HO, HE⟩ := hrel
      clear h2
      have d0 := Rt.dv_nonneg (a1 / 2) (by omega) k
      have d1 := Rt.dv_bound (a1 / 2) (by omega) k
      by_cases hlt : k < 120
      · have HK : Hid (Rt.take E a1 0 = ⟨a1, Rt.dv (a1 / 2) k, a1, a1, true⟩) := by
          cases k with
          | zero => rw [HE.out.1 rfl]; exact Rt.same_first _ a1 hsm rfl
          | succ j => rw [(HE.out.2 j rfl).1]; exact Rt.same_next a1 j hsm
        have HP := Lib.hid (Rt.same_probe a1 k b1 hsm)
        have HQ : Hid (0 < k → a1 + max (4 * Rt.dv (a1 / 2) k) 1 ≤ q) := by
          intro h
          obtain ⟨j, rfl⟩ : ∃ j, k = j + 1 := ⟨k - 1, by omega⟩
          rw [(HE.out.2 j rfl).2]
          have := Rt.dv_down (a1 / 2) (by omega) j
          omega
        obtain ⟨dk, hdk⟩ : ∃ dk, Rt.dv (a1 / 2) k = dk := ⟨_, rfl⟩
        rw [hdk] at d0 d1 HK HP HQ
        have HDK := Lib.hid hdk
        clear hdk
        obtain ⟨p, hp⟩ : ∃ p, a1 + max (4 * dk) 1 = p := ⟨_, rfl⟩
        rw [hp] at HP HQ
        have HPP := Lib.hid hp
        have hp0 : 0 ≤ p ∧ p ≤ 18446744073709551615 := by omega
        obtain ⟨hp0, hp1⟩ := hp0
        clear hp
        by_cases hk0 : k = 0
        · subst hk0
          go_wp2_with fail
          refine (own_take w _ b E _ _ HO b1 (by omega)).mono ?_
          rintro e w4 ⟨rfl, h4⟩
          rw [HK.out] at h4
          go_wp2_with fail
          refine (own_probe w _ b _ _ _ h4 (by omega) (by omega) (by omega)).mono ?_
          rintro e w5 ⟨rfl, h5⟩
          rw [HP.out]
          clear h4
          go_wp2_with fail
          refine (own_smooth w _ b _ h5).mono ?_
          rintro e w6 ⟨rfl, rfl⟩
          go_wp2
          go_roundw
          case rel => exact ⟨1, _, _, by omega, by go_num, rfl, h5, fun h => by omega, fun j hj => by (obtain rfl : j = 0 := by omega); exact ⟨by rw [HDK.out], by rw [HDK.out, HPP.out]⟩⟩
          case measure => simp [intOf]
        · have hq := HQ.out (by omega)
          have hk1 : (0 : Int) < (k : Int) := by omega
          have hpq : decide (q < p) = false := by simp; omega
          go_wp2_with fail
          refine (own_take w _ b E _ _ HO b1 (by omega)).mono ?_
          rintro e w4 ⟨rfl, h4⟩
          rw [HK.out] at h4
          go_wp2_with fail
          refine (own_probe w _ b _ _ _ h4 (by omega) (by omega) (by omega)).mono ?_
          rintro e w5 ⟨rfl, h5⟩
          rw [HP.out]
          clear h4
          go_wp2_with fail
          refine (own_smooth w _ b _ h5).mono ?_
          rintro e w6 ⟨rfl, rfl⟩
          go_wp2
          go_roundw
          case rel => exact ⟨k + 1, _, _, by omega, by go_num, rfl, h5, fun h => by omega, fun j hj => by (obtain rfl : j = k := by omega); exact ⟨by rw [HDK.out], by rw [HDK.out, HPP.out]⟩⟩
          case measure => simp [intOf]; omega
      · obtain rfl : k = 120 := by omega
        have hq := (HE.out.2 119 rfl).2
        have he := Rt.dv_end a1 hsm
        have hfin : q ≤ a1 + 12 := by
          have := Rt.dv_nonneg (a1 / 2) (by omega) 119
          omega
        have hq0 : 0 ≤ q := by have := Rt.dv_nonneg (a1 / 2) (by omega) 119; omega
        clear hq he hlt
        go_wp2
        go_ret
        exact ⟨by simp, HO.2.2.2⟩

/-- What the loop of RttBetween keeps. -/
def Btw (a0 : Int) (k : Nat) (E : Rt.Est) (lo hi : Int) : Prop :=
  (k = 0 → E = Rt.new a0 ∧ lo = 1099511627776 ∧ hi = 0) ∧ (k ≠ 0 → E.some = true ∧ E.least = lo ∧ lo ≤ E.smooth ∧ E.smooth ≤ hi)
theorem btw_next (a0 : Int) (k : Nat) (E : Rt.Est) (lo hi t : Int) (h : Btw a0 k E lo hi) (ht : 0 ≤ t) :
    Btw a0 (k + 1) (Rt.take E t 0) (min lo (Rt.hold t)) (max hi (Rt.hold t)) := by
  have hb := Rt.hold_bound t ht
  refine ⟨fun h0 => by omega, fun _ => ?_⟩
  by_cases hk : k = 0
  · obtain ⟨rfl, rfl, rfl⟩ := h.1 hk
    rw [Rt.take_none _ t 0 rfl]
    dsimp only
    exact ⟨rfl, by omega, by omega, by omega⟩
  · obtain ⟨h1, h2, h3, h4⟩ := h.2 hk
    obtain ⟨g1, g2, g3, g4⟩ := Rt.between_next E t lo hi h1 h2 h3 h4
    exact ⟨g4, g1, g2, g3⟩

set_option maxRecDepth 100000 in
set_option maxHeartbeats 4000000 in
theorem rttBetween_walk (a0 : Int) (A1 : Option Addr) (n1 c1 : Nat) (l1 : List Int) (w : World) (w0 : (Lit.int .u64 a0).wf = true) (i1 : Ints .u64 w A1 n1 l1) (x1 : n1 ≤ maxLen) :
    Calls Try.prog 4 #[.int .u64 a0, .slice A1 n1 c1] w fun e w' => e = .returned (.bool true) ∧ Below w.heap.size w w' := by
  obtain ⟨b0, c0⟩ := bounds_u64 w0
  unfold maxLen at x1
  clear w0
  by_cases hbig : 100 < n1
  · clear i1
    go_enter Try.func4, Try.ntmps4
    go_wp2_with fail
    refine (alive_true _).mono ?_
    rintro e w1 ⟨rfl, hb1⟩
    have HA := Lib.hid hb1
    clear hb1
    go_wp2
    go_ret
    exact ⟨rfl, HA.out⟩
  · have hsm : (n1 : Int) ≤ 100 := by omega
    clear hbig
    go_enter Try.func4, Try.ntmps4
    go_wp2_with fail
    refine (alive_true _).mono ?_
    rintro e w1 ⟨rfl, hb1⟩
    have HA := Lib.hid hb1
    clear hb1
    go_wp2_with fail
    refine (own_new w _ a0 b0 c0 HA.out).mono ?_
    rintro e w2 ⟨b, rfl, h2, hwb⟩
    go_wp2
    go_loopw [6, 7, 8] (fun p q i wr => ∃ (k : Nat) (E : Rt.Est) (lo hi : Int), k ≤ n1 ∧ i = .int .i64 k ∧ p = .int .u64 lo ∧ q = .int .u64 hi ∧ Own w b E wr ∧ 0 ≤ lo ∧ lo ≤ 1099511627776 ∧ 0 ≤ hi ∧ hi ≤ 1099511627776 ∧ Hid (Btw a0 k E lo hi)) (fun _ _ i _ => n1 - (intOf i).toNat)
    case atStart => exact ⟨0, _, _, _, by omega, rfl, rfl, rfl, h2, by omega, by omega, by omega, by omega, fun _ => ⟨rfl, rfl, rfl⟩, fun h => absurd rfl h⟩
    case round =>
      obtain ⟨k, E, lo, hi, hk, rfl, rfl, rfl, HO, l0, l1', h0, h1, HB⟩ := hrel
      clear h2
      by_cases hlt : k < n1
      · obtain ⟨e1, e2, e3⟩ := i1
        obtain ⟨B, off, rfl, hB, hc⟩ := e3 (by omega)
        have G0 := Lib.hid (hc k hlt)
        have g := (HO.2.2.2.cell (p := ⟨B, off + k, none⟩) hB).trans G0.out
        have rt := bounds_u64 (e2 (l1.getD k 0) (by
          rw [List.getD_eq_getElem?_getD, List.getElem?_eq_getElem (by omega)]; exact List.getElem_mem _))
        have HN := Lib.hid (btw_next a0 k E lo hi (l1.getD k 0) HB.out rt.1)
        clear hc e2 e3
        obtain ⟨t, ht⟩ : ∃ t, l1.getD k 0 = t := ⟨_, rfl⟩
        rw [ht] at g rt HN G0
        have HTT := Lib.hid ht
        clear ht
        obtain ⟨rt0, rt1⟩ := rt
        obtain ⟨T, hT⟩ : ∃ T, Rt.hold t = T := ⟨_, rfl⟩
        rw [hT] at HN
        have hTT : (1099511627776 < t ∧ T = 1099511627776) ∨ (t ≤ 1099511627776 ∧ T = t) := by rw [← hT]; unfold Rt.hold; omega
        have HT := Lib.hid hT
        clear hT
        obtain ⟨E', hE'⟩ : ∃ E', Rt.take E t 0 = E' := ⟨_, rfl⟩
        rw [hE'] at HN
        have HE' := Lib.hid hE'
        clear hE'
        obtain ⟨q1, q2, q3, q4⟩ := HN.out.2 (by omega)
        have HQ2 := Lib.hid q2
        have q2' : (E'.least != min lo T) = false := by simp [q2]
        clear q2
        rcases hTT with ⟨ht, rfl⟩ | ⟨ht, rfl⟩
        · have hl2 : lo ≤ 1099511627776 := by omega
          by_cases hh : hi < 1099511627776
          · rw [show min lo 1099511627776 = lo by omega] at q2' q3 HN
            rw [show max hi 1099511627776 = 1099511627776 by omega] at q4 HN
            go_wp2_with fail
            refine (own_take w _ b E _ 0 HO rt0 (by omega)).mono ?_
            rintro e w4 ⟨rfl, h4⟩
            rw [HE'.out] at h4
            have g4 := (h4.2.2.2.cell (p := ⟨B, off + k, none⟩) hB).trans G0.out
            go_wp2_with fail
            refine (own_smooth w _ b _ h4).mono ?_
            rintro e w6 ⟨rfl, rfl⟩
            go_wp2_with fail
            refine (own_smooth w _ b _ h4).mono ?_
            rintro e w6 ⟨rfl, rfl⟩
            go_wp2_with fail
            refine (own_least w _ b _ h4).mono ?_
            rintro e w6 ⟨rfl, rfl⟩
            go_wp2
            go_roundw
            case rel => exact ⟨k + 1, _, _, _, by omega, by go_num, rfl, rfl, h4, by omega, by omega, by omega, by omega, HN⟩
            case measure => simp [intOf]; omega
          · have hh2 : 1099511627776 ≤ hi := by omega
            clear hh
            rw [show min lo 1099511627776 = lo by omega] at q2' q3 HN
            rw [show max hi 1099511627776 = hi by omega] at q4 HN
            go_wp2_with fail
            refine (own_take w _ b E _ 0 HO rt0 (by omega)).mono ?_
            rintro e w4 ⟨rfl, h4⟩
            rw [HE'.out] at h4
            have g4 := (h4.2.2.2.cell (p := ⟨B, off + k, none⟩) hB).trans G0.out
            go_wp2_with fail
            refine (own_smooth w _ b _ h4).mono ?_
            rintro e w6 ⟨rfl, rfl⟩
            go_wp2_with fail
            refine (own_smooth w _ b _ h4).mono ?_
            rintro e w6 ⟨rfl, rfl⟩
            go_wp2_with fail
            refine (own_least w _ b _ h4).mono ?_
            rintro e w6 ⟨rfl, rfl⟩
            go_wp2
            go_roundw
            case rel => exact ⟨k + 1, _, _, _, by omega, by go_num, rfl, rfl, h4, by omega, by omega, by omega, by omega, HN⟩
            case measure => simp [intOf]; omega
        · by_cases hl : T < lo
          · by_cases hh : hi < T
            · rw [show min lo T = T by omega] at q2' q3 HN
              rw [show max hi T = T by omega] at q4 HN
              go_wp2_with fail
              refine (own_take w _ b E _ 0 HO rt0 (by omega)).mono ?_
              rintro e w4 ⟨rfl, h4⟩
              rw [HE'.out] at h4
              have g4 := (h4.2.2.2.cell (p := ⟨B, off + k, none⟩) hB).trans G0.out
              go_wp2_with fail
              refine (own_smooth w _ b _ h4).mono ?_
              rintro e w6 ⟨rfl, rfl⟩
              go_wp2_with fail
              refine (own_smooth w _ b _ h4).mono ?_
              rintro e w6 ⟨rfl, rfl⟩
              go_wp2_with fail
              refine (own_least w _ b _ h4).mono ?_
              rintro e w6 ⟨rfl, rfl⟩
              go_wp2
              go_roundw
              case rel => exact ⟨k + 1, _, _, _, by omega, by go_num, rfl, rfl, h4, by omega, by omega, by omega, by omega, HN⟩
              case measure => simp [intOf]; omega
            · have hh2 : T ≤ hi := by omega
              clear hh
              rw [show min lo T = T by omega] at q2' q3 HN
              rw [show max hi T = hi by omega] at q4 HN
              go_wp2_with fail
              refine (own_take w _ b E _ 0 HO rt0 (by omega)).mono ?_
              rintro e w4 ⟨rfl, h4⟩
              rw [HE'.out] at h4
              have g4 := (h4.2.2.2.cell (p := ⟨B, off + k, none⟩) hB).trans G0.out
              go_wp2_with fail
              refine (own_smooth w _ b _ h4).mono ?_
              rintro e w6 ⟨rfl, rfl⟩
              go_wp2_with fail
              refine (own_smooth w _ b _ h4).mono ?_
              rintro e w6 ⟨rfl, rfl⟩
              go_wp2_with fail
              refine (own_least w _ b _ h4).mono ?_
              rintro e w6 ⟨rfl, rfl⟩
              go_wp2
              go_roundw
              case rel => exact ⟨k + 1, _, _, _, by omega, by go_num, rfl, rfl, h4, by omega, by omega, by omega, by omega, HN⟩
              case measure => simp [intOf]; omega
          · have hl2 : lo ≤ T := by omega
            clear hl
            by_cases hh : hi < T
            · rw [show min lo T = lo by omega] at q2' q3 HN
              rw [show max hi T = T by omega] at q4 HN
              go_wp2_with fail
              refine (own_take w _ b E _ 0 HO rt0 (by omega)).mono ?_
              rintro e w4 ⟨rfl, h4⟩
              rw [HE'.out] at h4
              have g4 := (h4.2.2.2.cell (p := ⟨B, off + k, none⟩) hB).trans G0.out
              go_wp2_with fail
              refine (own_smooth w _ b _ h4).mono ?_
              rintro e w6 ⟨rfl, rfl⟩
              go_wp2_with fail
              refine (own_smooth w _ b _ h4).mono ?_
              rintro e w6 ⟨rfl, rfl⟩
              go_wp2_with fail
              refine (own_least w _ b _ h4).mono ?_
              rintro e w6 ⟨rfl, rfl⟩
              go_wp2
              go_roundw
              case rel => exact ⟨k + 1, _, _, _, by omega, by go_num, rfl, rfl, h4, by omega, by omega, by omega, by omega, HN⟩
              case measure => simp [intOf]; omega
            · have hh2 : T ≤ hi := by omega
              clear hh
              rw [show min lo T = lo by omega] at q2' q3 HN
              rw [show max hi T = hi by omega] at q4 HN
              go_wp2_with fail
              refine (own_take w _ b E _ 0 HO rt0 (by omega)).mono ?_
              rintro e w4 ⟨rfl, h4⟩
              rw [HE'.out] at h4
              have g4 := (h4.2.2.2.cell (p := ⟨B, off + k, none⟩) hB).trans G0.out
              go_wp2_with fail
              refine (own_smooth w _ b _ h4).mono ?_
              rintro e w6 ⟨rfl, rfl⟩
              go_wp2_with fail
              refine (own_smooth w _ b _ h4).mono ?_
              rintro e w6 ⟨rfl, rfl⟩
              go_wp2_with fail
              refine (own_least w _ b _ h4).mono ?_
              rintro e w6 ⟨rfl, rfl⟩
              go_wp2
              go_roundw
              case rel => exact ⟨k + 1, _, _, _, by omega, by go_num, rfl, rfl, h4, by omega, by omega, by omega, by omega, HN⟩
              case measure => simp [intOf]; omega
      · obtain rfl : k = n1 := by omega
        clear hlt
        go_wp2_with fail
        refine (alive_true _).mono ?_
        rintro e w5 ⟨rfl, hb5⟩
        have H5 := Lib.hid (HO.2.2.2.trans (hb5.mono HO.2.2.2.size))
        clear hb5
        go_wp2
        go_ret
        exact ⟨rfl, H5.out⟩

end Go.Proofs.Ytbiidcdgcbaahaa
