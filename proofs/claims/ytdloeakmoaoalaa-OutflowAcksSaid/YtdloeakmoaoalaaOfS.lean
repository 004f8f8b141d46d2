/- Layer 17's outflow: OutflowLimit, walked. -/
import Derived.Test.YtdloeakmoaoalaaRows
import Derived.Test.YtdloeakmoaoalaaAid
import Derived.Test.YtdloeakmoaoalaaPlainOf
import Derived.Test.YtdloeakmoaoalaaPlainOf2
import Derived.Test.YtdloeakmoaoalaaOfW
import Derived.Test.YtdloeakmoaoalaaOfX
import Derived.Test.YtdloeakmoaoalaaOfA
import Derived.Test.YtdloeakmoaoalaaOfB
import Derived.Test.YtdloeakmoaoalaaOfM
import Derived.Test.YtdloeakmoaoalaaOfN
import Derived.Test.YtdloeakmoaoalaaOfP
import Derived.Test.YtdloeakmoaoalaaOfQ
import Derived.Test.YtdloeakmoaoalaaOfR
import Derived.WalkKit
import Derived.OwnWalk
import Derived.Laws.Rows
import Derived.Laws.Tables
import Derived.WalkSpells
import Derived.WalkLawsBesides
import Derived.BigQuiet
import Derived.Handy
import Derived.Lib.Walk
import Derived.Lib.Hide
import Derived.IntWalk
import Derived.OpenShut
namespace Go.Proofs.Ytdloeakmoaoalaa
open Go.RowKit
set_option linter.unusedVariables false
set_option linter.unusedSimpArgs false

/-- What came in, as bytes. -/
theorem Ints.rb {w : World} {A : Option Addr} {n : Nat} {z : List Int} (h : Ints .u8 w A n z) : ∃ l : List Nat, l.length = n ∧ (∀ x ∈ l, x < 256) ∧ Rb w A l := by
  obtain ⟨h1, h2, h3⟩ := h
  refine ⟨z.map Int.toNat, by simp [h1], fun c hc => ?_, fun hp => ?_⟩
  · obtain ⟨x, hx, rfl⟩ := List.mem_map.1 hc
    have := bounds_u8 (h2 x hx); omega
  · simp at hp
    obtain ⟨b, off, rfl, hlt, hc⟩ := h3 (by omega)
    refine ⟨b, off, rfl, hlt, fun j hj => ?_⟩
    simp [h1] at hj
    have hz : j < z.length := by omega
    rw [hc j hj]
    have hb := bounds_u8 (h2 z[j] (List.getElem_mem hz))
    unfold b8
    simp [List.getD_eq_getElem?_getD, hz]
    omega

theorem limit_next {W w : World} {a lim k : Nat} {t : List Nat} (h : OwnB W a (Of.St t lim k) w) (many : Nat) (hk : k < min t.length lim) (hm0 : 0 < many) (hm : many ≤ 9223372036854775807) :
    Calls Try.prog 12 #[.pointer (some ⟨a, 0, none⟩), .int .i64 (many : Int)] w fun e w' => ∃ A c, e = .returned (.tuple #[.int .u64 (k : Int), .slice A (min many (min t.length lim - k)) c, .bool false, .bool true])
      ∧ OwnB W a (Of.St t lim (k + min many (min t.length lim - k))) w' := by
  refine (h.next many hm0 hm).mono ?_
  rintro e w' ⟨A, c, rfl, _, _, _, h4⟩
  have hl : (outB (Of.St t lim k) many).length = min many (min t.length lim - k) := by
    unfold outB
    rw [Of.st_due _ _ _ _ (by omega), if_pos hk, List.length_take, List.length_drop]
    show min (k + min many (min t.length lim - k) - k) (t.length - k) = _
    omega
  rw [hl, Of.st_due _ _ _ _ (by omega), if_pos hk, Of.st_next _ _ _ _ hk hm0] at *
  exact ⟨A, c, rfl, h4⟩

theorem limit_some {W w : World} {a lim k o : Nat} {t : List Nat} (ho : min t.length lim = o) (hk : k ≤ o) (h : OwnB W a (Of.St t lim k) w) :
    Calls Try.prog 18 #[.pointer (some ⟨a, 0, none⟩)] w fun e w' => e = .returned (.bool (decide (k < o))) ∧ OwnB W a (Of.St t lim k) w' := by
  have := h.some_
  rw [Of.st_some _ _ _ (by omega), ho] at this
  exact this
theorem limit_next1 {W w : World} {a lim k o : Nat} {t : List Nat} (ho : min t.length lim = o) (s : Nat) (hk : k < o) (hs : s < 256) (h : OwnB W a (Of.St t lim k) w) :
    Calls Try.prog 12 #[.pointer (some ⟨a, 0, none⟩), .int .i64 (1 + (s : Int))] w fun e w' => ∃ A c r, e = .returned (.tuple #[.int .u64 (k : Int), .slice A r c, .bool false, .bool true]) ∧ 0 < r ∧ k + r ≤ o ∧ OwnB W a (Of.St t lim (k + r)) w' := by
  have := limit_next h (1 + s) (by omega) (by omega) (by omega)
  rw [show ((1 + s : Nat) : Int) = 1 + (s : Int) by omega] at this
  refine this.mono ?_
  rintro e w' ⟨A, c, rfl, h4⟩
  exact ⟨A, c, _, rfl, by omega, by omega, h4⟩
theorem limit_blocked {W w : World} {a lim o : Nat} {t : List Nat} (ho : min t.length lim = o) (h : OwnB W a (Of.St t lim o) w) :
    Calls Try.prog 19 #[.pointer (some ⟨a, 0, none⟩)] w fun e w' => e = .returned (.bool (decide (o < t.length))) ∧ OwnB W a (Of.St t lim o) w' := by
  have := h.blocked
  rw [Of.st_blocked _ _ _ (by omega), decide_eq_true (show min t.length lim ≤ o by omega), Bool.and_true] at this
  exact this
theorem limit_sent {W w : World} {a lim o : Nat} {t : List Nat} (ho : o ≤ t.length) (h : OwnB W a (Of.St t lim o) w) :
    Calls Try.prog 17 #[.pointer (some ⟨a, 0, none⟩)] w fun e w' => e = .returned (.int .u64 (o : Nat)) ∧ OwnB W a (Of.St t lim o) w' := by
  have := h.sent
  rw [Of.st_sent _ _ _ ho] at this
  exact this
theorem limit_raise {W w : World} {a lim o : Nat} {t : List Nat} (hl : lim < 1048576) (h : OwnB W a (Of.St t lim o) w) :
    Calls Try.prog 15 #[.pointer (some ⟨a, 0, none⟩), .int .u64 1048576] w fun e w' => e = .returned (.bool true) ∧ OwnB W a (Of.St t 1048576 o) w' := by
  have := h.raise 1048576
  rw [Of.st_raise _ _ _ _ hl] at this
  exact this

set_option maxRecDepth 100000 in
set_option maxHeartbeats 8000000 in
theorem outflowLimit_walk (a0 : Int) (A1 : Option Addr) (n1 c1 : Nat) (z1 : List Int) (A2 : Option Addr) (n2 c2 : Nat) (z2 : List Int) (w : World) (w0 : (Lit.int .u16 a0).wf = true)
    (w1 : Ints .u8 w A1 n1 z1) (x1 : n1 ≤ c1 ∧ c1 ≤ maxLen) (w2 : Ints .u8 w A2 n2 z2) (x2 : n2 ≤ c2 ∧ c2 ≤ maxLen) :
    Calls Try.prog 5 #[.int .u16 a0, .slice A1 n1 c1, .slice A2 n2 c2] w fun e w' => e = .returned (.bool true) ∧ Below w.heap.size w w' := by
  obtain ⟨t, rfl, _, ht⟩ := Ints.rb w1
  obtain ⟨l, rfl, hl8, hl⟩ := Ints.rb w2
  have hb0 := bounds_u16 w0
  obtain ⟨lim, rfl⟩ : ∃ lim : Nat, a0 = lim := ⟨a0.toNat, by omega⟩
  have hlim : lim ≤ 65535 := by omega
  have hc1 : t.length ≤ c1 ∧ c1 ≤ 9223372036854775807 := ⟨x1.1, by have := x1.2; simp only [maxLen] at this; omega⟩
  have hc2 : l.length ≤ c2 ∧ c2 ≤ 9223372036854775807 := ⟨x2.1, by have := x2.2; simp only [maxLen] at this; omega⟩
  have hcm := x1.2
  have HAL := Lib.hid (alive_any w)
  clear w0 w1 w2 hb0 x1 x2
  by_cases ht6 : 600 < t.length
  · generalize t.length = m at *
    go_enter Try.func5, Try.ntmps5
    go_wp2_with fail
    refine HAL.out.mono ?_
    rintro e wA ⟨rfl, hL⟩
    have HL := Lib.hid hL
    clear hL
    go_wp2
    go_ret
    exact ⟨rfl, HL.out⟩
  · by_cases h60 : l.length = 0 ∨ 60 < l.length
    · generalize t.length = m at *
      generalize hll : l.length = n at *
      rcases h60 with rfl | h60
      · clear hll
        go_enter Try.func5, Try.ntmps5
        go_wp2_with fail
        refine HAL.out.mono ?_
        rintro e wA ⟨rfl, hL⟩
        have HL := Lib.hid hL
        clear hL
        go_wp2
        go_ret
        exact ⟨rfl, HL.out⟩
      · clear hll
        go_enter Try.func5, Try.ntmps5
        go_wp2_with fail
        refine HAL.out.mono ?_
        rintro e wA ⟨rfl, hL⟩
        have HL := Lib.hid hL
        clear hL
        go_wp2
        go_ret
        exact ⟨rfl, HL.out⟩
    · obtain ⟨b2, off2, rfl, hb2, hcell2⟩ := hl (by omega)
      have HT := Lib.hid ht
      have HC2 : Hid (∀ w', Below w.heap.size w w' → ∀ i, i < l.length → w'.cell? ⟨b2, off2 + i, none⟩ = some (.int .u8 ((l.getD i 0 : Nat) : Int)) ∧ l.getD i 0 < 256) := fun w' hb i hi => by
        refine ⟨(hb.cell (p := ⟨b2, off2 + i, none⟩) hb2).trans (hcell2 i hi), ?_⟩
        rw [List.getD_eq_getElem?_getD, List.getElem?_eq_getElem hi, Option.getD_some]
        exact hl8 _ (List.getElem_mem _)
      have HW : Hid (∀ wr x a, OwnB w a x wr → Below w.heap.size w wr) := fun wr x a h => h.below
      have HST := Lib.hid (Of.st_new t lim (by omega))
      have hn0 : 0 < l.length := by omega
      have hn6 : l.length ≤ 60 := by omega
      have ht6' : t.length ≤ 600 := by omega
      clear ht hl hcell2 hl8 h60 ht6
      obtain ⟨o, ho⟩ : ∃ o, min t.length lim = o := ⟨_, rfl⟩
      have ho1 : o ≤ t.length := by omega
      have HO := Lib.hid ho
      have HRD : Hid (∀ wr x a (j : Nat), OwnB w a x wr → wr.cell? ⟨b2, off2 + j % l.length, none⟩ = some (.int .u8 ((l.getD (j % l.length) 0 : Nat) : Int)) ∧ l.getD (j % l.length) 0 < 256) := fun wr x a j h => HC2.out wr h.below _ (Nat.mod_lt _ hn0)
      have HSO := Lib.hid (fun wr a k => limit_some (W := w) (w := wr) (a := a) (k := k) ho)
      have HNX := Lib.hid (fun wr a k s => limit_next1 (W := w) (w := wr) (a := a) (k := k) ho s)
      have HBL := Lib.hid (fun wr a => limit_blocked (W := w) (w := wr) (a := a) ho)
      have HSE := Lib.hid (fun wr a lim o => limit_sent (W := w) (w := wr) (a := a) (lim := lim) (o := o) (t := t))
      have HRA := Lib.hid (fun wr a => limit_raise (W := w) (w := wr) (a := a) (o := o) (t := t) (show lim < 1048576 by omega))
      have ho2 : min t.length 1048576 = t.length := by omega
      have HSO2 := Lib.hid (fun wr a k => limit_some (W := w) (w := wr) (a := a) (k := k) ho2)
      have HNX2 := Lib.hid (fun wr a k s => limit_next1 (W := w) (w := wr) (a := a) (k := k) ho2 s)
      have HBL2 := Lib.hid (fun wr a => limit_blocked (W := w) (w := wr) (a := a) ho2)
      clear ho2
      have HW1 : Hid (∀ wr a, OwnB w a ⟨[], [], false, 0, lim⟩ wr → Calls Try.prog 13 #[.pointer (some ⟨a, 0, none⟩), .slice A1 t.length c1] wr fun e w' => e = .returned (.int .i64 (t.length : Nat)) ∧ OwnB w a (Of.St t lim 0) w') := fun wr a h => by
        have := h.write A1 c1 t (HT.out.below h.below) hc1.1 hcm (by omega)
        rw [HST.out] at this
        exact this
      have d1 : decide (600 < (t.length : Int)) = false := by simp; omega
      have d2 : ((l.length : Int) == 0) = false := beq_eq_false_iff_ne.2 (by omega)
      have d3 : decide (60 < (l.length : Int)) = false := by simp; omega
      clear HC2 HST ho
      generalize l.length = n at *
      generalize t.length = m at *
      go_enter Try.func5, Try.ntmps5
      go_wp2_with fail
      refine HAL.out.mono ?_
      rintro e wA ⟨rfl, hL⟩
      have HL := Lib.hid hL
      clear hL HAL
      go_wp2_with fail
      refine (OwnB.new lim HL.out).mono ?_
      rintro e wB ⟨a, rfl, hB⟩
      have HB := Lib.hid hB
      clear hB HL
      go_wp2_with fail
      refine (HW1.out _ _ HB.out).mono ?_
      rintro e wC ⟨rfl, hB⟩
      have HB2 := Lib.hid hB
      clear hB HB HW1
      go_wp2
      go_loopw [8, 9] (fun nn i wr => ∃ k j : Nat, nn = .int .i64 k ∧ i = .int .i64 j ∧ j ≤ k ∧ k ≤ o ∧ OwnB w a (Of.St t lim k) wr) (fun _ i _ => 700 - (intOf i).toNat)
      case atStart => exact ⟨0, 0, rfl, rfl, by omega, by omega, HB2.out⟩
      case round =>
        obtain ⟨k, j, rfl, rfl, hjk, hko, hB⟩ := hrel
        have HB := Lib.hid hB
        clear hB HB2
        have hj7 : j < 700 := by omega
        go_wp2_with fail
        refine (HSO.out _ _ _ hko HB.out).mono ?_
        rintro e wD ⟨rfl, hB⟩
        have HBD := Lib.hid hB
        clear hB HB
        by_cases hk : k < o
        · obtain ⟨f2, hs2⟩ := HRD.out _ _ _ j HBD.out
          obtain ⟨p, hp⟩ : ∃ p, j % n = p := ⟨_, rfl⟩
          rw [hp] at f2 hs2
          have hr : (j : Int).tmod (n : Int) = (p : Int) := by rw [← hp]; exact (Int.ofNat_tmod j n).symm
          have hpn : p < n := by rw [← hp]; exact Nat.mod_lt _ hn0
          have HP := Lib.hid hp
          clear hp
          generalize l.getD p 0 = sz at *
          go_wp2_with fail
          refine (HNX.out _ _ _ _ hk hs2 HBD.out).mono ?_
          rintro e wE ⟨A, c, r, rfl, hr0, hkr, hB⟩
          have HB := Lib.hid hB
          clear hB HBD f2
          go_wp2
          go_roundw
          case rel => exact ⟨k + r, j + 1, by go_num, by go_num, by omega, hkr, HB.out⟩
          case measure => simp [intOf]; omega
        · obtain rfl : o = k := by omega
          clear hk hko hjk
          by_cases hlm : lim < m
          · obtain rfl : lim = o := by have := HO.out; omega
            have HBE := Lib.hid HBD.out
            go_wp2_with fail
            refine (HBL.out _ _ HBE.out).mono ?_
            rintro e wE ⟨rfl, hB⟩
            have HB := Lib.hid hB
            clear hB HBD HBE
            go_wp2_with fail
            refine (HSE.out _ _ _ _ ho1 HB.out).mono ?_
            rintro e wF ⟨rfl, hB⟩
            have HB3 := Lib.hid hB
            clear hB HB
            go_wp2_with fail
            refine (HRA.out _ _ HB3.out).mono ?_
            rintro e wG ⟨rfl, hB⟩
            have HB9 := Lib.hid hB
            clear hB HB3 HSO HNX HBL HSE HRA
            go_wp2
            go_loopw [8, 15] (fun nn i wr => ∃ k j : Nat, nn = .int .i64 k ∧ i = .int .i64 j ∧ j ≤ k ∧ k ≤ m ∧ OwnB w a (Of.St t 1048576 k) wr) (fun _ i _ => 700 - (intOf i).toNat)
            case atStart => exact ⟨lim, 0, rfl, rfl, by omega, ho1, HB9.out⟩
            case round =>
              obtain ⟨k, j, rfl, rfl, hjk, hko, hB⟩ := hrel
              have HB := Lib.hid hB
              clear hB HB9
              have hj7 : j < 700 := by omega
              go_wp2_with fail
              refine (HSO2.out _ _ _ hko HB.out).mono ?_
              rintro e wD ⟨rfl, hB⟩
              have HBD := Lib.hid hB
              clear hB HB
              by_cases hk : k < m
              · obtain ⟨f2, hs2⟩ := HRD.out _ _ _ j HBD.out
                obtain ⟨p, hp⟩ : ∃ p, j % n = p := ⟨_, rfl⟩
                rw [hp] at f2 hs2
                have hr : (j : Int).tmod (n : Int) = (p : Int) := by rw [← hp]; exact (Int.ofNat_tmod j n).symm
                have hpn : p < n := by rw [← hp]; exact Nat.mod_lt _ hn0
                have HP := Lib.hid hp
                clear hp
                generalize l.getD p 0 = sz at *
                go_wp2_with fail
                refine (HNX2.out _ _ _ _ hk hs2 HBD.out).mono ?_
                rintro e wE ⟨A, c, r, rfl, hr0, hkr, hB⟩
                have HB := Lib.hid hB
                clear hB HBD f2
                go_wp2
                go_roundw
                case rel => exact ⟨k + r, j + 1, by go_num, by go_num, by omega, hkr, HB.out⟩
                case measure => simp [intOf]; omega
              · obtain rfl : m = k := by omega
                go_wp2_with fail
                refine (HBL2.out _ _ HBD.out).mono ?_
                rintro e wE ⟨rfl, hB⟩
                have HL := Lib.hid (HW.out _ _ _ hB)
                clear hB
                go_wp2
                go_ret
                exact ⟨by simp, HL.out⟩
          · obtain rfl : m = o := by have := HO.out; omega
            have HBE := Lib.hid HBD.out
            go_wp2_with fail
            refine (HBL.out _ _ HBE.out).mono ?_
            rintro e wE ⟨rfl, hB⟩
            have HB := Lib.hid hB
            clear hB HBD HBE
            go_wp2_with fail
            refine (HSE.out _ _ _ _ ho1 HB.out).mono ?_
            rintro e wF ⟨rfl, hB⟩
            have HB3 := Lib.hid hB
            clear hB HB
            go_wp2_with fail
            refine (HRA.out _ _ HB3.out).mono ?_
            rintro e wG ⟨rfl, hB⟩
            have HB9 := Lib.hid hB
            clear hB HB3 HSO HNX HBL HSE HRA
            go_wp2
            go_loopw [8, 15] (fun nn i wr => ∃ k j : Nat, nn = .int .i64 k ∧ i = .int .i64 j ∧ j ≤ k ∧ k ≤ m ∧ OwnB w a (Of.St t 1048576 k) wr) (fun _ i _ => 700 - (intOf i).toNat)
            case atStart => exact ⟨m, 0, rfl, rfl, by omega, ho1, HB9.out⟩
            case round =>
              obtain ⟨k, j, rfl, rfl, hjk, hko, hB⟩ := hrel
              have HB := Lib.hid hB
              clear hB HB9
              have hj7 : j < 700 := by omega
              go_wp2_with fail
              refine (HSO2.out _ _ _ hko HB.out).mono ?_
              rintro e wD ⟨rfl, hB⟩
              have HBD := Lib.hid hB
              clear hB HB
              by_cases hk : k < m
              · obtain ⟨f2, hs2⟩ := HRD.out _ _ _ j HBD.out
                obtain ⟨p, hp⟩ : ∃ p, j % n = p := ⟨_, rfl⟩
                rw [hp] at f2 hs2
                have hr : (j : Int).tmod (n : Int) = (p : Int) := by rw [← hp]; exact (Int.ofNat_tmod j n).symm
                have hpn : p < n := by rw [← hp]; exact Nat.mod_lt _ hn0
                have HP := Lib.hid hp
                clear hp
                generalize l.getD p 0 = sz at *
                go_wp2_with fail
                refine (HNX2.out _ _ _ _ hk hs2 HBD.out).mono ?_
                rintro e wE ⟨A, c, r, rfl, hr0, hkr, hB⟩
                have HB := Lib.hid hB
                clear hB HBD f2
                go_wp2
                go_roundw
                case rel => exact ⟨k + r, j + 1, by go_num, by go_num, by omega, hkr, HB.out⟩
                case measure => simp [intOf]; omega
              · obtain rfl : m = k := by omega
                go_wp2_with fail
                refine (HBL2.out _ _ HBD.out).mono ?_
                rintro e wE ⟨rfl, hB⟩
                have HL := Lib.hid (HW.out _ _ _ hB)
                clear hB
                go_wp2
                go_ret
                exact ⟨by simp, HL.out⟩
end Go.Proofs.Ytdloeakmoaoalaa
