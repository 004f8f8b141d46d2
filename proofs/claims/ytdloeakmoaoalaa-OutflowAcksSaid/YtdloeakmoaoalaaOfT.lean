/- Layer 17's outflow: OutflowAcks, walked. -/
import Derived.Test.YtdloeakmoaoalaaRows
import Derived.Test.YtdloeakmoaoalaaAid
import Derived.Test.YtdloeakmoaoalaaPlainOf
import Derived.Test.YtdloeakmoaoalaaPlainOf2
import Derived.Test.YtdloeakmoaoalaaPlainOf3
import Derived.Test.YtdloeakmoaoalaaOfW
import Derived.Test.YtdloeakmoaoalaaOfX
import Derived.Test.YtdloeakmoaoalaaOfA
import Derived.Test.YtdloeakmoaoalaaOfB
import Derived.Test.YtdloeakmoaoalaaOfM
import Derived.Test.YtdloeakmoaoalaaOfN
import Derived.Test.YtdloeakmoaoalaaOfP
import Derived.Test.YtdloeakmoaoalaaOfQ
import Derived.Test.YtdloeakmoaoalaaOfR
import Derived.Test.YtdloeakmoaoalaaOfS
import Derived.WalkKit
import Derived.OwnWalk
import Derived.Laws.Rows
import Derived.Laws.Tables
import Derived.WalkSpells
import Derived.WalkLawsBesides
import Derived.BigQuiet
import Derived.Handy
import Derived.Lib.Walk
import Derived.Lib.Hide
import Derived.IntWalk
import Derived.OpenShut
namespace Go.Proofs.Ytdloeakmoaoalaa
open Go.RowKit
set_option linter.unusedVariables false
set_option linter.unusedSimpArgs false

theorem acks_nextk {W w : World} {a : Nat} {t : List Nat} (k : Nat) (hk : k ≤ t.length) (ht : t.length ≤ 600) (h : OwnB W a (Of.St t 1000 0) w) :
    Calls Try.prog 12 #[.pointer (some ⟨a, 0, none⟩), .int .i64 (k : Int)] w fun e w' => ∃ v1 v2 v3 v4, e = .returned (.tuple #[v1, v2, v3, v4]) ∧ OwnB W a (Of.St t 1000 k) w' := by
  by_cases h0 : k = 0
  · subst h0
    refine (next0_any _ _ (Or.inl (by omega)) w).mono ?_
    rintro e w' ⟨rfl, rfl⟩
    exact ⟨_, _, _, _, rfl, h⟩
  · refine (limit_next h k (by omega) (by omega) (by omega)).mono ?_
    rintro e w' ⟨A, c, rfl, h4⟩
    rw [show 0 + min k (min t.length 1000 - 0) = k by omega] at h4
    exact ⟨_, _, _, _, rfl, h4⟩
theorem acks_next1 {W w : World} {a k off n j : Nat} {t : List Nat} {x : Of.B} (h : OwnB W a x w) (hA : Of.Ack t k off n j x) (ht : t.length ≤ 600) (hs : Of.some_ x = true) :
    ∃ p, p < t.length ∧ ¬ (p < k ∧ off ≤ p ∧ p < off + n) ∧ Calls Try.prog 12 #[.pointer (some ⟨a, 0, none⟩), .int .i64 1] w fun e w' => ∃ g o c y, e = .returned (.tuple #[.int .u64 (p : Int), .slice (some ⟨g, o, none⟩) 1 c, .bool false, .bool true])
      ∧ 1 ≤ c ∧ c ≤ 9223372036854775807 ∧ w'.cell? ⟨g, o, none⟩ = some (.int .u8 ((t.getD p 0 : Nat) : Int)) ∧ OwnB W a y w' ∧ Of.Ack t k off n (j + 1) y := by
  obtain ⟨p, h1, h2, h3, h4⟩ := hA.step (by omega) hs
  refine ⟨p, h1, h3, ?_⟩
  refine (h.next 1 (by omega) (by omega)).mono ?_
  rintro e w' ⟨A, c, rfl, q1, q2, q3, q4⟩
  have hl : outB x 1 = [t.getD p 0] := by
    unfold outB
    rw [h2, hA.b, show p + 1 - p = 1 by omega]
    apply List.ext_getElem?
    intro i
    rw [List.getElem?_take, List.getElem?_drop]
    by_cases hi : i < 1
    · obtain rfl : i = 0 := by omega
      rw [if_pos hi, Nat.add_zero, List.getD_eq_getElem?_getD, List.getElem?_eq_getElem h1]; rfl
    · rw [if_neg hi, List.getElem?_eq_none (by simp; omega)]
  rw [hl] at q1 q3
  rw [hl]
  obtain ⟨g, o, rfl, _, hc⟩ := q3 (by simp)
  rw [h2]
  refine ⟨g, o, c, _, rfl, q1, by simp only [maxLen] at q2; omega, ?_, q4, h4⟩
  have := hc 0 (by simp)
  simpa [b8] using this

set_option maxRecDepth 100000 in
set_option maxHeartbeats 8000000 in
theorem outflowAcks_walk (A0 : Option Addr) (n0 c0 : Nat) (z0 : List Int) (a1 a2 : Int) (w : World) (w0 : Ints .u8 w A0 n0 z0) (x0 : n0 ≤ c0 ∧ c0 ≤ maxLen) (w1 : (Lit.int .u16 a1).wf = true) (w2 : (Lit.int .u8 a2).wf = true) :
    Calls Try.prog 6 #[.slice A0 n0 c0, .int .u16 a1, .int .u8 a2] w fun e w' => e = .returned (.bool true) ∧ Below w.heap.size w w' := by
  obtain ⟨t, rfl, _, ht⟩ := Ints.rb w0
  have hb1 := bounds_u16 w1
  have hb2 := bounds_u8 w2
  obtain ⟨off, rfl⟩ : ∃ off : Nat, a1 = off := ⟨a1.toNat, by omega⟩
  obtain ⟨n, rfl⟩ : ∃ n : Nat, a2 = n := ⟨a2.toNat, by omega⟩
  have hoff : off ≤ 65535 := by omega
  have hn : n ≤ 255 := by omega
  have hc0 : t.length ≤ c0 ∧ c0 ≤ 9223372036854775807 := ⟨x0.1, by have := x0.2; simp only [maxLen] at this; omega⟩
  have hcm := x0.2
  have HAL := Lib.hid (alive_any w)
  clear w0 w1 w2 hb1 hb2 x0
  by_cases ht6 : 600 < t.length
  · generalize t.length = m at *
    go_enter Try.func6, Try.ntmps6
    go_wp2_with fail
    refine HAL.out.mono ?_
    rintro e wA ⟨rfl, hL⟩
    have HL := Lib.hid hL
    clear hL
    go_wp2
    go_ret
    exact ⟨rfl, HL.out⟩
  · have ht6' : t.length ≤ 600 := by omega
    have HT := Lib.hid ht
    have HCT : Hid (∀ p wr, p < t.length → Below w.heap.size w wr → ∃ b o, A0 = some ⟨b, o, none⟩ ∧ wr.cell? ⟨b, o + p, none⟩ = some (.int .u8 ((t.getD p 0 : Nat) : Int))) := fun p wr hp hb => by
      obtain ⟨b, o, rfl, hlt, hc⟩ := ht (by omega)
      exact ⟨b, o, rfl, (hb.cell (p := ⟨b, o + p, none⟩) hlt).trans (hc p hp)⟩
    have HST := Lib.hid (Of.st_new t 1000 (by omega))
    obtain ⟨k, hk⟩ : ∃ k, t.length / 2 = k := ⟨_, rfl⟩
    have hq : ((t.length : Nat) : Int).tdiv 2 = (k : Int) := by rw [Int.tdiv_eq_ediv_of_nonneg (by omega)]; omega
    have hkm : k ≤ t.length := by omega
    have HWB : Hid (∀ wr x a, OwnB w a x wr → Below w.heap.size w wr) := fun wr x a h => h.below
    have HW1 : Hid (∀ wr a, OwnB w a ⟨[], [], false, 0, 1000⟩ wr → Calls Try.prog 13 #[.pointer (some ⟨a, 0, none⟩), .slice A0 t.length c0] wr fun e w' => e = .returned (.int .i64 (t.length : Nat)) ∧ OwnB w a (Of.St t 1000 0) w') := fun wr a h => by
      have := h.write A0 c0 t (HT.out.below h.below) hc0.1 hcm (by omega)
      rw [HST.out] at this
      exact this
    have HNK := Lib.hid (fun wr a => acks_nextk (W := w) (w := wr) (a := a) k hkm ht6')
    have HN1 := Lib.hid (fun wr a j x h hA => acks_next1 (W := w) (w := wr) (a := a) (k := k) (off := off) (n := n) (j := j) (t := t) (x := x) h hA ht6')
    have HA0 := Lib.hid (Of.ack_start t k off n hkm)
    have HLO : Hid (∀ wr a x, OwnB w a x wr → Calls Try.prog 11 #[.pointer (some ⟨a, 0, none⟩), .int .u64 0, .int .i64 (t.length : Int), .bool false] wr fun e w' => e = .returned (.tuple #[]) ∧ OwnB w a (Of.turn x 0 t.length false Of.fLost) w') := fun wr a x h => h.lost 0 t.length false
    have HSE : Hid (∀ wr a x j, OwnB w a x wr → Of.Ack t k off n j x → Of.some_ x = false → Calls Try.prog 17 #[.pointer (some ⟨a, 0, none⟩)] wr fun e w' => e = .returned (.int .u64 (t.length : Int)) ∧ OwnB w a x w') := fun wr a x j h hA hs => by
      have := h.sent
      rw [hA.end_ (by omega) hs] at this
      exact this
    have HLT : Hid (∀ j x, Of.Ack t k off n j x → j ≤ t.length) := fun j x h => by have := h.left; omega
    clear ht HST hk ht6 HT
    generalize hm : t.length = m at *
    have HM := Lib.hid hm
    clear hm
    go_enter Try.func6, Try.ntmps6
    go_wp2_with fail
    refine HAL.out.mono ?_
    rintro e wA ⟨rfl, hL⟩
    have HL := Lib.hid hL
    clear hL HAL
    go_wp2_with fail
    refine (OwnB.new 1000 HL.out).mono ?_
    rintro e wB ⟨a, rfl, hB⟩
    have HB := Lib.hid hB
    clear hB HL
    go_wp2_with fail
    refine (HW1.out _ _ HB.out).mono ?_
    rintro e wC ⟨rfl, hB⟩
    have HB2 := Lib.hid hB
    clear hB HB HW1
    go_wp2_with fail
    refine (HNK.out _ _ HB2.out).mono ?_
    rintro e wD ⟨v1, v2, v3, v4, rfl, hB⟩
    have HB3 := Lib.hid hB
    clear hB HB2 HNK
    go_wp2_with fail
    refine (HB3.out.acked off n false).mono ?_
    rintro e wE ⟨rfl, hB⟩
    have HB4 := Lib.hid hB
    clear hB HB3
    go_wp2_with fail
    refine (HLO.out _ _ _ HB4.out).mono ?_
    rintro e wF ⟨rfl, hB⟩
    have HB5 := Lib.hid hB
    clear hB HB4 HLO
    go_wp2
    go_loopw [9] (fun i wr => ∃ (j : Nat) (x : Of.B), i = .int .i64 j ∧ OwnB w a x wr ∧ Of.Ack t k off n j x) (fun i _ => 700 - (intOf i).toNat)
    case atStart => exact ⟨0, _, rfl, HB5.out, HA0.out⟩
    case round =>
      obtain ⟨j, x, rfl, hB, hA⟩ := hrel
      have HB := Lib.hid hB
      have HA := Lib.hid hA
      have hj : j ≤ m := HLT.out _ _ hA
      clear hB hA HB5 HA0
      have hj7 : j < 700 := by omega
      go_wp2_with fail
      refine HB.out.some_.mono ?_
      rintro e wG ⟨rfl, hB⟩
      have HBG := Lib.hid hB
      clear hB HB
      cases hs : Of.some_ x with
      | false =>
        have HS := Lib.hid hs
        clear hs
        go_wp2_with fail
        refine (HSE.out _ _ _ _ HBG.out HA.out HS.out).mono ?_
        rintro e wH ⟨rfl, hB⟩
        have HL := Lib.hid (HWB.out _ _ _ hB)
        clear hB
        go_wp2
        go_ret
        exact ⟨by simp, HL.out⟩
      | true =>
        obtain ⟨p, hp, hP, hN⟩ := HN1.out _ _ _ _ HBG.out HA.out hs
        have HN := Lib.hid hN
        have HPP := Lib.hid hP
        clear hN hs HBG HA hP
        go_wp2_with fail
        refine HN.out.mono ?_
        rintro e wH ⟨g, o, c, y, rfl, hc1, hc2, f1, hB, hA⟩
        obtain ⟨b, o0, rfl, f2⟩ := HCT.out p wH hp (HWB.out _ _ _ hB)
        have HB := Lib.hid hB
        have HA := Lib.hid hA
        clear hB hA HN
        generalize t.getD p 0 = tp at *
        have HD := Lib.hid (HWB.out _ _ _ HB.out)
        have hsum : IntKind.i64.wrap ((off : Int) + (n : Int)) = (off : Int) + (n : Int) := by rw [IntKind.wrap_i64]; omega
        by_cases p1 : p < k
        · by_cases p2 : off ≤ p
          · have p3 : ¬ (p : Int) < (off : Int) + (n : Int) := fun h => HPP.out ⟨p1, p2, by omega⟩
            clear HD HPP
            go_wp2
            go_quiet (fail)
            go_wp2
            go_roundw
            case rel => first | exact ⟨j + 1, y, by go_num, HB.out.drewN _, HA.out⟩ | exact ⟨j + 1, y, by go_num, HB.out, HA.out⟩
            case measure => simp [intOf]; omega
          · have p2' : ¬ (off : Int) ≤ (p : Int) := by omega
            clear HD HPP
            go_wp2
            go_quiet (fail)
            go_wp2
            go_roundw
            case rel => first | exact ⟨j + 1, y, by go_num, HB.out.drewN _, HA.out⟩ | exact ⟨j + 1, y, by go_num, HB.out, HA.out⟩
            case measure => simp [intOf]; omega
        · have p1' : ¬ (p : Int) < (k : Int) := by omega
          clear HD HPP
          go_wp2
          go_quiet (fail)
          go_wp2
          go_roundw
          case rel => first | exact ⟨j + 1, y, by go_num, HB.out.drewN _, HA.out⟩ | exact ⟨j + 1, y, by go_num, HB.out, HA.out⟩
          case measure => simp [intOf]; omega
end Go.Proofs.Ytdloeakmoaoalaa
