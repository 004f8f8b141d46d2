/- LifeRestarts, LifeAnswers, walked. -/
import Derived.Test.YtckmnjeibikeeaaRows
import Derived.Test.YtckmnjeibikeeaaPlainTk
import Derived.Test.YtckmnjeibikeeaaPlainPw
import Derived.Test.YtckmnjeibikeeaaPlainLf
import Derived.Test.YtckmnjeibikeeaaAid
import Derived.Test.YtckmnjeibikeeaaTicks2
import Derived.Test.YtckmnjeibikeeaaLife
import Derived.Test.YtckmnjeibikeeaaLife2
import Derived.Test.YtckmnjeibikeeaaLfLaws
import Derived.Test.YtckmnjeibikeeaaLfLaws2
import Derived.StillTailTactics
import Derived.Deep.RegionHeld3
import Derived.WalkKit
import Derived.WalkSpells
import Derived.WalkLawsBesides
import Derived.Deep.QuietTactic
import Derived.BigQuiet
import Derived.Handy
import Derived.Lib.Hide
namespace Go.Proofs.Ytckmnjeibikeeaa
open Go.RowKit
set_option linter.unusedVariables false

set_option maxRecDepth 100000 in
set_option maxHeartbeats 4000000 in
theorem lifeRestarts_walk (a0 : Int) (A1 : Option Addr) (n1 c1 : Nat) (l1 : List Int) (w : World) (w0 : (Lit.int .u16 a0).wf = true) (i1 : Ints .u8 w A1 n1 l1) (x1 : n1 ≤ maxLen) :
    Calls Try.prog 5 #[.int .u16 a0, .slice A1 n1 c1] w fun e w' => e = .returned (.bool true) ∧ Below w.heap.size w w' := by
  obtain ⟨b0, c0⟩ := bounds_u16 w0
  unfold maxLen at x1
  clear w0
  by_cases hz : a0 = 0
  · subst hz
    clear i1
    go_enter Try.func5, Try.ntmps5
    go_wp2_with fail
    refine (alive_true _).mono ?_
    rintro e w1 ⟨rfl, hb1⟩
    have HA := Lib.hid hb1
    clear hb1
    go_wp2
    go_ret
    exact ⟨rfl, HA.out⟩
  have hz0 : (a0 == 0) = false := by simp [hz]
  have hz1 : 1 ≤ a0 := by omega
  clear hz
  by_cases hbig : 60 < n1
  · clear i1
    go_enter Try.func5, Try.ntmps5
    go_wp2_with fail
    refine (alive_true _).mono ?_
    rintro e w1 ⟨rfl, hb1⟩
    have HA := Lib.hid hb1
    clear hb1
    go_wp2
    go_ret
    exact ⟨rfl, HA.out⟩
  · have hsm : (n1 : Int) ≤ 60 := by omega
    have RN : Hid (∀ (at_ : Int) (q : Bool), 0 ≤ at_ → at_ ≤ 100000 → Lf.next ⟨0, a0, 0, at_, q, 0, 0⟩ 0 = at_ + a0) := by
      intro at_ q h0 h1
      unfold Lf.next
      dsimp only
      rw [if_pos rfl, if_pos (by omega), show Lf.three 0 = 0 from rfl, show max a0 0 = a0 by omega]
      exact add_low _ _ (by omega)
    clear hbig
    go_enter Try.func5, Try.ntmps5
    go_wp2_with fail
    refine (alive_true _).mono ?_
    rintro e w1 ⟨rfl, hb1⟩
    have HA := Lib.hid hb1
    clear hb1
    go_wp2_with fail
    refine (o_new w _ a0 0 0 (by omega) (by omega) (by omega) (by omega) (by omega) (by omega) HA.out).mono ?_
    rintro e w2 ⟨b, rfl, h0⟩
    go_wp2
    go_loopw [6, 7, 8, 9] (fun p q r i wr => ∃ (k : Nat) (now at_ : Int) (asked : Bool), k ≤ n1 ∧ i = .int .i64 k ∧ p = .int .u64 now ∧ q = .int .u64 at_ ∧ r = .bool asked ∧ OwnL w b ⟨0, a0, 0, at_, asked, 0, 0⟩ wr ∧ 0 ≤ at_ ∧ at_ ≤ now ∧ 0 ≤ now ∧ now ≤ 64 * k) (fun _ _ _ i _ => n1 - (intOf i).toNat)
    case atStart => exact ⟨0, _, _, _, by omega, rfl, rfl, rfl, rfl, h0, by omega, by omega, by omega, by omega⟩
    case round =>
      obtain ⟨k, now, at_, asked, hk, rfl, rfl, rfl, rfl, HO, q0, q1, q2, q3⟩ := hrel
      clear h0
      by_cases hlt : k < n1
      · obtain ⟨e1, e2, e3⟩ := i1
        obtain ⟨B, off, rfl, hB, hc⟩ := e3 (by omega)
        have G0 := Lib.hid (hc k hlt)
        have rt := bounds_u8 (e2 (l1.getD k 0) (by
          rw [List.getD_eq_getElem?_getD, List.getElem?_eq_getElem (by omega)]; exact List.getElem_mem _))
        clear hc e2 e3
        generalize l1.getD k 0 = t at *
        obtain ⟨rt0, rt1⟩ := rt
        have g := (HO.below.cell (p := ⟨B, off + k, none⟩) hB).trans G0.out
        have hm4 : t % 4 = 0 ∨ t % 4 = 1 ∨ t % 4 = 2 ∨ t % 4 = 3 := by omega
        have d0 : 0 ≤ t / 4 := by omega
        have d1 : t / 4 ≤ 63 := by omega
        obtain ⟨d, hd⟩ : ∃ d, t / 4 = d := ⟨_, rfl⟩
        rw [hd] at d0 d1
        rcases hm4 with hm | hm | hm | hm
        · have HN : Hid (Lf.arrived ⟨0, a0, 0, at_, asked, 0, 0⟩ (now + d) = ⟨0, a0, 0, now + d, false, 0, 0⟩) := rfl
          go_wp2_with fail
          refine (o_came w _ b _ (now + d) HO (by omega) (by omega)).mono ?_
          rintro e w4 ⟨rfl, h4⟩
          rw [HN.out] at h4
          go_wp2_with fail
          refine (o_next w _ b _ 0 h4 (by omega) (by omega)).mono ?_
          rintro e w5 ⟨rfl, h5⟩
          rw [RN.out _ _ (by omega) (by omega)]
          clear h4
          go_wp2
          go_roundw
          case rel => exact ⟨k + 1, _, _, _, by omega, by go_num, rfl, rfl, rfl, h5, by omega, by omega, by omega, by omega⟩
          case measure => simp [intOf]; omega
        · have HN : Hid (Lf.sent ⟨0, a0, 0, at_, asked, 0, 0⟩ (now + d) false = ⟨0, a0, 0, at_, asked, 0, 0⟩) := by unfold Hid Lf.sent; rw [if_neg (by simp)]
          go_wp2_with fail
          refine (o_sent w _ b _ (now + d) false HO (by omega) (by omega)).mono ?_
          rintro e w4 ⟨rfl, h4⟩
          rw [HN.out] at h4
          go_wp2_with fail
          refine (o_next w _ b _ 0 h4 (by omega) (by omega)).mono ?_
          rintro e w5 ⟨rfl, h5⟩
          rw [RN.out _ _ (by omega) (by omega)]
          clear h4
          go_wp2
          go_roundw
          case rel => exact ⟨k + 1, _, _, _, by omega, by go_num, rfl, rfl, rfl, h5, by omega, by omega, by omega, by omega⟩
          case measure => simp [intOf]; omega
        · cases asked
          · have HN : Hid (Lf.sent ⟨0, a0, 0, at_, false, 0, 0⟩ (now + d) true = ⟨0, a0, 0, now + d, true, 0, 0⟩) := rfl
            go_wp2_with fail
            refine (o_sent w _ b _ (now + d) true HO (by omega) (by omega)).mono ?_
            rintro e w4 ⟨rfl, h4⟩
            rw [HN.out] at h4
            go_wp2_with fail
            refine (o_next w _ b _ 0 h4 (by omega) (by omega)).mono ?_
            rintro e w5 ⟨rfl, h5⟩
            rw [RN.out _ _ (by omega) (by omega)]
            clear h4
            go_wp2
            go_roundw
            case rel => exact ⟨k + 1, _, _, _, by omega, by go_num, rfl, rfl, rfl, h5, by omega, by omega, by omega, by omega⟩
            case measure => simp [intOf]; omega
          · have HN : Hid (Lf.sent ⟨0, a0, 0, at_, true, 0, 0⟩ (now + d) true = ⟨0, a0, 0, at_, true, 0, 0⟩) := by unfold Hid Lf.sent; rw [if_neg (by simp)]
            go_wp2_with fail
            refine (o_sent w _ b _ (now + d) true HO (by omega) (by omega)).mono ?_
            rintro e w4 ⟨rfl, h4⟩
            rw [HN.out] at h4
            go_wp2_with fail
            refine (o_next w _ b _ 0 h4 (by omega) (by omega)).mono ?_
            rintro e w5 ⟨rfl, h5⟩
            rw [RN.out _ _ (by omega) (by omega)]
            clear h4
            go_wp2
            go_roundw
            case rel => exact ⟨k + 1, _, _, _, by omega, by go_num, rfl, rfl, rfl, h5, by omega, by omega, by omega, by omega⟩
            case measure => simp [intOf]; omega
        · cases asked
          · have HN : Hid (Lf.sent ⟨0, a0, 0, at_, false, 0, 0⟩ (now + d) true = ⟨0, a0, 0, now + d, true, 0, 0⟩) := rfl
            go_wp2_with fail
            refine (o_sent w _ b _ (now + d) true HO (by omega) (by omega)).mono ?_
            rintro e w4 ⟨rfl, h4⟩
            rw [HN.out] at h4
            go_wp2_with fail
            refine (o_next w _ b _ 0 h4 (by omega) (by omega)).mono ?_
            rintro e w5 ⟨rfl, h5⟩
            rw [RN.out _ _ (by omega) (by omega)]
            clear h4
            go_wp2
            go_roundw
            case rel => exact ⟨k + 1, _, _, _, by omega, by go_num, rfl, rfl, rfl, h5, by omega, by omega, by omega, by omega⟩
            case measure => simp [intOf]; omega
          · have HN : Hid (Lf.sent ⟨0, a0, 0, at_, true, 0, 0⟩ (now + d) true = ⟨0, a0, 0, at_, true, 0, 0⟩) := by unfold Hid Lf.sent; rw [if_neg (by simp)]
            go_wp2_with fail
            refine (o_sent w _ b _ (now + d) true HO (by omega) (by omega)).mono ?_
            rintro e w4 ⟨rfl, h4⟩
            rw [HN.out] at h4
            go_wp2_with fail
            refine (o_next w _ b _ 0 h4 (by omega) (by omega)).mono ?_
            rintro e w5 ⟨rfl, h5⟩
            rw [RN.out _ _ (by omega) (by omega)]
            clear h4
            go_wp2
            go_roundw
            case rel => exact ⟨k + 1, _, _, _, by omega, by go_num, rfl, rfl, rfl, h5, by omega, by omega, by omega, by omega⟩
            case measure => simp [intOf]; omega
      · obtain rfl : k = n1 := by omega
        clear hlt
        go_wp2_with fail
        refine (o_state w _ b _ HO).mono ?_
        rintro e w3 ⟨rfl, rfl⟩
        go_wp2
        go_ret
        exact ⟨rfl, HO.below⟩

/-- How many numbers from 1 to m are powers of two. -/
def cnt : Nat → Nat
  | 0 => 0
  | m + 1 => cnt m + if Pw.pw (m + 1) = true then 1 else 0
theorem cnt_eq : ∀ n m : Nat, n < 2 ^ m → (m = 0 ∨ 2 ^ (m - 1) ≤ n) → cnt n = m
  | 0, m, h, h2 => by
    rcases h2 with rfl | h2
    · rfl
    · have := Nat.two_pow_pos (m - 1); omega
  | n + 1, m, h, h2 => by
    have hm : m ≠ 0 := by rintro rfl; simp at h
    obtain ⟨j, rfl⟩ : ∃ j, m = j + 1 := ⟨m - 1, by omega⟩
    have h3 : 2 ^ j ≤ n + 1 := by rcases h2 with h2 | h2 <;> simp_all
    rw [Nat.pow_succ] at h
    by_cases he : n + 1 = 2 ^ j
    · have hp : Pw.pw (n + 1) = true := by rw [he]; exact Pw.pw_two j
      have ih := cnt_eq n j (by omega) (by
        by_cases hj : j = 0
        · exact .inl hj
        · obtain ⟨i, rfl⟩ : ∃ i, j = i + 1 := ⟨j - 1, by omega⟩
          have := Nat.two_pow_pos i
          rw [Nat.pow_succ] at he
          exact .inr (by simp; omega))
      rw [cnt, ih, if_pos hp]
    · have hp : ¬ Pw.pw (n + 1) = true := by
        rw [Pw.pw_iff]
        rintro ⟨k, hk⟩
        rcases Nat.lt_or_ge k (j + 1) with hkj | hkj
        · have := Nat.pow_le_pow_right (n := 2) (by decide) (show k ≤ j by omega); omega
        · have := Nat.pow_le_pow_right (n := 2) (by decide) hkj; rw [Nat.pow_succ] at this; omega
      have ih := cnt_eq n (j + 1) (by rw [Nat.pow_succ]; omega) (.inr (by simp; omega))
      rw [cnt, ih, if_neg hp]
theorem cnt_le : ∀ n, cnt n ≤ n
  | 0 => Nat.le_refl _
  | n + 1 => by have := cnt_le n; rw [cnt]; split <;> omega

set_option maxRecDepth 100000 in
set_option maxHeartbeats 4000000 in
theorem lifeAnswers_walk (a0 a1 : Int) (w : World) (w0 : (Lit.int .u16 a0).wf = true) (w1 : (Lit.int .u8 a1).wf = true) :
    Calls Try.prog 7 #[.int .u16 a0, .int .u8 a1] w fun e w' => e = .returned (.bool true) ∧ Below w.heap.size w w' := by
  obtain ⟨b0, c0⟩ := bounds_u16 w0
  obtain ⟨b1, c1⟩ := bounds_u8 w1
  clear w0 w1
  obtain ⟨n, rfl⟩ := Int.eq_ofNat_of_zero_le b0
  obtain ⟨m, rfl⟩ := Int.eq_ofNat_of_zero_le b1
  have R1 := Lib.hid (show Lf.closes (Lf.new 5 0 0) = true from rfl)
  have N1 := Lib.hid (show Lf.close (Lf.new 5 0 0) 0 5 = ⟨1, 5, 0, 0, false, 15, 0⟩ by kernel_rfl)
  go_enter Try.func7, Try.ntmps7
  go_wp2_with fail
  refine (alive_true _).mono ?_
  rintro e w1 ⟨rfl, hb1⟩
  have HA := Lib.hid hb1
  clear hb1
  go_wp2_with fail
  refine (o_new w _ 5 0 0 (by omega) (by omega) (by omega) (by omega) (by omega) (by omega) HA.out).mono ?_
  rintro e w2 ⟨b, rfl, h0⟩
  go_wp2_with fail
  refine (o_close w _ b _ 0 5 h0 (by omega) (by omega) (by omega) (by omega)).mono ?_
  rintro e w3 ⟨rfl, h1⟩
  rw [R1.out]
  rw [N1.out] at h1
  clear h0
  go_wp2
  go_loopw [6, 8] (fun p i wr => ∃ j : Nat, j ≤ n ∧ i = .int .i64 (j + 1 : Nat) ∧ p = .int .i64 (cnt j : Nat) ∧ OwnL w b ⟨1, 5, 0, 0, false, 15, j⟩ wr) (fun _ i _ => n + 1 - (intOf i).toNat)
  case atStart => exact ⟨0, by omega, rfl, rfl, h1⟩
  case round =>
    obtain ⟨j, hj, rfl, rfl, HO⟩ := hrel
    clear h1
    have hc := cnt_le j
    obtain ⟨c, hcj⟩ : ∃ c, cnt j = c := ⟨_, rfl⟩
    rw [hcj] at hc
    rw [hcj]
    have HC := Lib.hid hcj
    clear hcj
    by_cases hlt : j < n
    · have HN := Lib.hid (show Lf.count ⟨1, 5, 0, 0, false, 15, (j : Int)⟩ = ⟨1, 5, 0, 0, false, 15, (j : Int) + 1⟩ from rfl)
      have hcast : ((j + 1 : Nat) : Int) = (j : Int) + 1 := by omega
      have HCA := Lib.hid hcast
      clear hcast
      rw [HCA.out]
      cases hp : Pw.pw (j + 1)
      · have HR : Hid (Lf.answers ⟨1, 5, 0, 0, false, 15, (j : Int)⟩ = false) := by
          unfold Hid Lf.answers; dsimp only; rw [show ((j : Int) + 1).toNat = j + 1 by omega, hp]; rfl
        have HP := Lib.hid hp
        clear hp
        go_wp2_with fail
        refine (o_arrive w _ b _ HO (by dsimp only; omega)).mono ?_
        rintro e w4 ⟨rfl, h4⟩
        rw [HR.out]
        rw [HN.out] at h4
        go_wp2
        go_roundw
        case rel => exact ⟨j + 1, by omega, by go_num, by rw [cnt, HC.out, HP.out]; rfl, by rw [HCA.out]; exact h4⟩
        case measure => simp [intOf]; omega
      · have HR : Hid (Lf.answers ⟨1, 5, 0, 0, false, 15, (j : Int)⟩ = true) := by
          unfold Hid Lf.answers; dsimp only; rw [show ((j : Int) + 1).toNat = j + 1 by omega, hp]; rfl
        have HP := Lib.hid hp
        clear hp
        go_wp2_with fail
        refine (o_arrive w _ b _ HO (by dsimp only; omega)).mono ?_
        rintro e w4 ⟨rfl, h4⟩
        rw [HR.out]
        rw [HN.out] at h4
        go_wp2
        go_roundw
        case rel => exact ⟨j + 1, by omega, by go_num, by rw [cnt, HC.out, HP.out]; rfl, by rw [HCA.out]; exact h4⟩
        case measure => simp [intOf]; omega
    · obtain rfl : j = n := by omega
      have hcast : ((j + 1 : Nat) : Int) = (j : Int) + 1 := by omega
      rw [hcast]
      clear hcast hlt
      go_wp2
      go_loopw [7, 9] (fun p i wr => ∃ q x : Nat, i = .int .i64 (x : Nat) ∧ p = .int .i64 (q : Nat) ∧ 1 ≤ x ∧ x ≤ 131072 ∧ q ≤ 17 ∧ Hid (x = 2 ^ q ∧ (q = 0 ∨ 2 ^ (q - 1) ≤ j)) ∧ OwnL w b ⟨1, 5, 0, 0, false, 15, j⟩ wr) (fun _ i _ => 131073 - (intOf i).toNat)
      case atStart => exact ⟨0, 1, rfl, rfl, by omega, by omega, by omega, ⟨rfl, .inl rfl⟩, HO⟩
      case round =>
        obtain ⟨q, x, rfl, rfl, hx1, hx2, hq, HQ, HO2⟩ := hrel
        by_cases hle : x ≤ j
        · have hq16 : q ≤ 16 := by
            rcases Nat.lt_or_ge 16 q with h | h
            · have h1 := HQ.out.1
              have h2 := Nat.pow_le_pow_right (n := 2) (by decide) h
              have : (2 : Nat) ^ (16 + 1) = 131072 := by decide
              omega
            · exact h
          go_wp2
          go_roundw
          case rel => exact ⟨q + 1, 2 * x, by go_num, by go_num, by omega, by omega, by omega, ⟨by rw [Nat.pow_succ, HQ.out.1]; omega, .inr (by simp; rw [← HQ.out.1]; exact hle)⟩, HO2⟩
          case measure => simp [intOf]; omega
        · have he := cnt_eq j q (by rw [← HQ.out.1]; omega) HQ.out.2
          obtain rfl : c = q := by rw [← HC.out]; exact he
          have R3 := Lib.hid (show Lf.drains ⟨1, 5, 0, 0, false, 15, (j : Int)⟩ = true from rfl)
          have N3 := Lib.hid (show Lf.drain ⟨1, 5, 0, 0, false, 15, (j : Int)⟩ 1 5 = ⟨2, 5, 0, 0, false, 15, (j : Int)⟩ from rfl)
          have R4 := Lib.hid (show Lf.answers ⟨2, 5, 0, 0, false, 15, (j : Int)⟩ = false from rfl)
          have N4 := Lib.hid (show Lf.count ⟨2, 5, 0, 0, false, 15, (j : Int)⟩ = ⟨2, 5, 0, 0, false, 15, (j : Int)⟩ from rfl)
          clear he
          go_wp2_with fail
          refine (o_drain w _ b _ 1 5 HO2 (by omega) (by omega) (by omega) (by omega)).mono ?_
          rintro e w6 ⟨rfl, h6⟩
          rw [R3.out]
          rw [N3.out] at h6
          go_wp2
          go_loopw [10] (fun i wr => ∃ k : Nat, k ≤ m ∧ i = .int .i64 k ∧ OwnL w b ⟨2, 5, 0, 0, false, 15, (j : Int)⟩ wr) (fun i _ => m - (intOf i).toNat)
          case atStart => exact ⟨0, by omega, rfl, h6⟩
          case round =>
            obtain ⟨k, hk, rfl, HO3⟩ := hrel
            clear h6
            by_cases hlt : k < m
            · go_wp2_with fail
              refine (o_arrive w _ b _ HO3 (by dsimp only; omega)).mono ?_
              rintro e w7 ⟨rfl, h7⟩
              rw [R4.out]
              rw [N4.out] at h7
              go_wp2
              go_roundw
              case rel => exact ⟨k + 1, by omega, by go_num, h7⟩
              case measure => simp [intOf]; omega
            · obtain rfl : k = m := by omega
              go_wp2
              go_ret
              exact ⟨rfl, HO3.below⟩

end Go.Proofs.Ytckmnjeibikeeaa
