/- LifeNever, LifeKeeps, LifeIdle, LifeRestarts, walked. -/
import Derived.Test.YtckmnjeibikeeaaRows
import Derived.Test.YtckmnjeibikeeaaPlainTk
import Derived.Test.YtckmnjeibikeeaaPlainPw
import Derived.Test.YtckmnjeibikeeaaPlainLf
import Derived.Test.YtckmnjeibikeeaaAid
import Derived.Test.YtckmnjeibikeeaaTicks2
import Derived.Test.YtckmnjeibikeeaaLife
import Derived.Test.YtckmnjeibikeeaaLife2
import Derived.Test.YtckmnjeibikeeaaLfLaws
import Derived.StillTailTactics
import Derived.Deep.RegionHeld3
import Derived.WalkKit
import Derived.WalkSpells
import Derived.WalkLawsBesides
import Derived.Deep.QuietTactic
import Derived.BigQuiet
import Derived.Handy
import Derived.Lib.Hide
namespace Go.Proofs.Ytckmnjeibikeeaa
open Go.RowKit
set_option linter.unusedVariables false

theorem add_low (a b : Int) (h : a + b ≤ 18446744073709551615) : Tk.add a b = a + b := Tk.sat_low _ h

set_option maxRecDepth 100000 in
set_option maxHeartbeats 1000000 in
theorem lifeKeeps_walk (a0 a1 a2 : Int) (w : World) (w0 : (Lit.int .u16 a0).wf = true) (w1 : (Lit.int .u16 a1).wf = true) (w2 : (Lit.int .u32 a2).wf = true) :
    Calls Try.prog 6 #[.int .u16 a0, .int .u16 a1, .int .u32 a2] w fun e w' => e = .returned (.bool true) ∧ Below w.heap.size w w' := by
  obtain ⟨b0, c0⟩ := bounds_u16 w0
  obtain ⟨b1, c1⟩ := bounds_u16 w1
  obtain ⟨b2, c2⟩ := bounds_u32 w2
  clear w0 w1 w2
  by_cases hk : a1 = 0
  · subst hk
    have R1 := Lib.hid (show Lf.keepAt (Lf.new a0 0 a2) = 18446744073709551615 from rfl)
    have R2 : Hid (∀ n, Lf.keeps (Lf.new a0 0 a2) n = false) := fun n => by unfold Lf.keeps; rw [R1.out]; rfl
    go_enter Try.func6, Try.ntmps6
    go_wp2_with fail
    refine (alive_true _).mono ?_
    rintro e w1 ⟨rfl, hb1⟩
    have HA := Lib.hid hb1
    clear hb1
    go_wp2_with fail
    refine (o_new w _ a0 0 a2 (by omega) (by omega) (by omega) (by omega) (by omega) (by omega) HA.out).mono ?_
    rintro e w2 ⟨b, rfl, h0⟩
    go_wp2_with fail
    refine (o_keepAt w _ b _ h0).mono ?_
    rintro e w3 ⟨rfl, h1⟩
    rw [R1.out]
    go_wp2_with fail
    refine (o_keep w _ b _ _ h1 (by omega) (by omega)).mono ?_
    rintro e w4 ⟨rfl, h2⟩
    rw [R2.out]
    go_wp2
    go_ret
    exact ⟨rfl, h2.below⟩
  · have hk1 : 1 ≤ a1 := by omega
    have hk0 : (a1 == 0) = false := by simp [hk]
    have kz : ¬ (a1 = 0) := hk
    have K0 : Lf.keepAt (Lf.new a0 a1 a2) = a2 + a1 := by
      unfold Lf.keepAt Lf.new; dsimp only; rw [if_neg (by simp; omega)]; exact add_low _ _ (by omega)
    have R1 : Hid (Lf.keeps (Lf.new a0 a1 a2) (a2 + a1 - 1) = false) := by
      unfold Hid Lf.keeps; rw [K0]; simp; omega
    have R2 : Hid (Lf.keeps (Lf.new a0 a1 a2) (a2 + a1) = true) := by
      unfold Hid Lf.keeps Lf.never; rw [K0]; simp; omega
    have N1 := Lib.hid (show Lf.sent (Lf.new a0 a1 a2) (a2 + a1) true = ⟨0, a0, a1, a2 + a1, true, 0, 0⟩ from rfl)
    have K1 : Lf.keepAt ⟨0, a0, a1, a2 + a1, true, 0, 0⟩ = 18446744073709551615 := by
      unfold Lf.keepAt; rw [if_pos (by simp)]; rfl
    have R3 : Hid (Lf.keeps ⟨0, a0, a1, a2 + a1, true, 0, 0⟩ (a2 + a1 + 9999) = false) := by
      unfold Hid Lf.keeps; rw [K1]; rfl
    have N2 := Lib.hid (show Lf.arrived ⟨0, a0, a1, a2 + a1, true, 0, 0⟩ (a2 + a1 + 5) = ⟨0, a0, a1, a2 + a1 + 5, false, 0, 0⟩ from rfl)
    have R4 : Hid (Lf.keepAt ⟨0, a0, a1, a2 + a1 + 5, false, 0, 0⟩ = a2 + a1 + 5 + a1) := by
      unfold Hid Lf.keepAt; dsimp only; rw [if_neg (by simp; omega)]; exact add_low _ _ (by omega)
    have R5 := Lib.hid (show Lf.closes ⟨0, a0, a1, a2 + a1 + 5, false, 0, 0⟩ = true from rfl)
    have N3 : Hid (∃ f, Lf.close ⟨0, a0, a1, a2 + a1 + 5, false, 0, 0⟩ (a2 + a1 + 6) 1 = ⟨1, a0, a1, a2 + a1 + 5, false, f, 0⟩) := ⟨_, rfl⟩
    have R6 : Hid (∀ f, Lf.keepAt ⟨1, a0, a1, a2 + a1 + 5, false, f, 0⟩ = 18446744073709551615) := fun f => by unfold Lf.keepAt; rw [if_pos (by simp)]; rfl
    clear K0 K1 hk kz
    go_enter Try.func6, Try.ntmps6
    go_wp2_with fail
    refine (alive_true _).mono ?_
    rintro e w1 ⟨rfl, hb1⟩
    have HA := Lib.hid hb1
    clear hb1
    go_wp2_with fail
    refine (o_new w _ a0 a1 a2 (by omega) (by omega) (by omega) (by omega) (by omega) (by omega) HA.out).mono ?_
    rintro e w2 ⟨b, rfl, h0⟩
    go_wp2_with fail
    refine (o_keep w _ b _ (a2 + a1 - 1) h0 (by omega) (by omega)).mono ?_
    rintro e w3 ⟨rfl, h1⟩
    rw [R1.out]
    clear h0
    go_wp2_with fail
    refine (o_keep w _ b _ (a2 + a1) h1 (by omega) (by omega)).mono ?_
    rintro e w4 ⟨rfl, h2⟩
    rw [R2.out]
    clear h1
    go_wp2_with fail
    refine (o_sent w _ b _ (a2 + a1) true h2 (by omega) (by omega)).mono ?_
    rintro e w5 ⟨rfl, h3⟩
    rw [N1.out] at h3
    clear h2
    go_wp2_with fail
    refine (o_keep w _ b _ (a2 + a1 + 9999) h3 (by omega) (by omega)).mono ?_
    rintro e w6 ⟨rfl, h4⟩
    rw [R3.out]
    clear h3
    go_wp2_with fail
    refine (o_came w _ b _ (a2 + a1 + 5) h4 (by omega) (by omega)).mono ?_
    rintro e w7 ⟨rfl, h5⟩
    rw [N2.out] at h5
    clear h4
    go_wp2_with fail
    refine (o_keepAt w _ b _ h5).mono ?_
    rintro e w8 ⟨rfl, h6⟩
    rw [R4.out]
    clear h5
    go_wp2_with fail
    refine (o_close w _ b _ (a2 + a1 + 6) 1 h6 (by omega) (by omega) (by omega) (by omega)).mono ?_
    rintro e w9 ⟨rfl, h7⟩
    obtain ⟨f, hf⟩ := N3.out
    rw [R5.out]
    rw [hf] at h7
    clear h6 hf
    go_wp2_with fail
    refine (o_keepAt w _ b _ h7).mono ?_
    rintro e w10 ⟨rfl, h8⟩
    rw [R6.out]
    go_wp2
    go_ret
    exact ⟨rfl, h8.below⟩

set_option maxHeartbeats 1000000 in
theorem lifeNever_walk (a0 : Int) (A1 : Option Addr) (n1 c1 : Nat) (l1 : List Int) (w : World) (w0 : (Lit.int .u64 a0).wf = true) (i1 : Ints .u64 w A1 n1 l1) (x1 : n1 ≤ maxLen) :
    Calls Try.prog 4 #[.int .u64 a0, .slice A1 n1 c1] w fun e w' => e = .returned (.bool true) ∧ Below w.heap.size w w' := by
  obtain ⟨b0, c0⟩ := bounds_u64 w0
  unfold maxLen at x1
  clear w0
  have RN : Hid (∀ p, Lf.next (Lf.new 0 0 a0) p = 18446744073709551615) := fun p => rfl
  have RT : Hid (∀ n p, Lf.ticks (Lf.new 0 0 a0) n p = false) := fun n p => rfl
  have NT : Hid (∀ n p, Lf.tick (Lf.new 0 0 a0) n p = Lf.new 0 0 a0) := fun n p => rfl
  have RE := Lib.hid (show Lf.ends (Lf.new 0 0 a0) = true from rfl)
  by_cases hbig : 60 < n1
  · clear i1
    go_enter Try.func4, Try.ntmps4
    go_wp2_with fail
    refine (alive_true _).mono ?_
    rintro e w1 ⟨rfl, hb1⟩
    have HA := Lib.hid hb1
    clear hb1
    go_wp2
    go_ret
    exact ⟨rfl, HA.out⟩
  · have hsm : (n1 : Int) ≤ 60 := by omega
    clear hbig
    go_enter Try.func4, Try.ntmps4
    go_wp2_with fail
    refine (alive_true _).mono ?_
    rintro e w1 ⟨rfl, hb1⟩
    have HA := Lib.hid hb1
    clear hb1
    go_wp2_with fail
    refine (o_new w _ 0 0 a0 (by omega) (by omega) (by omega) (by omega) b0 c0 HA.out).mono ?_
    rintro e w2 ⟨b, rfl, h0⟩
    go_wp2
    go_loopw [6] (fun i wr => ∃ k : Nat, k ≤ n1 ∧ i = .int .i64 k ∧ OwnL w b (Lf.new 0 0 a0) wr) (fun i _ => n1 - (intOf i).toNat)
    case atStart => exact ⟨0, by omega, rfl, h0⟩
    case round =>
      obtain ⟨k, hk, rfl, HO⟩ := hrel
      clear h0
      by_cases hlt : k < n1
      · obtain ⟨e1, e2, e3⟩ := i1
        obtain ⟨B, off, rfl, hB, hc⟩ := e3 (by omega)
        have G0 := Lib.hid (hc k hlt)
        have rt := bounds_u64 (e2 (l1.getD k 0) (by
          rw [List.getD_eq_getElem?_getD, List.getElem?_eq_getElem (by omega)]; exact List.getElem_mem _))
        clear hc e2 e3
        generalize l1.getD k 0 = t at *
        obtain ⟨rt0, rt1⟩ := rt
        have g := (HO.below.cell (p := ⟨B, off + k, none⟩) hB).trans G0.out
        go_wp2
        go_region_held3 (fun w' => OwnL w b (Lf.new 0 0 a0) w' ∧ w'.cell? ⟨B, off + k, none⟩ = some (.int .u64 t))
          (first | assumption | (exact ⟨HO.kept ⟨rfl, rfl, rfl, Nat.le_refl _, fun _ _ => rfl⟩, g⟩) | (exact ⟨hO, (hO.below.cell (p := ⟨B, off + k, none⟩) hB).trans G0.out⟩))
          (first
            | (go_at_call 13; refine (o_tick w _ b (Lf.new 0 0 a0) t t (by assumption : OwnL w b (Lf.new 0 0 a0) _ ∧ _).1 rt0 rt1 rt0 rt1).mono ?_; rintro e w' ⟨rfl, hO⟩; rw [NT.out] at hO; rw [RT.out])
            | (go_at_call 14; refine (o_next w _ b (Lf.new 0 0 a0) t (by assumption : OwnL w b (Lf.new 0 0 a0) _ ∧ _).1 rt0 rt1).mono ?_; rintro e w' ⟨rfl, hO⟩; rw [RN.out]))
        go_wp2
        go_roundw
        case rel => exact ⟨k + 1, by omega, by go_num, by assumption⟩
        case measure => simp [intOf]; omega
      · obtain rfl : k = n1 := by omega
        clear hlt
        go_wp2_with fail
        refine (o_state w _ b _ HO).mono ?_
        rintro e w3 ⟨rfl, rfl⟩
        go_wp2_with fail
        refine (o_end w _ b _ HO).mono ?_
        rintro e w4 ⟨rfl, h4⟩
        rw [RE.out]
        go_wp2_with fail
        refine (o_state w _ b _ h4).mono ?_
        rintro e w5 ⟨rfl, rfl⟩
        go_wp2
        go_ret
        exact ⟨rfl, h4.below⟩

end Go.Proofs.Ytckmnjeibikeeaa
