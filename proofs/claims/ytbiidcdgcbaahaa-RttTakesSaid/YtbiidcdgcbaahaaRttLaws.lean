/- The laws of layer 14, walked: each callee by its contract. -/
import Derived.Test.YtbiidcdgcbaahaaRows
import Derived.Test.YtbiidcdgcbaahaaPlainTk
import Derived.Test.YtbiidcdgcbaahaaPlainRt
import Derived.Test.YtbiidcdgcbaahaaAid
import Derived.Test.YtbiidcdgcbaahaaTicks
import Derived.Test.YtbiidcdgcbaahaaRtt
import Derived.WalkKit
import Derived.WalkSpells
import Derived.WalkLawsBesides
import Derived.Deep.QuietTactic
import Derived.BigQuiet
import Derived.Handy
import Derived.Lib.Hide
namespace Go.Proofs.Ytbiidcdgcbaahaa
open Go.RowKit
set_option linter.unusedVariables false

/-- An estimator of the call's own, and that nothing that was there has turned. -/
def Own (W : World) (b : Nat) (e : Rt.Est) (w : World) : Prop := EstAt w b e ∧ Rt.ok e ∧ W.heap.size ≤ b ∧ Below W.heap.size W w

theorem own_new (W w : World) (g : Int) (h0 : 0 ≤ g) (h1 : g ≤ 18446744073709551615) (hb : Below W.heap.size W w) :
    Calls Try.prog 17 #[.int .u64 g] w fun e w' => ∃ b, e = .returned (.pointer (some ⟨b, 0, none⟩)) ∧ Own W b (Rt.new g) w' ∧ w.heap.size ≤ b :=
  (new_any g w h0 h1).mono fun _ _ ⟨he, h2, h3⟩ => ⟨_, he, ⟨h2, Rt.new_ok g h0, hb.size, hb.trans (h3.mono hb.size)⟩, Nat.le_refl _⟩

theorem own_take (W w : World) (b : Nat) (e : Rt.Est) (t d : Int) (h : Own W b e w) (ht : 0 ≤ t) (hd : 0 ≤ d) :
    Calls Try.prog 10 #[.pointer (some ⟨b, 0, none⟩), .int .u64 t, .int .u64 d] w fun r w' => r = .returned (.tuple #[]) ∧ Own W b (Rt.take e t d) w' :=
  (take_any b e t d w h.1 h.2.1 ht hd).mono fun _ _ ⟨he, h2, h3⟩ => ⟨he, h2, Rt.take_ok e t d h.2.1 ht hd, h.2.2.1, Upd.below h.2.2.2 h.2.2.1 h3⟩

theorem Own.kept {W w w' : World} {b : Nat} {e : Rt.Est} (h : Own W b e w) (hb : Below w.heap.size w w') : Own W b e w' := ⟨h.1.kept hb, h.2.1, h.2.2.1, h.2.2.2.trans (hb.mono h.2.2.2.size)⟩
theorem Own.upd {W w w' : World} {b b' : Nat} {e : Rt.Est} (h : Own W b e w) (hb : W.heap.size ≤ b') (hu : Upd b' w w') (hne : b ≠ b') : Own W b e w' := ⟨h.1.upd hu hne, h.2.1, h.2.2.1, Upd.below h.2.2.2 hb hu⟩
theorem own_take2 (W w : World) (b b' : Nat) (e e' : Rt.Est) (t d : Int) (h : Own W b e w) (h' : Own W b' e' w) (hne : b' ≠ b) (ht : 0 ≤ t) (hd : 0 ≤ d) :
    Calls Try.prog 10 #[.pointer (some ⟨b, 0, none⟩), .int .u64 t, .int .u64 d] w fun r w' => r = .returned (.tuple #[]) ∧ Own W b (Rt.take e t d) w' ∧ Own W b' e' w' :=
  (take_any b e t d w h.1 h.2.1 ht hd).mono fun _ _ ⟨he, h2, h3⟩ => ⟨he, ⟨h2, Rt.take_ok e t d h.2.1 ht hd, h.2.2.1, Upd.below h.2.2.2 h.2.2.1 h3⟩, h'.upd h.2.2.1 h3 hne⟩
theorem own_new2 (W w : World) (b : Nat) (e : Rt.Est) (g : Int) (h0 : 0 ≤ g) (h1 : g ≤ 18446744073709551615) (h : Own W b e w) :
    Calls Try.prog 17 #[.int .u64 g] w fun r w' => ∃ b', r = .returned (.pointer (some ⟨b', 0, none⟩)) ∧ Own W b' (Rt.new g) w' ∧ Own W b e w' ∧ b ≠ b' :=
  (new_any g w h0 h1).mono fun _ _ ⟨he, h2, h3⟩ => ⟨_, he, ⟨h2, Rt.new_ok g h0, h.2.2.2.size, h.2.2.2.trans (h3.mono h.2.2.2.size)⟩, h.kept h3, by have := h.1.lt; omega⟩

theorem own_smooth (W w : World) (b : Nat) (e : Rt.Est) (h : Own W b e w) :
    Calls Try.prog 11 #[.pointer (some ⟨b, 0, none⟩)] w fun r w' => r = .returned (.int .u64 e.smooth) ∧ w = w' := smooth_any b e w h.1
theorem own_var (W w : World) (b : Nat) (e : Rt.Est) (h : Own W b e w) :
    Calls Try.prog 12 #[.pointer (some ⟨b, 0, none⟩)] w fun r w' => r = .returned (.int .u64 e.dev) ∧ w = w' := dev_any b e w h.1
theorem own_least (W w : World) (b : Nat) (e : Rt.Est) (h : Own W b e w) :
    Calls Try.prog 13 #[.pointer (some ⟨b, 0, none⟩)] w fun r w' => r = .returned (.int .u64 e.least) ∧ w = w' := least_any b e w h.1
theorem own_latest (W w : World) (b : Nat) (e : Rt.Est) (h : Own W b e w) :
    Calls Try.prog 14 #[.pointer (some ⟨b, 0, none⟩)] w fun r w' => r = .returned (.int .u64 e.latest) ∧ w = w' := latest_any b e w h.1
theorem Own.drewN {W w : World} {b : Nat} {e : Rt.Est} (h : Own W b e w) (q : Nat) : Own W b e (w.drewN q) := ⟨h.1.drewN q, h.2.1, h.2.2.1, below_drewN h.2.2.2 q⟩
theorem own_probe (W w : World) (b : Nat) (e : Rt.Est) (t c : Int) (h : Own W b e w) (ht : 0 ≤ t) (hc0 : -9223372036854775808 ≤ c) (hc1 : c ≤ 9223372036854775807) :
    Calls Try.prog 15 #[.pointer (some ⟨b, 0, none⟩), .int .u64 t, .int .i64 c] w fun r w' => r = .returned (.int .u64 (Rt.probe e t c)) ∧ Own W b e w' :=
  (probe_any b e t c w h.1 h.2.1 ht hc0 hc1).mono fun _ _ ⟨he, q, hq⟩ => ⟨he, by rw [hq]; exact h.drewN q⟩
theorem own_loss (W w : World) (b : Nat) (e : Rt.Est) (h : Own W b e w) :
    Calls Try.prog 16 #[.pointer (some ⟨b, 0, none⟩)] w fun r w' => r = .returned (.int .u64 (Rt.loss e)) ∧ Own W b e w' :=
  (loss_any b e w h.1 h.2.1).mono fun _ _ ⟨he, q, hq⟩ => ⟨he, by rw [hq]; exact h.drewN q⟩

set_option maxHeartbeats 1000000 in
theorem alive_true (w : World) : Calls Try.prog 9 #[] w fun e w' => e = .returned (.bool true) ∧ Below w.heap.size w w' := by
  have P1 := Lib.hid (show Rt.probe (Rt.new 100) 0 0 = 300 by decide +kernel)
  have E1 := Lib.hid (show Rt.take (Rt.new 100) 40 9 = ⟨40, 20, 40, 40, true⟩ by kernel_rfl)
  have E2 := Lib.hid (show Rt.take ⟨40, 20, 40, 40, true⟩ 56 0 = ⟨42, 19, 40, 56, true⟩ by kernel_rfl)
  have L1 := Lib.hid (show Rt.loss ⟨42, 19, 40, 56, true⟩ = 63 by decide +kernel)
  have P2 := Lib.hid (show Rt.probe ⟨42, 19, 40, 56, true⟩ 1 1 = 238 by decide +kernel)
  go_enter Try.func9, Try.ntmps9
  go_wp2_with fail
  refine (own_new w w 100 (by omega) (by omega) (Below.refl _ _)).mono ?_
  rintro e w1 ⟨b, rfl, h1, hwb⟩
  clear hwb
  go_wp2_with fail
  refine (own_probe w _ b _ _ _ h1 (by omega) (by omega) (by omega)).mono ?_
  rintro e w2 ⟨rfl, h2⟩
  rw [P1.out]
  clear h1
  go_wp2_with fail
  refine (own_take w _ b _ _ _ h2 (by omega) (by omega)).mono ?_
  rintro e w3 ⟨rfl, h3⟩
  rw [E1.out] at h3
  clear h2
  go_wp2_with fail
  refine (own_smooth w _ b _ h3).mono ?_
  rintro e w4 ⟨rfl, rfl⟩
  go_wp2_with fail
  refine (own_var w _ b _ h3).mono ?_
  rintro e w4 ⟨rfl, rfl⟩
  go_wp2_with fail
  refine (own_take w _ b _ _ _ h3 (by omega) (by omega)).mono ?_
  rintro e w5 ⟨rfl, h5⟩
  rw [E2.out] at h5
  clear h3
  go_wp2_with fail
  refine (own_smooth w _ b _ h5).mono ?_
  rintro e w6 ⟨rfl, rfl⟩
  go_wp2_with fail
  refine (own_var w _ b _ h5).mono ?_
  rintro e w6 ⟨rfl, rfl⟩
  go_wp2_with fail
  refine (own_least w _ b _ h5).mono ?_
  rintro e w6 ⟨rfl, rfl⟩
  go_wp2_with fail
  refine (own_latest w _ b _ h5).mono ?_
  rintro e w6 ⟨rfl, rfl⟩
  go_wp2_with fail
  refine (own_loss w _ b _ h5).mono ?_
  rintro e w7 ⟨rfl, h7⟩
  rw [L1.out]
  clear h5
  go_wp2_with fail
  refine (own_probe w _ b _ _ _ h7 (by omega) (by omega) (by omega)).mono ?_
  rintro e w8 ⟨rfl, h8⟩
  rw [P2.out]
  go_wp2
  go_ret
  exact ⟨rfl, h8.2.2.2⟩

set_option maxHeartbeats 1000000 in
theorem rttFirst_walk (a0 a1 a2 : Int) (w : World) (w0 : (Lit.int .u64 a0).wf = true) (w1 : (Lit.int .u64 a1).wf = true) (w2 : (Lit.int .u64 a2).wf = true) :
    Calls Try.prog 8 #[.int .u64 a0, .int .u64 a1, .int .u64 a2] w fun e w' => e = .returned (.bool true) ∧ Below w.heap.size w w' := by
  obtain ⟨b0, c0⟩ := bounds_u64 w0
  obtain ⟨b1, c1⟩ := bounds_u64 w1
  obtain ⟨b2, c2⟩ := bounds_u64 w2
  clear w0 w1 w2
  have EA := Lib.hid (Rt.take_none (Rt.new a0) a1 a2 rfl)
  have EB := Lib.hid (Rt.take_none (Rt.new 7) a1 0 rfl)
  go_enter Try.func8, Try.ntmps8
  go_wp2_with fail
  refine (alive_true _).mono ?_
  rintro e w1 ⟨rfl, hb1⟩
  have HA := Lib.hid hb1
  clear hb1
  go_wp2_with fail
  refine (own_new w _ a0 b0 c0 HA.out).mono ?_
  rintro e w2 ⟨b, rfl, h2, hwb⟩
  clear hwb
  go_wp2_with fail
  refine (own_new2 w _ b _ 7 (by omega) (by omega) h2).mono ?_
  rintro e w3 ⟨b', rfl, h3, h3', hne⟩
  clear h2
  have HN := Lib.hid hne
  clear hne
  go_wp2_with fail
  refine (own_take2 w _ b b' _ _ a1 a2 h3' h3 (fun e => HN.out e.symm) b1 b2).mono ?_
  rintro e w4 ⟨rfl, h4, h4'⟩
  clear h3 h3'
  rw [EA.out] at h4
  go_wp2_with fail
  refine (own_take2 w _ b' b _ _ a1 0 h4' h4 HN.out b1 (by omega)).mono ?_
  rintro e w5 ⟨rfl, h5', h5⟩
  rw [EB.out] at h5'
  clear h4 h4'
  obtain ⟨T, hT⟩ : ∃ T, Rt.hold a1 = T := ⟨_, rfl⟩
  rw [hT] at h5 h5'
  clear hT
  go_wp2_with fail
  refine (own_smooth w _ _ _ h5).mono ?_
  rintro e w6 ⟨rfl, rfl⟩
  go_wp2_with fail
  refine (own_smooth w _ _ _ h5').mono ?_
  rintro e w6 ⟨rfl, rfl⟩
  go_wp2_with fail
  refine (own_var w _ _ _ h5).mono ?_
  rintro e w6 ⟨rfl, rfl⟩
  go_wp2_with fail
  refine (own_var w _ _ _ h5').mono ?_
  rintro e w6 ⟨rfl, rfl⟩
  go_wp2_with fail
  refine (own_least w _ _ _ h5).mono ?_
  rintro e w6 ⟨rfl, rfl⟩
  go_wp2_with fail
  refine (own_smooth w _ _ _ h5).mono ?_
  rintro e w6 ⟨rfl, rfl⟩
  go_wp2_with fail
  refine (own_latest w _ _ _ h5).mono ?_
  rintro e w6 ⟨rfl, rfl⟩
  go_wp2_with fail
  refine (own_smooth w _ _ _ h5).mono ?_
  rintro e w6 ⟨rfl, rfl⟩
  go_wp2_with fail
  refine (own_var w _ _ _ h5).mono ?_
  rintro e w6 ⟨rfl, rfl⟩
  go_wp2_with fail
  refine (own_smooth w _ _ _ h5).mono ?_
  rintro e w6 ⟨rfl, rfl⟩
  have hu : IntKind.u64.wrap (T / 2) = T / 2 := by
    have := h5.2.1; unfold Rt.ok at this; dsimp only at this; rw [IntKind.wrap_u64]; omega
  obtain ⟨bT0, bT1⟩ : 0 ≤ T ∧ T ≤ 1099511627776 := by have := h5.2.1; unfold Rt.ok at this; dsimp only at this; omega
  clear hu
  go_wp2
  go_ret
  exact ⟨by simp, h5.2.2.2⟩

set_option maxHeartbeats 1000000 in
theorem rttDelay_walk (a0 a1 a2 : Int) (w : World) (w0 : (Lit.int .u32 a0).wf = true) (w1 : (Lit.int .u32 a1).wf = true) (w2 : (Lit.int .u8 a2).wf = true) :
    Calls Try.prog 7 #[.int .u32 a0, .int .u32 a1, .int .u8 a2] w fun e w' => e = .returned (.bool true) ∧ Below w.heap.size w w' := by
  obtain ⟨b0, c0⟩ := bounds_u32 w0
  obtain ⟨b1, c1⟩ := bounds_u32 w1
  obtain ⟨b2, c2⟩ := bounds_u8 w2
  clear w0 w1 w2
  have EA := Lib.hid (Rt.same_first (Rt.new 50) a0 (by omega) rfl)
  obtain ⟨m, rfl⟩ := Int.eq_ofNat_of_zero_le b2
  go_enter Try.func7, Try.ntmps7
  go_wp2_with fail
  refine (alive_true _).mono ?_
  rintro e w1 ⟨rfl, hb1⟩
  have HA := Lib.hid hb1
  clear hb1
  go_wp2_with fail
  refine (own_new w _ 50 (by omega) (by omega) HA.out).mono ?_
  rintro e w2 ⟨b, rfl, h2, hwb⟩
  clear hwb
  go_wp2_with fail
  refine (own_take w _ b _ _ _ h2 (by omega) (by omega)).mono ?_
  rintro e w3 ⟨rfl, h3⟩
  clear h2
  rw [EA.out] at h3
  go_wp2
  go_loopw [8] (fun i wr => ∃ (k : Nat) (E : Rt.Est), k ≤ m ∧ i = .int .i64 k ∧ Own w b E wr ∧ Hid (E.smooth = a0 ∧ E.least = a0 ∧ E.some = true)) (fun i _ => m - (intOf i).toNat)
  case atStart => exact ⟨0, _, by omega, rfl, h3, rfl, rfl, rfl⟩
  case round =>
    obtain ⟨k, E, hk, rfl, HO, HE⟩ := hrel
    clear h3
    by_cases hlt : k < m
    · have HD := Lib.hid (Rt.delay_next E a0 a1 HE.out.2.2 HE.out.1 HE.out.2.1 b0 b1 (by omega))
      go_wp2_with fail
      refine (own_take w _ b E (a0 + a1) a1 HO (by omega) b1).mono ?_
      rintro e w4 ⟨rfl, h4⟩
      go_wp2
      go_roundw
      case rel => exact ⟨k + 1, _, by omega, by go_num, h4, HD.out⟩
      case measure => simp [intOf]; omega
    · obtain rfl : k = m := by omega
      obtain ⟨es, el, _⟩ := HE.out
      have ES := Lib.hid es
      have EL := Lib.hid el
      clear hlt es el
      go_wp2_with fail
      refine (own_smooth w _ b E HO).mono ?_
      rintro e w6 ⟨rfl, rfl⟩
      rw [ES.out]
      go_wp2_with fail
      refine (own_least w _ b E HO).mono ?_
      rintro e w6 ⟨rfl, rfl⟩
      rw [EL.out]
      go_wp2
      go_ret
      exact ⟨by simp, HO.2.2.2⟩

end Go.Proofs.Ytbiidcdgcbaahaa
