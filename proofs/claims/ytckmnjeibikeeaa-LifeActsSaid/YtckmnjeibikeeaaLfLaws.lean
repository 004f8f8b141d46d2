/- The laws of layer 19, walked: each callee by its contract. -/
import Derived.Test.YtckmnjeibikeeaaRows
import Derived.Test.YtckmnjeibikeeaaPlainTk
import Derived.Test.YtckmnjeibikeeaaPlainPw
import Derived.Test.YtckmnjeibikeeaaPlainLf
import Derived.Test.YtckmnjeibikeeaaAid
import Derived.Test.YtckmnjeibikeeaaTicks2
import Derived.Test.YtckmnjeibikeeaaLife
import Derived.Test.YtckmnjeibikeeaaLife2
import Derived.WalkKit
import Derived.WalkSpells
import Derived.WalkLawsBesides
import Derived.Deep.QuietTactic
import Derived.BigQuiet
import Derived.Handy
import Derived.Lib.Hide
namespace Go.Proofs.Ytckmnjeibikeeaa
open Go.RowKit
set_option linter.unusedVariables false

/-- A life of the call's own, and that nothing that was there has turned. -/
def OwnL (W : World) (b : Nat) (l : Lf.Life) (w : World) : Prop := LifeAt w b l ∧ Lf.ok l ∧ W.heap.size ≤ b ∧ Below W.heap.size W w
theorem OwnL.below {W w : World} {b : Nat} {l : Lf.Life} (h : OwnL W b l w) : Below W.heap.size W w := h.2.2.2
theorem OwnL.upd {W w w' : World} {b : Nat} {l l' : Lf.Life} (h : OwnL W b l w) (h1 : LifeAt w' b l') (h2 : Lf.ok l') (hu : Upd b w w') : OwnL W b l' w' := ⟨h1, h2, h.2.2.1, Upd.below h.2.2.2 h.2.2.1 hu⟩
theorem OwnL.kept {W w w' : World} {b : Nat} {l : Lf.Life} (h : OwnL W b l w) (hb : Below w.heap.size w w') : OwnL W b l w' := h.upd (h.1.kept hb) h.2.1 (Upd.of_below hb b)

theorem o_new (W w : World) (i k n : Int) (hi : 0 ≤ i) (hi1 : i ≤ 18446744073709551615) (hk : 0 ≤ k) (hk1 : k ≤ 18446744073709551615) (hn : 0 ≤ n) (hn1 : n ≤ 18446744073709551615) (hb : Below W.heap.size W w) :
    Calls Try.prog 11 #[.int .u64 i, .int .u64 k, .int .u64 n] w fun e w' => ∃ b, e = .returned (.pointer (some ⟨b, 0, none⟩)) ∧ OwnL W b (Lf.new i k n) w' :=
  (lnew_any i k n w).mono fun _ _ ⟨he, h2, h3⟩ => ⟨_, he, h2, Lf.new_ok i k n hi hi1 hk hk1 hn hn1, hb.size, hb.trans (h3.mono hb.size)⟩
theorem o_state (W w : World) (b : Nat) (l : Lf.Life) (h : OwnL W b l w) :
    Calls Try.prog 15 #[.pointer (some ⟨b, 0, none⟩)] w fun e w' => e = .returned (.int .i64 l.state) ∧ w = w' := state_any b l w h.1
theorem o_idle (W w : World) (b : Nat) (l : Lf.Life) (n : Int) (h : OwnL W b l w) (hn : 0 ≤ n) (hn1 : n ≤ 18446744073709551615) :
    Calls Try.prog 23 #[.pointer (some ⟨b, 0, none⟩), .int .u64 n] w fun e w' => e = .returned (.tuple #[]) ∧ OwnL W b (Lf.setIdle l n) w' :=
  (setIdle_any b l n w h.1).mono fun _ _ ⟨he, h2, h3⟩ => ⟨he, h.upd h2 (Lf.setIdle_ok l n h.2.1 hn hn1) h3⟩
theorem o_came (W w : World) (b : Nat) (l : Lf.Life) (n : Int) (h : OwnL W b l w) (hn : 0 ≤ n) (hn1 : n ≤ 18446744073709551615) :
    Calls Try.prog 17 #[.pointer (some ⟨b, 0, none⟩), .int .u64 n] w fun e w' => e = .returned (.tuple #[]) ∧ OwnL W b (Lf.arrived l n) w' :=
  (arrived_any b l n w h.1).mono fun _ _ ⟨he, h2, h3⟩ => ⟨he, h.upd h2 (Lf.arrived_ok l n h.2.1 hn hn1) h3⟩
theorem o_sent (W w : World) (b : Nat) (l : Lf.Life) (n : Int) (a : Bool) (h : OwnL W b l w) (hn : 0 ≤ n) (hn1 : n ≤ 18446744073709551615) :
    Calls Try.prog 12 #[.pointer (some ⟨b, 0, none⟩), .int .u64 n, .bool a] w fun e w' => e = .returned (.tuple #[]) ∧ OwnL W b (Lf.sent l n a) w' :=
  (sent_any b l n a w h.1).mono fun _ _ ⟨he, h2, h3⟩ => ⟨he, h.upd h2 (Lf.sent_ok l n a h.2.1 hn hn1) h3⟩
theorem o_close (W w : World) (b : Nat) (l : Lf.Life) (n p : Int) (h : OwnL W b l w) (hn : 0 ≤ n) (hn1 : n ≤ 18446744073709551615) (hp : 0 ≤ p) (hp1 : p ≤ 18446744073709551615) :
    Calls Try.prog 20 #[.pointer (some ⟨b, 0, none⟩), .int .u64 n, .int .u64 p] w fun e w' => e = .returned (.bool (Lf.closes l)) ∧ OwnL W b (Lf.close l n p) w' :=
  (close_any b l n p w h.1 hn hn1 hp hp1).mono fun _ _ ⟨he, h2, h3⟩ => ⟨he, h.upd h2 (Lf.close_ok l n p h.2.1 hn hp) h3⟩
theorem o_drain (W w : World) (b : Nat) (l : Lf.Life) (n p : Int) (h : OwnL W b l w) (hn : 0 ≤ n) (hn1 : n ≤ 18446744073709551615) (hp : 0 ≤ p) (hp1 : p ≤ 18446744073709551615) :
    Calls Try.prog 22 #[.pointer (some ⟨b, 0, none⟩), .int .u64 n, .int .u64 p] w fun e w' => e = .returned (.bool (Lf.drains l)) ∧ OwnL W b (Lf.drain l n p) w' :=
  (drain_any b l n p w h.1 hn hn1 hp hp1).mono fun _ _ ⟨he, h2, h3⟩ => ⟨he, h.upd h2 (Lf.drain_ok l n p h.2.1 hn hp) h3⟩
theorem count_ok (l : Lf.Life) (h : Lf.ok l) (hc : l.came < 1152921504606846976) : Lf.ok (Lf.count l) := by
  unfold Lf.count; split
  · unfold Lf.ok at *; dsimp only; omega
  · exact h
theorem o_arrive (W w : World) (b : Nat) (l : Lf.Life) (h : OwnL W b l w) (hc : l.came < 1152921504606846976) :
    Calls Try.prog 21 #[.pointer (some ⟨b, 0, none⟩)] w fun e w' => e = .returned (.bool (Lf.answers l)) ∧ OwnL W b (Lf.count l) w' :=
  (arrive_any b l w h.1 h.2.1).mono fun _ _ ⟨he, h2, h3⟩ => ⟨he, h.upd h2 (count_ok l h.2.1 hc) h3⟩
theorem o_end (W w : World) (b : Nat) (l : Lf.Life) (h : OwnL W b l w) :
    Calls Try.prog 16 #[.pointer (some ⟨b, 0, none⟩)] w fun e w' => e = .returned (.bool (Lf.ends l)) ∧ OwnL W b (Lf.ended l) w' :=
  (end_any b l w h.1).mono fun _ _ ⟨he, h2, h3⟩ => ⟨he, h.upd h2 (Lf.ended_ok l h.2.1) h3⟩
theorem o_next (W w : World) (b : Nat) (l : Lf.Life) (p : Int) (h : OwnL W b l w) (hp : 0 ≤ p) (hp1 : p ≤ 18446744073709551615) :
    Calls Try.prog 14 #[.pointer (some ⟨b, 0, none⟩), .int .u64 p] w fun e w' => e = .returned (.int .u64 (Lf.next l p)) ∧ OwnL W b l w' :=
  (next_any b l p w h.1 h.2.1 hp hp1).mono fun _ _ ⟨he, h2⟩ => ⟨he, h.kept h2⟩
theorem o_tick (W w : World) (b : Nat) (l : Lf.Life) (n p : Int) (h : OwnL W b l w) (hn : 0 ≤ n) (hn1 : n ≤ 18446744073709551615) (hp : 0 ≤ p) (hp1 : p ≤ 18446744073709551615) :
    Calls Try.prog 13 #[.pointer (some ⟨b, 0, none⟩), .int .u64 n, .int .u64 p] w fun e w' => e = .returned (.bool (Lf.ticks l n p)) ∧ OwnL W b (Lf.tick l n p) w' :=
  (tick_any b l n p w h.1 h.2.1 hn hn1 hp hp1).mono fun _ _ ⟨he, h2, h3⟩ => ⟨he, h.upd h2 (Lf.tick_ok l n p h.2.1) h3⟩
theorem o_keepAt (W w : World) (b : Nat) (l : Lf.Life) (h : OwnL W b l w) :
    Calls Try.prog 18 #[.pointer (some ⟨b, 0, none⟩)] w fun e w' => e = .returned (.int .u64 (Lf.keepAt l)) ∧ OwnL W b l w' :=
  (keepAt_any b l w h.1 h.2.1).mono fun _ _ ⟨he, h2⟩ => ⟨he, h.kept h2⟩
theorem o_keep (W w : World) (b : Nat) (l : Lf.Life) (n : Int) (h : OwnL W b l w) (hn : 0 ≤ n) (hn1 : n ≤ 18446744073709551615) :
    Calls Try.prog 19 #[.pointer (some ⟨b, 0, none⟩), .int .u64 n] w fun e w' => e = .returned (.bool (Lf.keeps l n)) ∧ OwnL W b l w' :=
  (keep_any b l n w h.1 h.2.1 hn hn1).mono fun _ _ ⟨he, h2⟩ => ⟨he, h.kept h2⟩

set_option maxHeartbeats 1000000 in
theorem alive_true (w : World) : Calls Try.prog 10 #[] w fun e w' => e = .returned (.bool true) ∧ Below w.heap.size w w' := by
  have R0 := Lib.hid (show Lf.next (Lf.new 10 3 0) 2 = 10 by decide +kernel)
  have R1 := Lib.hid (show Lf.keepAt (Lf.new 10 3 0) = 3 by decide +kernel)
  have N2 := Lib.hid (show Lf.sent (Lf.new 10 3 0) 1 true = ⟨0, 10, 3, 1, true, 0, 0⟩ by kernel_rfl)
  have R3 := Lib.hid (show Lf.keepAt ⟨0, 10, 3, 1, true, 0, 0⟩ = 18446744073709551615 by decide +kernel)
  have R4 := Lib.hid (show Lf.closes ⟨0, 10, 3, 1, true, 0, 0⟩ = true by decide +kernel)
  have N4 := Lib.hid (show Lf.close ⟨0, 10, 3, 1, true, 0, 0⟩ 4 2 = ⟨1, 10, 3, 1, true, 10, 0⟩ by kernel_rfl)
  have R5 := Lib.hid (show Lf.next ⟨1, 10, 3, 1, true, 10, 0⟩ 9 = 10 by decide +kernel)
  have R6 := Lib.hid (show Lf.answers ⟨1, 10, 3, 1, true, 10, 0⟩ = true by decide +kernel)
  have N6 := Lib.hid (show Lf.count ⟨1, 10, 3, 1, true, 10, 0⟩ = ⟨1, 10, 3, 1, true, 10, 1⟩ by kernel_rfl)
  have R7 := Lib.hid (show Lf.answers ⟨1, 10, 3, 1, true, 10, 1⟩ = true by decide +kernel)
  have N7 := Lib.hid (show Lf.count ⟨1, 10, 3, 1, true, 10, 1⟩ = ⟨1, 10, 3, 1, true, 10, 2⟩ by kernel_rfl)
  have R8 := Lib.hid (show Lf.answers ⟨1, 10, 3, 1, true, 10, 2⟩ = false by decide +kernel)
  have N8 := Lib.hid (show Lf.count ⟨1, 10, 3, 1, true, 10, 2⟩ = ⟨1, 10, 3, 1, true, 10, 3⟩ by kernel_rfl)
  have R9 := Lib.hid (show Lf.ticks ⟨1, 10, 3, 1, true, 10, 3⟩ 9 2 = false by decide +kernel)
  have N9 := Lib.hid (show Lf.tick ⟨1, 10, 3, 1, true, 10, 3⟩ 9 2 = ⟨1, 10, 3, 1, true, 10, 3⟩ by kernel_rfl)
  have R10 := Lib.hid (show Lf.ticks ⟨1, 10, 3, 1, true, 10, 3⟩ 10 2 = true by decide +kernel)
  have N10 := Lib.hid (show Lf.tick ⟨1, 10, 3, 1, true, 10, 3⟩ 10 2 = ⟨3, 10, 3, 1, true, 10, 3⟩ by kernel_rfl)
  have R12 := Lib.hid (show Lf.ends ⟨3, 10, 3, 1, true, 10, 3⟩ = false by decide +kernel)
  have N12 := Lib.hid (show Lf.ended ⟨3, 10, 3, 1, true, 10, 3⟩ = ⟨3, 10, 3, 1, true, 10, 3⟩ by kernel_rfl)
  have R13 := Lib.hid (show Lf.next ⟨3, 10, 3, 1, true, 10, 3⟩ 2 = 18446744073709551615 by decide +kernel)
  have R14 := Lib.hid (show Lf.keeps ⟨3, 10, 3, 1, true, 10, 3⟩ 99 = false by decide +kernel)
  go_enter Try.func10, Try.ntmps10
  go_wp2_with fail
  refine (o_new w w 10 3 0 (by omega) (by omega) (by omega) (by omega) (by omega) (by omega) (Below.refl _ _)).mono ?_
  rintro e w1 ⟨b, rfl, h0⟩
  go_wp2_with fail
  refine (o_next w _ b (Lf.new 10 3 0) 2 h0 (by omega) (by omega)).mono ?_
  rintro e v0 ⟨rfl, h1⟩
  rw [R0.out]
  clear h0
  go_wp2_with fail
  refine (o_keepAt w _ b (Lf.new 10 3 0)  h1 ).mono ?_
  rintro e v1 ⟨rfl, h2⟩
  rw [R1.out]
  clear h1
  go_wp2_with fail
  refine (o_sent w _ b (Lf.new 10 3 0) 1 true h2 (by omega) (by omega)).mono ?_
  rintro e v2 ⟨rfl, h3⟩
  rw [N2.out] at h3
  clear h2
  go_wp2_with fail
  refine (o_keepAt w _ b (⟨0, 10, 3, 1, true, 0, 0⟩ : Lf.Life)  h3 ).mono ?_
  rintro e v3 ⟨rfl, h4⟩
  rw [R3.out]
  clear h3
  go_wp2_with fail
  refine (o_close w _ b (⟨0, 10, 3, 1, true, 0, 0⟩ : Lf.Life) 4 2 h4 (by omega) (by omega) (by omega) (by omega)).mono ?_
  rintro e v4 ⟨rfl, h5⟩
  rw [R4.out]
  rw [N4.out] at h5
  clear h4
  go_wp2_with fail
  refine (o_next w _ b (⟨1, 10, 3, 1, true, 10, 0⟩ : Lf.Life) 9 h5 (by omega) (by omega)).mono ?_
  rintro e v5 ⟨rfl, h6⟩
  rw [R5.out]
  clear h5
  go_wp2_with fail
  refine (o_arrive w _ b (⟨1, 10, 3, 1, true, 10, 0⟩ : Lf.Life)  h6 (by decide)).mono ?_
  rintro e v6 ⟨rfl, h7⟩
  rw [R6.out]
  rw [N6.out] at h7
  clear h6
  go_wp2_with fail
  refine (o_arrive w _ b (⟨1, 10, 3, 1, true, 10, 1⟩ : Lf.Life)  h7 (by decide)).mono ?_
  rintro e v7 ⟨rfl, h8⟩
  rw [R7.out]
  rw [N7.out] at h8
  clear h7
  go_wp2_with fail
  refine (o_arrive w _ b (⟨1, 10, 3, 1, true, 10, 2⟩ : Lf.Life)  h8 (by decide)).mono ?_
  rintro e v8 ⟨rfl, h9⟩
  rw [R8.out]
  rw [N8.out] at h9
  clear h8
  go_wp2_with fail
  refine (o_tick w _ b (⟨1, 10, 3, 1, true, 10, 3⟩ : Lf.Life) 9 2 h9 (by omega) (by omega) (by omega) (by omega)).mono ?_
  rintro e v9 ⟨rfl, h10⟩
  rw [R9.out]
  rw [N9.out] at h10
  clear h9
  go_wp2_with fail
  refine (o_tick w _ b (⟨1, 10, 3, 1, true, 10, 3⟩ : Lf.Life) 10 2 h10 (by omega) (by omega) (by omega) (by omega)).mono ?_
  rintro e v10 ⟨rfl, h11⟩
  rw [R10.out]
  rw [N10.out] at h11
  clear h10
  go_wp2_with fail
  refine (o_state w _ b (⟨3, 10, 3, 1, true, 10, 3⟩ : Lf.Life)  h11 ).mono ?_
  rintro e v11 ⟨rfl, rfl⟩
  go_wp2_with fail
  refine (o_end w _ b (⟨3, 10, 3, 1, true, 10, 3⟩ : Lf.Life)  h11 ).mono ?_
  rintro e v12 ⟨rfl, h13⟩
  rw [R12.out]
  rw [N12.out] at h13
  clear h11
  go_wp2_with fail
  refine (o_next w _ b (⟨3, 10, 3, 1, true, 10, 3⟩ : Lf.Life) 2 h13 (by omega) (by omega)).mono ?_
  rintro e v13 ⟨rfl, h14⟩
  rw [R13.out]
  clear h13
  go_wp2_with fail
  refine (o_keep w _ b (⟨3, 10, 3, 1, true, 10, 3⟩ : Lf.Life) 99 h14 (by omega) (by omega)).mono ?_
  rintro e v14 ⟨rfl, h15⟩
  rw [R14.out]
  clear h14
  go_wp2
  go_ret
  exact ⟨rfl, h15.below⟩

end Go.Proofs.Ytckmnjeibikeeaa
