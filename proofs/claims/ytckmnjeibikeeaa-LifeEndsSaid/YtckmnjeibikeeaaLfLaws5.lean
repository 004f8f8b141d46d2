/- LifeEnds, walked. -/
import Derived.Test.YtckmnjeibikeeaaRows
import Derived.Test.YtckmnjeibikeeaaPlainTk
import Derived.Test.YtckmnjeibikeeaaPlainPw
import Derived.Test.YtckmnjeibikeeaaPlainLf
import Derived.Test.YtckmnjeibikeeaaAid
import Derived.Test.YtckmnjeibikeeaaTicks2
import Derived.Test.YtckmnjeibikeeaaLife
import Derived.Test.YtckmnjeibikeeaaLife2
import Derived.Test.YtckmnjeibikeeaaLfLaws
import Derived.Test.YtckmnjeibikeeaaLfLaws2
import Derived.Test.YtckmnjeibikeeaaLfOpen
import Derived.StillTailTactics
import Derived.Deep.RegionHeld3
import Derived.WalkKit
import Derived.WalkSpells
import Derived.WalkLawsBesides
import Derived.Deep.QuietTactic
import Derived.BigQuiet
import Derived.Handy
import Derived.Lib.Hide
namespace Go.Proofs.Ytckmnjeibikeeaa
open Go.RowKit
set_option linter.unusedVariables false

/-- What the loop of LifeEnds keeps. -/
def EI (f : Int) (k : Nat) (L : Lf.Life) : Prop := (L.state = 1 ∨ L.state = 2 ∨ L.state = 3) ∧ (L.state ≠ 3 → L.fin = f) ∧ L.came ≤ k
theorem EI.more {f : Int} {k : Nat} {L : Lf.Life} (h : EI f k L) : EI f (k + 1) L := ⟨h.1, h.2.1, by have := h.2.2; omega⟩
theorem EI.came {f : Int} {k : Nat} {L : Lf.Life} (h : EI f k L) (n : Int) : EI f (k + 1) (Lf.arrived L n) := by
  have h1 := h.1
  unfold Lf.arrived; rw [if_neg (by omega)]; exact h.more
theorem EI.sent {f : Int} {k : Nat} {L : Lf.Life} (h : EI f k L) (n : Int) (a : Bool) : EI f (k + 1) (Lf.sent L n a) := by
  have h1 := h.1
  unfold Lf.sent; rw [if_neg (fun h => by omega)]; exact h.more
theorem EI.close {f : Int} {k : Nat} {L : Lf.Life} (h : EI f k L) (n p : Int) : EI f (k + 1) (Lf.close L n p) := by
  have h1 := h.1
  unfold Lf.close; rw [if_neg (by omega)]; exact h.more
theorem EI.drain {f : Int} {k : Nat} {L : Lf.Life} (h : EI f k L) (n p : Int) : EI f (k + 1) (Lf.drain L n p) := by
  obtain ⟨h1, h2, h3⟩ := h
  unfold Lf.drain; rw [if_neg (by omega)]
  split
  · exact ⟨.inr (.inl rfl), fun _ => h2 (by omega), by dsimp only; omega⟩
  · exact ⟨h1, h2, by omega⟩
theorem EI.count {f : Int} {k : Nat} {L : Lf.Life} (h : EI f k L) : EI f (k + 1) (Lf.count L) := by
  obtain ⟨h1, h2, h3⟩ := h
  unfold Lf.count
  split
  · exact ⟨h1, h2, by dsimp only; omega⟩
  · exact ⟨h1, h2, by omega⟩
theorem EI.tick {f : Int} {k : Nat} {L : Lf.Life} (h : EI f k L) (n p : Int) : EI f (k + 1) (Lf.tick L n p) := by
  unfold Lf.tick
  split
  · exact ⟨.inr (.inr rfl), fun h => absurd rfl h, by have := h.2.2; show L.came ≤ _; omega⟩
  · exact h.more
theorem EI.late {f : Int} {k : Nat} {L : Lf.Life} (h : EI f k L) (n p : Int) (hf : f ≤ 8589934592) (hn : f ≤ n) : (Lf.tick L n p).state = 3 := by
  obtain ⟨h1, h2, h3⟩ := h
  by_cases h3 : L.state = 3
  · unfold Lf.tick; split
    · rfl
    · exact h3
  · have hx : Lf.next L p = f := by unfold Lf.next; rw [if_neg (by omega), if_neg h3, h2 h3]
    have ht : Lf.ticks L n p = true := by unfold Lf.ticks Lf.never; rw [hx]; simp; omega
    unfold Lf.tick; rw [if_pos ht]; rfl

set_option maxRecDepth 100000 in
set_option maxHeartbeats 8000000 in
theorem lifeEnds_td (a0 a1 a2 : Int) (A4 : Option Addr) (n4 c4 : Nat) (l4 : List Act) (w : World) (b0 : 0 ≤ a0) (c0 : a0 ≤ 4294967295) (b1 : 0 ≤ a1) (c1 : a1 ≤ 4294967295) (b2 : 0 ≤ a2) (c2 : a2 ≤ 65535) (i4 : Acts w A4 n4 l4) (hsm : n4 ≤ 60) (hp : a2 ≤ 10000) :
    Calls Try.prog 8 #[.int .u32 a0, .int .u32 a1, .int .u16 a2, .bool true, .slice A4 n4 c4] w fun e w' => e = .returned (.bool true) ∧ Below w.heap.size w w' := by
  have hsm' : (n4 : Int) ≤ 60 := by omega
  have ht : Lf.three a2 = 3 * a2 := by unfold Lf.three; omega
  have hf : Tk.add a1 (Lf.three a2) = a1 + 3 * a2 := by rw [ht]; exact add_low _ _ (by omega)
  have R1 := Lib.hid (show Lf.drains (Lf.new a0 0 a1) = true from rfl)
  have E1 : Hid (EI (a1 + 3 * a2) 0 (Lf.drain (Lf.new a0 0 a1) a1 a2)) := by unfold Hid; rw [← hf]; exact ⟨.inr (.inl rfl), fun _ => rfl, Int.le_refl _⟩
  clear ht hf
  go_enter Try.func8, Try.ntmps8
  go_wp2_with fail
  refine (alive_true _).mono ?_
  rintro e w1 ⟨rfl, hb1⟩
  have HA := Lib.hid hb1
  clear hb1
  go_wp2_with fail
  refine (o_new w _ a0 0 a1 (by omega) (by omega) (by omega) (by omega) (by omega) (by omega) HA.out).mono ?_
  rintro e w2 ⟨b, rfl, h0⟩
  go_wp2_with fail
  refine (o_drain w _ b _ a1 a2 h0 (by omega) (by omega) (by omega) (by omega)).mono ?_
  rintro e w3 ⟨rfl, h1⟩
  rw [R1.out]
  clear h0
  go_wp2
  go_loopw [14] (fun i wr => ∃ (k : Nat) (L : Lf.Life), k ≤ n4 ∧ i = .int .i64 k ∧ OwnL w b L wr ∧ Hid (EI (a1 + 3 * a2) k L)) (fun i _ => n4 - (intOf i).toNat)
  case atStart => exact ⟨0, _, by omega, rfl, h1, E1⟩
  case round =>
    obtain ⟨k, L, hk, rfl, HO, HI⟩ := hrel
    clear h1
    by_cases hlt : k < n4
    · obtain ⟨e1, e2, e3⟩ := i4
      obtain ⟨B, off, rfl, hB, hc⟩ := e3 (by omega)
      obtain ⟨r1, r2, r3, r4, r5, r6⟩ := e2 k hlt
      obtain ⟨g0, g1, g2, g3⟩ := (hc k hlt).below hB HO.below
      clear e1 e2 e3 hc
      generalize l4.getD k default = a at *
      obtain ⟨kind, now, p, ask⟩ := a
      dsimp only at r1 r2 r3 r4 r5 r6 g0 g1 g2 g3
      have hne : wr.heap.size ≠ b := by have := HO.1.lt; omega
      have hcm : L.came < 1152921504606846976 := by have := HI.out.2.2; omega
      have HNE := Lib.hid hne
      by_cases hk0 : kind = 0
      · subst hk0
        have HO2 := HO.kept ((Below.refl _ _).alloc (Nat.le_refl _) (.cells #[.int .i64 0, .int .u64 now, .int .u64 p, .bool ask] 44))
        have HAo := Obj.new wr 44 #[.int .i64 0, .int .u64 now, .int .u64 p, .bool ask]
        go_wp2_with fail
        refine (u_came w _ b L now HO2 r1 r2).mono ?_
        rintro e w4 ⟨rfl, h4, u4⟩
        have HA4 := HAo.upd u4 hne
        have d0 : w4.cell? ⟨wr.heap.size, 0, none⟩ = some (.int .i64 0) := HA4.cell 0
        have d1 : w4.cell? ⟨wr.heap.size, 1, none⟩ = some (.int .u64 now) := HA4.cell 1
        go_wp2
        go_roundw
        case rel => exact ⟨k + 1, _, by omega, by go_num, h4, HI.out.came _⟩
        case measure => simp [intOf]; omega
      by_cases hk1 : kind = 1
      · subst hk1
        have HO2 := HO.kept ((Below.refl _ _).alloc (Nat.le_refl _) (.cells #[.int .i64 1, .int .u64 now, .int .u64 p, .bool ask] 44))
        have HAo := Obj.new wr 44 #[.int .i64 1, .int .u64 now, .int .u64 p, .bool ask]
        go_wp2_with fail
        refine (u_sent w _ b L now ask HO2 r1 r2).mono ?_
        rintro e w4 ⟨rfl, h4, u4⟩
        have HA4 := HAo.upd u4 hne
        have d0 : w4.cell? ⟨wr.heap.size, 0, none⟩ = some (.int .i64 1) := HA4.cell 0
        have d1 : w4.cell? ⟨wr.heap.size, 1, none⟩ = some (.int .u64 now) := HA4.cell 1
        go_wp2
        go_roundw
        case rel => exact ⟨k + 1, _, by omega, by go_num, h4, HI.out.sent _ _⟩
        case measure => simp [intOf]; omega
      by_cases hk2 : kind = 2
      · subst hk2
        have HO2 := HO.kept ((Below.refl _ _).alloc (Nat.le_refl _) (.cells #[.int .i64 2, .int .u64 now, .int .u64 p, .bool ask] 44))
        have HAo := Obj.new wr 44 #[.int .i64 2, .int .u64 now, .int .u64 p, .bool ask]
        go_wp2_with fail
        refine (u_close w _ b L now p HO2 r1 r2 r3 r4).mono ?_
        rintro e w4 ⟨rfl, h4, u4⟩
        have HA4 := HAo.upd u4 hne
        have d0 : w4.cell? ⟨wr.heap.size, 0, none⟩ = some (.int .i64 2) := HA4.cell 0
        have d1 : w4.cell? ⟨wr.heap.size, 1, none⟩ = some (.int .u64 now) := HA4.cell 1
        go_wp2
        go_roundw
        case rel => exact ⟨k + 1, _, by omega, by go_num, h4, HI.out.close _ _⟩
        case measure => simp [intOf]; omega
      by_cases hk3 : kind = 3
      · subst hk3
        have HO2 := HO.kept ((Below.refl _ _).alloc (Nat.le_refl _) (.cells #[.int .i64 3, .int .u64 now, .int .u64 p, .bool ask] 44))
        have HAo := Obj.new wr 44 #[.int .i64 3, .int .u64 now, .int .u64 p, .bool ask]
        go_wp2_with fail
        refine (u_drain w _ b L now p HO2 r1 r2 r3 r4).mono ?_
        rintro e w4 ⟨rfl, h4, u4⟩
        have HA4 := HAo.upd u4 hne
        have d0 : w4.cell? ⟨wr.heap.size, 0, none⟩ = some (.int .i64 3) := HA4.cell 0
        have d1 : w4.cell? ⟨wr.heap.size, 1, none⟩ = some (.int .u64 now) := HA4.cell 1
        go_wp2
        go_roundw
        case rel => exact ⟨k + 1, _, by omega, by go_num, h4, HI.out.drain _ _⟩
        case measure => simp [intOf]; omega
      by_cases hk4 : kind = 4
      · subst hk4
        have HO2 := HO.kept ((Below.refl _ _).alloc (Nat.le_refl _) (.cells #[.int .i64 4, .int .u64 now, .int .u64 p, .bool ask] 44))
        have HAo := Obj.new wr 44 #[.int .i64 4, .int .u64 now, .int .u64 p, .bool ask]
        go_wp2_with fail
        refine (u_arrive w _ b L HO2 hcm).mono ?_
        rintro e w4 ⟨rfl, h4, u4⟩
        have HA4 := HAo.upd u4 hne
        have d0 : w4.cell? ⟨wr.heap.size, 0, none⟩ = some (.int .i64 4) := HA4.cell 0
        have d1 : w4.cell? ⟨wr.heap.size, 1, none⟩ = some (.int .u64 now) := HA4.cell 1
        go_wp2
        go_roundw
        case rel => exact ⟨k + 1, _, by omega, by go_num, h4, HI.out.count⟩
        case measure => simp [intOf]; omega
      by_cases hk5 : kind = 5
      · subst hk5
        have HO2 := HO.kept ((Below.refl _ _).alloc (Nat.le_refl _) (.cells #[.int .i64 5, .int .u64 now, .int .u64 p, .bool ask] 44))
        have HAo := Obj.new wr 44 #[.int .i64 5, .int .u64 now, .int .u64 p, .bool ask]
        by_cases hlate : a1 + 3 * a2 ≤ now
        · have HS := Lib.hid (HI.out.late now p (by omega) hlate)
          go_wp2_with fail
          refine (u_tick w _ b L now p HO2 r1 r2 r3 r4).mono ?_
          rintro e w4 ⟨rfl, h4, u4⟩
          have HA4 := HAo.upd u4 hne
          have d0 : w4.cell? ⟨wr.heap.size, 0, none⟩ = some (.int .i64 5) := HA4.cell 0
          have d1 : w4.cell? ⟨wr.heap.size, 1, none⟩ = some (.int .u64 now) := HA4.cell 1
          go_wp2_with fail
          refine (o_state w _ b _ h4).mono ?_
          rintro e w5 ⟨rfl, rfl⟩
          rw [HS.out]
          go_wp2
          go_roundw
          case rel => exact ⟨k + 1, _, by omega, by go_num, h4, HI.out.tick _ _⟩
          case measure => simp [intOf]; omega
        · have hl2 : now < a1 + 3 * a2 := by omega
          have hl3 : decide (a1 + 3 * a2 ≤ now) = false := by simp; omega
          clear hlate
          go_wp2_with fail
          refine (u_tick w _ b L now p HO2 r1 r2 r3 r4).mono ?_
          rintro e w4 ⟨rfl, h4, u4⟩
          have HA4 := HAo.upd u4 hne
          have d0 : w4.cell? ⟨wr.heap.size, 0, none⟩ = some (.int .i64 5) := HA4.cell 0
          have d1 : w4.cell? ⟨wr.heap.size, 1, none⟩ = some (.int .u64 now) := HA4.cell 1
          go_wp2
          go_roundw
          case rel => exact ⟨k + 1, _, by omega, by go_num, h4, HI.out.tick _ _⟩
          case measure => simp [intOf]; omega
      · have q0 : (kind == 0) = false := by simp [hk0]
        have q1 : (kind == 1) = false := by simp [hk1]
        have q2 : (kind == 2) = false := by simp [hk2]
        have q3 : (kind == 3) = false := by simp [hk3]
        have q4 : (kind == 4) = false := by simp [hk4]
        have q5 : (kind == 5) = false := by simp [hk5]
        clear hk0 hk1 hk2 hk3 hk4 hk5
        have HO2 := HO.kept ((Below.refl _ _).alloc (Nat.le_refl _) (.cells #[.int .i64 kind, .int .u64 now, .int .u64 p, .bool ask] 44))
        have HAo := Obj.new wr 44 #[.int .i64 kind, .int .u64 now, .int .u64 p, .bool ask]
        go_wp2
        go_roundw
        case rel => exact ⟨k + 1, _, by omega, by go_num, HO2, HI.out.more⟩
        case measure => simp [intOf]; omega
    · obtain rfl : k = n4 := by omega
      have HS := Lib.hid (HI.out.late (a1 + 3 * a2) 0 (by omega) (Int.le_refl _))
      clear hlt
      go_wp2_with fail
      refine (o_tick w _ b L (a1 + 3 * a2) 0 HO (by omega) (by omega) (by omega) (by omega)).mono ?_
      rintro e w4 ⟨rfl, h4⟩
      obtain ⟨L', hL'⟩ : ∃ L', Lf.tick L (a1 + 3 * a2) 0 = L' := ⟨_, rfl⟩
      rw [hL'] at h4 HS
      have HL' := Lib.hid hL'
      have R3 : Hid (Lf.drains L' = false) := by unfold Hid Lf.drains; rw [HS.out]; rfl
      have R4 : Hid (Lf.closes L' = false) := by unfold Hid Lf.closes; rw [HS.out]; rfl
      have N3 : Hid (Lf.drain L' (a1 + 3 * a2) 1 = L') := by unfold Hid Lf.drain; rw [if_neg (by rw [HS.out]; decide), if_neg (by rw [HS.out]; decide)]
      have N4 : Hid (Lf.close L' (a1 + 3 * a2) 1 = L') := by unfold Hid Lf.close; rw [if_neg (by rw [HS.out]; decide)]
      clear hL'
      go_wp2_with fail
      refine (o_state w _ b _ h4).mono ?_
      rintro e w5 ⟨rfl, rfl⟩
      rw [HS.out]
      go_wp2_with fail
      refine (o_drain w _ b _ (a1 + 3 * a2) 1 h4 (by omega) (by omega) (by omega) (by omega)).mono ?_
      rintro e w6 ⟨rfl, h6⟩
      rw [R3.out]
      rw [N3.out] at h6
      clear h4
      go_wp2_with fail
      refine (o_close w _ b _ (a1 + 3 * a2) 1 h6 (by omega) (by omega) (by omega) (by omega)).mono ?_
      rintro e w7 ⟨rfl, h7⟩
      rw [R4.out]
      rw [N4.out] at h7
      clear h6
      go_wp2_with fail
      refine (o_state w _ b _ h7).mono ?_
      rintro e w8 ⟨rfl, rfl⟩
      rw [HS.out]
      go_wp2_with fail
      refine (alive_true _).mono ?_
      rintro e w9 ⟨rfl, hb9⟩
      have H9 := Lib.hid (h7.below.trans (hb9.mono h7.below.size))
      clear hb9
      go_wp2
      go_ret
      exact ⟨rfl, H9.out⟩

set_option maxRecDepth 100000 in
set_option maxHeartbeats 8000000 in
theorem lifeEnds_tc (a0 a1 a2 : Int) (A4 : Option Addr) (n4 c4 : Nat) (l4 : List Act) (w : World) (b0 : 0 ≤ a0) (c0 : a0 ≤ 4294967295) (b1 : 0 ≤ a1) (c1 : a1 ≤ 4294967295) (b2 : 0 ≤ a2) (c2 : a2 ≤ 65535) (i4 : Acts w A4 n4 l4) (hsm : n4 ≤ 60) (hp : a2 ≤ 10000) :
    Calls Try.prog 8 #[.int .u32 a0, .int .u32 a1, .int .u16 a2, .bool false, .slice A4 n4 c4] w fun e w' => e = .returned (.bool true) ∧ Below w.heap.size w w' := by
  have hsm' : (n4 : Int) ≤ 60 := by omega
  have ht : Lf.three a2 = 3 * a2 := by unfold Lf.three; omega
  have hf : Tk.add a1 (Lf.three a2) = a1 + 3 * a2 := by rw [ht]; exact add_low _ _ (by omega)
  have R1 := Lib.hid (show Lf.closes (Lf.new a0 0 a1) = true from rfl)
  have E1 : Hid (EI (a1 + 3 * a2) 0 (Lf.close (Lf.new a0 0 a1) a1 a2)) := by unfold Hid; rw [← hf]; exact ⟨.inl rfl, fun _ => rfl, Int.le_refl _⟩
  clear ht hf
  go_enter Try.func8, Try.ntmps8
  go_wp2_with fail
  refine (alive_true _).mono ?_
  rintro e w1 ⟨rfl, hb1⟩
  have HA := Lib.hid hb1
  clear hb1
  go_wp2_with fail
  refine (o_new w _ a0 0 a1 (by omega) (by omega) (by omega) (by omega) (by omega) (by omega) HA.out).mono ?_
  rintro e w2 ⟨b, rfl, h0⟩
  go_wp2_with fail
  refine (o_close w _ b _ a1 a2 h0 (by omega) (by omega) (by omega) (by omega)).mono ?_
  rintro e w3 ⟨rfl, h1⟩
  rw [R1.out]
  clear h0
  go_wp2
  go_loopw [14] (fun i wr => ∃ (k : Nat) (L : Lf.Life), k ≤ n4 ∧ i = .int .i64 k ∧ OwnL w b L wr ∧ Hid (EI (a1 + 3 * a2) k L)) (fun i _ => n4 - (intOf i).toNat)
  case atStart => exact ⟨0, _, by omega, rfl, h1, E1⟩
  case round =>
    obtain ⟨k, L, hk, rfl, HO, HI⟩ := hrel
    clear h1
    by_cases hlt : k < n4
    · obtain ⟨e1, e2, e3⟩ := i4
      obtain ⟨B, off, rfl, hB, hc⟩ := e3 (by omega)
      obtain ⟨r1, r2, r3, r4, r5, r6⟩ := e2 k hlt
      obtain ⟨g0, g1, g2, g3⟩ := (hc k hlt).below hB HO.below
      clear e1 e2 e3 hc
      generalize l4.getD k default = a at *
      obtain ⟨kind, now, p, ask⟩ := a
      dsimp only at r1 r2 r3 r4 r5 r6 g0 g1 g2 g3
      have hne : wr.heap.size ≠ b := by have := HO.1.lt; omega
      have hcm : L.came < 1152921504606846976 := by have := HI.out.2.2; omega
      have HNE := Lib.hid hne
      by_cases hk0 : kind = 0
      · subst hk0
        have HO2 := HO.kept ((Below.refl _ _).alloc (Nat.le_refl _) (.cells #[.int .i64 0, .int .u64 now, .int .u64 p, .bool ask] 44))
        have HAo := Obj.new wr 44 #[.int .i64 0, .int .u64 now, .int .u64 p, .bool ask]
        go_wp2_with fail
        refine (u_came w _ b L now HO2 r1 r2).mono ?_
        rintro e w4 ⟨rfl, h4, u4⟩
        have HA4 := HAo.upd u4 hne
        have d0 : w4.cell? ⟨wr.heap.size, 0, none⟩ = some (.int .i64 0) := HA4.cell 0
        have d1 : w4.cell? ⟨wr.heap.size, 1, none⟩ = some (.int .u64 now) := HA4.cell 1
        go_wp2
        go_roundw
        case rel => exact ⟨k + 1, _, by omega, by go_num, h4, HI.out.came _⟩
        case measure => simp [intOf]; omega
      by_cases hk1 : kind = 1
      · subst hk1
        have HO2 := HO.kept ((Below.refl _ _).alloc (Nat.le_refl _) (.cells #[.int .i64 1, .int .u64 now, .int .u64 p, .bool ask] 44))
        have HAo := Obj.new wr 44 #[.int .i64 1, .int .u64 now, .int .u64 p, .bool ask]
        go_wp2_with fail
        refine (u_sent w _ b L now ask HO2 r1 r2).mono ?_
        rintro e w4 ⟨rfl, h4, u4⟩
        have HA4 := HAo.upd u4 hne
        have d0 : w4.cell? ⟨wr.heap.size, 0, none⟩ = some (.int .i64 1) := HA4.cell 0
        have d1 : w4.cell? ⟨wr.heap.size, 1, none⟩ = some (.int .u64 now) := HA4.cell 1
        go_wp2
        go_roundw
        case rel => exact ⟨k + 1, _, by omega, by go_num, h4, HI.out.sent _ _⟩
        case measure => simp [intOf]; omega
      by_cases hk2 : kind = 2
      · subst hk2
        have HO2 := HO.kept ((Below.refl _ _).alloc (Nat.le_refl _) (.cells #[.int .i64 2, .int .u64 now, .int .u64 p, .bool ask] 44))
        have HAo := Obj.new wr 44 #[.int .i64 2, .int .u64 now, .int .u64 p, .bool ask]
        go_wp2_with fail
        refine (u_close w _ b L now p HO2 r1 r2 r3 r4).mono ?_
        rintro e w4 ⟨rfl, h4, u4⟩
        have HA4 := HAo.upd u4 hne
        have d0 : w4.cell? ⟨wr.heap.size, 0, none⟩ = some (.int .i64 2) := HA4.cell 0
        have d1 : w4.cell? ⟨wr.heap.size, 1, none⟩ = some (.int .u64 now) := HA4.cell 1
        go_wp2
        go_roundw
        case rel => exact ⟨k + 1, _, by omega, by go_num, h4, HI.out.close _ _⟩
        case measure => simp [intOf]; omega
      by_cases hk3 : kind = 3
      · subst hk3
        have HO2 := HO.kept ((Below.refl _ _).alloc (Nat.le_refl _) (.cells #[.int .i64 3, .int .u64 now, .int .u64 p, .bool ask] 44))
        have HAo := Obj.new wr 44 #[.int .i64 3, .int .u64 now, .int .u64 p, .bool ask]
        go_wp2_with fail
        refine (u_drain w _ b L now p HO2 r1 r2 r3 r4).mono ?_
        rintro e w4 ⟨rfl, h4, u4⟩
        have HA4 := HAo.upd u4 hne
        have d0 : w4.cell? ⟨wr.heap.size, 0, none⟩ = some (.int .i64 3) := HA4.cell 0
        have d1 : w4.cell? ⟨wr.heap.size, 1, none⟩ = some (.int .u64 now) := HA4.cell 1
        go_wp2
        go_roundw
        case rel => exact ⟨k + 1, _, by omega, by go_num, h4, HI.out.drain _ _⟩
        case measure => simp [intOf]; omega
      by_cases hk4 : kind = 4
      · subst hk4
        have HO2 := HO.kept ((Below.refl _ _).alloc (Nat.le_refl _) (.cells #[.int .i64 4, .int .u64 now, .int .u64 p, .bool ask] 44))
        have HAo := Obj.new wr 44 #[.int .i64 4, .int .u64 now, .int .u64 p, .bool ask]
        go_wp2_with fail
        refine (u_arrive w _ b L HO2 hcm).mono ?_
        rintro e w4 ⟨rfl, h4, u4⟩
        have HA4 := HAo.upd u4 hne
        have d0 : w4.cell? ⟨wr.heap.size, 0, none⟩ = some (.int .i64 4) := HA4.cell 0
        have d1 : w4.cell? ⟨wr.heap.size, 1, none⟩ = some (.int .u64 now) := HA4.cell 1
        go_wp2
        go_roundw
        case rel => exact ⟨k + 1, _, by omega, by go_num, h4, HI.out.count⟩
        case measure => simp [intOf]; omega
      by_cases hk5 : kind = 5
      · subst hk5
        have HO2 := HO.kept ((Below.refl _ _).alloc (Nat.le_refl _) (.cells #[.int .i64 5, .int .u64 now, .int .u64 p, .bool ask] 44))
        have HAo := Obj.new wr 44 #[.int .i64 5, .int .u64 now, .int .u64 p, .bool ask]
        by_cases hlate : a1 + 3 * a2 ≤ now
        · have HS := Lib.hid (HI.out.late now p (by omega) hlate)
          go_wp2_with fail
          refine (u_tick w _ b L now p HO2 r1 r2 r3 r4).mono ?_
          rintro e w4 ⟨rfl, h4, u4⟩
          have HA4 := HAo.upd u4 hne
          have d0 : w4.cell? ⟨wr.heap.size, 0, none⟩ = some (.int .i64 5) := HA4.cell 0
          have d1 : w4.cell? ⟨wr.heap.size, 1, none⟩ = some (.int .u64 now) := HA4.cell 1
          go_wp2_with fail
          refine (o_state w _ b _ h4).mono ?_
          rintro e w5 ⟨rfl, rfl⟩
          rw [HS.out]
          go_wp2
          go_roundw
          case rel => exact ⟨k + 1, _, by omega, by go_num, h4, HI.out.tick _ _⟩
          case measure => simp [intOf]; omega
        · have hl2 : now < a1 + 3 * a2 := by omega
          have hl3 : decide (a1 + 3 * a2 ≤ now) = false := by simp; omega
          clear hlate
          go_wp2_with fail
          refine (u_tick w _ b L now p HO2 r1 r2 r3 r4).mono ?_
          rintro e w4 ⟨rfl, h4, u4⟩
          have HA4 := HAo.upd u4 hne
          have d0 : w4.cell? ⟨wr.heap.size, 0, none⟩ = some (.int .i64 5) := HA4.cell 0
          have d1 : w4.cell? ⟨wr.heap.size, 1, none⟩ = some (.int .u64 now) := HA4.cell 1
          go_wp2
          go_roundw
          case rel => exact ⟨k + 1, _, by omega, by go_num, h4, HI.out.tick _ _⟩
          case measure => simp [intOf]; omega
      · have q0 : (kind == 0) = false := by simp [hk0]
        have q1 : (kind == 1) = false := by simp [hk1]
        have q2 : (kind == 2) = false := by simp [hk2]
        have q3 : (kind == 3) = false := by simp [hk3]
        have q4 : (kind == 4) = false := by simp [hk4]
        have q5 : (kind == 5) = false := by simp [hk5]
        clear hk0 hk1 hk2 hk3 hk4 hk5
        have HO2 := HO.kept ((Below.refl _ _).alloc (Nat.le_refl _) (.cells #[.int .i64 kind, .int .u64 now, .int .u64 p, .bool ask] 44))
        have HAo := Obj.new wr 44 #[.int .i64 kind, .int .u64 now, .int .u64 p, .bool ask]
        go_wp2
        go_roundw
        case rel => exact ⟨k + 1, _, by omega, by go_num, HO2, HI.out.more⟩
        case measure => simp [intOf]; omega
    · obtain rfl : k = n4 := by omega
      have HS := Lib.hid (HI.out.late (a1 + 3 * a2) 0 (by omega) (Int.le_refl _))
      clear hlt
      go_wp2_with fail
      refine (o_tick w _ b L (a1 + 3 * a2) 0 HO (by omega) (by omega) (by omega) (by omega)).mono ?_
      rintro e w4 ⟨rfl, h4⟩
      obtain ⟨L', hL'⟩ : ∃ L', Lf.tick L (a1 + 3 * a2) 0 = L' := ⟨_, rfl⟩
      rw [hL'] at h4 HS
      have HL' := Lib.hid hL'
      have R3 : Hid (Lf.drains L' = false) := by unfold Hid Lf.drains; rw [HS.out]; rfl
      have R4 : Hid (Lf.closes L' = false) := by unfold Hid Lf.closes; rw [HS.out]; rfl
      have N3 : Hid (Lf.drain L' (a1 + 3 * a2) 1 = L') := by unfold Hid Lf.drain; rw [if_neg (by rw [HS.out]; decide), if_neg (by rw [HS.out]; decide)]
      have N4 : Hid (Lf.close L' (a1 + 3 * a2) 1 = L') := by unfold Hid Lf.close; rw [if_neg (by rw [HS.out]; decide)]
      clear hL'
      go_wp2_with fail
      refine (o_state w _ b _ h4).mono ?_
      rintro e w5 ⟨rfl, rfl⟩
      rw [HS.out]
      go_wp2_with fail
      refine (o_drain w _ b _ (a1 + 3 * a2) 1 h4 (by omega) (by omega) (by omega) (by omega)).mono ?_
      rintro e w6 ⟨rfl, h6⟩
      rw [R3.out]
      rw [N3.out] at h6
      clear h4
      go_wp2_with fail
      refine (o_close w _ b _ (a1 + 3 * a2) 1 h6 (by omega) (by omega) (by omega) (by omega)).mono ?_
      rintro e w7 ⟨rfl, h7⟩
      rw [R4.out]
      rw [N4.out] at h7
      clear h6
      go_wp2_with fail
      refine (o_state w _ b _ h7).mono ?_
      rintro e w8 ⟨rfl, rfl⟩
      rw [HS.out]
      go_wp2_with fail
      refine (alive_true _).mono ?_
      rintro e w9 ⟨rfl, hb9⟩
      have H9 := Lib.hid (h7.below.trans (hb9.mono h7.below.size))
      clear hb9
      go_wp2
      go_ret
      exact ⟨rfl, H9.out⟩

set_option maxRecDepth 100000 in
set_option maxHeartbeats 8000000 in
theorem lifeEnds_bd (a0 a1 a2 : Int) (A4 : Option Addr) (n4 c4 : Nat) (l4 : List Act) (w : World) (b0 : 0 ≤ a0) (c0 : a0 ≤ 4294967295) (b1 : 0 ≤ a1) (c1 : a1 ≤ 4294967295) (b2 : 0 ≤ a2) (c2 : a2 ≤ 65535) (i4 : Acts w A4 n4 l4) (hsm : n4 ≤ 60) (hp : 10000 < a2) :
    Calls Try.prog 8 #[.int .u32 a0, .int .u32 a1, .int .u16 a2, .bool true, .slice A4 n4 c4] w fun e w' => e = .returned (.bool true) ∧ Below w.heap.size w w' := by
  have hsm' : (n4 : Int) ≤ 60 := by omega
  have ht : Lf.three a2 = 30000 := by unfold Lf.three; omega
  have hf : Tk.add a1 (Lf.three a2) = a1 + 30000 := by rw [ht]; exact add_low _ _ (by omega)
  have R1 := Lib.hid (show Lf.drains (Lf.new a0 0 a1) = true from rfl)
  have E1 : Hid (EI (a1 + 30000) 0 (Lf.drain (Lf.new a0 0 a1) a1 a2)) := by unfold Hid; rw [← hf]; exact ⟨.inr (.inl rfl), fun _ => rfl, Int.le_refl _⟩
  clear ht hf
  go_enter Try.func8, Try.ntmps8
  go_wp2_with fail
  refine (alive_true _).mono ?_
  rintro e w1 ⟨rfl, hb1⟩
  have HA := Lib.hid hb1
  clear hb1
  go_wp2_with fail
  refine (o_new w _ a0 0 a1 (by omega) (by omega) (by omega) (by omega) (by omega) (by omega) HA.out).mono ?_
  rintro e w2 ⟨b, rfl, h0⟩
  go_wp2_with fail
  refine (o_drain w _ b _ a1 a2 h0 (by omega) (by omega) (by omega) (by omega)).mono ?_
  rintro e w3 ⟨rfl, h1⟩
  rw [R1.out]
  clear h0
  go_wp2
  go_loopw [14] (fun i wr => ∃ (k : Nat) (L : Lf.Life), k ≤ n4 ∧ i = .int .i64 k ∧ OwnL w b L wr ∧ Hid (EI (a1 + 30000) k L)) (fun i _ => n4 - (intOf i).toNat)
  case atStart => exact ⟨0, _, by omega, rfl, h1, E1⟩
  case round =>
    obtain ⟨k, L, hk, rfl, HO, HI⟩ := hrel
    clear h1
    by_cases hlt : k < n4
    · obtain ⟨e1, e2, e3⟩ := i4
      obtain ⟨B, off, rfl, hB, hc⟩ := e3 (by omega)
      obtain ⟨r1, r2, r3, r4, r5, r6⟩ := e2 k hlt
      obtain ⟨g0, g1, g2, g3⟩ := (hc k hlt).below hB HO.below
      clear e1 e2 e3 hc
      generalize l4.getD k default = a at *
      obtain ⟨kind, now, p, ask⟩ := a
      dsimp only at r1 r2 r3 r4 r5 r6 g0 g1 g2 g3
      have hne : wr.heap.size ≠ b := by have := HO.1.lt; omega
      have hcm : L.came < 1152921504606846976 := by have := HI.out.2.2; omega
      have HNE := Lib.hid hne
      by_cases hk0 : kind = 0
      · subst hk0
        have HO2 := HO.kept ((Below.refl _ _).alloc (Nat.le_refl _) (.cells #[.int .i64 0, .int .u64 now, .int .u64 p, .bool ask] 44))
        have HAo := Obj.new wr 44 #[.int .i64 0, .int .u64 now, .int .u64 p, .bool ask]
        go_wp2_with fail
        refine (u_came w _ b L now HO2 r1 r2).mono ?_
        rintro e w4 ⟨rfl, h4, u4⟩
        have HA4 := HAo.upd u4 hne
        have d0 : w4.cell? ⟨wr.heap.size, 0, none⟩ = some (.int .i64 0) := HA4.cell 0
        have d1 : w4.cell? ⟨wr.heap.size, 1, none⟩ = some (.int .u64 now) := HA4.cell 1
        go_wp2
        go_roundw
        case rel => exact ⟨k + 1, _, by omega, by go_num, h4, HI.out.came _⟩
        case measure => simp [intOf]; omega
      by_cases hk1 : kind = 1
      · subst hk1
        have HO2 := HO.kept ((Below.refl _ _).alloc (Nat.le_refl _) (.cells #[.int .i64 1, .int .u64 now, .int .u64 p, .bool ask] 44))
        have HAo := Obj.new wr 44 #[.int .i64 1, .int .u64 now, .int .u64 p, .bool ask]
        go_wp2_with fail
        refine (u_sent w _ b L now ask HO2 r1 r2).mono ?_
        rintro e w4 ⟨rfl, h4, u4⟩
        have HA4 := HAo.upd u4 hne
        have d0 : w4.cell? ⟨wr.heap.size, 0, none⟩ = some (.int .i64 1) := HA4.cell 0
        have d1 : w4.cell? ⟨wr.heap.size, 1, none⟩ = some (.int .u64 now) := HA4.cell 1
        go_wp2
        go_roundw
        case rel => exact ⟨k + 1, _, by omega, by go_num, h4, HI.out.sent _ _⟩
        case measure => simp [intOf]; omega
      by_cases hk2 : kind = 2
      · subst hk2
        have HO2 := HO.kept ((Below.refl _ _).alloc (Nat.le_refl _) (.cells #[.int .i64 2, .int .u64 now, .int .u64 p, .bool ask] 44))
        have HAo := Obj.new wr 44 #[.int .i64 2, .int .u64 now, .int .u64 p, .bool ask]
        go_wp2_with fail
        refine (u_close w _ b L now p HO2 r1 r2 r3 r4).mono ?_
        rintro e w4 ⟨rfl, h4, u4⟩
        have HA4 := HAo.upd u4 hne
        have d0 : w4.cell? ⟨wr.heap.size, 0, none⟩ = some (.int .i64 2) := HA4.cell 0
        have d1 : w4.cell? ⟨wr.heap.size, 1, none⟩ = some (.int .u64 now) := HA4.cell 1
        go_wp2
        go_roundw
        case rel => exact ⟨k + 1, _, by omega, by go_num, h4, HI.out.close _ _⟩
        case measure => simp [intOf]; omega
      by_cases hk3 : kind = 3
      · subst hk3
        have HO2 := HO.kept ((Below.refl _ _).alloc (Nat.le_refl _) (.cells #[.int .i64 3, .int .u64 now, .int .u64 p, .bool ask] 44))
        have HAo := Obj.new wr 44 #[.int .i64 3, .int .u64 now, .int .u64 p, .bool ask]
        go_wp2_with fail
        refine (u_drain w _ b L now p HO2 r1 r2 r3 r4).mono ?_
        rintro e w4 ⟨rfl, h4, u4⟩
        have HA4 := HAo.upd u4 hne
        have d0 : w4.cell? ⟨wr.heap.size, 0, none⟩ = some (.int .i64 3) := HA4.cell 0
        have d1 : w4.cell? ⟨wr.heap.size, 1, none⟩ = some (.int .u64 now) := HA4.cell 1
        go_wp2
        go_roundw
        case rel => exact ⟨k + 1, _, by omega, by go_num, h4, HI.out.drain _ _⟩
        case measure => simp [intOf]; omega
      by_cases hk4 : kind = 4
      · subst hk4
        have HO2 := HO.kept ((Below.refl _ _).alloc (Nat.le_refl _) (.cells #[.int .i64 4, .int .u64 now, .int .u64 p, .bool ask] 44))
        have HAo := Obj.new wr 44 #[.int .i64 4, .int .u64 now, .int .u64 p, .bool ask]
        go_wp2_with fail
        refine (u_arrive w _ b L HO2 hcm).mono ?_
        rintro e w4 ⟨rfl, h4, u4⟩
        have HA4 := HAo.upd u4 hne
        have d0 : w4.cell? ⟨wr.heap.size, 0, none⟩ = some (.int .i64 4) := HA4.cell 0
        have d1 : w4.cell? ⟨wr.heap.size, 1, none⟩ = some (.int .u64 now) := HA4.cell 1
        go_wp2
        go_roundw
        case rel => exact ⟨k + 1, _, by omega, by go_num, h4, HI.out.count⟩
        case measure => simp [intOf]; omega
      by_cases hk5 : kind = 5
      · subst hk5
        have HO2 := HO.kept ((Below.refl _ _).alloc (Nat.le_refl _) (.cells #[.int .i64 5, .int .u64 now, .int .u64 p, .bool ask] 44))
        have HAo := Obj.new wr 44 #[.int .i64 5, .int .u64 now, .int .u64 p, .bool ask]
        by_cases hlate : a1 + 30000 ≤ now
        · have HS := Lib.hid (HI.out.late now p (by omega) hlate)
          go_wp2_with fail
          refine (u_tick w _ b L now p HO2 r1 r2 r3 r4).mono ?_
          rintro e w4 ⟨rfl, h4, u4⟩
          have HA4 := HAo.upd u4 hne
          have d0 : w4.cell? ⟨wr.heap.size, 0, none⟩ = some (.int .i64 5) := HA4.cell 0
          have d1 : w4.cell? ⟨wr.heap.size, 1, none⟩ = some (.int .u64 now) := HA4.cell 1
          go_wp2_with fail
          refine (o_state w _ b _ h4).mono ?_
          rintro e w5 ⟨rfl, rfl⟩
          rw [HS.out]
          go_wp2
          go_roundw
          case rel => exact ⟨k + 1, _, by omega, by go_num, h4, HI.out.tick _ _⟩
          case measure => simp [intOf]; omega
        · have hl2 : now < a1 + 30000 := by omega
          have hl3 : decide (a1 + 30000 ≤ now) = false := by simp; omega
          clear hlate
          go_wp2_with fail
          refine (u_tick w _ b L now p HO2 r1 r2 r3 r4).mono ?_
          rintro e w4 ⟨rfl, h4, u4⟩
          have HA4 := HAo.upd u4 hne
          have d0 : w4.cell? ⟨wr.heap.size, 0, none⟩ = some (.int .i64 5) := HA4.cell 0
          have d1 : w4.cell? ⟨wr.heap.size, 1, none⟩ = some (.int .u64 now) := HA4.cell 1
          go_wp2
          go_roundw
          case rel => exact ⟨k + 1, _, by omega, by go_num, h4, HI.out.tick _ _⟩
          case measure => simp [intOf]; omega
      · have q0 : (kind == 0) = false := by simp [hk0]
        have q1 : (kind == 1) = false := by simp [hk1]
        have q2 : (kind == 2) = false := by simp [hk2]
        have q3 : (kind == 3) = false := by simp [hk3]
        have q4 : (kind == 4) = false := by simp [hk4]
        have q5 : (kind == 5) = false := by simp [hk5]
        clear hk0 hk1 hk2 hk3 hk4 hk5
        have HO2 := HO.kept ((Below.refl _ _).alloc (Nat.le_refl _) (.cells #[.int .i64 kind, .int .u64 now, .int .u64 p, .bool ask] 44))
        have HAo := Obj.new wr 44 #[.int .i64 kind, .int .u64 now, .int .u64 p, .bool ask]
        go_wp2
        go_roundw
        case rel => exact ⟨k + 1, _, by omega, by go_num, HO2, HI.out.more⟩
        case measure => simp [intOf]; omega
    · obtain rfl : k = n4 := by omega
      have HS := Lib.hid (HI.out.late (a1 + 30000) 0 (by omega) (Int.le_refl _))
      clear hlt
      go_wp2_with fail
      refine (o_tick w _ b L (a1 + 30000) 0 HO (by omega) (by omega) (by omega) (by omega)).mono ?_
      rintro e w4 ⟨rfl, h4⟩
      obtain ⟨L', hL'⟩ : ∃ L', Lf.tick L (a1 + 30000) 0 = L' := ⟨_, rfl⟩
      rw [hL'] at h4 HS
      have HL' := Lib.hid hL'
      have R3 : Hid (Lf.drains L' = false) := by unfold Hid Lf.drains; rw [HS.out]; rfl
      have R4 : Hid (Lf.closes L' = false) := by unfold Hid Lf.closes; rw [HS.out]; rfl
      have N3 : Hid (Lf.drain L' (a1 + 30000) 1 = L') := by unfold Hid Lf.drain; rw [if_neg (by rw [HS.out]; decide), if_neg (by rw [HS.out]; decide)]
      have N4 : Hid (Lf.close L' (a1 + 30000) 1 = L') := by unfold Hid Lf.close; rw [if_neg (by rw [HS.out]; decide)]
      clear hL'
      go_wp2_with fail
      refine (o_state w _ b _ h4).mono ?_
      rintro e w5 ⟨rfl, rfl⟩
      rw [HS.out]
      go_wp2_with fail
      refine (o_drain w _ b _ (a1 + 30000) 1 h4 (by omega) (by omega) (by omega) (by omega)).mono ?_
      rintro e w6 ⟨rfl, h6⟩
      rw [R3.out]
      rw [N3.out] at h6
      clear h4
      go_wp2_with fail
      refine (o_close w _ b _ (a1 + 30000) 1 h6 (by omega) (by omega) (by omega) (by omega)).mono ?_
      rintro e w7 ⟨rfl, h7⟩
      rw [R4.out]
      rw [N4.out] at h7
      clear h6
      go_wp2_with fail
      refine (o_state w _ b _ h7).mono ?_
      rintro e w8 ⟨rfl, rfl⟩
      rw [HS.out]
      go_wp2_with fail
      refine (alive_true _).mono ?_
      rintro e w9 ⟨rfl, hb9⟩
      have H9 := Lib.hid (h7.below.trans (hb9.mono h7.below.size))
      clear hb9
      go_wp2
      go_ret
      exact ⟨rfl, H9.out⟩

set_option maxRecDepth 100000 in
set_option maxHeartbeats 8000000 in
theorem lifeEnds_bc (a0 a1 a2 : Int) (A4 : Option Addr) (n4 c4 : Nat) (l4 : List Act) (w : World) (b0 : 0 ≤ a0) (c0 : a0 ≤ 4294967295) (b1 : 0 ≤ a1) (c1 : a1 ≤ 4294967295) (b2 : 0 ≤ a2) (c2 : a2 ≤ 65535) (i4 : Acts w A4 n4 l4) (hsm : n4 ≤ 60) (hp : 10000 < a2) :
    Calls Try.prog 8 #[.int .u32 a0, .int .u32 a1, .int .u16 a2, .bool false, .slice A4 n4 c4] w fun e w' => e = .returned (.bool true) ∧ Below w.heap.size w w' := by
  have hsm' : (n4 : Int) ≤ 60 := by omega
  have ht : Lf.three a2 = 30000 := by unfold Lf.three; omega
  have hf : Tk.add a1 (Lf.three a2) = a1 + 30000 := by rw [ht]; exact add_low _ _ (by omega)
  have R1 := Lib.hid (show Lf.closes (Lf.new a0 0 a1) = true from rfl)
  have E1 : Hid (EI (a1 + 30000) 0 (Lf.close (Lf.new a0 0 a1) a1 a2)) := by unfold Hid; rw [← hf]; exact ⟨.inl rfl, fun _ => rfl, Int.le_refl _⟩
  clear ht hf
  go_enter Try.func8, Try.ntmps8
  go_wp2_with fail
  refine (alive_true _).mono ?_
  rintro e w1 ⟨rfl, hb1⟩
  have HA := Lib.hid hb1
  clear hb1
  go_wp2_with fail
  refine (o_new w _ a0 0 a1 (by omega) (by omega) (by omega) (by omega) (by omega) (by omega) HA.out).mono ?_
  rintro e w2 ⟨b, rfl, h0⟩
  go_wp2_with fail
  refine (o_close w _ b _ a1 a2 h0 (by omega) (by omega) (by omega) (by omega)).mono ?_
  rintro e w3 ⟨rfl, h1⟩
  rw [R1.out]
  clear h0
  go_wp2
  go_loopw [14] (fun i wr => ∃ (k : Nat) (L : Lf.Life), k ≤ n4 ∧ i = .int .i64 k ∧ OwnL w b L wr ∧ Hid (EI (a1 + 30000) k L)) (fun i _ => n4 - (intOf i).toNat)
  case atStart => exact ⟨0, _, by omega, rfl, h1, E1⟩
  case round =>
    obtain ⟨k, L, hk, rfl, HO, HI⟩ := hrel
    clear h1
    by_cases hlt : k < n4
    · obtain ⟨e1, e2, e3⟩ := i4
      obtain ⟨B, off, rfl, hB, hc⟩ := e3 (by omega)
      obtain ⟨r1, r2, r3, r4, r5, r6⟩ := e2 k hlt
      obtain ⟨g0, g1, g2, g3⟩ := (hc k hlt).below hB HO.below
      clear e1 e2 e3 hc
      generalize l4.getD k default = a at *
      obtain ⟨kind, now, p, ask⟩ := a
      dsimp only at r1 r2 r3 r4 r5 r6 g0 g1 g2 g3
      have hne : wr.heap.size ≠ b := by have := HO.1.lt; omega
      have hcm : L.came < 1152921504606846976 := by have := HI.out.2.2; omega
      have HNE := Lib.hid hne
      by_cases hk0 : kind = 0
      · subst hk0
        have HO2 := HO.kept ((Below.refl _ _).alloc (Nat.le_refl _) (.cells #[.int .i64 0, .int .u64 now, .int .u64 p, .bool ask] 44))
        have HAo := Obj.new wr 44 #[.int .i64 0, .int .u64 now, .int .u64 p, .bool ask]
        go_wp2_with fail
        refine (u_came w _ b L now HO2 r1 r2).mono ?_
        rintro e w4 ⟨rfl, h4, u4⟩
        have HA4 := HAo.upd u4 hne
        have d0 : w4.cell? ⟨wr.heap.size, 0, none⟩ = some (.int .i64 0) := HA4.cell 0
        have d1 : w4.cell? ⟨wr.heap.size, 1, none⟩ = some (.int .u64 now) := HA4.cell 1
        go_wp2
        go_roundw
        case rel => exact ⟨k + 1, _, by omega, by go_num, h4, HI.out.came _⟩
        case measure => simp [intOf]; omega
      by_cases hk1 : kind = 1
      · subst hk1
        have HO2 := HO.kept ((Below.refl _ _).alloc (Nat.le_refl _) (.cells #[.int .i64 1, .int .u64 now, .int .u64 p, .bool ask] 44))
        have HAo := Obj.new wr 44 #[.int .i64 1, .int .u64 now, .int .u64 p, .bool ask]
        go_wp2_with fail
        refine (u_sent w _ b L now ask HO2 r1 r2).mono ?_
        rintro e w4 ⟨rfl, h4, u4⟩
        have HA4 := HAo.upd u4 hne
        have d0 : w4.cell? ⟨wr.heap.size, 0, none⟩ = some (.int .i64 1) := HA4.cell 0
        have d1 : w4.cell? ⟨wr.heap.size, 1, none⟩ = some (.int .u64 now) := HA4.cell 1
        go_wp2
        go_roundw
        case rel => exact ⟨k + 1, _, by omega, by go_num, h4, HI.out.sent _ _⟩
        case measure => simp [intOf]; omega
      by_cases hk2 : kind = 2
      · subst hk2
        have HO2 := HO.kept ((Below.refl _ _).alloc (Nat.le_refl _) (.cells #[.int .i64 2, .int .u64 now, .int .u64 p, .bool ask] 44))
        have HAo := Obj.new wr 44 #[.int .i64 2, .int .u64 now, .int .u64 p, .bool ask]
        go_wp2_with fail
        refine (u_close w _ b L now p HO2 r1 r2 r3 r4).mono ?_
        rintro e w4 ⟨rfl, h4, u4⟩
        have HA4 := HAo.upd u4 hne
        have d0 : w4.cell? ⟨wr.heap.size, 0, none⟩ = some (.int .i64 2) := HA4.cell 0
        have d1 : w4.cell? ⟨wr.heap.size, 1, none⟩ = some (.int .u64 now) := HA4.cell 1
        go_wp2
        go_roundw
        case rel => exact ⟨k + 1, _, by omega, by go_num, h4, HI.out.close _ _⟩
        case measure => simp [intOf]; omega
      by_cases hk3 : kind = 3
      · subst hk3
        have HO2 := HO.kept ((Below.refl _ _).alloc (Nat.le_refl _) (.cells #[.int .i64 3, .int .u64 now, .int .u64 p, .bool ask] 44))
        have HAo := Obj.new wr 44 #[.int .i64 3, .int .u64 now, .int .u64 p, .bool ask]
        go_wp2_with fail
        refine (u_drain w _ b L now p HO2 r1 r2 r3 r4).mono ?_
        rintro e w4 ⟨rfl, h4, u4⟩
        have HA4 := HAo.upd u4 hne
        have d0 : w4.cell? ⟨wr.heap.size, 0, none⟩ = some (.int .i64 3) := HA4.cell 0
        have d1 : w4.cell? ⟨wr.heap.size, 1, none⟩ = some (.int .u64 now) := HA4.cell 1
        go_wp2
        go_roundw
        case rel => exact ⟨k + 1, _, by omega, by go_num, h4, HI.out.drain _ _⟩
        case measure => simp [intOf]; omega
      by_cases hk4 : kind = 4
      · subst hk4
        have HO2 := HO.kept ((Below.refl _ _).alloc (Nat.le_refl _) (.cells #[.int .i64 4, .int .u64 now, .int .u64 p, .bool ask] 44))
        have HAo := Obj.new wr 44 #[.int .i64 4, .int .u64 now, .int .u64 p, .bool ask]
        go_wp2_with fail
        refine (u_arrive w _ b L HO2 hcm).mono ?_
        rintro e w4 ⟨rfl, h4, u4⟩
        have HA4 := HAo.upd u4 hne
        have d0 : w4.cell? ⟨wr.heap.size, 0, none⟩ = some (.int .i64 4) := HA4.cell 0
        have d1 : w4.cell? ⟨wr.heap.size, 1, none⟩ = some (.int .u64 now) := HA4.cell 1
        go_wp2
        go_roundw
        case rel => exact ⟨k + 1, _, by omega, by go_num, h4, HI.out.count⟩
        case measure => simp [intOf]; omega
      by_cases hk5 : kind = 5
      · subst hk5
        have HO2 := HO.kept ((Below.refl _ _).alloc (Nat.le_refl _) (.cells #[.int .i64 5, .int .u64 now, .int .u64 p, .bool ask] 44))
        have HAo := Obj.new wr 44 #[.int .i64 5, .int .u64 now, .int .u64 p, .bool ask]
        by_cases hlate : a1 + 30000 ≤ now
        · have HS := Lib.hid (HI.out.late now p (by omega) hlate)
          go_wp2_with fail
          refine (u_tick w _ b L now p HO2 r1 r2 r3 r4).mono ?_
          rintro e w4 ⟨rfl, h4, u4⟩
          have HA4 := HAo.upd u4 hne
          have d0 : w4.cell? ⟨wr.heap.size, 0, none⟩ = some (.int .i64 5) := HA4.cell 0
          have d1 : w4.cell? ⟨wr.heap.size, 1, none⟩ = some (.int .u64 now) := HA4.cell 1
          go_wp2_with fail
          refine (o_state w _ b _ h4).mono ?_
          rintro e w5 ⟨rfl, rfl⟩
          rw [HS.out]
          go_wp2
          go_roundw
          case rel => exact ⟨k + 1, _, by omega, by go_num, h4, HI.out.tick _ _⟩
          case measure => simp [intOf]; omega
        · have hl2 : now < a1 + 30000 := by omega
          have hl3 : decide (a1 + 30000 ≤ now) = false := by simp; omega
          clear hlate
          go_wp2_with fail
          refine (u_tick w _ b L now p HO2 r1 r2 r3 r4).mono ?_
          rintro e w4 ⟨rfl, h4, u4⟩
          have HA4 := HAo.upd u4 hne
          have d0 : w4.cell? ⟨wr.heap.size, 0, none⟩ = some (.int .i64 5) := HA4.cell 0
          have d1 : w4.cell? ⟨wr.heap.size, 1, none⟩ = some (.int .u64 now) := HA4.cell 1
          go_wp2
          go_roundw
          case rel => exact ⟨k + 1, _, by omega, by go_num, h4, HI.out.tick _ _⟩
          case measure => simp [intOf]; omega
      · have q0 : (kind == 0) = false := by simp [hk0]
        have q1 : (kind == 1) = false := by simp [hk1]
        have q2 : (kind == 2) = false := by simp [hk2]
        have q3 : (kind == 3) = false := by simp [hk3]
        have q4 : (kind == 4) = false := by simp [hk4]
        have q5 : (kind == 5) = false := by simp [hk5]
        clear hk0 hk1 hk2 hk3 hk4 hk5
        have HO2 := HO.kept ((Below.refl _ _).alloc (Nat.le_refl _) (.cells #[.int .i64 kind, .int .u64 now, .int .u64 p, .bool ask] 44))
        have HAo := Obj.new wr 44 #[.int .i64 kind, .int .u64 now, .int .u64 p, .bool ask]
        go_wp2
        go_roundw
        case rel => exact ⟨k + 1, _, by omega, by go_num, HO2, HI.out.more⟩
        case measure => simp [intOf]; omega
    · obtain rfl : k = n4 := by omega
      have HS := Lib.hid (HI.out.late (a1 + 30000) 0 (by omega) (Int.le_refl _))
      clear hlt
      go_wp2_with fail
      refine (o_tick w _ b L (a1 + 30000) 0 HO (by omega) (by omega) (by omega) (by omega)).mono ?_
      rintro e w4 ⟨rfl, h4⟩
      obtain ⟨L', hL'⟩ : ∃ L', Lf.tick L (a1 + 30000) 0 = L' := ⟨_, rfl⟩
      rw [hL'] at h4 HS
      have HL' := Lib.hid hL'
      have R3 : Hid (Lf.drains L' = false) := by unfold Hid Lf.drains; rw [HS.out]; rfl
      have R4 : Hid (Lf.closes L' = false) := by unfold Hid Lf.closes; rw [HS.out]; rfl
      have N3 : Hid (Lf.drain L' (a1 + 30000) 1 = L') := by unfold Hid Lf.drain; rw [if_neg (by rw [HS.out]; decide), if_neg (by rw [HS.out]; decide)]
      have N4 : Hid (Lf.close L' (a1 + 30000) 1 = L') := by unfold Hid Lf.close; rw [if_neg (by rw [HS.out]; decide)]
      clear hL'
      go_wp2_with fail
      refine (o_state w _ b _ h4).mono ?_
      rintro e w5 ⟨rfl, rfl⟩
      rw [HS.out]
      go_wp2_with fail
      refine (o_drain w _ b _ (a1 + 30000) 1 h4 (by omega) (by omega) (by omega) (by omega)).mono ?_
      rintro e w6 ⟨rfl, h6⟩
      rw [R3.out]
      rw [N3.out] at h6
      clear h4
      go_wp2_with fail
      refine (o_close w _ b _ (a1 + 30000) 1 h6 (by omega) (by omega) (by omega) (by omega)).mono ?_
      rintro e w7 ⟨rfl, h7⟩
      rw [R4.out]
      rw [N4.out] at h7
      clear h6
      go_wp2_with fail
      refine (o_state w _ b _ h7).mono ?_
      rintro e w8 ⟨rfl, rfl⟩
      rw [HS.out]
      go_wp2_with fail
      refine (alive_true _).mono ?_
      rintro e w9 ⟨rfl, hb9⟩
      have H9 := Lib.hid (h7.below.trans (hb9.mono h7.below.size))
      clear hb9
      go_wp2
      go_ret
      exact ⟨rfl, H9.out⟩

theorem lifeEnds_walk (a0 a1 a2 : Int) (a3 : Bool) (A4 : Option Addr) (n4 c4 : Nat) (l4 : List Act) (w : World) (w0 : (Lit.int .u32 a0).wf = true) (w1 : (Lit.int .u32 a1).wf = true) (w2 : (Lit.int .u16 a2).wf = true) (w4 : Acts w A4 n4 l4) (x4 : n4 ≤ c4 ∧ c4 ≤ maxLen) :
    Calls Try.prog 8 #[.int .u32 a0, .int .u32 a1, .int .u16 a2, .bool a3, .slice A4 n4 c4] w fun e w' => e = .returned (.bool true) ∧ Below w.heap.size w w' := by
  replace w0 := bounds_u32 w0
  replace w1 := bounds_u32 w1
  replace w2 := bounds_u16 w2
  by_cases hsm : n4 ≤ 60
  · cases a3
    · by_cases hp : a2 ≤ 10000
      · exact lifeEnds_tc a0 a1 a2 A4 n4 c4 l4 w w0.1 w0.2 w1.1 w1.2 w2.1 w2.2 w4 hsm hp
      · exact lifeEnds_bc a0 a1 a2 A4 n4 c4 l4 w w0.1 w0.2 w1.1 w1.2 w2.1 w2.2 w4 hsm (by omega)
    · by_cases hp : a2 ≤ 10000
      · exact lifeEnds_td a0 a1 a2 A4 n4 c4 l4 w w0.1 w0.2 w1.1 w1.2 w2.1 w2.2 w4 hsm hp
      · exact lifeEnds_bd a0 a1 a2 A4 n4 c4 l4 w w0.1 w0.2 w1.1 w1.2 w2.1 w2.2 w4 hsm (by omega)
  · have hbig : 60 < (n4 : Int) := by omega
    have hq : decide (60 < (n4 : Int)) = true := by simp; omega
    clear hsm
    go_enter Try.func8, Try.ntmps8
    go_wp2_with fail
    refine (alive_true _).mono ?_
    rintro e w1 ⟨rfl, hb1⟩
    have HA := Lib.hid hb1
    clear hb1
    go_wp2
    go_ret
    exact ⟨rfl, HA.out⟩

end Go.Proofs.Ytckmnjeibikeeaa
