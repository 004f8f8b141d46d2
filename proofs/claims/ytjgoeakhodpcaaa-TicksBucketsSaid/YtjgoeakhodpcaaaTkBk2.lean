/- Layer 11: a bucket at a time, what is taken and left, of the program and of the document. -/
import Derived.Test.YtjgoeakhodpcaaaRows
import Derived.Test.YtjgoeakhodpcaaaPlainTk
import Derived.Test.YtjgoeakhodpcaaaPlainBk
import Derived.Test.YtjgoeakhodpcaaaAid
import Derived.Test.YtjgoeakhodpcaaaTkBk
import Derived.WalkKit
import Derived.WalkSpells
import Derived.WalkLawsBesides
import Derived.Deep.QuietTactic
import Derived.BigQuiet
import Derived.Handy
import Derived.Lib.Hide
import Derived.StillTailTactics
import Derived.Deep.RegionHeld3
namespace Go.Proofs.Ytjgoeakhodpcaaa
open Go.RowKit
set_option linter.unusedVariables false

set_option maxHeartbeats 1000000 in
theorem by_any (b : Bk.Bucket) (now : Int) (w : World) (ho : Bk.ok b) (h0 : 0 ≤ now) (h1 : now ≤ 18446744073709551615) :
    Calls Try.prog 30 #[.agg (bkCells b), .int .u64 now] w fun r w' => r = .returned (.agg (bkCells (Bk.upto b now))) ∧ Below w.heap.size w w' := by
  have hst := fun h => Bk.steps_bound b now ho h
  obtain ⟨size, every, tokens, since⟩ := b
  obtain ⟨s0, s1, e0, e1, t0, t1, a0, a1⟩ := ho
  dsimp only at s0 s1 e0 e1 t0 t1 a0 a1 hst
  unfold bkCells
  dsimp only
  by_cases h : now < since
  · have HK : Hid (Bk.upto ⟨size, every, tokens, since⟩ now = ⟨size, every, tokens, since⟩) := by unfold Hid Bk.upto; rw [if_pos h]
    clear hst
    go_enter Try.func30, Try.ntmps30
    go_wp2
    refine bodyPost_ret (v := .agg #[.int .u64 size, .int .u64 every, .int .u64 tokens, .int .u64 since]) (by simp [results, Try.results30, go_sem]) rfl ⟨by rw [HK.out], ?_⟩
    go_grown
  · have hle : since ≤ now := by omega
    have hz : (every == 0) = false := by simp; omega
    obtain ⟨n0, n1, n2, n3⟩ := hst hle
    unfold Bk.steps at n0 n1 n2 n3
    dsimp only at n0 n1 n2 n3
    by_cases hf : size - tokens ≤ (now - since) / every
    · have HK : Hid (Bk.upto ⟨size, every, tokens, since⟩ now = ⟨size, every, size, now⟩) := by unfold Hid Bk.upto Bk.steps; rw [if_neg h, if_pos hf]
      clear hst h
      go_enter Try.func30, Try.ntmps30
      go_wp2
      refine bodyPost_ret (v := .agg #[.int .u64 size, .int .u64 every, .int .u64 size, .int .u64 now]) (by simp [results, Try.results30, go_sem]) rfl ⟨by rw [HK.out], ?_⟩
      go_grown
    · have HK : Hid (Bk.upto ⟨size, every, tokens, since⟩ now = ⟨size, every, tokens + (now - since) / every, since + (now - since) / every * every⟩) := by unfold Hid Bk.upto Bk.steps; rw [if_neg h, if_neg hf]
      have hf' : (now - since) / every < size - tokens := by omega
      have m1 : tokens + (now - since) / every ≤ 18446744073709551615 := by omega
      have m2 : since + (now - since) / every * every ≤ 18446744073709551615 := by omega
      have m3 : (now - since) / every * every ≤ 18446744073709551615 := by omega
      clear hst h hf
      go_enter Try.func30, Try.ntmps30
      go_wp2
      refine bodyPost_ret (v := .agg #[.int .u64 size, .int .u64 every, .int .u64 (tokens + (now - since) / every), .int .u64 (since + (now - since) / every * every)]) (by simp [results, Try.results30, go_sem]) rfl ⟨by rw [HK.out], ?_⟩
      go_grown

theorem BkAt.facts {w : World} {x : Nat} {b : Bk.Bucket} (h : BkAt w x b) :
    w.cell? ⟨x, 0, none⟩ = some (.int .u64 b.size) ∧ w.cell? ⟨x, 1, none⟩ = some (.int .u64 b.every) ∧ w.cell? ⟨x, 2, none⟩ = some (.int .u64 b.tokens) ∧ w.cell? ⟨x, 3, none⟩ = some (.int .u64 b.since) ∧ (∀ i, w.frozen? ⟨x, i, none⟩ = false) :=
  ⟨h.cell 0, h.cell 1, h.cell 2, h.cell 3, fun i => h.free i⟩
theorem RbAt.facts {w : World} {x : Nat} {b : Bk.Bucket} (h : RbAt w x b) :
    w.cell? ⟨x, 0, none⟩ = some (.int .u64 b.size) ∧ w.cell? ⟨x, 1, none⟩ = some (.int .u64 b.every) ∧ w.cell? ⟨x, 2, none⟩ = some (.int .u64 b.tokens) ∧ w.cell? ⟨x, 3, none⟩ = some (.int .u64 b.since) ∧ (∀ i, w.frozen? ⟨x, i, none⟩ = false) :=
  ⟨h.cell 0, h.cell 1, h.cell 2, h.cell 3, fun i => h.free i⟩

theorem run_tokens (a b c d : Int) (w : World) : (Instr.field 50 (.agg #[.int .u64 a, .int .u64 b, .int .u64 c, .int .u64 d]) 2).run Try.prog w = .ok (.int .u64 c) w := by
  have hu := Try.underlying50
  simp [Instr.field, go_sem, asAgg, hu]
theorem left_any (x : Nat) (b : Bk.Bucket) (now : Int) (w : World) (h : BkAt w x b) (ho : Bk.ok b) (h0 : 0 ≤ now) (h1 : now ≤ 18446744073709551615) :
    Calls Try.prog 22 #[.pointer (some ⟨x, 0, none⟩), .int .u64 now] w fun r w' => r = .returned (.int .u64 (Bk.upto b now).tokens) ∧ Below w.heap.size w w' := by
  obtain ⟨f0, f1, f2, f3, f4⟩ := h.facts
  clear f4
  go_enter Try.func22, Try.ntmps22
  go_wp2_with fail
  refine (by_any b now _ ho h0 h1).mono ?_
  rintro e w1 ⟨rfl, hb⟩
  have HB := Lib.hid hb
  unfold bkCells
  clear hb
  go_wp2
  simp only [run_tokens]
  go_wp2
  go_ret
  exact ⟨rfl, HB.out⟩

set_option maxHeartbeats 1000000 in
theorem take_any (x : Nat) (b : Bk.Bucket) (now : Int) (w : World) (h : BkAt w x b) (ho : Bk.ok b) (h0 : 0 ≤ now) (h1 : now ≤ 18446744073709551615) :
    Calls Try.prog 21 #[.pointer (some ⟨x, 0, none⟩), .int .u64 now] w fun r w' => r = .returned (.bool (Bk.takes b now)) ∧ BkAt w' x (Bk.take b now) ∧ Upd x w w' := by
  obtain ⟨f0, f1, f2, f3, f4⟩ := h.facts
  clear f4
  have hc := Bk.upto_ok b now ho h0 h1
  have HC : Hid (Bk.take b now = Bk.taken (Bk.upto b now)) := rfl
  have HD : Hid (Bk.takes b now = decide ((Bk.upto b now).tokens ≠ 0)) := rfl
  have hby := fun w => by_any b now w ho h0 h1
  generalize Bk.upto b now = c at *
  by_cases hz : c.tokens = 0
  · have HK : Hid (Bk.take b now = c) := by unfold Hid; rw [HC.out]; unfold Bk.taken; rw [if_pos hz]
    have HR : Hid (Bk.takes b now = false) := by unfold Hid; rw [HD.out]; simp [hz]
    have HZ := Lib.hid hz
    clear hz
    go_enter Try.func21, Try.ntmps21
    go_wp2_with fail
    refine (hby _).mono ?_
    rintro e w1 ⟨rfl, hb⟩
    have hx := h.kept hb
    have HU := (Upd.of_below hb x)
    obtain ⟨g0, g1, g2, g3, g4⟩ := BkAt.facts hx
    have z0 := g4 0
    have z1 := g4 1
    have z2 := g4 2
    have z3 := g4 3
    unfold bkCells
    rw [HZ.out]
    clear hb g4
    go_wp2
    go_ret
    rw [HK.out, HR.out]
    exact ⟨rfl, ((((hx.set 0 _).set 1 _).set 2 _).set 3 _).as (by unfold bkCells; rw [HZ.out]; rfl), (((HU.set 0 _).set 1 _).set 2 _).set 3 _⟩
  · have HK : Hid (Bk.take b now = { c with tokens := c.tokens - 1 }) := by unfold Hid; rw [HC.out]; unfold Bk.taken; rw [if_neg hz]
    have HR : Hid (Bk.takes b now = true) := by unfold Hid; rw [HD.out]; simp [hz]
    have hz' : (c.tokens == 0) = false := by simp [hz]
    obtain ⟨_, _, _, _, t0, t1, _, _⟩ := hc
    have t2 : 1 ≤ c.tokens := by omega
    have t3 : c.tokens ≤ 18446744073709551615 := by omega
    clear hz
    go_enter Try.func21, Try.ntmps21
    go_wp2_with fail
    refine (hby _).mono ?_
    rintro e w1 ⟨rfl, hb⟩
    have hx := h.kept hb
    have HU := (Upd.of_below hb x)
    obtain ⟨g0, g1, g2, g3, g4⟩ := BkAt.facts hx
    have z0 := g4 0
    have z1 := g4 1
    have z2 := g4 2
    have z3 := g4 3
    unfold bkCells
    clear hb g4
    go_wp2
    go_ret
    rw [HK.out, HR.out]
    exact ⟨rfl, (((((hx.set 0 _).set 1 _).set 2 _).set 3 _).set 2 _).as rfl, ((((HU.set 0 _).set 1 _).set 2 _).set 3 _).set 2 _⟩

set_option maxHeartbeats 2000000 in
theorem refBy_any (x : Nat) (b : Bk.Bucket) (now : Int) (w : World) (hr : RbAt w x b) (ho : Bk.ok b) (h0 : 0 ≤ now) (h1 : now ≤ 18446744073709551615) :
    Calls Try.prog 23 #[.pointer (some ⟨x, 0, none⟩), .int .u64 now] w fun r w' => r = .returned (.tuple #[]) ∧ RbAt w' x (Bk.upto b now) ∧ Upd x w w' := by
  have hst := fun h => Bk.steps_bound b now ho h
  obtain ⟨size, every, tokens, since⟩ := b
  obtain ⟨s0, s1, e0, e1, t0, t1, a0, a1⟩ := ho
  obtain ⟨f0, f1, f2, f3, f4⟩ := hr.facts
  dsimp only at s0 s1 e0 e1 t0 t1 a0 a1 hst f0 f1 f2 f3
  have z2 := f4 2
  have z3 := f4 3
  clear f4
  by_cases h : now < since
  · have HK : Hid (Bk.upto ⟨size, every, tokens, since⟩ now = ⟨size, every, tokens, since⟩) := by unfold Hid Bk.upto; rw [if_pos h]
    clear hst
    go_enter Try.func23, Try.ntmps23
    go_wp2
    go_returns
    rw [HK.out]
    exact ⟨rfl, hr, Upd.refl _ _⟩
  · have hle : since ≤ now := by omega
    have hz : (every == 0) = false := by simp; omega
    obtain ⟨n0, n1, n2, n3⟩ := hst hle
    unfold Bk.steps at n0 n1 n2 n3
    dsimp only at n0 n1 n2 n3
    by_cases hf : size - tokens ≤ (now - since) / every
    · have HK : Hid (Bk.upto ⟨size, every, tokens, since⟩ now = ⟨size, every, size, now⟩) := by unfold Hid Bk.upto Bk.steps; rw [if_neg h, if_pos hf]
      clear hst h
      go_enter Try.func23, Try.ntmps23
      go_wp2
      go_quiet (fail)
      go_wp2
      go_quiet (fail)
      go_wp2
      go_returns
      rw [HK.out]
      exact ⟨rfl, ((hr.drewN _).set 2 _).set 3 _ |>.as rfl, (((Upd.refl _ _).drewN _).set _ _).set _ _⟩
    · have HK : Hid (Bk.upto ⟨size, every, tokens, since⟩ now = ⟨size, every, tokens + (now - since) / every, since + (now - since) / every * every⟩) := by unfold Hid Bk.upto Bk.steps; rw [if_neg h, if_neg hf]
      have hf' : (now - since) / every < size - tokens := by omega
      have m1 : tokens + (now - since) / every ≤ 18446744073709551615 := by omega
      have m2 : since + (now - since) / every * every ≤ 18446744073709551615 := by omega
      have m3 : (now - since) / every * every ≤ 18446744073709551615 := by omega
      clear hst h hf
      go_enter Try.func23, Try.ntmps23
      go_wp2
      go_quiet (fail)
      go_wp2
      go_quiet (fail)
      go_wp2
      go_region
      go_wp2
      go_returns
      rw [HK.out]
      exact ⟨rfl, ((((hr.drewN _).set 2 _).set 3 _).kept (Below.refl _ _).drew).as rfl, ((((Upd.refl _ _).drewN _).set _ _).set _ _).drew⟩

set_option maxHeartbeats 1000000 in
theorem refTake_any (x : Nat) (b : Bk.Bucket) (now : Int) (w : World) (h : RbAt w x b) (ho : Bk.ok b) (h0 : 0 ≤ now) (h1 : now ≤ 18446744073709551615) :
    Calls Try.prog 24 #[.pointer (some ⟨x, 0, none⟩), .int .u64 now] w fun r w' => r = .returned (.bool (Bk.takes b now)) ∧ RbAt w' x (Bk.take b now) ∧ Upd x w w' := by
  have hc := Bk.upto_ok b now ho h0 h1
  have HC : Hid (Bk.take b now = Bk.taken (Bk.upto b now)) := rfl
  have HD : Hid (Bk.takes b now = decide ((Bk.upto b now).tokens ≠ 0)) := rfl
  have hby := fun w h => refBy_any x b now w h ho h0 h1
  generalize Bk.upto b now = c at *
  by_cases hz : c.tokens = 0
  · have HK : Hid (Bk.take b now = c) := by unfold Hid; rw [HC.out]; unfold Bk.taken; rw [if_pos hz]
    have HR : Hid (Bk.takes b now = false) := by unfold Hid; rw [HD.out]; simp [hz]
    have HZ := Lib.hid hz
    clear hz
    go_enter Try.func24, Try.ntmps24
    go_wp2_with fail
    refine (hby _ h).mono ?_
    rintro e w1 ⟨rfl, hx, HU⟩
    have g2 : w1.cell? ⟨x, 2, none⟩ = some (.int .u64 0) := by rw [← HZ.out]; exact hx.cell 2
    go_wp2
    go_ret
    rw [HK.out, HR.out]
    exact ⟨rfl, hx, HU⟩
  · have HK : Hid (Bk.take b now = { c with tokens := c.tokens - 1 }) := by unfold Hid; rw [HC.out]; unfold Bk.taken; rw [if_neg hz]
    have HR : Hid (Bk.takes b now = true) := by unfold Hid; rw [HD.out]; simp [hz]
    have hz' : (c.tokens == 0) = false := by simp [hz]
    obtain ⟨_, _, _, _, t0, t1, _, _⟩ := hc
    have t2 : 1 ≤ c.tokens := by omega
    have t3 : c.tokens ≤ 18446744073709551615 := by omega
    clear hz
    go_enter Try.func24, Try.ntmps24
    go_wp2_with fail
    refine (hby _ h).mono ?_
    rintro e w1 ⟨rfl, hx, HU⟩
    have g2 : w1.cell? ⟨x, 2, none⟩ = some (.int .u64 c.tokens) := hx.cell 2
    have z2 := hx.free 2
    go_wp2
    go_ret
    rw [HK.out, HR.out]
    exact ⟨rfl, (hx.set 2 _).as rfl, HU.set 2 _⟩

end Go.Proofs.Ytjgoeakhodpcaaa
