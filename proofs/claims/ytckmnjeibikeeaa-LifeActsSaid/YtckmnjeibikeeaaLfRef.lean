/- The walks of layer 19's reference. -/
import Derived.Test.YtckmnjeibikeeaaRows
import Derived.Test.YtckmnjeibikeeaaPlainTk
import Derived.Test.YtckmnjeibikeeaaPlainPw
import Derived.Test.YtckmnjeibikeeaaPlainLf
import Derived.Test.YtckmnjeibikeeaaAid
import Derived.Test.YtckmnjeibikeeaaTicks2
import Derived.Test.YtckmnjeibikeeaaLife
import Derived.WalkKit
import Derived.WalkSpells
import Derived.WalkLawsBesides
import Derived.Deep.QuietTactic
import Derived.BigQuiet
import Derived.Handy
import Derived.Lib.Hide
import Derived.Deep.RegionHeld3
namespace Go.Proofs.Ytckmnjeibikeeaa
open Go.RowKit
set_option linter.unusedVariables false

def RefAt (w : World) (b : Nat) (l : Lf.Life) : Prop := Obj w b 48 (lifeCells l)
theorem RefAt.facts {w : World} {b : Nat} {l : Lf.Life} (h : RefAt w b l) :
    w.cell? ⟨b, 0, none⟩ = some (.int .i64 l.state) ∧ w.cell? ⟨b, 1, none⟩ = some (.int .u64 l.idle) ∧ w.cell? ⟨b, 2, none⟩ = some (.int .u64 l.keep) ∧
    w.cell? ⟨b, 3, none⟩ = some (.int .u64 l.restart) ∧ w.cell? ⟨b, 4, none⟩ = some (.bool l.asked) ∧ w.cell? ⟨b, 5, none⟩ = some (.int .u64 l.fin) ∧
    w.cell? ⟨b, 6, none⟩ = some (.int .u64 l.came) ∧ (∀ i, w.frozen? ⟨b, i, none⟩ = false) :=
  ⟨h.cell 0, h.cell 1, h.cell 2, h.cell 3, h.cell 4, h.cell 5, h.cell 6, fun i => h.free i⟩

theorem rthree_any (p : Int) (w : World) (h : 0 ≤ p) (h1 : p ≤ 18446744073709551615) :
    Calls Try.prog 36 #[.int .u64 p] w fun e w' => e = .returned (.int .u64 (Lf.three p)) ∧ w = w' := by
  by_cases hp : p ≤ 10000
  · have HF : Hid (Lf.three p = p + p + p) := by unfold Hid Lf.three; omega
    go_enter Try.func36, Try.ntmps36
    go_wp2
    go_ret
    exact ⟨(ret_int HF.out).symm, rfl⟩
  · have HF : Hid (Lf.three p = 30000) := by unfold Hid Lf.three; omega
    have hp' : 10000 < p := by omega
    clear hp
    go_enter Try.func36, Try.ntmps36
    go_wp2
    go_ret
    exact ⟨(ret_int HF.out).symm, rfl⟩

theorem rcame_any (b : Nat) (l : Lf.Life) (n : Int) (w : World) (h : RefAt w b l) :
    Calls Try.prog 24 #[.pointer (some ⟨b, 0, none⟩), .int .u64 n] w fun e w' => e = .returned (.tuple #[]) ∧ RefAt w' b (Lf.arrived l n) ∧ Upd b w w' := by
  obtain ⟨f0, f1, f2, f3, f4, f5, f6, f7⟩ := h.facts
  have z0 := f7 0
  have z3 := f7 3
  have z4 := f7 4
  have z5 := f7 5
  have z6 := f7 6
  clear f7
  by_cases hs : l.state = 0
  · have HK : Hid (Lf.arrived l n = { l with restart := n, asked := false }) := by unfold Hid Lf.arrived; rw [if_pos hs]
    rw [hs] at f0
    go_enter Try.func24, Try.ntmps24
    go_wp2
    go_returns
    rw [HK.out]
    exact ⟨rfl, ((h.set 3 _).set 4 _).as rfl, ((Upd.refl _ _).set _ _).set _ _⟩
  · have HK : Hid (Lf.arrived l n = l) := by unfold Hid Lf.arrived; rw [if_neg hs]
    have hs' : (l.state == 0) = false := by simp [hs]
    clear hs
    go_enter Try.func24, Try.ntmps24
    go_wp2
    go_returns
    rw [HK.out]
    exact ⟨rfl, h, Upd.refl _ _⟩

set_option maxHeartbeats 400000 in
theorem rsent_any (b : Nat) (l : Lf.Life) (n : Int) (a : Bool) (w : World) (h : RefAt w b l) :
    Calls Try.prog 25 #[.pointer (some ⟨b, 0, none⟩), .int .u64 n, .bool a] w fun e w' => e = .returned (.tuple #[]) ∧ RefAt w' b (Lf.sent l n a) ∧ Upd b w w' := by
  obtain ⟨f0, f1, f2, f3, f4, f5, f6, f7⟩ := h.facts
  have z0 := f7 0
  have z3 := f7 3
  have z4 := f7 4
  have z5 := f7 5
  have z6 := f7 6
  clear f7
  by_cases hs : l.state = 0
  · rw [hs] at f0
    cases ha : a
    · have HK : Hid (Lf.sent l n false = l) := by unfold Hid Lf.sent; rw [if_neg (by simp)]
      clear ha
      go_enter Try.func25, Try.ntmps25
      go_wp2
      go_returns
      rw [HK.out]
      exact ⟨rfl, h, Upd.refl _ _⟩
    · clear ha
      cases hq : l.asked
      · have HK : Hid (Lf.sent l n true = { l with restart := n, asked := true }) := by unfold Hid Lf.sent; rw [if_pos ⟨hs, rfl, hq⟩]
        rw [hq] at f4
        go_enter Try.func25, Try.ntmps25
        go_wp2
        go_returns
        rw [HK.out]
        exact ⟨rfl, ((h.set 3 _).set 4 _).as rfl, ((Upd.refl _ _).set _ _).set _ _⟩
      · have HK : Hid (Lf.sent l n true = l) := by unfold Hid Lf.sent; rw [if_neg (by simp [hq])]
        rw [hq] at f4
        go_enter Try.func25, Try.ntmps25
        go_wp2
        go_returns
        rw [HK.out]
        exact ⟨rfl, h, Upd.refl _ _⟩
  · have HK : Hid (Lf.sent l n a = l) := by unfold Hid Lf.sent; rw [if_neg (fun h => hs h.1)]
    have hs' : (l.state == 0) = false := by simp [hs]
    clear hs
    go_enter Try.func25, Try.ntmps25
    go_wp2
    go_returns
    rw [HK.out]
    exact ⟨rfl, h, Upd.refl _ _⟩

set_option maxHeartbeats 400000 in
theorem rclose_any (b : Nat) (l : Lf.Life) (n p : Int) (w : World) (h : RefAt w b l) (hn : 0 ≤ n) (hn1 : n ≤ 18446744073709551615) (hp : 0 ≤ p) (hp1 : p ≤ 18446744073709551615) :
    Calls Try.prog 26 #[.pointer (some ⟨b, 0, none⟩), .int .u64 n, .int .u64 p] w fun e w' => e = .returned (.bool (Lf.closes l)) ∧ RefAt w' b (Lf.close l n p) ∧ Upd b w w' := by
  obtain ⟨f0, f1, f2, f3, f4, f5, f6, f7⟩ := h.facts
  have z0 := f7 0
  have z3 := f7 3
  have z4 := f7 4
  have z5 := f7 5
  have z6 := f7 6
  clear f7
  obtain ⟨t0, t1⟩ := Lf.three_bound p hp
  by_cases hs : l.state = 0
  · have HK : Hid (Lf.close l n p = { l with state := 1, fin := Tk.add n (Lf.three p) }) := by unfold Hid Lf.close; rw [if_pos hs]
    have HR : Hid (Lf.closes l = true) := by unfold Hid Lf.closes; simp [hs]
    rw [hs] at f0
    go_enter Try.func26, Try.ntmps26
    go_wp2_with (first | (go_at_call 36; refine (rthree_any p _ hp hp1).mono ?_; rintro e w' ⟨rfl, rfl⟩) | (go_at_call 35; refine (refAdd_any n (Lf.three p) _ hn hn1 t0 (by omega)).mono ?_; rintro e w' ⟨rfl, rfl⟩))
    go_ret
    rw [HK.out, HR.out]
    exact ⟨rfl, ((h.set 0 _).set 5 _).as rfl, ((Upd.refl _ _).set _ _).set _ _⟩
  · have HK : Hid (Lf.close l n p = l) := by unfold Hid Lf.close; rw [if_neg hs]
    have HR : Hid (Lf.closes l = false) := by unfold Hid Lf.closes; simp [hs]
    have hs' : (l.state != 0) = true := by simp [hs]
    clear hs
    go_enter Try.func26, Try.ntmps26
    go_wp2
    go_ret
    rw [HK.out, HR.out]
    exact ⟨rfl, h, Upd.refl _ _⟩

set_option maxHeartbeats 400000 in
theorem rdrain_any (b : Nat) (l : Lf.Life) (n p : Int) (w : World) (h : RefAt w b l) (ho : Lf.ok l) (hn : 0 ≤ n) (hn1 : n ≤ 18446744073709551615) (hp : 0 ≤ p) (hp1 : p ≤ 18446744073709551615) :
    Calls Try.prog 27 #[.pointer (some ⟨b, 0, none⟩), .int .u64 n, .int .u64 p] w fun e w' => e = .returned (.bool (Lf.drains l)) ∧ RefAt w' b (Lf.drain l n p) ∧ Upd b w w' := by
  obtain ⟨f0, f1, f2, f3, f4, f5, f6, f7⟩ := h.facts
  have z0 := f7 0
  have z3 := f7 3
  have z4 := f7 4
  have z5 := f7 5
  have z6 := f7 6
  clear f7
  obtain ⟨t0, t1⟩ := Lf.three_bound p hp
  by_cases hs : l.state = 0
  · have HK : Hid (Lf.drain l n p = { l with state := 2, fin := Tk.add n (Lf.three p) }) := by unfold Hid Lf.drain; rw [if_pos hs]
    have HR : Hid (Lf.drains l = true) := by unfold Hid Lf.drains; simp [hs]
    rw [hs] at f0
    go_enter Try.func27, Try.ntmps27
    go_wp2_with (first | (go_at_call 36; refine (rthree_any p _ hp hp1).mono ?_; rintro e w' ⟨rfl, rfl⟩) | (go_at_call 35; refine (refAdd_any n (Lf.three p) _ hn hn1 t0 (by omega)).mono ?_; rintro e w' ⟨rfl, rfl⟩))
    go_ret
    rw [HK.out, HR.out]
    exact ⟨rfl, ((h.set 5 _).set 0 _).as rfl, ((Upd.refl _ _).set _ _).set _ _⟩
  by_cases hs1 : l.state = 1
  · have HK : Hid (Lf.drain l n p = { l with state := 2 }) := by unfold Hid Lf.drain; rw [if_neg hs, if_pos hs1]
    have HR : Hid (Lf.drains l = true) := by unfold Hid Lf.drains; simp [hs1]
    rw [hs1] at f0
    clear hs
    go_enter Try.func27, Try.ntmps27
    go_wp2
    go_ret
    rw [HK.out, HR.out]
    exact ⟨rfl, (h.set 0 _).as rfl, (Upd.refl _ _).set _ _⟩
  · have HK : Hid (Lf.drain l n p = l) := by unfold Hid Lf.drain; rw [if_neg hs, if_neg hs1]
    have HR : Hid (Lf.drains l = false) := by unfold Hid Lf.drains; simp [hs, hs1]
    have hs' : 2 ≤ l.state := by unfold Lf.ok at ho; omega
    clear hs hs1
    go_enter Try.func27, Try.ntmps27
    go_wp2
    go_ret
    rw [HK.out, HR.out]
    exact ⟨rfl, h, Upd.refl _ _⟩

set_option maxHeartbeats 400000 in
theorem rarrive_any (b : Nat) (l : Lf.Life) (w : World) (h : RefAt w b l) (ho : Lf.ok l) :
    Calls Try.prog 28 #[.pointer (some ⟨b, 0, none⟩)] w fun e w' => e = .returned (.bool (Lf.answers l)) ∧ RefAt w' b (Lf.count l) ∧ Upd b w w' := by
  obtain ⟨f0, f1, f2, f3, f4, f5, f6, f7⟩ := h.facts
  have z0 := f7 0
  have z3 := f7 3
  have z4 := f7 4
  have z5 := f7 5
  have z6 := f7 6
  clear f7
  have hc : 0 ≤ l.came ∧ l.came ≤ 1152921504606846976 := by unfold Lf.ok at ho; omega
  obtain ⟨hc0, hc1⟩ := hc
  by_cases hs : l.state = 1
  · have HK : Hid (Lf.count l = { l with came := l.came + 1 }) := by unfold Hid Lf.count; rw [if_pos hs]
    have HR : Hid (Lf.answers l = Pw.pw (l.came + 1).toNat) := by unfold Hid Lf.answers; simp [hs]
    rw [hs] at f0
    go_enter Try.func28, Try.ntmps28
    go_wp2_with (go_at_call 37; refine (refPower_any _ _ (by omega) (by omega)).mono ?_; rintro e w' ⟨rfl, rfl⟩)
    go_ret
    rw [HK.out, HR.out]
    exact ⟨rfl, (h.set 6 _).as rfl, (Upd.refl _ _).set _ _⟩
  · have HK : Hid (Lf.count l = l) := by unfold Hid Lf.count; rw [if_neg hs]
    have HR : Hid (Lf.answers l = false) := by unfold Hid Lf.answers; simp [hs]
    have hs' : (l.state != 1) = true := by simp [hs]
    clear hs
    go_enter Try.func28, Try.ntmps28
    go_wp2
    go_ret
    rw [HK.out, HR.out]
    exact ⟨rfl, h, Upd.refl _ _⟩

set_option maxHeartbeats 1000000 in
theorem rnext_any (b : Nat) (l : Lf.Life) (p : Int) (w : World) (h : RefAt w b l) (ho : Lf.ok l) (hp : 0 ≤ p) (hp1 : p ≤ 18446744073709551615) :
    Calls Try.prog 31 #[.pointer (some ⟨b, 0, none⟩), .int .u64 p] w fun e w' => e = .returned (.int .u64 (Lf.next l p)) ∧ w = w' := by
  obtain ⟨f0, f1, f2, f3, f4, f5, f6, f7⟩ := h.facts
  have z0 := f7 0
  have z3 := f7 3
  have z4 := f7 4
  have z5 := f7 5
  have z6 := f7 6
  clear f7
  obtain ⟨t0, t1⟩ := Lf.three_bound p hp
  obtain ⟨hst, o1, o2, o3, o4, o5, o6, o7, o8, o9, o10⟩ := ho
  by_cases hs : l.state = 0
  · rw [hs] at f0
    by_cases hi : l.idle = 0
    · have HK : Hid (Lf.next l p = 18446744073709551615) := by unfold Hid Lf.next; rw [if_pos hs, if_neg (by omega)]; rfl
      rw [hi] at f1
      clear hst
      go_enter Try.func31, Try.ntmps31
      go_wp2
      go_ret
      exact ⟨(ret_int HK.out).symm, rfl⟩
    · have hi' : (l.idle == 0) = false := by simp [hi]
      have hi2 : 0 < l.idle := by omega
      clear hst hi
      by_cases hm : l.idle < Lf.three p
      · have HK : Hid (Lf.next l p = Tk.add l.restart (Lf.three p)) := by unfold Hid Lf.next; rw [if_pos hs, if_pos hi2, show max l.idle (Lf.three p) = Lf.three p by omega]
        go_enter Try.func31, Try.ntmps31
        go_wp2_with (first | (go_at_call 36; refine (rthree_any p _ hp hp1).mono ?_; rintro e w' ⟨rfl, rfl⟩) | (go_at_call 35; refine (refAdd_any l.restart (Lf.three p) _ o5 o6 t0 (by omega)).mono ?_; rintro e w' ⟨rfl, rfl⟩))
        go_ret
        exact ⟨(ret_int HK.out).symm, rfl⟩
      · have HK : Hid (Lf.next l p = Tk.add l.restart l.idle) := by unfold Hid Lf.next; rw [if_pos hs, if_pos hi2, show max l.idle (Lf.three p) = l.idle by omega]
        have hm2 : Lf.three p ≤ l.idle := by omega
        clear hm
        go_enter Try.func31, Try.ntmps31
        go_wp2_with (first | (go_at_call 36; refine (rthree_any p _ hp hp1).mono ?_; rintro e w' ⟨rfl, rfl⟩) | (go_at_call 35; refine (refAdd_any l.restart l.idle _ o5 o6 o1 o2).mono ?_; rintro e w' ⟨rfl, rfl⟩))
        go_ret
        exact ⟨(ret_int HK.out).symm, rfl⟩
  by_cases hs3 : l.state = 3
  · have HK : Hid (Lf.next l p = 18446744073709551615) := by unfold Hid Lf.next; rw [if_neg hs, if_pos hs3]; rfl
    rw [hs3] at f0
    clear hs hst
    go_enter Try.func31, Try.ntmps31
    go_wp2
    go_ret
    exact ⟨(ret_int HK.out).symm, rfl⟩
  · have HK : Hid (Lf.next l p = l.fin) := by unfold Hid Lf.next; rw [if_neg hs, if_neg hs3]
    have hs' : (l.state == 0) = false := by simp [hs]
    have hs3' : (l.state == 3) = false := by simp [hs3]
    have hs4 : 0 < l.state := by omega
    clear hs hs3 hst
    go_enter Try.func31, Try.ntmps31
    go_wp2
    go_ret
    exact ⟨(ret_int HK.out).symm, rfl⟩

set_option maxHeartbeats 1000000 in
theorem rkeepAt_any (b : Nat) (l : Lf.Life) (w : World) (h : RefAt w b l) (ho : Lf.ok l) :
    Calls Try.prog 30 #[.pointer (some ⟨b, 0, none⟩)] w fun e w' => e = .returned (.int .u64 (Lf.keepAt l)) ∧ ∃ q, w' = w.drewN q := by
  obtain ⟨f0, f1, f2, f3, f4, f5, f6, f7⟩ := h.facts
  clear f7
  obtain ⟨hst, o1, o2, o3, o4, o5, o6, o7, o8, o9, o10⟩ := ho
  clear hst
  by_cases hs : l.state = 0
  · rw [hs] at f0
    by_cases hk : l.keep = 0
    · have HK : Hid (Lf.keepAt l = 18446744073709551615) := by unfold Hid Lf.keepAt; rw [if_pos (.inr (.inl hk))]; rfl
      rw [hk] at f2
      go_enter Try.func30, Try.ntmps30
      go_wp2
      go_ret
      exact ⟨(ret_int HK.out).symm, 0, rfl⟩
    · have hk' : (l.keep == 0) = false := by simp [hk]
      cases ha : l.asked
      · have HK : Hid (Lf.keepAt l = Tk.add l.restart l.keep) := by unfold Hid Lf.keepAt; rw [if_neg (by simp [hs, hk, ha])]
        rw [ha] at f4
        clear hk
        go_enter Try.func30, Try.ntmps30
        go_wp2
        go_quiet ((go_at_call 35; exact quiet1 (refAdd_any _ _ _ (by omega) (by omega) (by omega) (by omega))))
        go_wp2
        go_ret
        exact ⟨(ret_int HK.out).symm, nq, rfl⟩
      · have HK : Hid (Lf.keepAt l = 18446744073709551615) := by unfold Hid Lf.keepAt; rw [if_pos (.inr (.inr ha))]; rfl
        rw [ha] at f4
        clear hk
        go_enter Try.func30, Try.ntmps30
        go_wp2
        go_ret
        exact ⟨(ret_int HK.out).symm, 0, rfl⟩
  · have HK : Hid (Lf.keepAt l = 18446744073709551615) := by unfold Hid Lf.keepAt; rw [if_pos (.inl hs)]; rfl
    have hs' : (l.state != 0) = true := by simp [hs]
    clear hs
    go_enter Try.func30, Try.ntmps30
    go_wp2
    go_ret
    exact ⟨(ret_int HK.out).symm, 0, rfl⟩

set_option maxHeartbeats 400000 in
theorem rtick_any (b : Nat) (l : Lf.Life) (n p : Int) (w : World) (h : RefAt w b l) (ho : Lf.ok l) (hn : 0 ≤ n) (hn1 : n ≤ 18446744073709551615) (hp : 0 ≤ p) (hp1 : p ≤ 18446744073709551615) :
    Calls Try.prog 29 #[.pointer (some ⟨b, 0, none⟩), .int .u64 n, .int .u64 p] w fun e w' => e = .returned (.bool (Lf.ticks l n p)) ∧ RefAt w' b (Lf.tick l n p) ∧ Upd b w w' := by
  obtain ⟨f0, f1, f2, f3, f4, f5, f6, f7⟩ := h.facts
  have z0 := f7 0
  have z3 := f7 3
  have z4 := f7 4
  have z5 := f7 5
  have z6 := f7 6
  clear f7
  have HK : Hid (Lf.ticks l n p = (decide (Lf.next l p ≠ 18446744073709551615) && decide (Lf.next l p ≤ n))) := rfl
  by_cases hk : Lf.next l p = 18446744073709551615
  · have HR : Hid (Lf.ticks l n p = false) := by unfold Hid; rw [HK.out]; simp [hk]
    have HT : Hid (Lf.tick l n p = l) := by unfold Hid Lf.tick; rw [HR.out]; rfl
    go_enter Try.func29, Try.ntmps29
    go_wp2_with fail
    refine (rnext_any b l p _ h ho hp hp1).mono ?_
    rintro e w1 ⟨rfl, rfl⟩
    rw [hk]
    go_wp2
    go_ret
    rw [HR.out, HT.out]
    exact ⟨rfl, h, Upd.refl _ _⟩
  · have hk' : (Lf.next l p == 18446744073709551615) = false := by simp [hk]
    obtain ⟨x, hx⟩ : ∃ x, Lf.next l p = x := ⟨_, rfl⟩
    rw [hx] at hk hk' HK
    have HX := Lib.hid hx
    clear hx
    by_cases hl : x ≤ n
    · have HR : Hid (Lf.ticks l n p = true) := by unfold Hid; rw [HK.out]; simp [hk, hl]
      have HT : Hid (Lf.tick l n p = Lf.ended l) := by unfold Hid Lf.tick; rw [HR.out]; rfl
      clear hk
      go_enter Try.func29, Try.ntmps29
      go_wp2_with fail
      refine (rnext_any b l p _ h ho hp hp1).mono ?_
      rintro e w1 ⟨rfl, rfl⟩
      rw [HX.out]
      go_wp2
      go_ret
      rw [HR.out, HT.out]
      exact ⟨rfl, (h.set 0 _).as rfl, (Upd.refl _ _).set _ _⟩
    · have HR : Hid (Lf.ticks l n p = false) := by unfold Hid; rw [HK.out]; simp [hl]
      have HT : Hid (Lf.tick l n p = l) := by unfold Hid Lf.tick; rw [HR.out]; rfl
      have hl' : n < x := by omega
      clear hk hl
      go_enter Try.func29, Try.ntmps29
      go_wp2_with fail
      refine (rnext_any b l p _ h ho hp hp1).mono ?_
      rintro e w1 ⟨rfl, rfl⟩
      rw [HX.out]
      go_wp2
      go_ret
      rw [HR.out, HT.out]
      exact ⟨rfl, h, Upd.refl _ _⟩

end Go.Proofs.Ytckmnjeibikeeaa
