/- More walks of layer 19's functions: for every life, every argument and every world. -/
import Derived.Test.YtckmnjeibikeeaaRows
import Derived.Test.YtckmnjeibikeeaaPlainTk
import Derived.Test.YtckmnjeibikeeaaPlainPw
import Derived.Test.YtckmnjeibikeeaaPlainLf
import Derived.Test.YtckmnjeibikeeaaAid
import Derived.Test.YtckmnjeibikeeaaTicks2
import Derived.Test.YtckmnjeibikeeaaLife
import Derived.WalkKit
import Derived.WalkSpells
import Derived.WalkLawsBesides
import Derived.Deep.QuietTactic
import Derived.BigQuiet
import Derived.Handy
import Derived.Lib.Hide
import Derived.Deep.RegionHeld3
namespace Go.Proofs.Ytckmnjeibikeeaa
open Go.RowKit
set_option linter.unusedVariables false

theorem of_drew {w w' : World} (h : Below w.drew.heap.size w.drew w') : Below w.heap.size w w' := ⟨h.os, h.tape, h.output, h.size, h.block⟩

set_option maxHeartbeats 400000 in
theorem drain_any (b : Nat) (l : Lf.Life) (n p : Int) (w : World) (h : LifeAt w b l) (hn : 0 ≤ n) (hn1 : n ≤ 18446744073709551615) (hp : 0 ≤ p) (hp1 : p ≤ 18446744073709551615) :
    Calls Try.prog 22 #[.pointer (some ⟨b, 0, none⟩), .int .u64 n, .int .u64 p] w fun e w' => e = .returned (.bool (Lf.drains l)) ∧ LifeAt w' b (Lf.drain l n p) ∧ Upd b w w' := by
  obtain ⟨f0, f1, f2, f3, f4, f5, f6, f7⟩ := h.facts
  have z0 := f7 0
  have z5 := f7 5
  have z6 := f7 6
  clear f7
  have t := Lf.three_bound p hp
  by_cases hs : l.state = 0
  · have HK : Hid (Lf.drain l n p = { l with state := 2, fin := Tk.add n (Lf.three p) }) := by unfold Hid Lf.drain; rw [if_pos hs]
    have HR : Hid (Lf.drains l = true) := by unfold Hid Lf.drains; simp [hs]
    rw [hs] at f0
    go_enter Try.func22, Try.ntmps22
    go_wp2_with (first | (go_at_call 15; refine (state_any b l _ h).mono ?_; rintro e w' ⟨rfl, rfl⟩; rw [hs]) | (go_at_call 33; refine (lthree_any p _ hp hp1).mono ?_; rintro e w' ⟨rfl, rfl⟩))
    refine (add_any n (Lf.three p) _ hn hn1 t.1 (by omega)).mono ?_
    rintro e w1 ⟨rfl, hb⟩
    have h1 : LifeAt w1 b l := h.kept hb
    have u1 := Upd.of_below hb b
    obtain ⟨g0, g1, g2, g3, g4, g5, g6, g7⟩ := h1.facts
    have y0 := g7 0
    have y5 := g7 5
    clear g7 hb f0 f1 f2 f3 f4 f5 f6 z0 z5 z6
    go_wp2
    go_ret
    rw [HK.out, HR.out]
    exact ⟨rfl, ((h1.set 5 _).set 0 _).as rfl, (u1.set _ _).set _ _⟩
  by_cases hs1 : l.state = 1
  · have HK : Hid (Lf.drain l n p = { l with state := 2 }) := by unfold Hid Lf.drain; rw [if_neg hs, if_pos hs1]
    have HR : Hid (Lf.drains l = true) := by unfold Hid Lf.drains; simp [hs1]
    rw [hs1] at f0
    clear hs
    go_enter Try.func22, Try.ntmps22
    go_wp2
    go_ret
    rw [HK.out, HR.out]
    exact ⟨rfl, (h.set 0 _).as rfl, (Upd.refl _ _).set _ _⟩
  · have HK : Hid (Lf.drain l n p = l) := by unfold Hid Lf.drain; rw [if_neg hs, if_neg hs1]
    have HR : Hid (Lf.drains l = false) := by unfold Hid Lf.drains; simp [hs, hs1]
    have hs' : (l.state == 0) = false := by simp [hs]
    have hs1' : (l.state == 1) = false := by simp [hs1]
    clear hs hs1
    go_enter Try.func22, Try.ntmps22
    go_wp2
    go_ret
    rw [HK.out, HR.out]
    exact ⟨rfl, h, Upd.refl _ _⟩

set_option maxHeartbeats 400000 in
theorem arrive_any (b : Nat) (l : Lf.Life) (w : World) (h : LifeAt w b l) (ho : Lf.ok l) :
    Calls Try.prog 21 #[.pointer (some ⟨b, 0, none⟩)] w fun e w' => e = .returned (.bool (Lf.answers l)) ∧ LifeAt w' b (Lf.count l) ∧ Upd b w w' := by
  obtain ⟨f0, f1, f2, f3, f4, f5, f6, f7⟩ := h.facts
  have z0 := f7 0
  have z5 := f7 5
  have z6 := f7 6
  clear f7
  have hc : 0 ≤ l.came ∧ l.came ≤ 1152921504606846976 := by unfold Lf.ok at ho; omega
  obtain ⟨hc0, hc1⟩ := hc
  by_cases hs : l.state = 1
  · have HK : Hid (Lf.count l = { l with came := l.came + 1 }) := by unfold Hid Lf.count; rw [if_pos hs]
    have HR : Hid (Lf.answers l = Pw.pw (l.came + 1).toNat) := by unfold Hid Lf.answers; simp [hs]
    rw [hs] at f0
    go_enter Try.func21, Try.ntmps21
    go_wp2_with (first | (go_at_call 15; refine (state_any b l _ h).mono ?_; rintro e w' ⟨rfl, rfl⟩; rw [hs]) | (go_at_call 34; refine (power_any _ _ (by omega) (by omega)).mono ?_; rintro e w' ⟨rfl, rfl⟩))
    go_ret
    rw [HK.out, HR.out]
    exact ⟨rfl, (h.set 6 _).as rfl, (Upd.refl _ _).set _ _⟩
  · have HK : Hid (Lf.count l = l) := by unfold Hid Lf.count; rw [if_neg hs]
    have HR : Hid (Lf.answers l = false) := by unfold Hid Lf.answers; simp [hs]
    have hs' : (l.state != 1) = true := by simp [hs]
    clear hs
    go_enter Try.func21, Try.ntmps21
    go_wp2
    go_ret
    rw [HK.out, HR.out]
    exact ⟨rfl, h, Upd.refl _ _⟩

theorem end_any (b : Nat) (l : Lf.Life) (w : World) (h : LifeAt w b l) :
    Calls Try.prog 16 #[.pointer (some ⟨b, 0, none⟩)] w fun e w' => e = .returned (.bool (Lf.ends l)) ∧ LifeAt w' b (Lf.ended l) ∧ Upd b w w' := by
  obtain ⟨f0, f1, f2, f3, f4, f5, f6, f7⟩ := h.facts
  have z0 := f7 0
  have z5 := f7 5
  have z6 := f7 6
  clear f7
  by_cases hs : l.state = 3
  · have HK : Hid (Lf.ended l = l) := by unfold Hid Lf.ended; rw [← hs]
    have HR : Hid (Lf.ends l = false) := by unfold Hid Lf.ends; simp [hs]
    rw [hs] at f0
    go_enter Try.func16, Try.ntmps16
    go_wp2
    go_ret
    rw [HK.out, HR.out]
    exact ⟨rfl, h, Upd.refl _ _⟩
  · have HR : Hid (Lf.ends l = true) := by unfold Hid Lf.ends; simp [hs]
    have hs' : (l.state == 3) = false := by simp [hs]
    clear hs
    go_enter Try.func16, Try.ntmps16
    go_wp2
    go_ret
    rw [HR.out]
    exact ⟨rfl, (h.set 0 _).as rfl, (Upd.refl _ _).set _ _⟩

set_option maxHeartbeats 1000000 in
theorem next_any (b : Nat) (l : Lf.Life) (p : Int) (w : World) (h : LifeAt w b l) (ho : Lf.ok l) (hp : 0 ≤ p) (hp1 : p ≤ 18446744073709551615) :
    Calls Try.prog 14 #[.pointer (some ⟨b, 0, none⟩), .int .u64 p] w fun e w' => e = .returned (.int .u64 (Lf.next l p)) ∧ Below w.heap.size w w' := by
  have hL := h.lt
  obtain ⟨f0, f1, f2, f3, f4, f5, f6, f7⟩ := h.facts
  have z0 := f7 0
  have z5 := f7 5
  have z6 := f7 6
  clear f7
  have t := Lf.three_bound p hp
  obtain ⟨hst, o1, o2, o3, o4, o5, o6, o7, o8, o9, o10⟩ := ho
  by_cases hs : l.state = 0
  · rw [hs] at f0
    by_cases hi : 0 < l.idle
    · obtain ⟨t0, t1⟩ := t
      clear hst
      by_cases hm : l.idle < Lf.three p
      · have HK : Hid (Lf.next l p = Tk.add l.restart (Lf.three p)) := by unfold Hid Lf.next; rw [if_pos hs, if_pos hi, show max l.idle (Lf.three p) = (Lf.three p) by omega]
        go_enter Try.func14, Try.ntmps14
        go_wp2
        go_region_held3 (fun w' => w'.cell? ⟨b, 3, none⟩ = some (.int .u64 l.restart) ∧ w'.cell? ⟨b, 1, none⟩ = some (.int .u64 l.idle)) (first | assumption | (exact ⟨f3, f1⟩) | (exact ⟨(hb.cell (p := ⟨b, 3, none⟩) hL).trans f3, (hb.cell (p := ⟨b, 1, none⟩) hL).trans f1⟩))
          (first | (go_at_call 33; refine (lthree_any p _ hp hp1).mono ?_; rintro e w' ⟨rfl, rfl⟩) | (go_at_call 32; refine (add_any _ _ _ (by omega) (by omega) (by omega) (by omega)).mono ?_; rintro e w' ⟨rfl, hb⟩))
        go_wp2
        go_ret
        exact ⟨(ret_int HK.out).symm, of_drew hb⟩
      · have HK : Hid (Lf.next l p = Tk.add l.restart l.idle) := by unfold Hid Lf.next; rw [if_pos hs, if_pos hi, show max l.idle (Lf.three p) = l.idle by omega]
        have hm2 : Lf.three p ≤ l.idle := by omega
        clear hm
        go_enter Try.func14, Try.ntmps14
        go_wp2
        go_region_held3 (fun w' => w'.cell? ⟨b, 3, none⟩ = some (.int .u64 l.restart) ∧ w'.cell? ⟨b, 1, none⟩ = some (.int .u64 l.idle)) (first | assumption | (exact ⟨f3, f1⟩) | (exact ⟨(hb.cell (p := ⟨b, 3, none⟩) hL).trans f3, (hb.cell (p := ⟨b, 1, none⟩) hL).trans f1⟩))
          (first | (go_at_call 33; refine (lthree_any p _ hp hp1).mono ?_; rintro e w' ⟨rfl, rfl⟩) | (go_at_call 32; refine (add_any _ _ _ (by omega) (by omega) (by omega) (by omega)).mono ?_; rintro e w' ⟨rfl, hb⟩))
        go_wp2
        go_ret
        exact ⟨(ret_int HK.out).symm, of_drew hb⟩
    · have HK : Hid (Lf.next l p = 18446744073709551615) := by unfold Hid Lf.next; rw [if_pos hs, if_neg hi]; rfl
      obtain hz : l.idle = 0 := by omega
      rw [hz] at f1
      clear hi hst
      go_enter Try.func14, Try.ntmps14
      go_wp2
      go_ret
      exact ⟨(ret_int HK.out).symm, Below.refl _ _⟩
  by_cases hs3 : l.state = 3
  · have HK : Hid (Lf.next l p = 18446744073709551615) := by unfold Hid Lf.next; rw [if_neg hs, if_pos hs3]; rfl
    rw [hs3] at f0
    clear hs hst
    go_enter Try.func14, Try.ntmps14
    go_wp2
    go_ret
    exact ⟨(ret_int HK.out).symm, Below.refl _ _⟩
  · have HK : Hid (Lf.next l p = l.fin) := by unfold Hid Lf.next; rw [if_neg hs, if_neg hs3]
    have hs' : (l.state == 0) = false := by simp [hs]
    have hs3' : (l.state == 3) = false := by simp [hs3]
    clear hs hs3 hst
    go_enter Try.func14, Try.ntmps14
    go_wp2
    go_ret
    exact ⟨(ret_int HK.out).symm, Below.refl _ _⟩

set_option maxHeartbeats 1000000 in
theorem keepAt_any (b : Nat) (l : Lf.Life) (w : World) (h : LifeAt w b l) (ho : Lf.ok l) :
    Calls Try.prog 18 #[.pointer (some ⟨b, 0, none⟩)] w fun e w' => e = .returned (.int .u64 (Lf.keepAt l)) ∧ Below w.heap.size w w' := by
  have hL := h.lt
  obtain ⟨f0, f1, f2, f3, f4, f5, f6, f7⟩ := h.facts
  clear f7
  obtain ⟨hst, o1, o2, o3, o4, o5, o6, o7, o8, o9, o10⟩ := ho
  clear hst
  by_cases hs : l.state = 0
  · rw [hs] at f0
    by_cases hk : l.keep = 0
    · have HK : Hid (Lf.keepAt l = 18446744073709551615) := by unfold Hid Lf.keepAt; rw [if_pos (.inr (.inl hk))]; rfl
      rw [hk] at f2
      go_enter Try.func18, Try.ntmps18
      go_wp2
      go_ret
      exact ⟨(ret_int HK.out).symm, Below.refl _ _⟩
    · have hk' : (l.keep == 0) = false := by simp [hk]
      cases ha : l.asked
      · have HK : Hid (Lf.keepAt l = Tk.add l.restart l.keep) := by unfold Hid Lf.keepAt; rw [if_neg (by simp [hs, hk, ha])]
        rw [ha] at f4
        clear hk
        go_enter Try.func18, Try.ntmps18
        go_wp2
        go_region_held3 (fun w' => w'.cell? ⟨b, 3, none⟩ = some (.int .u64 l.restart) ∧ w'.cell? ⟨b, 2, none⟩ = some (.int .u64 l.keep)) (first | assumption | (exact ⟨f3, f2⟩) | (exact ⟨(hb.cell (p := ⟨b, 3, none⟩) hL).trans f3, (hb.cell (p := ⟨b, 2, none⟩) hL).trans f2⟩))
          (first | (go_at_call 32; refine (add_any _ _ _ (by omega) (by omega) (by omega) (by omega)).mono ?_; rintro e w' ⟨rfl, hb⟩))
        go_wp2
        go_ret
        exact ⟨(ret_int HK.out).symm, of_drew hb⟩
      · have HK : Hid (Lf.keepAt l = 18446744073709551615) := by unfold Hid Lf.keepAt; rw [if_pos (.inr (.inr ha))]; rfl
        rw [ha] at f4
        clear hk
        go_enter Try.func18, Try.ntmps18
        go_wp2
        go_ret
        exact ⟨(ret_int HK.out).symm, Below.refl _ _⟩
  · have HK : Hid (Lf.keepAt l = 18446744073709551615) := by unfold Hid Lf.keepAt; rw [if_pos (.inl hs)]; rfl
    have hs' : (l.state != 0) = true := by simp [hs]
    clear hs
    go_enter Try.func18, Try.ntmps18
    go_wp2
    go_ret
    exact ⟨(ret_int HK.out).symm, Below.refl _ _⟩

theorem keep_any (b : Nat) (l : Lf.Life) (n : Int) (w : World) (h : LifeAt w b l) (ho : Lf.ok l) (hn : 0 ≤ n) (hn1 : n ≤ 18446744073709551615) :
    Calls Try.prog 19 #[.pointer (some ⟨b, 0, none⟩), .int .u64 n] w fun e w' => e = .returned (.bool (Lf.keeps l n)) ∧ Below w.heap.size w w' := by
  have HK : Hid (Lf.keeps l n = (decide (Lf.keepAt l ≠ 18446744073709551615) && decide (Lf.keepAt l ≤ n))) := rfl
  by_cases hk : Lf.keepAt l = 18446744073709551615
  · have HR : Hid (Lf.keeps l n = false) := by unfold Hid; rw [HK.out]; simp [hk]
    go_enter Try.func19, Try.ntmps19
    go_wp2_with fail
    refine (keepAt_any b l _ h ho).mono ?_
    rintro e w1 ⟨rfl, hb⟩
    rw [hk]
    go_wp2
    go_ret
    rw [HR.out]
    exact ⟨rfl, hb⟩
  · have hk' : (Lf.keepAt l != 18446744073709551615) = true := by simp [hk]
    have HR : Hid (Lf.keeps l n = decide (Lf.keepAt l ≤ n)) := by unfold Hid; rw [HK.out]; simp [hk]
    obtain ⟨x, hx⟩ : ∃ x, Lf.keepAt l = x := ⟨_, rfl⟩
    rw [hx] at hk' HR
    have HX := Lib.hid hx
    clear hk hx
    go_enter Try.func19, Try.ntmps19
    go_wp2_with fail
    refine (keepAt_any b l _ h ho).mono ?_
    rintro e w1 ⟨rfl, hb⟩
    rw [HX.out]
    go_wp2
    go_ret
    rw [HR.out]
    exact ⟨rfl, hb⟩

set_option maxHeartbeats 400000 in
theorem tick_any (b : Nat) (l : Lf.Life) (n p : Int) (w : World) (h : LifeAt w b l) (ho : Lf.ok l) (hn : 0 ≤ n) (hn1 : n ≤ 18446744073709551615) (hp : 0 ≤ p) (hp1 : p ≤ 18446744073709551615) :
    Calls Try.prog 13 #[.pointer (some ⟨b, 0, none⟩), .int .u64 n, .int .u64 p] w fun e w' => e = .returned (.bool (Lf.ticks l n p)) ∧ LifeAt w' b (Lf.tick l n p) ∧ Upd b w w' := by
  have HK : Hid (Lf.ticks l n p = (decide (Lf.next l p ≠ 18446744073709551615) && decide (Lf.next l p ≤ n))) := rfl
  by_cases hk : Lf.next l p = 18446744073709551615
  · have HR : Hid (Lf.ticks l n p = false) := by unfold Hid; rw [HK.out]; simp [hk]
    have HT : Hid (Lf.tick l n p = l) := by unfold Hid Lf.tick; rw [HR.out]; rfl
    go_enter Try.func13, Try.ntmps13
    go_wp2_with fail
    refine (next_any b l p _ h ho hp hp1).mono ?_
    rintro e w1 ⟨rfl, hb⟩
    rw [hk]
    go_wp2
    go_ret
    rw [HR.out, HT.out]
    exact ⟨rfl, h.kept hb, Upd.of_below hb b⟩
  · have hk' : (Lf.next l p != 18446744073709551615) = true := by simp [hk]
    have hE : Hid (Lf.ends l = true) := by
      unfold Hid Lf.ends
      have : l.state ≠ 3 := fun h3 => hk (by unfold Lf.next; rw [if_neg (by omega), if_pos h3]; rfl)
      simp [this]
    obtain ⟨x, hx⟩ : ∃ x, Lf.next l p = x := ⟨_, rfl⟩
    rw [hx] at hk hk' HK
    have HX := Lib.hid hx
    clear hx
    by_cases hl : x ≤ n
    · have HR : Hid (Lf.ticks l n p = true) := by unfold Hid; rw [HK.out]; simp [hk, hl]
      have HT : Hid (Lf.tick l n p = Lf.ended l) := by unfold Hid Lf.tick; rw [HR.out]; rfl
      clear hk
      go_enter Try.func13, Try.ntmps13
      go_wp2_with fail
      refine (next_any b l p _ h ho hp hp1).mono ?_
      rintro e w1 ⟨rfl, hb⟩
      rw [HX.out]
      go_wp2_with fail
      refine (end_any b l _ (h.kept hb)).mono ?_
      rintro e w2 ⟨rfl, h2, u2⟩
      rw [hE.out]
      go_wp2
      go_ret
      rw [HR.out, HT.out]
      exact ⟨rfl, h2, (Upd.of_below hb b).trans u2⟩
    · have HR : Hid (Lf.ticks l n p = false) := by unfold Hid; rw [HK.out]; simp [hl]
      have HT : Hid (Lf.tick l n p = l) := by unfold Hid Lf.tick; rw [HR.out]; rfl
      have hl' : n < x := by omega
      clear hk hl
      go_enter Try.func13, Try.ntmps13
      go_wp2_with fail
      refine (next_any b l p _ h ho hp hp1).mono ?_
      rintro e w1 ⟨rfl, hb⟩
      rw [HX.out]
      go_wp2
      go_ret
      rw [HR.out, HT.out]
      exact ⟨rfl, h.kept hb, Upd.of_below hb b⟩

end Go.Proofs.Ytckmnjeibikeeaa
