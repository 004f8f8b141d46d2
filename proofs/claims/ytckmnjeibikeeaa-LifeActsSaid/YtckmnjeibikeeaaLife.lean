/- The walks of layer 19's functions: for every life, every argument and every world. -/
import Derived.Test.YtckmnjeibikeeaaRows
import Derived.Test.YtckmnjeibikeeaaPlainTk
import Derived.Test.YtckmnjeibikeeaaPlainPw
import Derived.Test.YtckmnjeibikeeaaPlainLf
import Derived.Test.YtckmnjeibikeeaaAid
import Derived.Test.YtckmnjeibikeeaaTicks2
import Derived.WalkKit
import Derived.WalkSpells
import Derived.WalkLawsBesides
import Derived.Deep.QuietTactic
import Derived.BigQuiet
import Derived.Handy
import Derived.Lib.Hide
import Derived.Deep.RegionHeld3
namespace Go.Proofs.Ytckmnjeibikeeaa
open Go.RowKit
set_option linter.unusedVariables false

/-- A life's cells. -/
def lifeCells (l : Lf.Life) : Array Value := #[.int .i64 l.state, .int .u64 l.idle, .int .u64 l.keep, .int .u64 l.restart, .bool l.asked, .int .u64 l.fin, .int .u64 l.came]
def LifeAt (w : World) (b : Nat) (l : Lf.Life) : Prop := Obj w b 51 (lifeCells l)

theorem LifeAt.facts {w : World} {b : Nat} {l : Lf.Life} (h : LifeAt w b l) :
    w.cell? ⟨b, 0, none⟩ = some (.int .i64 l.state) ∧ w.cell? ⟨b, 1, none⟩ = some (.int .u64 l.idle) ∧ w.cell? ⟨b, 2, none⟩ = some (.int .u64 l.keep) ∧
    w.cell? ⟨b, 3, none⟩ = some (.int .u64 l.restart) ∧ w.cell? ⟨b, 4, none⟩ = some (.bool l.asked) ∧ w.cell? ⟨b, 5, none⟩ = some (.int .u64 l.fin) ∧
    w.cell? ⟨b, 6, none⟩ = some (.int .u64 l.came) ∧ (∀ i, w.frozen? ⟨b, i, none⟩ = false) :=
  ⟨h.cell 0, h.cell 1, h.cell 2, h.cell 3, h.cell 4, h.cell 5, h.cell 6, fun i => h.free i⟩

theorem lnew_any (i k n : Int) (w : World) :
    Calls Try.prog 11 #[.int .u64 i, .int .u64 k, .int .u64 n] w fun e w' => e = .returned (.pointer (some ⟨w.heap.size, 0, none⟩)) ∧ LifeAt w' w.heap.size (Lf.new i k n) ∧ Below w.heap.size w w' := by
  go_enter Try.func11, Try.ntmps11
  go_wp2
  go_ret
  exact ⟨rfl, Obj.new w _ _, (Below.refl _ _).alloc (Nat.le_refl _) _⟩

theorem state_any (b : Nat) (l : Lf.Life) (w : World) (h : LifeAt w b l) :
    Calls Try.prog 15 #[.pointer (some ⟨b, 0, none⟩)] w fun e w' => e = .returned (.int .i64 l.state) ∧ w = w' := by
  obtain ⟨f0, f1, f2, f3, f4, f5, f6, f7⟩ := h.facts
  clear f7
  go_enter Try.func15, Try.ntmps15
  go_wp2
  go_ret
  exact ⟨rfl, rfl⟩
theorem state_nil (w : World) :
    Calls Try.prog 15 #[.pointer none] w fun e w' => e = .returned (.int .i64 3) ∧ w = w' := by
  go_enter Try.func15, Try.ntmps15
  go_wp2
  go_ret
  exact ⟨rfl, rfl⟩

theorem lthree_any (p : Int) (w : World) (h : 0 ≤ p) (h1 : p ≤ 18446744073709551615) :
    Calls Try.prog 33 #[.int .u64 p] w fun e w' => e = .returned (.int .u64 (Lf.three p)) ∧ w = w' := by
  by_cases hp : p ≤ 10000
  · have HF : Hid (Lf.three p = 3 * p) := by unfold Hid Lf.three; omega
    go_enter Try.func33, Try.ntmps33
    go_wp2
    go_ret
    exact ⟨(ret_int HF.out).symm, rfl⟩
  · have HF : Hid (Lf.three p = 30000) := by unfold Hid Lf.three; omega
    have hp' : 10000 < p := by omega
    clear hp
    go_enter Try.func33, Try.ntmps33
    go_wp2
    go_ret
    exact ⟨(ret_int HF.out).symm, rfl⟩

theorem setIdle_any (b : Nat) (l : Lf.Life) (n : Int) (w : World) (h : LifeAt w b l) :
    Calls Try.prog 23 #[.pointer (some ⟨b, 0, none⟩), .int .u64 n] w fun e w' => e = .returned (.tuple #[]) ∧ LifeAt w' b (Lf.setIdle l n) ∧ Upd b w w' := by
  obtain ⟨f0, f1, f2, f3, f4, f5, f6, f7⟩ := h.facts
  have z1 := f7 1
  clear f7
  by_cases hs : l.state = 0
  · have HK : Hid (Lf.setIdle l n = { l with idle := n }) := by unfold Hid Lf.setIdle; rw [if_pos hs]
    rw [hs] at f0
    go_enter Try.func23, Try.ntmps23
    go_wp2
    go_returns
    rw [HK.out]
    exact ⟨rfl, (h.set 1 _).as rfl, (Upd.refl _ _).set _ _⟩
  · have HK : Hid (Lf.setIdle l n = l) := by unfold Hid Lf.setIdle; rw [if_neg hs]
    have hs' : (l.state == 0) = false := by simp [hs]
    clear hs
    go_enter Try.func23, Try.ntmps23
    go_wp2
    go_returns
    rw [HK.out]
    exact ⟨rfl, h, Upd.refl _ _⟩

theorem arrived_any (b : Nat) (l : Lf.Life) (n : Int) (w : World) (h : LifeAt w b l) :
    Calls Try.prog 17 #[.pointer (some ⟨b, 0, none⟩), .int .u64 n] w fun e w' => e = .returned (.tuple #[]) ∧ LifeAt w' b (Lf.arrived l n) ∧ Upd b w w' := by
  obtain ⟨f0, f1, f2, f3, f4, f5, f6, f7⟩ := h.facts
  have z0 := f7 0
  have z1 := f7 1
  have z3 := f7 3
  have z4 := f7 4
  have z5 := f7 5
  have z6 := f7 6
  clear f7
  by_cases hs : l.state = 0
  · have HK : Hid (Lf.arrived l n = { l with restart := n, asked := false }) := by unfold Hid Lf.arrived; rw [if_pos hs]
    rw [hs] at f0
    go_enter Try.func17, Try.ntmps17
    go_wp2
    go_returns
    rw [HK.out]
    exact ⟨rfl, ((h.set 3 _).set 4 _).as rfl, ((Upd.refl _ _).set _ _).set _ _⟩
  · have HK : Hid (Lf.arrived l n = l) := by unfold Hid Lf.arrived; rw [if_neg hs]
    have hs' : (l.state == 0) = false := by simp [hs]
    clear hs
    go_enter Try.func17, Try.ntmps17
    go_wp2
    go_returns
    rw [HK.out]
    exact ⟨rfl, h, Upd.refl _ _⟩

set_option maxHeartbeats 400000 in
theorem sent_any (b : Nat) (l : Lf.Life) (n : Int) (a : Bool) (w : World) (h : LifeAt w b l) :
    Calls Try.prog 12 #[.pointer (some ⟨b, 0, none⟩), .int .u64 n, .bool a] w fun e w' => e = .returned (.tuple #[]) ∧ LifeAt w' b (Lf.sent l n a) ∧ Upd b w w' := by
  obtain ⟨f0, f1, f2, f3, f4, f5, f6, f7⟩ := h.facts
  have z0 := f7 0
  have z1 := f7 1
  have z3 := f7 3
  have z4 := f7 4
  have z5 := f7 5
  have z6 := f7 6
  clear f7
  by_cases hs : l.state = 0
  · rw [hs] at f0
    cases ha : a
    · have HK : Hid (Lf.sent l n false = l) := by unfold Hid Lf.sent; rw [if_neg (by simp)]
      clear ha
      go_enter Try.func12, Try.ntmps12
      go_wp2
      go_returns
      rw [HK.out]
      exact ⟨rfl, h, Upd.refl _ _⟩
    · clear ha
      cases hq : l.asked
      · have HK : Hid (Lf.sent l n true = { l with restart := n, asked := true }) := by unfold Hid Lf.sent; rw [if_pos ⟨hs, rfl, hq⟩]
        rw [hq] at f4
        go_enter Try.func12, Try.ntmps12
        go_wp2
        go_returns
        rw [HK.out]
        exact ⟨rfl, ((h.set 3 _).set 4 _).as rfl, ((Upd.refl _ _).set _ _).set _ _⟩
      · have HK : Hid (Lf.sent l n true = l) := by unfold Hid Lf.sent; rw [if_neg (by simp [hq])]
        rw [hq] at f4
        go_enter Try.func12, Try.ntmps12
        go_wp2
        go_returns
        rw [HK.out]
        exact ⟨rfl, h, Upd.refl _ _⟩
  · have HK : Hid (Lf.sent l n a = l) := by unfold Hid Lf.sent; rw [if_neg (fun h => hs h.1)]
    have hs' : (l.state == 0) = false := by simp [hs]
    clear hs
    go_enter Try.func12, Try.ntmps12
    go_wp2
    go_returns
    rw [HK.out]
    exact ⟨rfl, h, Upd.refl _ _⟩

set_option maxHeartbeats 400000 in
theorem close_any (b : Nat) (l : Lf.Life) (n p : Int) (w : World) (h : LifeAt w b l) (hn : 0 ≤ n) (hn1 : n ≤ 18446744073709551615) (hp : 0 ≤ p) (hp1 : p ≤ 18446744073709551615) :
    Calls Try.prog 20 #[.pointer (some ⟨b, 0, none⟩), .int .u64 n, .int .u64 p] w fun e w' => e = .returned (.bool (Lf.closes l)) ∧ LifeAt w' b (Lf.close l n p) ∧ Upd b w w' := by
  have hF := h
  obtain ⟨f0, f1, f2, f3, f4, f5, f6, f7⟩ := h.facts
  have z0 := f7 0
  have z1 := f7 1
  have z3 := f7 3
  have z4 := f7 4
  have z5 := f7 5
  have z6 := f7 6
  clear f7
  have t := Lf.three_bound p hp
  by_cases hs : l.state = 0
  · have HK : Hid (Lf.close l n p = { l with state := 1, fin := Tk.add n (Lf.three p) }) := by unfold Hid Lf.close; rw [if_pos hs]
    have HR : Hid (Lf.closes l = true) := by unfold Hid Lf.closes; simp [hs]
    rw [hs] at f0
    go_enter Try.func20, Try.ntmps20
    go_wp2_with (first | (go_at_call 15; refine (state_any b l _ h).mono ?_; rintro e w' ⟨rfl, rfl⟩; rw [hs]) | (go_at_call 33; refine (lthree_any p _ hp hp1).mono ?_; rintro e w' ⟨rfl, rfl⟩))
    refine (add_any n (Lf.three p) _ hn hn1 t.1 (by omega)).mono ?_
    rintro e w1 ⟨rfl, hb⟩
    have h1 : LifeAt w1 b l := h.kept hb
    have u1 := Upd.of_below hb b
    obtain ⟨g0, g1, g2, g3, g4, g5, g6, g7⟩ := h1.facts
    have y0 := g7 0
    have y5 := g7 5
    clear g7 hb f0 f1 f2 f3 f4 f5 f6 z0 z1 z3 z4 z5 z6
    go_wp2
    go_ret
    rw [HK.out, HR.out]
    exact ⟨rfl, ((h1.set 0 _).set 5 _).as rfl, (u1.set _ _).set _ _⟩
  · have HK : Hid (Lf.close l n p = l) := by unfold Hid Lf.close; rw [if_neg hs]
    have HR : Hid (Lf.closes l = false) := by unfold Hid Lf.closes; simp [hs]
    have hs' : (l.state != 0) = true := by simp [hs]
    clear hs
    go_enter Try.func20, Try.ntmps20
    go_wp2
    go_ret
    rw [HK.out, HR.out]
    exact ⟨rfl, h, Upd.refl _ _⟩

end Go.Proofs.Ytckmnjeibikeeaa
