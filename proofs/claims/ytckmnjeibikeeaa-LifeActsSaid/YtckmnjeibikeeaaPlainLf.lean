/- What layer 19's functions compute, and the plain laws on it: no program in sight. -/
import Derived.Test.YtckmnjeibikeeaaPlainTk
import Derived.Test.YtckmnjeibikeeaaPlainPw
namespace Go.Proofs.Ytckmnjeibikeeaa.Lf
set_option linter.unusedVariables false

structure Life where
  state : Int
  idle : Int
  keep : Int
  restart : Int
  asked : Bool
  fin : Int
  came : Int

def never : Int := 18446744073709551615
def three (p : Int) : Int := 3 * min p 10000

def ok (l : Life) : Prop := (l.state = 0 ∨ l.state = 1 ∨ l.state = 2 ∨ l.state = 3) ∧ 0 ≤ l.idle ∧ l.idle ≤ 18446744073709551615 ∧ 0 ≤ l.keep ∧ l.keep ≤ 18446744073709551615 ∧
  0 ≤ l.restart ∧ l.restart ≤ 18446744073709551615 ∧ 0 ≤ l.fin ∧ l.fin ≤ 18446744073709551615 ∧ 0 ≤ l.came ∧ l.came ≤ 1152921504606846976

def new (idle keep now : Int) : Life := ⟨0, idle, keep, now, false, 0, 0⟩
def setIdle (l : Life) (n : Int) : Life := if l.state = 0 then { l with idle := n } else l
def arrived (l : Life) (now : Int) : Life := if l.state = 0 then { l with restart := now, asked := false } else l
def sent (l : Life) (now : Int) (ask : Bool) : Life := if l.state = 0 ∧ ask = true ∧ l.asked = false then { l with restart := now, asked := true } else l
def close (l : Life) (now p : Int) : Life := if l.state = 0 then { l with state := 1, fin := Tk.add now (three p) } else l
def closes (l : Life) : Bool := decide (l.state = 0)
def drain (l : Life) (now p : Int) : Life := if l.state = 0 then { l with state := 2, fin := Tk.add now (three p) } else if l.state = 1 then { l with state := 2 } else l
def drains (l : Life) : Bool := decide (l.state = 0 ∨ l.state = 1)
def count (l : Life) : Life := if l.state = 1 then { l with came := l.came + 1 } else l
def answers (l : Life) : Bool := decide (l.state = 1) && Pw.pw (l.came + 1).toNat
def next (l : Life) (p : Int) : Int :=
  if l.state = 0 then (if 0 < l.idle then Tk.add l.restart (max l.idle (three p)) else never) else if l.state = 3 then never else l.fin
def ticks (l : Life) (now p : Int) : Bool := decide (next l p ≠ never) && decide (next l p ≤ now)
def ended (l : Life) : Life := { l with state := 3 }
def tick (l : Life) (now p : Int) : Life := if ticks l now p = true then ended l else l
def ends (l : Life) : Bool := decide (l.state ≠ 3)
def keepAt (l : Life) : Int := if l.state ≠ 0 ∨ l.keep = 0 ∨ l.asked = true then never else Tk.add l.restart l.keep
def keeps (l : Life) (now : Int) : Bool := decide (keepAt l ≠ never) && decide (keepAt l ≤ now)

theorem three_bound (p : Int) (h : 0 ≤ p) : 0 ≤ three p ∧ three p ≤ 30000 := by unfold three; omega
theorem add_bound (a b : Int) (ha : 0 ≤ a) (hb : 0 ≤ b) : 0 ≤ Tk.add a b ∧ Tk.add a b ≤ 18446744073709551615 := Tk.sat_bound _ (by omega)

theorem new_ok (i k n : Int) (hi : 0 ≤ i) (hi1 : i ≤ 18446744073709551615) (hk : 0 ≤ k) (hk1 : k ≤ 18446744073709551615) (hn : 0 ≤ n) (hn1 : n ≤ 18446744073709551615) : ok (new i k n) := by
  unfold ok new; dsimp only; omega
theorem setIdle_ok (l : Life) (n : Int) (h : ok l) (hn : 0 ≤ n) (hn1 : n ≤ 18446744073709551615) : ok (setIdle l n) := by
  unfold setIdle; split
  · unfold ok at *; dsimp only; omega
  · exact h
theorem arrived_ok (l : Life) (n : Int) (h : ok l) (hn : 0 ≤ n) (hn1 : n ≤ 18446744073709551615) : ok (arrived l n) := by
  unfold arrived; split
  · unfold ok at *; dsimp only; omega
  · exact h
theorem sent_ok (l : Life) (n : Int) (a : Bool) (h : ok l) (hn : 0 ≤ n) (hn1 : n ≤ 18446744073709551615) : ok (sent l n a) := by
  unfold sent; split
  · unfold ok at *; dsimp only; omega
  · exact h
theorem close_ok (l : Life) (n p : Int) (h : ok l) (hn : 0 ≤ n) (hp : 0 ≤ p) : ok (close l n p) := by
  have b := add_bound n (three p) hn (three_bound p hp).1
  unfold close; split
  · unfold ok at *; dsimp only; omega
  · exact h
theorem drain_ok (l : Life) (n p : Int) (h : ok l) (hn : 0 ≤ n) (hp : 0 ≤ p) : ok (drain l n p) := by
  have b := add_bound n (three p) hn (three_bound p hp).1
  unfold drain; split
  · unfold ok at *; dsimp only; omega
  · split
    · unfold ok at *; dsimp only; omega
    · exact h
theorem ended_ok (l : Life) (h : ok l) : ok (ended l) := by unfold ended ok at *; dsimp only; omega
theorem tick_ok (l : Life) (n p : Int) (h : ok l) : ok (tick l n p) := by unfold tick; split; exact ended_ok l h; exact h
theorem next_bound (l : Life) (p : Int) (h : ok l) (hp : 0 ≤ p) : 0 ≤ next l p ∧ next l p ≤ 18446744073709551615 := by
  have t := three_bound p hp
  have b := fun hr => add_bound l.restart (max l.idle (three p)) hr (by omega)
  unfold ok at h
  have b := b (by omega)
  unfold next never
  split
  · split
    · exact b
    · omega
  · split <;> omega
theorem keepAt_bound (l : Life) (h : ok l) : 0 ≤ keepAt l ∧ keepAt l ≤ 18446744073709551615 := by
  have b := fun h1 h2 => add_bound l.restart l.keep h1 h2
  unfold ok at h
  have b := b (by omega) (by omega)
  unfold keepAt never
  split
  · omega
  · exact b

end Go.Proofs.Ytckmnjeibikeeaa.Lf
