/- What layer 14's functions compute, and the plain laws on it: no program in sight. -/
import Derived.Test.YtbiidcdgcbaahaaPlainTk
namespace Go.Proofs.Ytbiidcdgcbaahaa.Rt
set_option linter.unusedVariables false

structure Est where
  smooth : Int
  dev : Int
  least : Int
  latest : Int
  some : Bool

def hold (n : Int) : Int := min n 1099511627776
def far (a b : Int) : Int := max a b - min a b

def new (guess : Int) : Est := ⟨max 1 (hold guess), max 1 (hold guess) / 2, 0, 0, false⟩

/-- An answer's time behind the delay. -/
def less (t d least : Int) : Int := if least + d ≤ t then t - d else t

def take (e : Est) (t d : Int) : Est :=
  if e.some then
    ⟨(7 * e.smooth + less (hold t) (hold d) (min e.least (hold t))) / 8, (3 * e.dev + far e.smooth (less (hold t) (hold d) (min e.least (hold t)))) / 4, min e.least (hold t), hold t, true⟩
  else ⟨hold t, hold t / 2, hold t, hold t, true⟩

def ok (e : Est) : Prop := 0 ≤ e.smooth ∧ e.smooth ≤ 1099511627776 ∧ 0 ≤ e.dev ∧ e.dev ≤ 1099511627776 ∧ 0 ≤ e.least ∧ e.least ≤ 1099511627776 ∧ 0 ≤ e.latest ∧ e.latest ≤ 1099511627776

theorem hold_bound (n : Int) (h : 0 ≤ n) : 0 ≤ hold n ∧ hold n ≤ 1099511627776 := by unfold hold; omega
theorem new_ok (g : Int) (h : 0 ≤ g) : ok (new g) := by unfold new ok hold; dsimp only; omega
theorem less_bound (t d least : Int) (ht : 0 ≤ t) (ht1 : t ≤ 1099511627776) (hd : 0 ≤ d) (hl : 0 ≤ least) : 0 ≤ less t d least ∧ less t d least ≤ 1099511627776 := by
  unfold less; split <;> omega
theorem take_ok (e : Est) (t d : Int) (h : ok e) (ht : 0 ≤ t) (hd : 0 ≤ d) : ok (take e t d) := by
  have a := hold_bound t ht
  have b := hold_bound d hd
  unfold take
  generalize hold t = T at *
  generalize hold d = D at *
  unfold ok at *
  split
  · have c := less_bound T D (min e.least T) a.1 a.2 b.1 (by omega)
    generalize less T D (min e.least T) = L at *
    unfold far
    dsimp only
    omega
  · dsimp only; omega

def probe (e : Est) (delay count : Int) : Int := Tk.bko (e.smooth + max (4 * e.dev) 1 + hold delay) count
def loss (e : Est) : Int := max 1 (9 * max e.smooth e.latest / 8)

/-- All that is estimated is bounded. -/
theorem probe_in (e : Est) (delay : Int) (h : ok e) (hd : 0 ≤ delay) : 0 ≤ e.smooth + max (4 * e.dev) 1 + hold delay ∧ e.smooth + max (4 * e.dev) 1 + hold delay ≤ 6597069766656 := by
  have := hold_bound delay hd; unfold ok at h; omega
theorem loss_bound (e : Est) (h : ok e) : 1 ≤ loss e ∧ loss e ≤ 9895604649984 := by unfold loss; unfold ok at h; omega

def run (e : Est) (l : List (Int × Int)) : Est := l.foldl (fun e a => take e a.1 a.2) e

theorem run_snoc (e : Est) (l : List (Int × Int)) (a : Int × Int) : run e (l ++ [a]) = take (run e l) a.1 a.2 := by unfold run; rw [List.foldl_append]; rfl
theorem run_ok (l : List (Int × Int)) : ∀ (e : Est), ok e → (∀ a ∈ l, 0 ≤ a.1 ∧ 0 ≤ a.2) → ok (run e l) := by
  induction l with
  | nil => intro e h _; exact h
  | cons a l ih =>
    intro e h hl
    exact ih _ (take_ok e a.1 a.2 h (hl a (by simp)).1 (hl a (by simp)).2) (fun x hx => hl x (by simp [hx]))

theorem take_none (e : Est) (t d : Int) (h : e.some = false) : take e t d = ⟨hold t, hold t / 2, hold t, hold t, true⟩ := by unfold take; rw [h]; rfl
theorem take_some (e : Est) (t d : Int) (h : e.some = true) : take e t d =
    ⟨(7 * e.smooth + less (hold t) (hold d) (min e.least (hold t))) / 8, (3 * e.dev + far e.smooth (less (hold t) (hold d) (min e.least (hold t)))) / 4, min e.least (hold t), hold t, true⟩ := by unfold take; rw [h]; rfl

/-- How far it goes when all answers take the same time. -/
def dv (d : Int) : Nat → Int
  | 0 => d
  | k + 1 => 3 * dv d k / 4
theorem dv_nonneg (d : Int) (h : 0 ≤ d) : ∀ k, 0 ≤ dv d k
  | 0 => h
  | k + 1 => by have := dv_nonneg d h k; unfold dv; omega
theorem dv_mono (a b : Int) (h : a ≤ b) : ∀ k, dv a k ≤ dv b k
  | 0 => h
  | k + 1 => by have := dv_mono a b h k; unfold dv; omega
theorem dv_down (d : Int) (h : 0 ≤ d) (k : Nat) : dv d (k + 1) ≤ dv d k := by have := dv_nonneg d h k; show 3 * dv d k / 4 ≤ dv d k; omega
theorem dv_bound (d : Int) (h : 0 ≤ d) : ∀ k, dv d k ≤ d
  | 0 => Int.le_refl _
  | k + 1 => Int.le_trans (dv_down d h k) (dv_bound d h k)
theorem dv_end (t : Int) (h1 : t ≤ 1099511627776) : dv (t / 2) 119 ≤ 3 :=
  Int.le_trans (dv_mono (t / 2) 549755813888 (by omega) 119) (by decide +kernel)

theorem hold_low (t : Int) (h : t ≤ 1099511627776) : hold t = t := by unfold hold; omega
theorem same_first (e : Est) (t : Int) (h1 : t ≤ 1099511627776) (h : e.some = false) : take e t 0 = ⟨t, dv (t / 2) 0, t, t, true⟩ := by
  rw [take_none e t 0 h, hold_low t h1]; rfl
theorem same_next (t : Int) (k : Nat) (h1 : t ≤ 1099511627776) : take ⟨t, dv (t / 2) k, t, t, true⟩ t 0 = ⟨t, dv (t / 2) (k + 1), t, t, true⟩ := by
  rw [take_some _ t 0 rfl, hold_low t h1]
  have hl : less t (hold 0) (min t t) = t := by unfold less hold; split <;> omega
  dsimp only
  rw [hl]
  have hf : far t t = 0 := by unfold far; omega
  rw [hf, show (7 * t + t) / 8 = t by omega, show min t t = t by omega]
  simp [dv]
theorem same_probe (t : Int) (k : Nat) (h0 : 0 ≤ t) (h1 : t ≤ 1099511627776) : probe ⟨t, dv (t / 2) k, t, t, true⟩ 0 0 = t + max (4 * dv (t / 2) k) 1 := by
  unfold probe
  have := dv_nonneg (t / 2) (by omega) k
  have := dv_bound (t / 2) (by omega) k
  rw [show hold 0 = 0 from rfl, Int.add_zero]
  exact Tk.bko_zero _ _ (by dsimp only; omega) (by dsimp only; omega) (by decide)

/-- A few doublings of a small time. -/
theorem bko_small (t c : Int) (h0 : 0 ≤ t) (h1 : t ≤ 17592186044416) (hc0 : 0 ≤ c) (hc : c ≤ 9) : Tk.bko t c = t * 2 ^ c.toNat ∧ 0 ≤ t * 2 ^ c.toNat ∧ t * 2 ^ c.toNat ≤ 18446744073709551615 := by
  obtain ⟨k, rfl⟩ := Int.eq_ofNat_of_zero_le hc0
  have hk : k = 0 ∨ k = 1 ∨ k = 2 ∨ k = 3 ∨ k = 4 ∨ k = 5 ∨ k = 6 ∨ k = 7 ∨ k = 8 ∨ k = 9 := by omega
  have e : t * 2 ^ k ≤ 18446744073709551615 ∧ 0 ≤ t * 2 ^ k := by
    rcases hk with rfl | rfl | rfl | rfl | rfl | rfl | rfl | rfl | rfl | rfl <;> simp <;> omega
  refine ⟨?_, e.2, e.1⟩
  unfold Tk.bko
  rw [Int.toNat_natCast, show min k 70 = k by omega]
  exact Tk.sat_low _ e.1

/-- P14.3: smooth lies between the least and the greatest. -/
theorem between_next (e : Est) (t lo hi : Int) (h : e.some = true) (hl : e.least = lo) (h1 : lo ≤ e.smooth) (h2 : e.smooth ≤ hi) :
    (take e t 0).least = min lo (hold t) ∧ min lo (hold t) ≤ (take e t 0).smooth ∧ (take e t 0).smooth ≤ max hi (hold t) ∧ (take e t 0).some = true := by
  rw [take_some e t 0 h, hl]
  have hl : less (hold t) (hold 0) (min lo (hold t)) = hold t := by unfold less; rw [show hold 0 = 0 from rfl]; split <;> omega
  rw [hl]
  dsimp only
  refine ⟨rfl, by omega, by omega, rfl⟩

/-- P14.3: a delay is taken off answers that are long enough. -/
theorem delay_next (e : Est) (t d : Int) (h : e.some = true) (hs : e.smooth = t) (hl : e.least = t) (ht0 : 0 ≤ t) (hd : 0 ≤ d) (hb : t + d ≤ 1099511627776) :
    (take e (t + d) d).smooth = t ∧ (take e (t + d) d).least = t ∧ (take e (t + d) d).some = true := by
  rw [take_some e _ _ h, hs, hl, hold_low (t + d) hb, hold_low d (by omega)]
  have hl : less (t + d) d (min t (t + d)) = t := by unfold less; split <;> omega
  rw [hl]
  dsimp only
  refine ⟨by omega, by omega, rfl⟩

end Go.Proofs.Ytbiidcdgcbaahaa.Rt
