/- What layer 11's functions compute, and the plain laws on it: no program in sight. -/
import Derived.Lib.BitFns
import Derived.RowKit
namespace Go.Proofs.Ytlldomgfjmkcdaa.Tk
set_option linter.unusedVariables false

/-- A number, or Never. -/
def sat (n : Int) : Int := if 18446744073709551615 < n then 18446744073709551615 else n
def add (a b : Int) : Int := sat (a + b)
/-- A time, doubled so often. -/
def bko (t c : Int) : Int := sat (t * 2 ^ (min c.toNat 70))

theorem sat_low (n : Int) (h : n ≤ 18446744073709551615) : sat n = n := by unfold sat; rw [if_neg (by omega)]
theorem sat_high (n : Int) (h : 18446744073709551615 ≤ n) : sat n = 18446744073709551615 := by unfold sat; split <;> omega
theorem sat_bound (n : Int) (h : 0 ≤ n) : 0 ≤ sat n ∧ sat n ≤ 18446744073709551615 := by unfold sat; split <;> omega
theorem sat_twice (x : Int) (h : 0 ≤ x) : sat (sat x + sat x) = sat (2 * x) := by
  unfold sat; split <;> split <;> split <;> omega

theorem bko_zero (t c : Int) (h0 : 0 ≤ t) (h1 : t ≤ 18446744073709551615) (hc : c < 1) : bko t c = t := by
  unfold bko
  have : c.toNat = 0 := by omega
  rw [this]; simp; exact sat_low _ h1
theorem bko_none (c : Int) : bko 0 c = 0 := by unfold bko; simp [sat]

/-- The rounds of the document's loop. -/
theorem sat_step (t : Int) (k : Nat) (h : 0 ≤ t) : sat (sat (t * 2 ^ k) + sat (t * 2 ^ k)) = sat (t * 2 ^ (k + 1)) := by
  have hp : (0 : Int) ≤ t * 2 ^ k := Int.mul_nonneg h (by exact_mod_cast Nat.zero_le _)
  rw [sat_twice _ hp, Int.pow_succ]
  congr 1
  rw [Int.mul_comm 2, Int.mul_assoc]

theorem pow_nat (t k : Nat) : ((t : Int) * 2 ^ k) = ((t * 2 ^ k : Nat) : Int) := by simp

theorem bitLen_lt : ∀ (b x : Nat), x < 2 ^ 64 → (x < 2 ^ b ↔ Lib.bitLen x ≤ b)
  | 0, x, hx => by
    rcases Nat.eq_zero_or_pos x with rfl | h0
    · simp [Lib.bitLen, Lib.bitLenAux]
    · have := Lib.bitLen_half x (by omega) hx
      simp; omega
  | b + 1, x, hx => by
    rcases Nat.eq_zero_or_pos x with rfl | h0
    · simp [Lib.bitLen, Lib.bitLenAux, Nat.two_pow_pos]
    · have h := Lib.bitLen_half x (by omega) hx
      have ih := bitLen_lt b (x / 2) (by omega)
      rw [Nat.pow_succ]
      omega

/-- As often as there are zeros ahead: nothing goes over. -/
theorem shift_low (t : Nat) (c : Nat) (h1 : t < 2 ^ 64) (hc : c ≤ 64 - Lib.bitLen t) (hb : Lib.bitLen t ≤ 64) : t * 2 ^ c < 2 ^ 64 := by
  have ht : t < 2 ^ Lib.bitLen t := (bitLen_lt _ t h1).2 (Nat.le_refl _)
  have h2 : t * 2 ^ c < 2 ^ Lib.bitLen t * 2 ^ c := Nat.mul_lt_mul_of_pos_right ht (Nat.two_pow_pos c)
  rw [← Nat.pow_add] at h2
  exact Nat.lt_of_lt_of_le h2 (Nat.pow_le_pow_right (by decide) (by omega))

theorem bko_low (t c : Int) (h0 : 0 ≤ t) (h1 : t ≤ 18446744073709551615) (hc0 : 1 ≤ c) (hc : c ≤ 64 - Lib.bitLen t.toNat) :
    bko t c = t * 2 ^ c.toNat ∧ 0 ≤ t * 2 ^ c.toNat ∧ t * 2 ^ c.toNat ≤ 18446744073709551615 := by
  obtain ⟨x, rfl⟩ := Int.eq_ofNat_of_zero_le h0
  simp only [Int.toNat_natCast] at hc
  have hb := (bitLen_lt 64 x (by omega)).1 (by omega)
  have hs := shift_low x c.toNat (by omega) (by omega) hb
  have e : (x : Int) * 2 ^ c.toNat ≤ 18446744073709551615 := by rw [pow_nat]; omega
  refine ⟨?_, by rw [pow_nat]; omega, e⟩
  unfold bko
  rw [show min c.toNat 70 = c.toNat by omega]
  exact sat_low _ e

theorem bko_high (t c : Int) (h0 : 0 < t) (h1 : t ≤ 18446744073709551615) (hc : 64 - Lib.bitLen t.toNat < c) : bko t c = 18446744073709551615 := by
  obtain ⟨x, rfl⟩ := Int.eq_ofNat_of_zero_le (Int.le_of_lt h0)
  simp only [Int.toNat_natCast] at hc
  have hb := (bitLen_lt 64 x (by omega)).1 (by omega)
  have hx : ¬ x < 2 ^ (Lib.bitLen x - 1) := by
    rw [bitLen_lt _ x (by omega)]
    have := Lib.bitLen_half x (by omega) (by omega)
    omega
  unfold bko
  apply sat_high
  rw [pow_nat]
  have hp1 : 1 ≤ Lib.bitLen x := by have := Lib.bitLen_half x (by omega) (by omega); omega
  have h2 : 2 ^ (Lib.bitLen x - 1) * 2 ^ (65 - Lib.bitLen x) ≤ x * 2 ^ (min c.toNat 70) :=
    Nat.mul_le_mul (by omega) (Nat.pow_le_pow_right (by decide) (by omega))
  rw [← Nat.pow_add, show Lib.bitLen x - 1 + (65 - Lib.bitLen x) = 64 by omega] at h2
  omega

theorem bko_bound (t c : Int) (h0 : 0 ≤ t) : 0 ≤ bko t c ∧ bko t c ≤ 18446744073709551615 :=
  sat_bound _ (Int.mul_nonneg h0 (by exact_mod_cast Nat.zero_le _))

end Go.Proofs.Ytlldomgfjmkcdaa.Tk
