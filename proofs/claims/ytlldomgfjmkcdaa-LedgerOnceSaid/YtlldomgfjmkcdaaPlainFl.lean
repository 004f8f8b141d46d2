/- Whole numbers as floats of 64 bits: their words, sums and comparisons, in plain words. -/
import Derived.Laws.FloatArith
namespace Go.Fl
open Ieee

/-- A whole number's word. -/
def F (n : Nat) : Nat := double.nearest false n 0
theorem log2_mul (n e : Nat) (hn : n ≠ 0) : (n * 2 ^ e).log2 = n.log2 + e := by
  rw [Nat.log2_eq_iff (Nat.mul_ne_zero hn (Nat.pos_iff_ne_zero.1 (Nat.two_pow_pos e)))]
  refine ⟨?_, ?_⟩
  · rw [Nat.pow_add]; exact Nat.mul_le_mul_right _ (Nat.log2_self_le hn)
  · rw [show n.log2 + e + 1 = (n.log2 + 1) + e by omega, Nat.pow_add]
    exact Nat.mul_lt_mul_of_pos_right Nat.lt_log2_self (Nat.two_pow_pos e)
theorem shl (a b : Nat) : a <<< b = a * 2 ^ b := Nat.shiftLeft_eq a b
theorem cut_zero (neg : Bool) (m : Nat) : Toward.even.cut neg m 0 = m := by
  unfold Toward.cut
  simp [Nat.mod_one]
theorem cut_exact (neg : Bool) (m d : Nat) (hm : m ≠ 0) : Toward.even.cut neg (m * 2 ^ d) d = m := by
  unfold Toward.cut
  have hl : d ≤ (m * 2 ^ d).log2 + 2 := by rw [log2_mul m d hm]; omega
  have hp : 0 < 2 ^ d := Nat.two_pow_pos d
  simp only [Nat.min_eq_left hl, shl, Nat.one_mul, Nat.mul_div_cancel _ hp, Nat.mul_mod_left]
  have h1 : ¬ 2 ^ d < 2 * 0 := by omega
  have h2 : (2 ^ d == 2 * 0) = false := by simp
  simp [h2]
theorem least : double.leastPlace = -1074 := by decide
theorem binade_eq : double.binade = 4503599627370496 := rfl
theorem inf_eq : double.infRung = 2047 * 4503599627370496 := by decide
theorem p52 : 2 ^ 52 = 4503599627370496 := rfl
theorem p53 : 2 ^ 53 = 9007199254740992 := rfl
/-- The word of n * 2 ^ e / 2 ^ e. -/
theorem nearest_scaled (n e : Nat) (hn : n ≠ 0) (h53 : n < 9007199254740992) (_he : e ≤ 1074) : double.nearest false (n * 2 ^ e) (-(e : Int)) = (n.log2 + 1022) * 4503599627370496 + n * 2 ^ (52 - n.log2) := by
  have hL : n.log2 ≤ 52 := by have : n.log2 < 53 := (Nat.log2_lt hn).2 (by rw [p53]; exact h53); omega
  have hlg : (n * 2 ^ e).log2 = n.log2 + e := log2_mul n e hn
  have hne : n * 2 ^ e ≠ 0 := Nat.mul_ne_zero hn (Nat.pos_iff_ne_zero.1 (Nat.two_pow_pos e))
  unfold Format.nearest
  rw [if_neg hne]
  have hlast : max (-(e : Int) + ((n * 2 ^ e).log2 : Nat) - (double.fractionBits : Nat)) double.leastPlace = (n.log2 : Int) - 52 := by
    rw [hlg, least]
    show max (-(e : Int) + ((n.log2 + e : Nat) : Int) - ((52 : Nat) : Int)) (-1074) = _
    omega
  simp only [hlast]
  have hkept : Toward.even.cut false ((n * 2 ^ e) <<< (-(e : Int) - ((n.log2 : Int) - 52)).toNat) ((n.log2 : Int) - 52 - -(e : Int)).toNat = n * 2 ^ (52 - n.log2) := by
    by_cases h : e ≤ 52 - n.log2
    · have e1 : (-(e : Int) - ((n.log2 : Int) - 52)).toNat = 52 - n.log2 - e := by omega
      have e2 : ((n.log2 : Int) - 52 - -(e : Int)).toNat = 0 := by omega
      rw [e1, e2, cut_zero, shl, Nat.mul_assoc, ← Nat.pow_add]
      congr 2; omega
    · have e1 : (-(e : Int) - ((n.log2 : Int) - 52)).toNat = 0 := by omega
      obtain ⟨d, hd⟩ : ∃ d, ((n.log2 : Int) - 52 - -(e : Int)).toNat = d := ⟨_, rfl⟩
      have hd2 : e = (52 - n.log2) + d := by omega
      rw [e1, hd, Nat.shiftLeft_zero, hd2, Nat.pow_add, ← Nat.mul_assoc]
      exact cut_exact false _ d (Nat.mul_ne_zero hn (Nat.pos_iff_ne_zero.1 (Nat.two_pow_pos _)))
  rw [hkept, least, binade_eq, inf_eq]
  have e3 : ((n.log2 : Int) - 52 - -1074).toNat = n.log2 + 1022 := by omega
  have hlt : n * 2 ^ (52 - n.log2) < 9007199254740992 := by
    have h1 : n < 2 ^ (n.log2 + 1) := Nat.lt_log2_self
    have h2 : n * 2 ^ (52 - n.log2) < 2 ^ (n.log2 + 1) * 2 ^ (52 - n.log2) := Nat.mul_lt_mul_of_pos_right h1 (Nat.two_pow_pos _)
    rw [← Nat.pow_add, show n.log2 + 1 + (52 - n.log2) = 53 by omega, p53] at h2
    exact h2
  rw [e3, Nat.min_eq_left (by omega)]
  rfl
theorem nearest_zero (e : Int) : double.nearest false 0 e = 0 := rfl
theorem F_pos (n : Nat) (hn : n ≠ 0) (h53 : n < 9007199254740992) : F n = (n.log2 + 1022) * 4503599627370496 + n * 2 ^ (52 - n.log2) := by
  have := nearest_scaled n 0 hn h53 (by omega)
  rw [Nat.pow_zero, Nat.mul_one] at this
  exact this
theorem scaled (n e : Nat) (h53 : n < 9007199254740992) (he : e ≤ 1074) : double.nearest false (n * 2 ^ e) (-(e : Int)) = F n := by
  by_cases hn : n = 0
  · subst hn; rw [Nat.zero_mul]; unfold F Format.nearest; rw [if_pos rfl, if_pos rfl]
  · rw [nearest_scaled n e hn h53 he, F_pos n hn h53]
/-- What a whole number's word stands for. -/
theorem read_F (n : Nat) (h53 : n < 9007199254740992) : ∃ k : Nat, k ≤ 1074 ∧ double.read (F n) = .number false (n * 2 ^ k) (-(k : Int)) := by
  by_cases hn : n = 0
  · subst hn
    obtain ⟨k, hk⟩ : ∃ k : Nat, k = 1074 := ⟨1074, rfl⟩
    refine ⟨k, by omega, ?_⟩
    rw [Nat.zero_mul, show F 0 = 0 by unfold F Format.nearest; rw [if_pos rfl]; rfl, hk]
    decide
  · have hL : n.log2 ≤ 52 := by have : n.log2 < 53 := (Nat.log2_lt hn).2 (by rw [p53]; exact h53); omega
    refine ⟨52 - n.log2, by omega, ?_⟩
    rw [F_pos n hn h53]
    obtain ⟨m, hm⟩ : ∃ m, n * 2 ^ (52 - n.log2) = m := ⟨_, rfl⟩
    have hlo : 4503599627370496 ≤ m := by
      have h1 : 2 ^ n.log2 ≤ n := Nat.log2_self_le hn
      have h2 : 2 ^ n.log2 * 2 ^ (52 - n.log2) ≤ n * 2 ^ (52 - n.log2) := Nat.mul_le_mul_right _ h1
      rw [← Nat.pow_add, show n.log2 + (52 - n.log2) = 52 by omega, hm, p52] at h2
      exact h2
    have hhi : m < 9007199254740992 := by
      have h1 : n < 2 ^ (n.log2 + 1) := Nat.lt_log2_self
      have h2 : n * 2 ^ (52 - n.log2) < 2 ^ (n.log2 + 1) * 2 ^ (52 - n.log2) := Nat.mul_lt_mul_of_pos_right h1 (Nat.two_pow_pos _)
      rw [← Nat.pow_add, show n.log2 + 1 + (52 - n.log2) = 53 by omega, hm, p53] at h2
      exact h2
    rw [hm]
    unfold Format.read
    have hs : double.signWeight = 9223372036854775808 := rfl
    simp only [hs, binade_eq, inf_eq, least]
    generalize n.log2 = L at *
    have w1 : ((L + 1022) * 4503599627370496 + m) / 9223372036854775808 = 0 := by omega
    have w2 : ((L + 1022) * 4503599627370496 + m) % 9223372036854775808 = (L + 1022) * 4503599627370496 + m := by omega
    rw [w1, w2, if_neg (by omega), if_pos (by omega)]
    have w3 : ((L + 1022) * 4503599627370496 + m) / 4503599627370496 = L + 1023 := by omega
    have w4 : ((L + 1022) * 4503599627370496 + m) % 4503599627370496 = m - 4503599627370496 := by omega
    have v1 : 4503599627370496 + (m - 4503599627370496) = m := by omega
    have v2 : (-1074 : Int) + ((L + 1023 - 1 : Nat) : Int) = -((52 - L : Nat) : Int) := by omega
    rw [w3, w4, v1, v2]
    rfl
theorem signed_false (m u : Nat) : signed false m u = ((m * 2 ^ u : Nat) : Int) := by unfold signed; rw [shl]; rfl
/-- The sum of two whole numbers' words is their sum's word. -/
theorem add_F (a b : Nat) (h : a + b < 9007199254740992) : floatBits .add .f64 (F a) (F b) = some (F (a + b)) := by
  obtain ⟨i, hi, ha⟩ := read_F a (by omega)
  obtain ⟨j, hj, hb⟩ := read_F b (by omega)
  show double.add (F a) (F b) = _
  unfold Format.add
  rw [ha, hb]
  obtain ⟨e, he, hmin, he1⟩ : ∃ e : Nat, max i j = e ∧ min (-(i : Int)) (-(j : Int)) = -(e : Int) ∧ e ≤ 1074 := ⟨max i j, rfl, by omega, by omega⟩
  unfold Datum.sum
  simp only [hmin, signed_false, Option.map_some]
  have u1 : (-(i : Int) - -(e : Int)).toNat = e - i := by omega
  have u2 : (-(j : Int) - -(e : Int)).toNat = e - j := by omega
  have p1 : a * 2 ^ i * 2 ^ (e - i) = a * 2 ^ e := by rw [Nat.mul_assoc, ← Nat.pow_add]; congr 2; omega
  have p2 : b * 2 ^ j * 2 ^ (e - j) = b * 2 ^ e := by rw [Nat.mul_assoc, ← Nat.pow_add]; congr 2; omega
  rw [u1, u2, p1, p2, ← Int.natCast_add, ← Nat.add_mul]
  have hneg : (if (((a + b) * 2 ^ e : Nat) : Int) = 0 then (false && false) else decide ((((a + b) * 2 ^ e : Nat) : Int) < 0)) = false := by
    split
    · rfl
    · exact decide_eq_false (by omega)
  rw [hneg, Int.natAbs_natCast]
  show some (double.nearest false ((a + b) * 2 ^ e) (-(e : Int))) = _
  rw [scaled _ _ h he1]
/-- Two words that are equal. -/
theorem eq_F (a b : Nat) (ha : a < 9007199254740992) (hb : b < 9007199254740992) : (double.order (F a) (F b) == some .eq) = decide (a = b) := by
  obtain ⟨i, hi, ha'⟩ := read_F a ha
  obtain ⟨j, hj, hb'⟩ := read_F b hb
  unfold Format.order
  rw [ha', hb']
  obtain ⟨e, he, hmin⟩ : ∃ e : Nat, max i j = e ∧ min (-(i : Int)) (-(j : Int)) = -(e : Int) := ⟨max i j, rfl, by omega⟩
  unfold Datum.order
  simp only [hmin, signed_false]
  have u1 : (-(i : Int) - -(e : Int)).toNat = e - i := by omega
  have u2 : (-(j : Int) - -(e : Int)).toNat = e - j := by omega
  have p1 : a * 2 ^ i * 2 ^ (e - i) = a * 2 ^ e := by rw [Nat.mul_assoc, ← Nat.pow_add]; congr 2; omega
  have p2 : b * 2 ^ j * 2 ^ (e - j) = b * 2 ^ e := by rw [Nat.mul_assoc, ← Nat.pow_add]; congr 2; omega
  rw [u1, u2, p1, p2]
  have hp : 0 < 2 ^ e := Nat.two_pow_pos e
  by_cases h : a = b
  · subst h
    simp
  · have hne : ¬ a * 2 ^ e = b * 2 ^ e := fun h2 => h (Nat.eq_of_mul_eq_mul_right hp h2)
    generalize a * 2 ^ e = x at *
    generalize b * 2 ^ e = y at *
    have hc : compare ((x : Nat) : Int) ((y : Nat) : Int) ≠ .eq := fun h2 => hne (by have := Std.LawfulEqCmp.eq_of_compare h2; omega)
    rw [decide_eq_false h]
    generalize compare ((x : Nat) : Int) ((y : Nat) : Int) = o at *
    cases o <;> first | rfl | exact absurd rfl hc
theorem floatOf_F (n : Nat) : floatOfInt .f64 (n : Int) = F n := by
  show double.write (.number (decide (((n : Nat) : Int) < 0)) ((n : Nat) : Int).natAbs 0) = F n
  rw [decide_eq_false (by omega), Int.natAbs_natCast]
  rfl
end Go.Fl
