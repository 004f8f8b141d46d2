/- Products of blocks in plain words: GF(2^128) by numbers below 2^128, the factor of x to the power 0 greatest. -/
namespace Go.Gc

/-- x^128, as what is left of it. -/
def top : Nat := 225 * 2 ^ 120
/-- Times x. -/
def mx (v : Nat) : Nat := (v / 2) ^^^ (v % 2 * top)
def mxN (v : Nat) : Nat → Nat
  | 0 => v
  | n + 1 => mx (mxN v n)
/-- The factor of x to the power i. -/
def bit (a i : Nat) : Bool := a.testBit (127 - i)
/-- A sum of n things. -/
def xs (f : Nat → Nat) : Nat → Nat
  | 0 => 0
  | n + 1 => xs f n ^^^ f n
/-- A thing, or nothing. -/
def iff (b : Bool) (v : Nat) : Nat := if b then v else 0
def mul (a b : Nat) : Nat := xs (fun i => iff (bit a i) (mxN b i)) 128
def one : Nat := 2 ^ 127

theorem half_xor (a b : Nat) : (a ^^^ b) / 2 = a / 2 ^^^ b / 2 := by
  have := Nat.shiftRight_xor_distrib (a := a) (b := b) (i := 1)
  simpa [Nat.shiftRight_succ] using this
theorem mod_xor (a b : Nat) : (a ^^^ b) % 2 = (a % 2 + b % 2) % 2 := by
  have h := Nat.xor_mod_two_pow (a := a) (b := b) (n := 1)
  rw [show 2 ^ 1 = 2 from rfl] at h
  rw [h]
  rcases Nat.mod_two_eq_zero_or_one a with ha | ha <;> rcases Nat.mod_two_eq_zero_or_one b with hb | hb <;> rw [ha, hb] <;> rfl
theorem swap4 (a b c d : Nat) : (a ^^^ b) ^^^ (c ^^^ d) = (a ^^^ c) ^^^ (b ^^^ d) := by
  rw [Nat.xor_assoc, Nat.xor_assoc, ← Nat.xor_assoc b c d, Nat.xor_comm b c, Nat.xor_assoc c b d]
theorem mx_xor (a b : Nat) : mx (a ^^^ b) = mx a ^^^ mx b := by
  unfold mx
  rw [half_xor, mod_xor, swap4]
  congr 1
  rcases Nat.mod_two_eq_zero_or_one a with ha | ha <;> rcases Nat.mod_two_eq_zero_or_one b with hb | hb <;> simp [ha, hb]
theorem mx_zero : mx 0 = 0 := rfl
theorem mxN_zero : ∀ n, mxN 0 n = 0
  | 0 => rfl
  | n + 1 => by rw [mxN, mxN_zero n]; rfl
theorem mxN_xor (a b : Nat) : ∀ n, mxN (a ^^^ b) n = mxN a n ^^^ mxN b n
  | 0 => rfl
  | n + 1 => by rw [mxN, mxN_xor a b n, mx_xor]; rfl
theorem mxN_add (a m : Nat) : ∀ n, mxN (mxN a m) n = mxN a (m + n)
  | 0 => rfl
  | n + 1 => by rw [mxN, mxN_add a m n]; rfl
theorem mx_lt {v : Nat} (h : v < 2 ^ 128) : mx v < 2 ^ 128 := by
  unfold mx
  refine Nat.xor_lt_two_pow (by omega) ?_
  have : v % 2 * top ≤ 1 * top := Nat.mul_le_mul_right _ (by omega)
  have h2 : top < 2 ^ 128 := by decide
  omega
theorem mxN_lt {v : Nat} (h : v < 2 ^ 128) : ∀ n, mxN v n < 2 ^ 128
  | 0 => h
  | n + 1 => mx_lt (mxN_lt h n)
theorem iff_xor (b : Bool) (v w : Nat) : iff b (v ^^^ w) = iff b v ^^^ iff b w := by cases b <;> simp [iff]
theorem iff_zero (b : Bool) : iff b 0 = 0 := by cases b <;> rfl
theorem mxN_iff (b : Bool) (v n : Nat) : mxN (iff b v) n = iff b (mxN v n) := by cases b <;> simp [iff, mxN_zero]
theorem iff_lt {b : Bool} {v : Nat} (h : v < 2 ^ 128) : iff b v < 2 ^ 128 := by cases b <;> simp [iff]; exact h
theorem xs_congr {f g : Nat → Nat} : ∀ n, (∀ i, i < n → f i = g i) → xs f n = xs g n
  | 0, _ => rfl
  | n + 1, h => by rw [xs, xs, xs_congr n fun i hi => h i (by omega), h n (by omega)]
theorem xs_xor (f g : Nat → Nat) : ∀ n, xs (fun i => f i ^^^ g i) n = xs f n ^^^ xs g n
  | 0 => by simp [xs]
  | n + 1 => by rw [xs, xs, xs, xs_xor f g n, swap4]
theorem xs_zero : ∀ n, xs (fun _ => 0) n = 0
  | 0 => rfl
  | n + 1 => by rw [xs, xs_zero n]; rfl
theorem xs_lt {f : Nat → Nat} (h : ∀ i, f i < 2 ^ 128) : ∀ n, xs f n < 2 ^ 128
  | 0 => by show (0 : Nat) < _; decide
  | n + 1 => Nat.xor_lt_two_pow (xs_lt h n) (h n)
theorem xs_swap (f : Nat → Nat → Nat) (m : Nat) : ∀ n, xs (fun i => xs (fun j => f i j) m) n = xs (fun j => xs (fun i => f i j) n) m
  | 0 => by show 0 = xs (fun _ => 0) m; rw [xs_zero]
  | n + 1 => by
    rw [xs, xs_swap f m n, ← xs_xor]
    exact xs_congr m fun j _ => rfl
theorem mxN_xs (f : Nat → Nat) (k : Nat) : ∀ n, mxN (xs f n) k = xs (fun i => mxN (f i) k) n
  | 0 => mxN_zero k
  | n + 1 => by rw [xs, mxN_xor, mxN_xs f k n]; rfl
theorem iff_xs (b : Bool) (f : Nat → Nat) : ∀ n, iff b (xs f n) = xs (fun i => iff b (f i)) n
  | 0 => iff_zero b
  | n + 1 => by rw [xs, iff_xor, iff_xs b f n]; rfl
theorem mul_lt {a b : Nat} (h : b < 2 ^ 128) : mul a b < 2 ^ 128 := xs_lt (fun i => iff_lt (mxN_lt h i)) 128
/-- A product goes over sums. -/
theorem mul_xor (a b c : Nat) : mul a (b ^^^ c) = mul a b ^^^ mul a c := by
  unfold mul
  rw [← xs_xor]
  exact xs_congr _ fun i _ => by rw [mxN_xor, iff_xor]
theorem mul_zero (a : Nat) : mul a 0 = 0 := by
  unfold mul
  rw [xs_congr 128 (g := fun _ => 0) (fun i _ => by rw [mxN_zero, iff_zero]), xs_zero]
theorem zero_bit (i : Nat) : bit 0 i = false := by unfold bit; simp
theorem zero_mul (b : Nat) : mul 0 b = 0 := by
  unfold mul
  rw [xs_congr 128 (g := fun _ => 0) (fun i _ => by rw [zero_bit]; rfl), xs_zero]
/-- Powers of x. -/
theorem mx_pow (k : Nat) : mx (2 ^ (k + 1)) = 2 ^ k := by
  unfold mx
  rw [Nat.pow_succ, Nat.mul_div_cancel _ (by decide), Nat.mul_mod_left, Nat.zero_mul, Nat.xor_zero]
theorem mxN_one : ∀ n, n ≤ 127 → mxN one n = 2 ^ (127 - n)
  | 0, _ => rfl
  | n + 1, h => by
    rw [mxN, mxN_one n (by omega), show 127 - n = (127 - (n + 1)) + 1 by omega, mx_pow]
theorem xs_bits (b : Nat) : ∀ n, n ≤ 128 → ∀ k, (xs (fun i => iff (bit b i) (mxN one i)) n).testBit k = (decide (k ≤ 127) && decide (127 - k < n) && b.testBit k)
  | 0, _, k => by simp [xs]
  | n + 1, h, k => by
    rw [xs, Nat.testBit_xor, xs_bits b n (by omega) k, mxN_one n (by omega)]
    unfold iff bit
    by_cases h1 : k = 127 - n
    · subst h1
      have h2 : ¬ 127 - (127 - n) < n := by omega
      have h3 : 127 - (127 - n) < n + 1 := by omega
      cases hb : b.testBit (127 - n) <;> simp [h2, h3, Nat.testBit_two_pow_self]
    · have h4 : (if b.testBit (127 - n) = true then 2 ^ (127 - n) else 0).testBit k = false := by
        split
        · rw [Nat.testBit_two_pow]; simp; omega
        · simp
      rw [h4, Bool.xor_false]
      by_cases h5 : k ≤ 127
      · by_cases h6 : 127 - k < n
        · have : 127 - k < n + 1 := by omega
          simp [h5, h6, this]
        · have : ¬ 127 - k < n + 1 := by omega
          simp [h5, h6, this]
      · simp [h5]
/-- 1 is one. -/
theorem mul_one {a : Nat} (h : a < 2 ^ 128) : mul a one = a := by
  apply Nat.eq_of_testBit_eq
  intro k
  unfold mul
  rw [xs_bits a 128 (by decide) k]
  by_cases h5 : k ≤ 127
  · have : 127 - k < 128 := by omega
    simp [h5, this]
  · have : a.testBit k = false := Nat.testBit_lt_two_pow (Nat.lt_of_lt_of_le h (Nat.pow_le_pow_right (by decide) (by omega)))
    simp [this]
/-- A product, by all factors. -/
def all (a b : Nat) : Nat := xs (fun i => xs (fun j => iff (bit a i && bit b j) (mxN one (i + j))) 128) 128
theorem mul_all (a : Nat) {b : Nat} (h : b < 2 ^ 128) : mul a b = all a b := by
  unfold mul all
  refine xs_congr _ fun i _ => ?_
  conv => lhs; rw [← mul_one h]
  unfold mul
  rw [mxN_xs, iff_xs]
  refine xs_congr _ fun j _ => ?_
  rw [mxN_iff, mxN_add, Nat.add_comm j i]
  cases bit a i <;> cases bit b j <;> rfl
/-- Products are commutative. -/
theorem mul_comm {a b : Nat} (ha : a < 2 ^ 128) (hb : b < 2 ^ 128) : mul a b = mul b a := by
  rw [mul_all a hb, mul_all b ha]
  unfold all
  rw [xs_swap]
  refine xs_congr _ fun i _ => xs_congr _ fun j _ => ?_
  rw [Bool.and_comm, Nat.add_comm]
theorem mxN_one_128 : mxN one 128 = 2 ^ 127 ^^^ 2 ^ 126 ^^^ 2 ^ 125 ^^^ 2 ^ 120 := by decide +kernel
/-- What is left of a power. -/
theorem left128 (k : Nat) : mxN one (128 + k) = mxN one k ^^^ mxN one (k + 1) ^^^ mxN one (k + 2) ^^^ mxN one (k + 7) := by
  rw [← mxN_add one 128 k, mxN_one_128, mxN_xor, mxN_xor, mxN_xor]
  rw [show k + 1 = 1 + k by omega, show k + 2 = 2 + k by omega, show k + 7 = 7 + k by omega, ← mxN_add one 1 k, ← mxN_add one 2 k, ← mxN_add one 7 k, mxN_one 1 (by decide), mxN_one 2 (by decide), mxN_one 7 (by decide)]
  rfl
end Go.Gc
