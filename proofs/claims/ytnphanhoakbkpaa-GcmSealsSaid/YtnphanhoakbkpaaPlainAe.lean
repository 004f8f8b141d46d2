/- Layer 8's bytes: products, boxes, and their algebra: no program in sight. -/
import Derived.RowKit
namespace Go.Proofs.Ytnphanhoakbkpaa.Ae
set_option linter.unusedVariables false
set_option linter.unusedSimpArgs false

/-- A byte, doubled. -/
def xt (a : Nat) : Nat := if a < 128 then 2 * a else 2 * a ^^^ 283
def mulF : Nat → Nat → Nat → Nat
  | 0, _, _ => 0
  | f + 1, a, b => (if b % 2 = 1 then a else 0) ^^^ mulF f (xt a) (b / 2)
/-- A product. -/
def mul (a b : Nat) : Nat := mulF 8 a b

theorem xt_lt : ∀ a, a < 256 → xt a < 256 := by decide +kernel
theorem xor_lt {a b : Nat} (ha : a < 256) (hb : b < 256) : a ^^^ b < 256 := Nat.xor_lt_two_pow (n := 8) ha hb
theorem mulF_lt : ∀ f a b, a < 256 → mulF f a b < 256
  | 0, a, b, h => by simp [mulF]
  | f + 1, a, b, h => by
    unfold mulF
    refine xor_lt ?_ (mulF_lt f _ _ (xt_lt a h))
    split <;> omega
theorem mul_lt (a b : Nat) (h : a < 256) : mul a b < 256 := mulF_lt 8 a b h
theorem mulF_zero : ∀ f a, mulF f a 0 = 0
  | 0, _ => rfl
  | f + 1, a => by unfold mulF; simp [mulF_zero f]
theorem xor_left (a b c : Nat) : a ^^^ (b ^^^ c) = b ^^^ (a ^^^ c) := by rw [← Nat.xor_assoc, Nat.xor_comm a b, Nat.xor_assoc]
theorem two_xor (a b : Nat) : 2 * (a ^^^ b) = 2 * a ^^^ 2 * b := by
  apply Nat.eq_of_testBit_eq; intro i
  rw [Nat.testBit_xor]
  cases i with
  | zero => simp [Nat.testBit_zero]
  | succ i => simp only [Nat.testBit_succ]; rw [Nat.mul_div_cancel_left _ (by decide), Nat.mul_div_cancel_left _ (by decide), Nat.mul_div_cancel_left _ (by decide), Nat.testBit_xor]
theorem top_bit : ∀ a, a < 256 → a.testBit 7 = decide (128 ≤ a) := by decide +kernel
theorem xt_xor (a : Nat) (ha : a < 256) (b : Nat) (hb : b < 256) : xt (a ^^^ b) = xt a ^^^ xt b := by
  have h := Nat.testBit_xor a b 7
  rw [top_bit _ (xor_lt ha hb), top_bit _ ha, top_bit _ hb] at h
  unfold xt
  rw [two_xor]
  by_cases h1 : 128 ≤ a <;> by_cases h2 : 128 ≤ b
  · have h3 : ¬ 128 ≤ a ^^^ b := by simpa [h1, h2] using h
    rw [if_pos (by omega), if_neg (by omega), if_neg (by omega), Nat.xor_assoc, xor_left 283, Nat.xor_self, Nat.xor_zero]
  · have h3 : 128 ≤ a ^^^ b := by simpa [h1, h2] using h
    rw [if_neg (by omega), if_neg (by omega), if_pos (by omega), Nat.xor_assoc, Nat.xor_comm (2 * b), Nat.xor_assoc]
  · have h3 : 128 ≤ a ^^^ b := by simpa [h1, h2] using h
    rw [if_neg (by omega), if_pos (by omega), if_neg (by omega), Nat.xor_assoc]
  · have h3 : ¬ 128 ≤ a ^^^ b := by simpa [h1, h2] using h
    rw [if_pos (by omega), if_pos (by omega), if_pos (by omega)]
theorem xor_mod2 (b c : Nat) : (b ^^^ c) % 2 = 1 ↔ ¬ (b % 2 = 1 ↔ c % 2 = 1) := by
  have := Nat.testBit_xor b c 0
  simp only [Nat.testBit_zero] at this
  rcases Nat.mod_two_eq_zero_or_one b with hb | hb <;> rcases Nat.mod_two_eq_zero_or_one c with hc | hc <;> rw [hb, hc] at this <;> rw [hb, hc] <;> simp_all
theorem xor_div2 (b c : Nat) : (b ^^^ c) / 2 = b / 2 ^^^ c / 2 := by
  apply Nat.eq_of_testBit_eq; intro i
  rw [Nat.testBit_xor, Nat.testBit_div_two, Nat.testBit_div_two, Nat.testBit_div_two, Nat.testBit_xor]
theorem xor4 (a b c d : Nat) : (a ^^^ b) ^^^ (c ^^^ d) = (a ^^^ c) ^^^ (b ^^^ d) := by
  rw [Nat.xor_assoc, Nat.xor_assoc, ← Nat.xor_assoc b, Nat.xor_comm b c, Nat.xor_assoc c]
/-- Products go over sums. -/
theorem mulF_xor : ∀ f a b c, mulF f a (b ^^^ c) = mulF f a b ^^^ mulF f a c
  | 0, _, _, _ => by simp [mulF]
  | f + 1, a, b, c => by
    unfold mulF
    rw [xor_div2, mulF_xor f (xt a), xor4]
    congr 1
    by_cases hb : b % 2 = 1 <;> by_cases hc : c % 2 = 1 <;> simp [hb, hc, xor_mod2]
theorem mul_xor (a b c : Nat) : mul a (b ^^^ c) = mul a b ^^^ mul a c := mulF_xor 8 a b c
theorem mul_one : ∀ a, a < 256 → mul a 1 = a := by decide +kernel

def invS (p : Nat × Nat) : Nat × Nat := (mul p.1 p.1, mul p.2 (mul p.1 p.1))
def invL (a : Nat) : Nat → Nat × Nat
  | 0 => (a, 1)
  | k + 1 => invS (invL a k)
/-- A byte's inverse: it to the power 254. -/
def inv (a : Nat) : Nat := (invL a 7).2
def rot (x n : Nat) : Nat := x * 2 ^ n % 256 + x / 2 ^ (8 - n)
def boxL (x : Nat) : Nat → Nat
  | 0 => x ^^^ 99
  | n + 1 => boxL x n ^^^ rot x (n + 1)
def box (a : Nat) : Nat := boxL (inv a) 4
def tab : List Nat := [99, 124, 119, 123, 242, 107, 111, 197, 48, 1, 103, 43, 254, 215, 171, 118, 202, 130, 201, 125, 250, 89, 71, 240, 173, 212, 162, 175, 156, 164, 114, 192, 183, 253, 147, 38, 54, 63, 247, 204, 52, 165, 229, 241, 113, 216, 49, 21, 4, 199, 35, 195, 24, 150, 5, 154, 7, 18, 128, 226, 235, 39, 178, 117, 9, 131, 44, 26, 27, 110, 90, 160, 82, 59, 214, 179, 41, 227, 47, 132, 83, 209, 0, 237, 32, 252, 177, 91, 106, 203, 190, 57, 74, 76, 88, 207, 208, 239, 170, 251, 67, 77, 51, 133, 69, 249, 2, 127, 80, 60, 159, 168, 81, 163, 64, 143, 146, 157, 56, 245, 188, 182, 218, 33, 16, 255, 243, 210, 205, 12, 19, 236, 95, 151, 68, 23, 196, 167, 126, 61, 100, 93, 25, 115, 96, 129, 79, 220, 34, 42, 144, 136, 70, 238, 184, 20, 222, 94, 11, 219, 224, 50, 58, 10, 73, 6, 36, 92, 194, 211, 172, 98, 145, 149, 228, 121, 231, 200, 55, 109, 141, 213, 78, 169, 108, 86, 244, 234, 101, 122, 174, 8, 186, 120, 37, 46, 28, 166, 180, 198, 232, 221, 116, 31, 75, 189, 139, 138, 112, 62, 181, 102, 72, 3, 246, 14, 97, 53, 87, 185, 134, 193, 29, 158, 225, 248, 152, 17, 105, 217, 142, 148, 155, 30, 135, 233, 206, 85, 40, 223, 140, 161, 137, 13, 191, 230, 66, 104, 65, 153, 45, 15, 176, 84, 187, 22]
theorem box_tab : ∀ a, a < 256 → box a = tab.getD a 0 := by decide +kernel
theorem inv_lt : ∀ a, a < 256 → inv a < 256 := by decide +kernel
theorem box_lt : ∀ a, a < 256 → box a < 256 := by decide +kernel
def bat : List Nat := (List.range 256).map fun v => (tab.findIdx? (· == v)).getD 0
theorem bat_box : ∀ a, a < 256 → bat.getD (tab.getD a 0) 0 = a := by decide +kernel
theorem box_inj (a b : Nat) (ha : a < 256) (hb : b < 256) (h : box a = box b) : a = b := by
  rw [box_tab a ha, box_tab b hb] at h
  rw [← bat_box a ha, h, bat_box b hb]
end Go.Proofs.Ytnphanhoakbkpaa.Ae
