/- How many ones a number of 64 bits has, as Go's library reckons it; powers of two: no program in sight. -/
import Derived.RowKit
namespace Go.Proofs.Ytjgoeakhodpcaaa.Pw
set_option linter.unusedVariables false

theorem and_split (k a b c d : Nat) (hb : b < 2 ^ k) (hd : d < 2 ^ k) : (a * 2 ^ k + b) &&& (c * 2 ^ k + d) = (a &&& c) * 2 ^ k + (b &&& d) := by
  have hbd : b &&& d < 2 ^ k := Nat.and_lt_two_pow _ hd
  apply Nat.eq_of_testBit_eq
  intro i
  rw [Nat.testBit_and, Nat.mul_comm a, Nat.mul_comm c, Nat.mul_comm (a &&& c), Nat.testBit_two_pow_mul_add _ hb, Nat.testBit_two_pow_mul_add _ hd, Nat.testBit_two_pow_mul_add _ hbd]
  split
  · rw [Nat.testBit_and]
  · rw [Nat.testBit_and]

/-- A byte's mask, in so many bytes. -/
def rep (m : Nat) : Nat → Nat
  | 0 => 0
  | w + 1 => rep m w * 256 + m

/-- Byte for byte. -/
def bmap (f : Nat → Nat) : Nat → Nat → Nat
  | 0, _ => 0
  | w + 1, n => bmap f w (n / 256) * 256 + f (n % 256)

theorem and_byte (hi lo s d M : Nat) (hs : s ≤ 8) (hlo : lo < 256) (hd : d < 2 ^ (8 - s)) : ((hi * 256 + lo) / 2 ^ s) &&& (M * 256 + d) = ((hi / 2 ^ s) &&& M) * 256 + ((lo / 2 ^ s) &&& d) := by
  have h256 : (256 : Nat) = 2 ^ s * 2 ^ (8 - s) := by rw [← Nat.pow_add, show s + (8 - s) = 8 by omega]
  have hp : 0 < 2 ^ s := Nat.two_pow_pos s
  have hl : lo / 2 ^ s < 2 ^ (8 - s) := by
    rw [Nat.div_lt_iff_lt_mul hp, Nat.mul_comm, ← h256]; exact hlo
  have hr : hi % 2 ^ s < 2 ^ s := Nat.mod_lt _ hp
  have e : (hi * 256 + lo) / 2 ^ s = (hi / 2 ^ s) * 2 ^ 8 + ((hi % 2 ^ s) * 2 ^ (8 - s) + lo / 2 ^ s) := by
    have h1 : hi * 256 + lo = 2 ^ s * (hi * 2 ^ (8 - s)) + lo := by
      rw [h256, ← Nat.mul_assoc, ← Nat.mul_assoc, Nat.mul_comm hi]
    rw [h1, Nat.mul_add_div hp]
    have h2 : hi * 2 ^ (8 - s) = (hi / 2 ^ s) * 2 ^ 8 + (hi % 2 ^ s) * 2 ^ (8 - s) := by
      have h3 := Nat.div_add_mod hi (2 ^ s)
      have h4 : (2 : Nat) ^ 8 = 2 ^ s * 2 ^ (8 - s) := h256
      rw [h4, ← Nat.mul_assoc, ← Nat.add_mul, Nat.mul_comm (hi / 2 ^ s), h3]
    rw [h2, Nat.add_assoc]
  have hlow : (hi % 2 ^ s) * 2 ^ (8 - s) + lo / 2 ^ s < 2 ^ 8 := by
    have h4 : (2 : Nat) ^ 8 = 2 ^ s * 2 ^ (8 - s) := h256
    have h5 : (hi % 2 ^ s + 1) * 2 ^ (8 - s) ≤ 2 ^ s * 2 ^ (8 - s) := Nat.mul_le_mul_right _ hr
    rw [Nat.add_mul] at h5
    omega
  have hd8 : d < 2 ^ 8 := Nat.lt_of_lt_of_le hd (Nat.pow_le_pow_right (by decide) (by omega))
  rw [e, show M * 256 + d = M * 2 ^ 8 + d from rfl, and_split 8 _ _ _ _ hlow hd8]
  have h0 := and_split (8 - s) (hi % 2 ^ s) (lo / 2 ^ s) 0 d hl hd
  rw [Nat.zero_mul, Nat.zero_add, Nat.and_zero, Nat.zero_mul, Nat.zero_add] at h0
  rw [h0]

def stepA (w n : Nat) : Nat := ((n / 2) &&& rep 85 w) + (n &&& rep 85 w)
def stepB (w n : Nat) : Nat := ((n / 4) &&& rep 51 w) + (n &&& rep 51 w)
def stepC (w n : Nat) : Nat := (n / 16 + n) &&& rep 15 w
def a1 (b : Nat) : Nat := ((b / 2) &&& 85) + (b &&& 85)
def b1 (b : Nat) : Nat := ((b / 4) &&& 51) + (b &&& 51)
def c1 (b : Nat) : Nat := (b / 16 + b) % 16

theorem stepA_eq : ∀ w n, n < 256 ^ w → stepA w n = bmap a1 w n
  | 0, n, h => by simp [stepA, rep, bmap]
  | w + 1, n, h => by
    have ih := stepA_eq w (n / 256) (by rw [Nat.pow_succ] at h; omega)
    have e := Nat.div_add_mod n 256
    have hm : n % 256 < 256 := Nat.mod_lt _ (by decide)
    have h1 := and_byte (n / 256) (n % 256) 1 85 (rep 85 w) (by decide) hm (by decide)
    have h0 := and_byte (n / 256) (n % 256) 0 85 (rep 85 w) (by decide) hm (by decide)
    rw [show n / 256 * 256 + n % 256 = n by omega] at h1 h0
    simp only [Nat.pow_zero, Nat.div_one, Nat.pow_one] at h1 h0
    unfold stepA at ih ⊢
    rw [show rep 85 (w + 1) = rep 85 w * 256 + 85 from rfl, h1, h0, bmap, ← ih]
    unfold a1
    omega

theorem stepB_eq : ∀ w n, n < 256 ^ w → stepB w n = bmap b1 w n
  | 0, n, h => by simp [stepB, rep, bmap]
  | w + 1, n, h => by
    have ih := stepB_eq w (n / 256) (by rw [Nat.pow_succ] at h; omega)
    have hm : n % 256 < 256 := Nat.mod_lt _ (by decide)
    have h1 := and_byte (n / 256) (n % 256) 2 51 (rep 51 w) (by decide) hm (by decide)
    have h0 := and_byte (n / 256) (n % 256) 0 51 (rep 51 w) (by decide) hm (by decide)
    rw [show n / 256 * 256 + n % 256 = n by omega] at h1 h0
    simp only [Nat.pow_zero, Nat.div_one, Nat.reducePow] at h1 h0
    unfold stepB at ih ⊢
    rw [show rep 51 (w + 1) = rep 51 w * 256 + 51 from rfl, h1, h0, bmap, ← ih]
    unfold b1
    omega

theorem bmap_lt (f : Nat → Nat) (hf : ∀ b, b < 256 → f b < 256) : ∀ w n, bmap f w n < 256 ^ w
  | 0, n => by simp [bmap]
  | w + 1, n => by
    have := bmap_lt f hf w (n / 256)
    have := hf (n % 256) (Nat.mod_lt _ (by decide))
    rw [bmap, Nat.pow_succ]; omega

theorem bmap_comp (f g : Nat → Nat) (hf : ∀ b, b < 256 → f b < 256) : ∀ w n, bmap g w (bmap f w n) = bmap (fun b => g (f b)) w n
  | 0, n => rfl
  | w + 1, n => by
    have hl := hf (n % 256) (Nat.mod_lt _ (by decide))
    have ih := bmap_comp f g hf w (n / 256)
    simp only [bmap] at ih ⊢
    rw [show (bmap f w (n / 256) * 256 + f (n % 256)) / 256 = bmap f w (n / 256) by omega, show (bmap f w (n / 256) * 256 + f (n % 256)) % 256 = f (n % 256) by omega, ih]

theorem a1_lt : ∀ b, b < 256 → a1 b < 256 := by decide +kernel
theorem ba_small : ∀ b, b < 256 → b1 (a1 b) < 256 ∧ b1 (a1 b) % 16 ≤ 4 ∧ b1 (a1 b) / 16 ≤ 4 := by decide +kernel

/-- The third step, where no half of a byte is more than 4. -/
theorem stepC_eq (f : Nat → Nat) (hf : ∀ b, b < 256 → f b < 256 ∧ f b % 16 ≤ 4 ∧ f b / 16 ≤ 4) : ∀ w n, stepC w (bmap f w n) = bmap (fun b => c1 (f b)) w n
  | 0, n => by simp [stepC, rep, bmap]
  | w + 1, n => by
    have hl := hf (n % 256) (Nat.mod_lt _ (by decide))
    have ih := stepC_eq f hf w (n / 256)
    have hh : bmap f w (n / 256) % 16 ≤ 4 := by
      cases w with
      | zero => simp [bmap]
      | succ w =>
        have := hf (n / 256 % 256) (Nat.mod_lt _ (by decide))
        rw [bmap]; omega
    unfold stepC at ih ⊢
    simp only [bmap]
    generalize bmap f w (n / 256) = hi at *
    generalize f (n % 256) = lo at *
    have e : (hi * 256 + lo) / 16 + (hi * 256 + lo) = (hi / 16 + hi) * 2 ^ 8 + ((hi % 16) * 16 + (lo / 16 + lo)) := by omega
    rw [e, show rep 15 (w + 1) = rep 15 w * 2 ^ 8 + 15 from rfl, and_split 8 _ _ _ _ (by omega) (by decide), ih]
    have e2 : ((hi % 16) * 16 + (lo / 16 + lo)) &&& 15 = c1 lo := by
      rw [show (15 : Nat) = 2 ^ 4 - 1 from rfl, Nat.and_two_pow_sub_one_eq_mod]
      unfold c1; omega
    rw [e2]

def ones (b : Nat) : Nat := c1 (b1 (a1 b))
theorem ones_le : ∀ b, b < 256 → ones b ≤ 8 := by decide +kernel

/-- As Go's library reckons it. -/
def swar (n : Nat) : Nat :=
  let x := stepC 8 (stepB 8 (stepA 8 n))
  let x := x + x / 256
  let x := x + x / 65536
  let x := x + x / 4294967296
  x % 128

def sum (f : Nat → Nat) : Nat → Nat → Nat
  | 0, _ => 0
  | w + 1, n => sum f w (n / 256) + f (n % 256)

def mix (a b c d e f g h : Nat) : Nat := a + 256 * (b + 256 * (c + 256 * (d + 256 * (e + 256 * (f + 256 * (g + 256 * h))))))
theorem mix_add (a b c d e f g h a' b' c' d' e' f' g' h' : Nat) : mix a b c d e f g h + mix a' b' c' d' e' f' g' h' = mix (a + a') (b + b') (c + c') (d + d') (e + e') (f + f') (g + g') (h + h') := by unfold mix; omega
theorem mix_div1 (a b c d e f g h : Nat) (ha : a < 256) : mix a b c d e f g h / 256 = mix b c d e f g h 0 := by unfold mix; omega
theorem mix_div2 (a b c d e f g h : Nat) (ha : a < 256) (hb : b < 256) : mix a b c d e f g h / 65536 = mix c d e f g h 0 0 := by
  rw [show (65536 : Nat) = 256 * 256 from rfl, ← Nat.div_div_eq_div_mul, mix_div1 _ _ _ _ _ _ _ _ ha, mix_div1 _ _ _ _ _ _ _ _ hb]
theorem mix_div4 (a b c d e f g h : Nat) (ha : a < 256) (hb : b < 256) (hc : c < 256) (hd : d < 256) : mix a b c d e f g h / 4294967296 = mix e f g h 0 0 0 0 := by
  rw [show (4294967296 : Nat) = 65536 * 65536 from rfl, ← Nat.div_div_eq_div_mul, mix_div2 _ _ _ _ _ _ _ _ ha hb, mix_div2 _ _ _ _ _ _ _ _ hc hd]

theorem swar_eq (n : Nat) (h : n < 2 ^ 64) : swar n = sum ones 8 n := by
  unfold swar
  have h8 : (2 : Nat) ^ 64 = 256 ^ 8 := by decide
  rw [stepA_eq 8 n (by rw [← h8]; exact h), stepB_eq 8 _ (bmap_lt a1 a1_lt 8 n), bmap_comp a1 b1 a1_lt, stepC_eq _ ba_small]
  show (let x := bmap ones 8 n; let x := x + x / 256; let x := x + x / 65536; let x := x + x / 4294967296; x % 128) = _
  simp only [bmap, sum, Nat.div_div_eq_div_mul]
  have o := fun b => ones_le (b % 256) (Nat.mod_lt _ (by decide))
  have o0 := o n
  have o1 := o (n / 256)
  have o2 := o (n / (256 * 256))
  have o3 := o (n / (256 * 256 * 256))
  have o4 := o (n / (256 * 256 * 256 * 256))
  have o5 := o (n / (256 * 256 * 256 * 256 * 256))
  have o6 := o (n / (256 * 256 * 256 * 256 * 256 * 256))
  have o7 := o (n / (256 * 256 * 256 * 256 * 256 * 256 * 256))
  generalize ones (n % 256) = p0 at *
  generalize ones (n / 256 % 256) = p1 at *
  generalize ones (n / (256 * 256) % 256) = p2 at *
  generalize ones (n / (256 * 256 * 256) % 256) = p3 at *
  generalize ones (n / (256 * 256 * 256 * 256) % 256) = p4 at *
  generalize ones (n / (256 * 256 * 256 * 256 * 256) % 256) = p5 at *
  generalize ones (n / (256 * 256 * 256 * 256 * 256 * 256) % 256) = p6 at *
  generalize ones (n / (256 * 256 * 256 * 256 * 256 * 256 * 256) % 256) = p7 at *
  clear o
  have e0 : (((((((0 * 256 + p7) * 256 + p6) * 256 + p5) * 256 + p4) * 256 + p3) * 256 + p2) * 256 + p1) * 256 + p0 = mix p0 p1 p2 p3 p4 p5 p6 p7 := by unfold mix; omega
  rw [e0, mix_div1 p0 p1 p2 p3 p4 p5 p6 p7 (by omega), mix_add, mix_div2 _ _ _ _ _ _ _ _ (by omega) (by omega), mix_add, mix_div4 _ _ _ _ _ _ _ _ (by omega) (by omega) (by omega) (by omega), mix_add]
  unfold mix
  omega


/-- A power of two? -/
def pw (n : Nat) : Bool := decide (n = 2 ^ n.log2)
theorem pw_two (k : Nat) : pw (2 ^ k) = true := by unfold pw; rw [Nat.log2_two_pow]; simp
theorem pw_iff (n : Nat) : pw n = true ↔ ∃ k, n = 2 ^ k := by
  constructor
  · intro h; exact ⟨_, of_decide_eq_true h⟩
  · rintro ⟨k, rfl⟩; exact pw_two k
theorem pw_zero : pw 0 = false := by decide
theorem pw_half (n : Nat) (h1 : 1 < n) (h2 : n % 2 = 0) : pw n = pw (n / 2) := by
  rw [Bool.eq_iff_iff, pw_iff, pw_iff]
  constructor
  · rintro ⟨k, hk⟩
    cases k with
    | zero => simp at hk; omega
    | succ k => exact ⟨k, by rw [Nat.pow_succ] at hk; omega⟩
  · rintro ⟨k, hk⟩
    exact ⟨k + 1, by rw [Nat.pow_succ]; omega⟩
theorem pw_odd (n : Nat) (h : n ≤ 1 ∨ n % 2 = 1) : pw n = decide (n = 1) := by
  rw [Bool.eq_iff_iff, pw_iff, decide_eq_true_eq]
  constructor
  · rintro ⟨k, hk⟩
    cases k with
    | zero => simpa using hk
    | succ k => rw [Nat.pow_succ] at hk; have := Nat.two_pow_pos k; omega
  · rintro rfl; exact ⟨0, rfl⟩

theorem ones_zero : ∀ b, b < 256 → (ones b = 0 ↔ b = 0) := by decide +kernel
theorem ones_one : ∀ b, b < 256 → (ones b = 1 ↔ b = 1 ∨ b = 2 ∨ b = 4 ∨ b = 8 ∨ b = 16 ∨ b = 32 ∨ b = 64 ∨ b = 128) := by decide +kernel
theorem sum_zero : ∀ w n, n < 256 ^ w → (sum ones w n = 0 ↔ n = 0)
  | 0, n, h => by simp at h; simp [sum, h]
  | w + 1, n, h => by
    have ih := sum_zero w (n / 256) (by rw [Nat.pow_succ] at h; omega)
    have o := ones_zero (n % 256) (Nat.mod_lt _ (by decide))
    rw [sum]
    omega
theorem sum_one : ∀ w n, n < 256 ^ w → (sum ones w n = 1 ↔ pw n = true)
  | 0, n, h => by simp at h; subst h; simp [sum, pw_zero]
  | w + 1, n, h => by
    have hlt : n / 256 < 256 ^ w := by rw [Nat.pow_succ] at h; omega
    have ih := sum_one w (n / 256) hlt
    have hz := sum_zero w (n / 256) hlt
    have o := ones_zero (n % 256) (Nat.mod_lt _ (by decide))
    have o1 := ones_one (n % 256) (Nat.mod_lt _ (by decide))
    rw [sum, pw_iff]
    rw [pw_iff] at ih
    constructor
    · intro hs
      have hc : (sum ones w (n / 256) = 0 ∧ ones (n % 256) = 1) ∨ (sum ones w (n / 256) = 1 ∧ ones (n % 256) = 0) := by omega
      rcases hc with ⟨h0, h1⟩ | ⟨h1, h0⟩
      · have e0 := hz.1 h0
        rcases o1.1 h1 with e | e | e | e | e | e | e | e
        · exact ⟨0, by omega⟩
        · exact ⟨1, by omega⟩
        · exact ⟨2, by omega⟩
        · exact ⟨3, by omega⟩
        · exact ⟨4, by omega⟩
        · exact ⟨5, by omega⟩
        · exact ⟨6, by omega⟩
        · exact ⟨7, by omega⟩
      · obtain ⟨k, hk⟩ := ih.1 h1
        have e0 := o.1 h0
        exact ⟨k + 8, by rw [Nat.pow_add]; omega⟩
    · rintro ⟨k, hk⟩
      by_cases h8 : k < 8
      · have hb : k = 0 ∨ k = 1 ∨ k = 2 ∨ k = 3 ∨ k = 4 ∨ k = 5 ∨ k = 6 ∨ k = 7 := by omega
        have hn : n = 1 ∨ n = 2 ∨ n = 4 ∨ n = 8 ∨ n = 16 ∨ n = 32 ∨ n = 64 ∨ n = 128 := by
          rcases hb with rfl | rfl | rfl | rfl | rfl | rfl | rfl | rfl <;> simp at hk <;> omega
        have h1 := o1.2 (by omega)
        have h0 := hz.2 (by omega)
        omega
      · obtain ⟨j, rfl⟩ : ∃ j, k = j + 8 := ⟨k - 8, by omega⟩
        rw [Nat.pow_add] at hk
        have h1 := ih.2 ⟨j, by omega⟩
        have h0 := o.2 (by omega)
        omega

theorem swar_one (n : Nat) (h : n < 2 ^ 64) : swar n = 1 ↔ pw n = true := by
  rw [swar_eq n h]; exact sum_one 8 n h
theorem rep85 : rep 85 8 = 6148914691236517205 := by decide
theorem rep51 : rep 51 8 = 3689348814741910323 := by decide
theorem rep15 : rep 15 8 = 1085102592571150095 := by decide

end Go.Proofs.Ytjgoeakhodpcaaa.Pw
