/- Layer 11's plain laws: order of sums, doubling twice, what a bucket lets out: no program in sight. -/
import Derived.Test.YtjgoeakhodpcaaaPlainTk
import Derived.Test.YtjgoeakhodpcaaaPlainPw
import Derived.Test.YtjgoeakhodpcaaaPlainBk
namespace Go.Proofs.Ytjgoeakhodpcaaa
set_option linter.unusedVariables false
namespace Tk
theorem add_comm (a b : Int) : add b a = add a b := by unfold add; rw [Int.add_comm]
theorem add_ge (a b : Int) (ha : 0 ≤ a) (ha1 : a ≤ 18446744073709551615) (hb : 0 ≤ b) (hb1 : b ≤ 18446744073709551615) : a ≤ add a b ∧ b ≤ add a b ∧ add a b ≤ 18446744073709551615 := by unfold add sat; split <;> omega
theorem add_mono (a b c : Int) (h : b ≤ c) : add a b ≤ add a c := by unfold add sat; split <;> split <;> omega
theorem times_comm (a b : Int) : times b a = times a b := by unfold times; rw [Int.mul_comm]
theorem times_one (a : Int) (h : a ≤ 18446744073709551615) : times a 1 = a := by unfold times; rw [Int.mul_one]; exact sat_low _ h
theorem sub_add (a b : Int) (ha : 0 ≤ a) (hb : 0 ≤ b) (h : add a b ≠ 18446744073709551615) : sub (add a b) b = a := by
  unfold add sat at *; unfold sub; split at h <;> simp_all; omega
theorem add_bound (a b : Int) (ha : 0 ≤ a) (hb : 0 ≤ b) : 0 ≤ add a b ∧ add a b ≤ 18446744073709551615 := sat_bound _ (by omega)
theorem times_bound (a b : Int) (ha : 0 ≤ a) (hb : 0 ≤ b) : 0 ≤ times a b ∧ times a b ≤ 18446744073709551615 := sat_bound _ (Int.mul_nonneg ha hb)

theorem sat_mul (x k : Int) (hx : 0 ≤ x) (hk : 1 ≤ k) : sat (sat x * k) = sat (x * k) := by
  by_cases h : x ≤ 18446744073709551615
  · rw [sat_low x h]
  · have h1 : 18446744073709551615 ≤ x := by omega
    rw [sat_high x h1]
    have h2 : 18446744073709551615 * 1 ≤ 18446744073709551615 * k := by omega
    have h3 : x * 1 ≤ x * k := Int.mul_le_mul_of_nonneg_left hk hx
    rw [sat_high _ (by omega), sat_high _ (by omega)]
theorem pow_pos' (k : Nat) : (1 : Int) ≤ 2 ^ k := by
  have := Nat.two_pow_pos k
  have h : ((2 ^ k : Nat) : Int) = (2 : Int) ^ k := by simp
  omega
theorem bko_big (t : Int) (c : Nat) (h0 : 0 ≤ t) : bko t c = sat (t * 2 ^ c) := by
  unfold bko
  by_cases h : c ≤ 70
  · rw [show min (c : Int).toNat 70 = c by omega]
  · rw [show min (c : Int).toNat 70 = 70 by omega]
    by_cases ht : t = 0
    · subst ht; simp
    · have e : (2 : Int) ^ c = 2 ^ 70 * 2 ^ (c - 70) := by rw [← Int.pow_add]; congr 1; omega
      have hp := pow_pos' (c - 70)
      have h1 : (1180591620717411303424 : Int) ≤ t * 2 ^ 70 := by
        have : (1 : Int) * 2 ^ 70 ≤ t * 2 ^ 70 := Int.mul_le_mul_of_nonneg_right (by omega) (by decide)
        simpa using this
      have h2 : t * 2 ^ 70 * 1 ≤ t * 2 ^ 70 * 2 ^ (c - 70) := Int.mul_le_mul_of_nonneg_left hp (by omega)
      rw [e, ← Int.mul_assoc, sat_high _ (by omega), sat_high _ (by omega)]
theorem bko_twice (t : Int) (m n : Nat) (h0 : 0 ≤ t) : bko (bko t m) n = bko t ((m + n : Nat) : Int) := by
  have hp : 0 ≤ t * 2 ^ m := Int.mul_nonneg h0 (by have := pow_pos' m; omega)
  rw [bko_big t m h0, bko_big _ n (sat_bound _ hp).1, bko_big t (m + n) h0, sat_mul _ _ hp (pow_pos' n), Int.pow_add, Int.mul_assoc]
theorem bko_ge (t : Int) (m : Nat) (h0 : 0 ≤ t) (h1 : t ≤ 18446744073709551615) : t ≤ bko t m := by
  rw [bko_big t m h0]
  have h2 : t * 1 ≤ t * 2 ^ m := Int.mul_le_mul_of_nonneg_left (pow_pos' m) h0
  unfold sat; split <;> omega
end Tk
namespace Bk
/-- What was let out and what is there: no more than the size and what the time brought. -/
def slow (b : Bucket) (n now : Int) : Prop := ok b ∧ 0 ≤ n ∧ b.since ≤ now ∧ (n + b.tokens) * b.every ≤ b.size * b.every + b.since
theorem slow_new (s e : Int) (h0 : 0 ≤ s) (h1 : s ≤ 18446744073709551615) (h2 : 0 < e) (h3 : e ≤ 18446744073709551615) : slow (new s e) 0 0 := by
  refine ⟨new_ok s e h0 h1 h2 h3, Int.le_refl _, Int.le_refl _, ?_⟩
  unfold new; dsimp only; rw [Int.zero_add, Int.add_zero]; exact Int.le_refl _
theorem slow_upto (b : Bucket) (n now now' : Int) (h : slow b n now) (hn : now ≤ now') (h1 : now' ≤ 18446744073709551615) : slow (upto b now') n now' ∧ (upto b now').every = b.every ∧ (upto b now').size = b.size := by
  obtain ⟨ho, hn0, hs, hp⟩ := h
  have ho' := upto_ok b now' ho (by unfold ok at ho; omega) h1
  have hst := steps_bound b now' ho (by omega)
  unfold slow
  unfold upto at *
  rw [if_neg (by omega)] at *
  by_cases hf : b.size - b.tokens ≤ steps b now'
  · rw [if_pos hf] at *
    refine ⟨⟨ho', hn0, Int.le_refl _, ?_⟩, rfl, rfl⟩
    dsimp only
    have h2 : (b.size - b.tokens) * b.every ≤ steps b now' * b.every := Int.mul_le_mul_of_nonneg_right hf (by unfold ok at ho; omega)
    rw [Int.sub_mul] at h2
    rw [Int.add_mul] at hp ⊢
    omega
  · rw [if_neg hf] at *
    refine ⟨⟨ho', hn0, by dsimp only; omega, ?_⟩, rfl, rfl⟩
    dsimp only
    rw [Int.add_mul] at hp ⊢
    rw [Int.add_mul]
    omega
theorem slow_take (b : Bucket) (n now now' : Int) (h : slow b n now) (hn : now ≤ now') (h1 : now' ≤ 18446744073709551615) :
    slow (take b now') (if takes b now' = true then n + 1 else n) now' ∧ (take b now').every = b.every ∧ (take b now').size = b.size := by
  obtain ⟨hu, he, hz⟩ := slow_upto b n now now' h hn h1
  unfold take takes
  generalize upto b now' = c at *
  unfold taken
  by_cases ht : c.tokens = 0
  · rw [if_pos ht, if_neg (by simp [ht])]; exact ⟨hu, he, hz⟩
  · rw [if_neg ht, if_pos (by simp [ht])]
    obtain ⟨ho, hn0, hs, hp⟩ := hu
    refine ⟨⟨?_, by omega, hs, ?_⟩, he, hz⟩
    · have := taken_ok c ho; unfold taken at this; rwa [if_neg ht] at this
    · dsimp only; rw [show n + 1 + (c.tokens - 1) = n + c.tokens by omega]; exact hp
theorem slow_le (b : Bucket) (n now : Int) (h : slow b n now) : n ≤ b.size + now / b.every := by
  obtain ⟨ho, hn0, hs, hp⟩ := h
  have he : 0 < b.every := by unfold ok at ho; omega
  have ht : 0 ≤ b.tokens * b.every := Int.mul_nonneg (by unfold ok at ho; omega) (by omega)
  rw [Int.add_mul] at hp
  have h1 : (n - b.size) * b.every ≤ now := by rw [Int.sub_mul]; omega
  have := (Int.le_ediv_iff_mul_le he).2 h1
  omega
theorem upto_start (s e t : Int) (h0 : 0 ≤ t) (h1 : t ≤ s) (he : 0 < e) : upto ⟨s, e, t, 0⟩ 0 = ⟨s, e, t, 0⟩ := by
  have hs : steps ⟨s, e, t, 0⟩ 0 = 0 := by unfold steps; simp
  unfold upto
  rw [if_neg (by simp), hs]
  dsimp only
  split
  · rw [show s = t by omega]
  · simp
theorem take_start (s e t : Int) (h0 : 0 < t) (h1 : t ≤ s) (he : 0 < e) : take ⟨s, e, t, 0⟩ 0 = ⟨s, e, t - 1, 0⟩ ∧ takes ⟨s, e, t, 0⟩ 0 = true := by
  unfold take takes
  rw [upto_start s e t (by omega) h1 he]
  unfold taken
  exact ⟨by rw [if_neg (by dsimp only; omega)], by simp; omega⟩
theorem take_empty (s e : Int) (h1 : 0 ≤ s) (he : 0 < e) : take ⟨s, e, 0, 0⟩ 0 = ⟨s, e, 0, 0⟩ ∧ takes ⟨s, e, 0, 0⟩ 0 = false := by
  unfold take takes
  rw [upto_start s e 0 (by omega) h1 he]
  unfold taken
  exact ⟨by rw [if_pos rfl], by simp⟩
theorem left_full (s e g : Int) (hs : 0 ≤ s) (he : 0 < e) (hg : 0 ≤ g) : (upto ⟨s, e, 0, 0⟩ (s * e + g)).tokens = s := by
  have hm : 0 ≤ s * e := Int.mul_nonneg hs (by omega)
  have hst : s ≤ steps ⟨s, e, 0, 0⟩ (s * e + g) := by
    unfold steps; dsimp only
    exact (Int.le_ediv_iff_mul_le he).2 (by omega)
  unfold upto
  rw [if_neg (by dsimp only; omega), if_pos (by dsimp only; omega)]
end Bk
namespace Pw
/-- How many numbers from 1 to m are powers of two. -/
def cnt : Nat → Nat
  | 0 => 0
  | m + 1 => cnt m + if pw (m + 1) = true then 1 else 0
theorem cnt_eq : ∀ n m : Nat, n < 2 ^ m → (m = 0 ∨ 2 ^ (m - 1) ≤ n) → cnt n = m
  | 0, m, h, h2 => by
    rcases h2 with rfl | h2
    · rfl
    · have := Nat.two_pow_pos (m - 1); omega
  | n + 1, m, h, h2 => by
    have hm : m ≠ 0 := by rintro rfl; simp at h
    obtain ⟨j, rfl⟩ : ∃ j, m = j + 1 := ⟨m - 1, by omega⟩
    have h3 : 2 ^ j ≤ n + 1 := by rcases h2 with h2 | h2 <;> simp_all
    rw [Nat.pow_succ] at h
    by_cases he : n + 1 = 2 ^ j
    · have hp : pw (n + 1) = true := by rw [he]; exact pw_two j
      have ih := cnt_eq n j (by omega) (by
        by_cases hj : j = 0
        · exact .inl hj
        · obtain ⟨i, rfl⟩ : ∃ i, j = i + 1 := ⟨j - 1, by omega⟩
          have := Nat.two_pow_pos i
          rw [Nat.pow_succ] at he
          exact .inr (by simp; omega))
      rw [cnt, ih, if_pos hp]
    · have hp : ¬ pw (n + 1) = true := by
        rw [pw_iff]
        rintro ⟨k, hk⟩
        rcases Nat.lt_or_ge k (j + 1) with hkj | hkj
        · have := Nat.pow_le_pow_right (n := 2) (by decide) (show k ≤ j by omega); omega
        · have := Nat.pow_le_pow_right (n := 2) (by decide) hkj; rw [Nat.pow_succ] at this; omega
      have ih := cnt_eq n (j + 1) (by rw [Nat.pow_succ]; omega) (.inr (by simp; omega))
      rw [cnt, ih, if_neg hp]
theorem cnt_le : ∀ n, cnt n ≤ n
  | 0 => Nat.le_refl _
  | n + 1 => by have := cnt_le n; rw [cnt]; split <;> omega
end Pw
end Go.Proofs.Ytjgoeakhodpcaaa
