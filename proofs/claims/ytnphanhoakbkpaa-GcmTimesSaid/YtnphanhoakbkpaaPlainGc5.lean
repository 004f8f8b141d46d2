/- The document's product is the code's. Plain. -/
import Derived.Test.YtnphanhoakbkpaaAid
import Derived.Test.YtnphanhoakbkpaaPlainAe
import Derived.Test.YtnphanhoakbkpaaPlainAe2
import Derived.Test.YtnphanhoakbkpaaPlainGc
import Derived.Test.YtnphanhoakbkpaaPlainGc2
import Derived.Test.YtnphanhoakbkpaaPlainGc4
namespace Go.Gc
open Go.Proofs.Ytnphanhoakbkpaa
set_option linter.unusedVariables false
set_option linter.unusedSimpArgs false
/-- A block's bit, as the document reckons it. -/
def lb (b : List Nat) (i : Nat) : Nat := b.getD (i / 8) 0 / 2 ^ (7 - i % 8) % 2
def lbs (b : List Nat) (k : Nat) : List Nat := (List.range k).map (lb b)
theorem lbs_len (b : List Nat) (k : Nat) : (lbs b k).length = k := by simp [lbs]
theorem lbs_succ (b : List Nat) (k : Nat) : lbs b (k + 1) = lbs b k ++ [lb b k] := by simp [lbs, List.range_succ]
theorem lbs_get (b : List Nat) (k i : Nat) (h : i < k) : (lbs b k).getD i 0 = lb b i := by simp [lbs, List.getD_eq_getElem?_getD, h]
theorem lb_lt (b : List Nat) (i : Nat) : lb b i < 2 := Nat.mod_lt _ (by decide)
theorem lbs_bl (b : List Nat) (k : Nat) : bl (lbs b k) := fun i => by
  rcases Nat.lt_or_ge i k with h | h
  · rw [lbs_get b k i h]; exact lb_lt b i
  · rw [List.getD_eq_getElem?_getD, List.getElem?_eq_none (by rw [lbs_len]; exact h)]; decide
theorem nb_part {b : List Nat} (hb : Ae.bytes b) (j : Nat) (hj : j < b.length) : nb b / 256 ^ (b.length - 1 - j) = nb (b.take j) * 256 + b.getD j 0 := by
  have e : b = b.take j ++ (b[j] :: b.drop (j + 1)) := by rw [← List.drop_eq_getElem_cons hj, List.take_append_drop]
  have hd : (b.drop (j + 1)).length = b.length - 1 - j := by rw [List.length_drop]; omega
  have hlt := nb_lt (b.drop (j + 1)) (fun c hc => hb c (List.mem_of_mem_drop hc))
  have hx : b.getD j 0 = b[j] := by simp [List.getD_eq_getElem?_getD, hj]
  have h1 : nb b = (nb (b.take j) * 256 + b[j]) * 256 ^ (b.length - 1 - j) + nb (b.drop (j + 1)) := by
    have := congrArg nb e
    rw [nb_append, nb_cons, List.length_cons, hd, Nat.pow_succ] at this
    rw [this, Nat.add_mul, Nat.mul_assoc, Nat.mul_comm 256, Nat.add_assoc]
  rw [h1, hx, Nat.mul_comm, Nat.mul_add_div (Nat.pow_pos (by decide)), Nat.div_eq_of_lt (by rw [hd] at hlt; exact hlt), Nat.add_zero]
theorem low_bit (Q x t : Nat) (h : t ≤ 7) : (Q * 256 + x) / 2 ^ t % 2 = x / 2 ^ t % 2 := by
  have : t = 0 ∨ t = 1 ∨ t = 2 ∨ t = 3 ∨ t = 4 ∨ t = 5 ∨ t = 6 ∨ t = 7 := by omega
  rcases this with rfl | rfl | rfl | rfl | rfl | rfl | rfl | rfl <;> simp only [Nat.reducePow] <;> omega
theorem lb_bit {b : List Nat} (hl : b.length = 16) (hb : Ae.bytes b) (i : Nat) (hi : i < 128) : bit (nb b) i = (lb b i == 1) := by
  unfold bit
  rw [Nat.testBit_eq_decide_div_mod_eq]
  have e : 127 - i = 8 * (16 - 1 - i / 8) + (7 - i % 8) := by omega
  have h1 := nb_part hb (i / 8) (by omega)
  rw [hl] at h1
  rw [e, Nat.pow_add, ← Nat.div_div_eq_div_mul, ← pow256', h1, low_bit _ _ _ (by omega)]
  unfold lb
  cases h : b.getD (i / 8) 0 / 2 ^ (7 - i % 8) % 2 with
  | zero => rfl
  | succ n => cases n <;> simp
where pow256' (k : Nat) : 256 ^ k = 2 ^ (8 * k) := by rw [show (256 : Nat) = 2 ^ 8 from rfl, ← Nat.pow_mul]
/-- Bytes out of bits. -/
def outv (p : List Nat) (j : Nat) : Nat → Nat
  | 0 => 0
  | t + 1 => outv p j t * 2 + p.getD (8 * j + t) 0
def outL (p : List Nat) (i : Nat) : List Nat := (List.range 16).map fun j => outv p j (min 8 (i - 8 * j))
theorem outL_len (p : List Nat) (i : Nat) : (outL p i).length = 16 := by simp [outL]
theorem outv_lt {p : List Nat} (h : bl p) (j : Nat) : ∀ t, outv p j t < 2 ^ t
  | 0 => Nat.one_pos
  | t + 1 => by
    have h1 := outv_lt h j t
    have h2 := h (8 * j + t)
    rw [outv, Nat.pow_succ]; omega
theorem outL_get (p : List Nat) (i j : Nat) (hj : j < 16) : (outL p i).getD j 0 = outv p j (min 8 (i - 8 * j)) := by simp [outL, List.getD_eq_getElem?_getD, hj]
theorem outL_at (p : List Nat) (i : Nat) (hi : i < 128) : (outL p i).getD (i / 8) 0 = outv p (i / 8) (i % 8) := by
  rw [outL_get _ _ _ (by omega)]; congr 1; omega
theorem outL_set (p : List Nat) (i : Nat) (hi : i < 128) : (outL p i).set (i / 8) (outv p (i / 8) (i % 8) * 2 + p.getD i 0) = outL p (i + 1) := by
  refine Ae.ext_get (by rw [List.length_set, outL_len, outL_len]) fun j hj => ?_
  rw [List.length_set, outL_len] at hj
  rw [getD_set _ _ _ _ (by rw [outL_len]; omega), outL_get _ _ _ hj, outL_get _ _ _ hj]
  by_cases e : j = i / 8
  · subst e
    rw [if_pos rfl, show min 8 (i + 1 - 8 * (i / 8)) = i % 8 + 1 by omega, outv, show 8 * (i / 8) + i % 8 = i by omega]
  · rw [if_neg e]; congr 1; omega
theorem outL_zero (p : List Nat) : outL p 0 = List.replicate 16 0 := by
  refine Ae.ext_get (by rw [outL_len]; simp) fun j hj => ?_
  rw [outL_len] at hj
  rw [outL_get _ _ _ hj, Nat.zero_sub, show min 8 0 = 0 from rfl]
  rw [List.getD_eq_getElem?_getD, List.getElem?_replicate, if_pos hj]; rfl
theorem outL_bytes {p : List Nat} (h : bl p) (i : Nat) : Ae.bytes (outL p i) := fun c hc => by
  unfold outL at hc
  obtain ⟨j, _, rfl⟩ := List.mem_map.1 hc
  exact Nat.lt_of_lt_of_le (outv_lt h j _) (Nat.pow_le_pow_right (by decide) (Nat.min_le_left _ _))
theorem outL_lb {p : List Nat} (h : bl p) (i : Nat) (hi : i < 128) : lb (outL p 128) i = p.getD i 0 := by
  unfold lb
  rw [outL_get _ _ _ (by omega), show min 8 (128 - 8 * (i / 8)) = 8 by omega]
  obtain ⟨j, hj⟩ : ∃ j, i / 8 = j := ⟨_, rfl⟩
  rw [hj]
  have h0 := h (8 * j); have h1 := h (8 * j + 1); have h2 := h (8 * j + 2); have h3 := h (8 * j + 3)
  have h4 := h (8 * j + 4); have h5 := h (8 * j + 5); have h6 := h (8 * j + 6); have h7 := h (8 * j + 7)
  simp only [outv, Nat.add_zero]
  have : i = 8 * j ∨ i = 8 * j + 1 ∨ i = 8 * j + 2 ∨ i = 8 * j + 3 ∨ i = 8 * j + 4 ∨ i = 8 * j + 5 ∨ i = 8 * j + 6 ∨ i = 8 * j + 7 := by omega
  rcases this with rfl | rfl | rfl | rfl | rfl | rfl | rfl | rfl
  · rw [show 7 - 8 * j % 8 = 7 by omega]; simp only [Nat.reducePow]; omega
  · rw [show 7 - (8 * j + 1) % 8 = 6 by omega]; simp only [Nat.reducePow]; omega
  · rw [show 7 - (8 * j + 2) % 8 = 5 by omega]; simp only [Nat.reducePow]; omega
  · rw [show 7 - (8 * j + 3) % 8 = 4 by omega]; simp only [Nat.reducePow]; omega
  · rw [show 7 - (8 * j + 4) % 8 = 3 by omega]; simp only [Nat.reducePow]; omega
  · rw [show 7 - (8 * j + 5) % 8 = 2 by omega]; simp only [Nat.reducePow]; omega
  · rw [show 7 - (8 * j + 6) % 8 = 1 by omega]; simp only [Nat.reducePow]; omega
  · rw [show 7 - (8 * j + 7) % 8 = 0 by omega]; simp only [Nat.reducePow]; omega
theorem xs_bits' (g : Nat → Bool) : ∀ n, n ≤ 128 → ∀ k, (xs (fun i => iff (g i) (mxN one i)) n).testBit k = (decide (k ≤ 127) && decide (127 - k < n) && g (127 - k))
  | 0, _, k => by simp [xs]
  | n + 1, h, k => by
    rw [xs, Nat.testBit_xor, xs_bits' g n (by omega) k, mxN_one n (by omega)]
    unfold iff
    by_cases h1 : k = 127 - n
    · subst h1
      have h2 : ¬ 127 - (127 - n) < n := by omega
      have h3 : 127 - (127 - n) < n + 1 := by omega
      have h4 : 127 - (127 - n) = n := by omega
      cases hb : g n <;> simp [h2, h3, h4, hb, Nat.testBit_two_pow_self]
    · have h4 : (if g n = true then 2 ^ (127 - n) else 0).testBit k = false := by
        split
        · rw [Nat.testBit_two_pow]; simp; omega
        · simp
      rw [h4, Bool.xor_false]
      by_cases h5 : k ≤ 127
      · by_cases h6 : 127 - k < n
        · have : 127 - k < n + 1 := by omega
          simp [h5, h6, this]
        · have : ¬ 127 - k < n + 1 := by omega
          simp [h5, h6, this]
      · simp [h5]
theorem xs_tail (f : Nat → Nat) (n : Nat) : ∀ m, (∀ i, n ≤ i → f i = 0) → xs f (n + m) = xs f n
  | 0, _ => rfl
  | m + 1, h => by rw [← Nat.add_assoc, xs, xs_tail f n m h, h (n + m) (by omega), Nat.xor_zero]
/-- The product's bytes. -/
theorem times_ref {a b : List Nat} (ha : a.length = 16) (hb : b.length = 16) (qa : Ae.bytes a) (qb : Ae.bytes b) :
    outL (red (prod (lbs a 128) (lbs b 128) 128) 127) 128 = bn (mul (nb a) (nb b)) := by
  have hy := lbs_bl b 128
  have hp := prod_bl (lbs a 128) hy 128 (Nat.le_refl _)
  have hl := prod_len (lbs a 128) (lbs b 128) 128
  have hr := red_bl hp hl 127 (Nat.le_refl _)
  have hv : pv (red (prod (lbs a 128) (lbs b 128) 128) 127) 255 = mul (nb a) (nb b) := by
    rw [red_pv hp hl 127 (Nat.le_refl _), prod_pv _ hy 128 (Nat.le_refl _), mul_all _ (nb16_lt hb qb)]
    unfold all
    refine xs_congr _ fun i hi => ?_
    rw [lbs_get _ _ _ hi, ← lb_bit ha qa i hi, iff_xs]
    refine xs_congr _ fun j hj => ?_
    rw [lbs_get _ _ _ hj, ← lb_bit hb qb j hj]
    cases bit (nb a) i <;> cases bit (nb b) j <;> rfl
  have hz := red_zero hp hl 127 (Nat.le_refl _)
  generalize red (prod (lbs a 128) (lbs b 128) 128) 127 = P at *
  have hv2 : xs (fun k => iff (P.getD k 0 == 1) (mxN one k)) 128 = mul (nb a) (nb b) := by
    rw [← hv]
    exact (xs_tail _ 128 127 fun i hi => by rw [hz i (by omega)]; rfl).symm
  have hol := outL_len P 128
  have hob := outL_bytes hr 128
  have e : nb (outL P 128) = mul (nb a) (nb b) := by
    apply Nat.eq_of_testBit_eq
    intro k
    by_cases hk : k ≤ 127
    · have h1 := lb_bit hol hob (127 - k) (by omega)
      unfold bit at h1
      rw [show 127 - (127 - k) = k by omega, outL_lb hr _ (by omega)] at h1
      rw [h1, ← hv2, xs_bits' (fun k => P.getD k 0 == 1) 128 (Nat.le_refl _) k]
      have : 127 - k < 128 := by omega
      simp [hk, this]
    · rw [Nat.testBit_lt_two_pow (Nat.lt_of_lt_of_le (nb16_lt hol hob) (Nat.pow_le_pow_right (by decide) (by omega))), Nat.testBit_lt_two_pow (Nat.lt_of_lt_of_le (mul_lt (nb16_lt hb qb)) (Nat.pow_le_pow_right (by decide) (by omega)))]
  rw [← e, bn_nb hol hob]
end Go.Gc
