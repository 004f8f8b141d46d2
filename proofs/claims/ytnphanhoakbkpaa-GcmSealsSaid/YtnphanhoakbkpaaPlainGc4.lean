/- The document's product, as polynomials. Plain. -/
import Derived.Test.YtnphanhoakbkpaaAid
import Derived.Test.YtnphanhoakbkpaaPlainAe
import Derived.Test.YtnphanhoakbkpaaPlainAe2
import Derived.Test.YtnphanhoakbkpaaPlainGc
import Derived.Test.YtnphanhoakbkpaaPlainGc2
namespace Go.Gc
open Go.Proofs.Ytnphanhoakbkpaa
set_option linter.unusedVariables false
theorem xs_at (f g : Nat → Nat) (q d : Nat) (h1 : g q = f q ^^^ d) (h2 : ∀ i, i ≠ q → g i = f i) : ∀ n, xs g n = if q < n then xs f n ^^^ d else xs f n
  | 0 => by simp [xs]
  | n + 1 => by
    rw [xs, xs, xs_at f g q d h1 h2 n]
    by_cases hq : q = n
    · subst hq
      rw [if_neg (by omega), if_pos (by omega), h1, Nat.xor_assoc]
    · rw [h2 n (fun e => hq e.symm)]
      by_cases hl : q < n
      · rw [if_pos hl, if_pos (by omega), Nat.xor_assoc, Nat.xor_comm d, Nat.xor_assoc]
      · rw [if_neg hl, if_neg (by omega)]
/-- Bits. -/
def bl (p : List Nat) : Prop := ∀ i, p.getD i 0 < 2
/-- A polynomial's number. -/
def pv (p : List Nat) (n : Nat) : Nat := xs (fun k => iff (p.getD k 0 == 1) (mxN one k)) n
theorem getD_set (p : List Nat) (q v i : Nat) (hq : q < p.length) : (p.set q v).getD i 0 = if i = q then v else p.getD i 0 := by
  simp only [List.getD_eq_getElem?_getD, List.getElem?_set]
  by_cases h : q = i
  · subst h; simp [hq]
  · rw [if_neg h, if_neg (fun e => h e.symm)]
theorem xor_bit {x v : Nat} (hx : x < 2) (hv : v < 2) : x ^^^ v < 2 := Nat.xor_lt_two_pow (n := 1) hx hv
theorem bl_set {p : List Nat} (h : bl p) (q v : Nat) (hq : q < p.length) (hv : v < 2) : bl (p.set q v) := fun i => by
  rw [getD_set p q v i hq]; split
  · exact hv
  · exact h i
theorem pv_set {p : List Nat} (h : bl p) (q v n : Nat) (hq : q < p.length) (hn : q < n) (hv : v < 2) :
    pv (p.set q (p.getD q 0 ^^^ v)) n = pv p n ^^^ iff (v == 1) (mxN one q) := by
  unfold pv
  rw [xs_at (fun k => iff (p.getD k 0 == 1) (mxN one k)) _ q (iff (v == 1) (mxN one q)) ?_ ?_ n, if_pos hn]
  · have hx := h q
    rw [getD_set _ _ _ _ hq, if_pos rfl]
    have h2 : p.getD q 0 = 0 ∨ p.getD q 0 = 1 := by omega
    have h3 : v = 0 ∨ v = 1 := by omega
    rcases h2 with e | e <;> rcases h3 with rfl | rfl <;> rw [e] <;> simp [iff]
  · intro i hi
    rw [getD_set _ _ _ _ hq, if_neg hi]
/-- A row is added. -/
def rowL (p y : List Nat) (i : Nat) : Nat → List Nat
  | 0 => p
  | k + 1 => (rowL p y i k).set (i + k) ((rowL p y i k).getD (i + k) 0 ^^^ y.getD k 0)
theorem rowL_len (p y : List Nat) (i : Nat) : ∀ k, (rowL p y i k).length = p.length
  | 0 => rfl
  | k + 1 => by rw [rowL, List.length_set, rowL_len p y i k]
theorem rowL_bl {p y : List Nat} (hp : bl p) (hy : bl y) (i : Nat) (hl : p.length = 255) (hi : i < 128) : ∀ k, k ≤ 128 → bl (rowL p y i k)
  | 0, _ => hp
  | k + 1, h => bl_set (rowL_bl hp hy i hl hi k (by omega)) _ _ (by rw [rowL_len, hl]; omega) (xor_bit (rowL_bl hp hy i hl hi k (by omega) _) (hy k))
theorem rowL_pv {p y : List Nat} (hp : bl p) (hy : bl y) (i : Nat) (hl : p.length = 255) (hi : i < 128) : ∀ k, k ≤ 128 → pv (rowL p y i k) 255 = pv p 255 ^^^ xs (fun j => iff (y.getD j 0 == 1) (mxN one (i + j))) k
  | 0, _ => by simp [rowL, xs]
  | k + 1, h => by
    rw [rowL, pv_set (rowL_bl hp hy i hl hi k (by omega)) _ _ _ (by rw [rowL_len, hl]; omega) (by omega) (hy k), rowL_pv hp hy i hl hi k (by omega), xs, Nat.xor_assoc]
/-- All rows. -/
def prod (x y : List Nat) : Nat → List Nat
  | 0 => List.replicate 255 0
  | i + 1 => if x.getD i 0 = 1 then rowL (prod x y i) y i 128 else prod x y i
theorem prod_len (x y : List Nat) : ∀ i, (prod x y i).length = 255
  | 0 => List.length_replicate
  | i + 1 => by
    rw [prod]; split
    · rw [rowL_len, prod_len x y i]
    · exact prod_len x y i
theorem bl_zeros (n : Nat) : bl (List.replicate n 0) := fun i => by
  rw [List.getD_eq_getElem?_getD, List.getElem?_replicate]; split <;> decide
theorem prod_bl (x : List Nat) {y : List Nat} (hy : bl y) : ∀ i, i ≤ 128 → bl (prod x y i)
  | 0, _ => bl_zeros 255
  | i + 1, h => by
    rw [prod]; split
    · exact rowL_bl (prod_bl x hy i (by omega)) hy i (prod_len x y i) (by omega) 128 (Nat.le_refl _)
    · exact prod_bl x hy i (by omega)
theorem pv_zeros (n m : Nat) : pv (List.replicate n 0) m = 0 := by
  unfold pv
  rw [xs_congr m (g := fun _ => 0) (fun i _ => by
    have : (List.replicate n 0).getD i 0 = 0 := by rw [List.getD_eq_getElem?_getD, List.getElem?_replicate]; split <;> rfl
    rw [this]; rfl), xs_zero]
theorem prod_pv (x : List Nat) {y : List Nat} (hy : bl y) : ∀ i, i ≤ 128 → pv (prod x y i) 255 = xs (fun i => iff (x.getD i 0 == 1) (xs (fun j => iff (y.getD j 0 == 1) (mxN one (i + j))) 128)) i
  | 0, _ => pv_zeros 255 255
  | i + 1, h => by
    rw [prod, xs, ← prod_pv x hy i (by omega)]
    by_cases e : x.getD i 0 = 1
    · rw [if_pos e, rowL_pv (prod_bl x hy i (by omega)) hy i (prod_len x y i) (by omega) 128 (Nat.le_refl _), e]; rfl
    · rw [if_neg e]
      have : (x.getD i 0 == 1) = false := by simpa using e
      rw [this]; simp [iff]
/-- One power is taken away. -/
def cut1 (p : List Nat) (i : Nat) : List Nat := p.set i (p.getD i 0 ^^^ 1)
theorem cut1_len (p : List Nat) (i : Nat) : (cut1 p i).length = p.length := List.length_set
theorem cut1_bl {p : List Nat} (h : bl p) (i : Nat) (hi : i < p.length) : bl (cut1 p i) := bl_set h _ _ hi (xor_bit (h i) (by decide))
theorem cut1_pv {p : List Nat} (h : bl p) (i : Nat) (hl : p.length = 255) (hi : i < 255) : pv (cut1 p i) 255 = pv p 255 ^^^ mxN one i := by
  unfold cut1; rw [pv_set h i 1 255 (by omega) hi (by decide)]; rfl
theorem cut1_get (p : List Nat) (i j : Nat) (hi : i < p.length) : (cut1 p i).getD j 0 = if j = i then p.getD i 0 ^^^ 1 else p.getD j 0 := getD_set _ _ _ _ hi
def cut5 (p : List Nat) (i : Nat) : List Nat := cut1 (cut1 (cut1 (cut1 (cut1 p i) (i - 128)) (i - 127)) (i - 126)) (i - 121)
theorem cut5_len (p : List Nat) (i : Nat) : (cut5 p i).length = p.length := by simp [cut5, cut1_len]
theorem cut5_bl {p : List Nat} (h : bl p) (i : Nat) (hl : p.length = 255) (h1 : 128 ≤ i) (h2 : i < 255) : bl (cut5 p i) := by
  unfold cut5
  exact cut1_bl (cut1_bl (cut1_bl (cut1_bl (cut1_bl h _ (by omega)) _ (by rw [cut1_len]; omega)) _ (by simp only [cut1_len]; omega)) _ (by simp only [cut1_len]; omega)) _ (by simp only [cut1_len]; omega)
theorem cut5_pv {p : List Nat} (h : bl p) (i : Nat) (hl : p.length = 255) (h1 : 128 ≤ i) (h2 : i < 255) : pv (cut5 p i) 255 = pv p 255 := by
  have b1 := cut1_bl h i (by omega)
  have b2 := cut1_bl b1 (i - 128) (by rw [cut1_len]; omega)
  have b3 := cut1_bl b2 (i - 127) (by simp only [cut1_len]; omega)
  have b4 := cut1_bl b3 (i - 126) (by simp only [cut1_len]; omega)
  unfold cut5
  rw [cut1_pv b4 _ (by simp only [cut1_len]; exact hl) (by omega), cut1_pv b3 _ (by simp only [cut1_len]; exact hl) (by omega), cut1_pv b2 _ (by simp only [cut1_len]; exact hl) (by omega), cut1_pv b1 _ (by simp only [cut1_len]; exact hl) (by omega), cut1_pv h _ hl h2]
  have e := left128 (i - 128)
  rw [show 128 + (i - 128) = i by omega, show i - 128 + 1 = i - 127 by omega, show i - 128 + 2 = i - 126 by omega, show i - 128 + 7 = i - 121 by omega] at e
  rw [e]
  generalize mxN one (i - 128) = A
  generalize mxN one (i - 127) = B
  generalize mxN one (i - 126) = C
  generalize mxN one (i - 121) = D
  generalize pv p 255 = P
  apply Nat.eq_of_testBit_eq
  intro k
  simp only [Nat.testBit_xor]
  cases P.testBit k <;> cases A.testBit k <;> cases B.testBit k <;> cases C.testBit k <;> cases D.testBit k <;> rfl
/-- So many powers are taken away, the greatest first. -/
def red (p : List Nat) : Nat → List Nat
  | 0 => p
  | m + 1 => if (red p m).getD (254 - m) 0 = 1 then cut5 (red p m) (254 - m) else red p m
theorem red_len (p : List Nat) : ∀ m, (red p m).length = p.length
  | 0 => rfl
  | m + 1 => by
    rw [red]; split
    · rw [cut5_len, red_len p m]
    · exact red_len p m
theorem red_bl {p : List Nat} (h : bl p) (hl : p.length = 255) : ∀ m, m ≤ 127 → bl (red p m)
  | 0, _ => h
  | m + 1, hm => by
    rw [red]; split
    · exact cut5_bl (red_bl h hl m (by omega)) _ (by rw [red_len, hl]) (by omega) (by omega)
    · exact red_bl h hl m (by omega)
theorem red_pv {p : List Nat} (h : bl p) (hl : p.length = 255) : ∀ m, m ≤ 127 → pv (red p m) 255 = pv p 255
  | 0, _ => rfl
  | m + 1, hm => by
    rw [red]; split
    · rw [cut5_pv (red_bl h hl m (by omega)) _ (by rw [red_len, hl]) (by omega) (by omega), red_pv h hl m (by omega)]
    · exact red_pv h hl m (by omega)
theorem red_zero {p : List Nat} (h : bl p) (hl : p.length = 255) : ∀ m, m ≤ 127 → ∀ j, 255 - m ≤ j → (red p m).getD j 0 = 0
  | 0, _, j, hj => by
    show p.getD j 0 = 0
    rw [List.getD_eq_getElem?_getD, List.getElem?_eq_none (by omega)]; rfl
  | m + 1, hm, j, hj => by
    have hb := red_bl h hl m (by omega)
    have hrl := red_len p m
    rw [red]
    by_cases hi : j = 254 - m
    · subst hi
      split
      · rename_i h1
        unfold cut5
        rw [cut1_get _ _ _ (by simp only [cut1_len]; omega), if_neg (by omega), cut1_get _ _ _ (by simp only [cut1_len]; omega), if_neg (by omega), cut1_get _ _ _ (by simp only [cut1_len]; omega), if_neg (by omega), cut1_get _ _ _ (by simp only [cut1_len]; omega), if_neg (by omega), cut1_get _ _ _ (by omega), if_pos rfl, h1]
        decide
      · rename_i h1
        have := hb (254 - m)
        omega
    · have hz := red_zero h hl m (by omega) j (by omega)
      split
      · unfold cut5
        rw [cut1_get _ _ _ (by simp only [cut1_len]; omega), if_neg (by omega), cut1_get _ _ _ (by simp only [cut1_len]; omega), if_neg (by omega), cut1_get _ _ _ (by simp only [cut1_len]; omega), if_neg (by omega), cut1_get _ _ _ (by simp only [cut1_len]; omega), if_neg (by omega), cut1_get _ _ _ (by omega), if_neg hi, hz]
      · exact hz
end Go.Gc
