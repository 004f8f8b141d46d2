/- Sums of blocks, byte by byte. Plain. -/
import Derived.Test.YtnphanhoakbkpaaAid
import Derived.Test.YtnphanhoakbkpaaPlainAe
import Derived.Test.YtnphanhoakbkpaaPlainAe2
import Derived.Test.YtnphanhoakbkpaaPlainGc
import Derived.Test.YtnphanhoakbkpaaPlainGc2
namespace Go.Gc
open Go.Proofs.Ytnphanhoakbkpaa
set_option linter.unusedVariables false
theorem xor_parts (k x y p q : Nat) (hp : p < 2 ^ k) (hq : q < 2 ^ k) : (x * 2 ^ k + p) ^^^ (y * 2 ^ k + q) = (x ^^^ y) * 2 ^ k + (p ^^^ q) := by
  have h1 : ((x * 2 ^ k + p) ^^^ (y * 2 ^ k + q)) / 2 ^ k = x ^^^ y := by
    rw [Nat.xor_div_two_pow, Nat.mul_comm x, Nat.mul_comm y, Nat.mul_add_div (Nat.two_pow_pos k), Nat.mul_add_div (Nat.two_pow_pos k), Nat.div_eq_of_lt hp, Nat.div_eq_of_lt hq]; simp
  have h2 : ((x * 2 ^ k + p) ^^^ (y * 2 ^ k + q)) % 2 ^ k = p ^^^ q := by
    rw [Nat.xor_mod_two_pow, Nat.mul_comm x, Nat.mul_comm y, Nat.mul_add_mod, Nat.mul_add_mod, Nat.mod_eq_of_lt hp, Nat.mod_eq_of_lt hq]
  rw [← Nat.div_add_mod ((x * 2 ^ k + p) ^^^ (y * 2 ^ k + q)) (2 ^ k), h1, h2, Nat.mul_comm]
theorem pow256 (k : Nat) : 256 ^ k = 2 ^ (8 * k) := by rw [show (256 : Nat) = 2 ^ 8 from rfl, ← Nat.pow_mul]
theorem nb_zip : ∀ (l r : List Nat), l.length = r.length → Ae.bytes l → Ae.bytes r → nb (List.zipWith (· ^^^ ·) l r) = nb l ^^^ nb r
  | [], [], _, _, _ => by simp [nb]
  | [], _ :: _, h, _, _ => by simp at h
  | _ :: _, [], h, _, _ => by simp at h
  | x :: l, y :: r, h, hl, hr => by
    have h' : l.length = r.length := by simpa using h
    have hl' : Ae.bytes l := fun c hc => hl c (List.mem_cons_of_mem _ hc)
    have hr' : Ae.bytes r := fun c hc => hr c (List.mem_cons_of_mem _ hc)
    have h1 := nb_lt l hl'
    have h2 := nb_lt r hr'
    rw [List.zipWith_cons_cons, nb_cons, nb_cons, nb_cons, nb_zip l r h' hl' hr', List.length_zipWith, ← h', Nat.min_self]
    rw [pow256] at h1 h2 ⊢
    rw [← h'] at h2
    exact (xor_parts _ _ _ _ _ h1 h2).symm
/-- Byte by byte. -/
def xl (b c : List Nat) : List Nat := (List.range 16).map fun i => b.getD i 0 ^^^ c.getD i 0
theorem xl_len (b c : List Nat) : (xl b c).length = 16 := by simp [xl]
theorem xl_zip {b c : List Nat} (hb : b.length = 16) (hc : c.length = 16) : xl b c = List.zipWith (· ^^^ ·) b c := by
  refine List.ext_getElem (by simp [xl, hb, hc]) fun i h1 h2 => ?_
  rw [xl_len] at h1
  simp [xl, List.getD_eq_getElem?_getD, hb, hc, h1]
theorem xl_bytes {b c : List Nat} (hb : b.length = 16) (hc : c.length = 16) (qb : Ae.bytes b) (qc : Ae.bytes c) : Ae.bytes (xl b c) := fun x hx => by
  unfold xl at hx
  obtain ⟨i, hi, rfl⟩ := List.mem_map.1 hx
  rw [List.mem_range] at hi
  refine Nat.xor_lt_two_pow (n := 8) ?_ ?_
  · rw [List.getD_eq_getElem?_getD, List.getElem?_eq_getElem (by omega)]; exact qb _ (List.getElem_mem _)
  · rw [List.getD_eq_getElem?_getD, List.getElem?_eq_getElem (by omega)]; exact qc _ (List.getElem_mem _)
theorem nb_xl {b c : List Nat} (hb : b.length = 16) (hc : c.length = 16) (qb : Ae.bytes b) (qc : Ae.bytes c) : nb (xl b c) = nb b ^^^ nb c := by
  rw [xl_zip hb hc, nb_zip _ _ (by rw [hb, hc]) qb qc]
theorem bn_xor {v w : Nat} (hv : v < 2 ^ 128) (hw : w < 2 ^ 128) : xl (bn v) (bn w) = bn (v ^^^ w) := by
  have := nb_xl (bn_len v) (bn_len w) (bn_bytes v) (bn_bytes w)
  rw [nb_bn hv, nb_bn hw] at this
  rw [← this, bn_nb (xl_len _ _) (xl_bytes (bn_len _) (bn_len _) (bn_bytes _) (bn_bytes _))]
theorem nb_one : nb (128 :: List.replicate 15 0) = one := by decide +kernel
end Go.Gc
