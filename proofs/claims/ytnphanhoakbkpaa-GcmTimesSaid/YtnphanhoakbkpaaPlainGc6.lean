/- The document's sum is the code's. Plain. -/
import Derived.Test.YtnphanhoakbkpaaAid
import Derived.Test.YtnphanhoakbkpaaPlainAe
import Derived.Test.YtnphanhoakbkpaaPlainAe2
import Derived.Test.YtnphanhoakbkpaaPlainGc
import Derived.Test.YtnphanhoakbkpaaPlainGc2
import Derived.Test.YtnphanhoakbkpaaGcR
namespace Go.Gc
open Go.Proofs.Ytnphanhoakbkpaa
set_option linter.unusedVariables false
theorem absb_congr {h y : Nat} {l m : List Nat} : ∀ n, (∀ i, i < n → pad (chunk l i) = pad (chunk m i)) → absb h y l n = absb h y m n
  | 0, _ => rfl
  | n + 1, e => by
    rw [absb, absb, absb_congr n fun i hi => e i (by omega)]
    unfold step
    rw [e n (by omega)]
theorem absb_add (h y : Nat) (l m r : List Nat) (n : Nat) (h1 : ∀ i, i < n → chunk l i = chunk m i) (h2 : ∀ i, chunk l (n + i) = chunk r i) : ∀ k, absb h y l (n + k) = absb h (absb h y m n) r k
  | 0 => absb_congr n fun i hi => by rw [h1 i hi]
  | k + 1 => by
    rw [← Nat.add_assoc, absb, absb, absb_add h y l m r n h1 h2 k, h2 k]
theorem absb_append (h y : Nat) (l r : List Nat) (n k : Nat) (hl : l.length = 16 * n) : absb h y (l ++ r) (n + k) = absb h (absb h y l n) r k := by
  refine absb_add h y (l ++ r) l r n (fun i hi => ?_) (fun i => ?_) k
  · unfold chunk
    rw [List.drop_append_of_le_length (by omega), List.take_append_of_le_length (by rw [List.length_drop]; omega)]
  · unfold chunk
    rw [show 16 * (n + i) = l.length + 16 * i by omega, List.drop_append, List.drop_eq_nil_of_le (by omega), List.nil_append, Nat.add_sub_cancel_left]
theorem up_nch (l : List Nat) : up l.length = 16 * nch l := rfl
theorem absb_full (h y : Nat) (l : List Nat) : absb h y (fullL l) (nch l) = absb h y l (nch l) := by
  refine absb_congr _ fun i hi => ?_
  have hu := up_le l.length
  have hn := up_nch l
  unfold chunk fullL
  by_cases hf : 16 * i + 16 ≤ l.length
  · rw [List.drop_append_of_le_length (by omega), List.take_append_of_le_length (by rw [List.length_drop]; omega)]
  · have hd : 16 * i ≤ l.length := by unfold nch at hi; omega
    rw [List.drop_append_of_le_length hd]
    have hk : up l.length - l.length = 16 - (l.drop (16 * i)).length := by rw [List.length_drop]; unfold nch at hi hn; omega
    rw [hk]
    have ht : (l.drop (16 * i)).take 16 = l.drop (16 * i) := List.take_of_length_le (by rw [List.length_drop]; omega)
    rw [ht]
    have e : (l.drop (16 * i) ++ List.replicate (16 - (l.drop (16 * i)).length) 0) = pad (l.drop (16 * i)) := rfl
    rw [e, List.take_of_length_le (by rw [pad_len (by rw [List.length_drop]; omega)]; omega)]
    unfold pad
    have hlen : (l.drop (16 * i) ++ List.replicate (16 - (l.drop (16 * i)).length) 0).length = 16 := pad_len (by rw [List.length_drop]; omega)
    rw [hlen, Nat.sub_self, List.replicate_zero, List.append_nil]
/-- All that the document sums. -/
def allL (more text : List Nat) : List Nat := fullL more ++ (fullL text ++ bn (ends more text))
theorem allL_len (more text : List Nat) : (allL more text).length = 16 * (nch more + (nch text + 1)) := by
  unfold allL; rw [List.length_append, List.length_append, fullL_len, fullL_len, up_nch, up_nch, bn_len]; omega
theorem gsum_ref (h : Nat) {more text : List Nat} (h1 : more.length ≤ 1000000) (h2 : text.length ≤ 1000000) : absb h 0 (allL more text) (nch more + (nch text + 1)) = gsum h more text := by
  unfold allL gsum
  rw [absb_append _ _ _ _ _ _ (by rw [fullL_len, up_nch]), absb_append _ _ _ _ _ _ (by rw [fullL_len, up_nch]), absb_full, absb_full]
  rw [absb, absb]
  unfold step
  have hc : chunk (bn (ends more text)) 0 = bn (ends more text) := by unfold chunk; rw [Nat.mul_zero, List.drop_zero, List.take_of_length_le (by rw [bn_len]; omega)]
  have hp : pad (bn (ends more text)) = bn (ends more text) := by unfold pad; rw [bn_len]; simp
  rw [hc, hp, nb_bn (ends_lt h1 h2).1]
end Go.Gc
