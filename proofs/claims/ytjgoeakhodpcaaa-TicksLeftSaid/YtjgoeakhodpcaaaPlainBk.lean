/- Layer 11: a bucket, and a multiple: no program in sight. -/
import Derived.Test.YtjgoeakhodpcaaaPlainTk
namespace Go.Proofs.Ytjgoeakhodpcaaa
set_option linter.unusedVariables false
namespace Tk
def times (a b : Int) : Int := sat (a * b)
def sub (a b : Int) : Int := a - min a b
theorem sub_bound (a b : Int) (ha : 0 ≤ a) (hb : 0 ≤ b) : 0 ≤ sub a b ∧ sub a b ≤ a := by unfold sub; omega
end Tk
namespace Bk
structure Bucket where
  size : Int
  every : Int
  tokens : Int
  since : Int
def ok (b : Bucket) : Prop := 0 ≤ b.size ∧ b.size ≤ 18446744073709551615 ∧ 0 < b.every ∧ b.every ≤ 18446744073709551615 ∧ 0 ≤ b.tokens ∧ b.tokens ≤ b.size ∧ 0 ≤ b.since ∧ b.since ≤ 18446744073709551615
def steps (b : Bucket) (now : Int) : Int := (now - b.since) / b.every
def upto (b : Bucket) (now : Int) : Bucket :=
  if now < b.since then b else if b.size - b.tokens ≤ steps b now then { b with tokens := b.size, since := now } else { b with tokens := b.tokens + steps b now, since := b.since + steps b now * b.every }
def taken (b : Bucket) : Bucket := if b.tokens = 0 then b else { b with tokens := b.tokens - 1 }
def take (b : Bucket) (now : Int) : Bucket := taken (upto b now)
def takes (b : Bucket) (now : Int) : Bool := decide ((upto b now).tokens ≠ 0)
def new (size every : Int) : Bucket := ⟨size, every, size, 0⟩

theorem steps_bound (b : Bucket) (now : Int) (h : ok b) (h1 : b.since ≤ now) : 0 ≤ steps b now ∧ steps b now ≤ now - b.since ∧ 0 ≤ steps b now * b.every ∧ steps b now * b.every ≤ now - b.since := by
  obtain ⟨_, _, e0, e1, _, _, s0, s1⟩ := h
  have h0 : 0 ≤ steps b now := Int.ediv_nonneg (by omega) (by omega)
  have hm : steps b now * b.every ≤ now - b.since := Int.ediv_mul_le _ (by omega)
  have hl : steps b now * 1 ≤ steps b now * b.every := Int.mul_le_mul_of_nonneg_left (by omega) h0
  refine ⟨h0, by omega, by omega, hm⟩
theorem upto_ok (b : Bucket) (now : Int) (h : ok b) (h0 : 0 ≤ now) (h1 : now ≤ 18446744073709551615) : ok (upto b now) := by
  unfold upto
  split
  · exact h
  · have hs := steps_bound b now h (by omega)
    generalize hm : steps b now * b.every = m at *
    generalize steps b now = n at *
    split
    · unfold ok at *; dsimp only; omega
    · unfold ok at *; dsimp only; omega
theorem taken_ok (b : Bucket) (h : ok b) : ok (taken b) := by
  unfold taken
  split
  · exact h
  · unfold ok at *; dsimp only; omega
theorem new_ok (s e : Int) (h0 : 0 ≤ s) (h1 : s ≤ 18446744073709551615) (h2 : 0 < e) (h3 : e ≤ 18446744073709551615) : ok (new s e) := by
  unfold ok new; dsimp only; omega
end Bk
end Go.Proofs.Ytjgoeakhodpcaaa
