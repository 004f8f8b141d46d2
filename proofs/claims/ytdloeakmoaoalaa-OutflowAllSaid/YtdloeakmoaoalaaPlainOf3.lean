/- Layer 17's outflow, in plain words: bytes one by one (OutflowAcks). -/
import Derived.Test.YtdloeakmoaoalaaRows
import Derived.Test.YtdloeakmoaoalaaPlainOf
import Derived.Test.YtdloeakmoaoalaaOfM
import Derived.Test.YtdloeakmoaoalaaPlainOf2
namespace Of
set_option linter.unusedVariables false
set_option linter.unusedSimpArgs false
/-- How many are to go out. -/
def cnt (l : List Nat) : Nat := l.countP fun c => c == 0 || c == 2
theorem cnt_le (l : List Nat) : cnt l ≤ l.length := List.countP_le_length
theorem cnt_set : ∀ (l : List Nat) (p : Nat), p < l.length → (l.getD p 0 = 0 ∨ l.getD p 0 = 2) → cnt (l.set p 1) + 1 = cnt l
  | [], p, h, _ => by simp at h
  | x :: t, 0, _, h => by
    have hx : (x == 0 || x == 2) = true := by
      rcases h with h | h <;> simp at h <;> subst h <;> rfl
    unfold cnt
    rw [List.set_cons_zero, List.countP_cons, List.countP_cons, if_pos hx]
    simp
  | x :: t, p + 1, h, h2 => by
    have := cnt_set t p (by simpa using h) (by simpa using h2)
    unfold cnt at *
    rw [List.set_cons_succ, List.countP_cons, List.countP_cons]
    omega
theorem setR_one (s : List Nat) (p : Nat) : setR s p (p + 1) 1 = s.set p 1 :=
  list_ext (by rw [setR_len, List.length_set]) fun i hi => by
    rw [setR_len] at hi
    rw [setR_getD _ _ _ _ _ hi, set_getD _ _ _ _ hi]
    by_cases e : i = p
    · rw [if_pos (by omega), if_pos e]
    · rw [if_neg (by omega), if_neg e]
/-- One byte's turn: what Some, Next and Sent tell of a buffer that isn't finished, the limit not reached. -/
theorem one_due (x : B) (hf : x.fin = false) (hl : x.s.length ≤ x.lim) (h : some_ x = true) :
    ∃ p, p < x.s.length ∧ (x.s.getD p 0 = 0 ∨ x.s.getD p 0 = 2) ∧ due x 1 = (p, p + 1, false, true) ∧ next x 1 = { x with s := x.s.set p 1 } := by
  have ho : openB x = x.s.length := by unfold openB; omega
  have he : ended x = false := by unfold ended; rw [hf]; rfl
  have key : ∃ p, p < x.s.length ∧ (x.s.getD p 0 = 0 ∨ x.s.getD p 0 = 2) ∧ due x 1 = (p, p + 1, false, true) := by
    unfold some_ at h
    unfold due at *
    simp only [ho, he, List.take_length] at *
    by_cases h2 : fst 2 x.s < x.s.length
    · rw [if_pos h2] at *
      have hr : runs 2 (x.s.drop (fst 2 x.s)) 1 = 1 := runs_eq _ _ _ _ (Nat.le_refl _) (by rw [List.length_drop]; omega) (fun i hi => by
        obtain rfl : i = 0 := by omega
        rw [getD_drop]; exact fst_at h2) (Or.inl rfl)
      rw [hr]
      exact ⟨fst 2 x.s, h2, Or.inr (fst_at h2), by simp⟩
    · rw [if_neg h2] at *
      by_cases h0 : fst 0 x.s < x.s.length
      · rw [if_pos h0] at *
        have hr : runs 0 (x.s.drop (fst 0 x.s)) 1 = 1 := runs_eq _ _ _ _ (Nat.le_refl _) (by rw [List.length_drop]; omega) (fun i hi => by
          obtain rfl : i = 0 := by omega
          rw [getD_drop]; exact fst_at h0) (Or.inl rfl)
        rw [hr]
        exact ⟨fst 0 x.s, h0, Or.inl (fst_at h0), by simp⟩
      · rw [if_neg h0] at h
        simp at h
  obtain ⟨p, h1, h2, h3⟩ := key
  refine ⟨p, h1, h2, h3, ?_⟩
  unfold next
  rw [if_neg (by omega), h3]
  simp only [setR_one]
  rfl
theorem one_end (x : B) (hl : x.s.length ≤ x.lim) (h : some_ x = false) : fst 0 x.s = x.s.length := by
  have ho : openB x = x.s.length := by unfold openB; omega
  have hle := fst_le 0 x.s
  unfold some_ due at h
  simp only [ho, List.take_length] at h
  by_cases h2 : fst 2 x.s < x.s.length
  · rw [if_pos h2] at h; simp at h
  · rw [if_neg h2] at h
    by_cases h0 : fst 0 x.s < x.s.length
    · rw [if_pos h0] at h; simp at h
    · omega
theorem turn_getD (x : B) (off : Nat) (n : Nat) (e : Bool) (f : Nat → Nat) (i : Nat) (h : i < x.s.length) :
    (turn x off n e f).s.getD i 0 = if off ≤ i ∧ i < off + n then f (x.s.getD i 0) else x.s.getD i 0 := by
  unfold turn
  simp only
  rw [List.getD_eq_getElem?_getD, List.getElem?_map, List.getElem?_range h]
  simp only [Option.map_some, Option.getD_some]
  by_cases hh : off ≤ i ∧ i < off + n
  · rw [if_pos hh, if_pos (by omega)]
  · rw [if_neg hh, if_neg (by omega)]
theorem turn_len (x : B) (off : Nat) (n : Int) (e : Bool) (f : Nat → Nat) : (turn x off n e f).s.length = x.s.length := by simp [turn]

/-- What the law keeps: text t, what was acked is acked, so many are to go out. -/
structure Ack (t : List Nat) (k off n j : Nat) (x : B) : Prop where
  b : x.b = t
  len : x.s.length = t.length
  fin : x.fin = false
  lim : x.lim = 1000
  acked : ∀ i, i < t.length → i < k → off ≤ i → i < off + n → x.s.getD i 0 = 3
  left : j + cnt x.s ≤ t.length
theorem ack_start (t : List Nat) (k off n : Nat) (hk : k ≤ t.length) : Ack t k off n 0 (turn (turn (St t 1000 k) off n false fAck) 0 t.length false fLost) := by
  have hl := st_len t 1000 k hk
  refine ⟨rfl, by rw [turn_len, turn_len, hl], rfl, rfl, fun i h1 h2 h3 h4 => ?_, ?_⟩
  · rw [turn_getD _ _ _ _ _ _ (by rw [turn_len, hl]; exact h1), if_pos (by omega), turn_getD _ _ _ _ _ _ (by rw [hl]; exact h1), if_pos ⟨h3, h4⟩, st_getD, if_pos h2]
    rfl
  · have := cnt_le (turn (turn (St t 1000 k) off n false fAck) 0 t.length false fLost).s
    rw [turn_len, turn_len, hl] at this
    omega
theorem Ack.step {t : List Nat} {k off n j : Nat} {x : B} (h : Ack t k off n j x) (hm : t.length ≤ 1000) (hs : some_ x = true) :
    ∃ p, p < t.length ∧ due x 1 = (p, p + 1, false, true) ∧ ¬ (p < k ∧ off ≤ p ∧ p < off + n) ∧ Ack t k off n (j + 1) (next x 1) := by
  obtain ⟨p, h1, h2, h3, h4⟩ := one_due x h.fin (by rw [h.len, h.lim]; exact hm) hs
  rw [h.len] at h1
  have hP : ¬ (p < k ∧ off ≤ p ∧ p < off + n) := fun hh => by
    have := h.acked p h1 hh.1 hh.2.1 hh.2.2
    omega
  refine ⟨p, h1, h3, hP, ?_⟩
  rw [h4]
  refine ⟨h.b, by rw [List.length_set]; exact h.len, h.fin, h.lim, fun i q1 q2 q3 q4 => ?_, ?_⟩
  · rw [set_getD _ _ _ _ (by rw [h.len]; exact q1), if_neg (by rintro rfl; exact hP ⟨q2, q3, q4⟩)]
    exact h.acked i q1 q2 q3 q4
  · have := cnt_set x.s p (by rw [h.len]; exact h1) h2
    have := h.left
    simp only
    omega
theorem Ack.end_ {t : List Nat} {k off n j : Nat} {x : B} (h : Ack t k off n j x) (hm : t.length ≤ 1000) (hs : some_ x = false) : sent x = t.length :=
  (one_end x (by rw [h.len, h.lim]; exact hm) hs).trans h.len
theorem Ack.more {t : List Nat} {k off n j : Nat} {x : B} (h : Ack t k off n j x) (hm : t.length ≤ 1000) (hs : some_ x = true) : j < t.length := by
  obtain ⟨p, h1, h2, _, _⟩ := one_due x h.fin (by rw [h.len, h.lim]; exact hm) hs
  have := cnt_set x.s p h1 h2
  have := h.left
  omega
end Of
namespace Go.Proofs.Ytdloeakmoaoalaa
end Go.Proofs.Ytdloeakmoaoalaa
