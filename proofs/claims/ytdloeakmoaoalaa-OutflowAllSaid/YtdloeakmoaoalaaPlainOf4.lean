/- Layer 17's outflow, in plain words: each byte once (OutflowRight). -/
import Derived.Test.YtdloeakmoaoalaaRows
import Derived.Test.YtdloeakmoaoalaaPlainOf
import Derived.Test.YtdloeakmoaoalaaOfM
import Derived.Test.YtdloeakmoaoalaaPlainOf2
import Derived.Test.YtdloeakmoaoalaaPlainOf3
import Derived.Test.YtdloeakmoaoalaaOfP
import Derived.Test.YtdloeakmoaoalaaOfR
namespace Of
set_option linter.unusedVariables false
set_option linter.unusedSimpArgs false
/-- What stays true: what went out is within the limit; what is marked is out or acked. -/
structure Right (x : B) (o : List Nat) : Prop where
  ok : Ok x
  lim : ∀ i, i < x.s.length → x.s.getD i 0 ≠ 0 → i < x.lim
  len : o.length = 2000
  one : ∀ i, i < 2000 → o.getD i 0 = 1 → i < x.s.length ∧ (x.s.getD i 0 = 1 ∨ x.s.getD i 0 = 3)
theorem right_new (lim : Nat) : Right ⟨[], [], false, 0, lim⟩ (List.replicate 2000 0) :=
  ⟨Ok.new lim, fun i h => absurd h (Nat.not_lt_zero _), List.length_replicate, fun i hi h => by
    rw [List.getD_eq_getElem?_getD, List.getElem?_replicate, if_pos hi, Option.getD_some] at h; omega⟩
theorem getD_app (l m : List Nat) (i : Nat) (h : i < l.length) : (l ++ m).getD i 0 = l.getD i 0 := by
  rw [List.getD_eq_getElem?_getD, List.getElem?_append_left h, ← List.getD_eq_getElem?_getD]
theorem Right.write {x : B} {o : List Nat} (h : Right x o) (data : List Nat) : Right (write x data).2 o := by
  refine ⟨h.ok.write data, ?_, h.len, ?_⟩
  · unfold Of.write
    by_cases hf : x.fin
    · rw [if_pos hf]; exact h.lim
    · rw [if_neg hf]
      simp only
      intro i hi hs
      rcases Nat.lt_or_ge i x.s.length with h' | h'
      · rw [getD_app _ _ _ h'] at hs; exact h.lim i h' hs
      · exfalso; apply hs
        rw [List.getD_eq_getElem?_getD, List.getElem?_append_right h', List.getElem?_replicate]
        split <;> rfl
  · intro i hi ho
    obtain ⟨h1, h2⟩ := h.one i hi ho
    unfold Of.write
    by_cases hf : x.fin
    · rw [if_pos hf]; exact ⟨h1, h2⟩
    · rw [if_neg hf]
      simp only
      rw [getD_app _ _ _ h1, List.length_append]
      exact ⟨by omega, h2⟩
theorem Right.finish {x : B} {o : List Nat} (h : Right x o) : Right (finish x).2 o := by
  unfold Of.finish
  split
  · exact h
  · exact ⟨⟨h.ok.len, h.ok.cap, h.ok.st, h.ok.en⟩, h.lim, h.len, h.one⟩
theorem Right.raise {x : B} {o : List Nat} (h : Right x o) (l : Nat) : Right (raise x l).2 o := by
  unfold Of.raise
  split
  · exact h
  · exact ⟨⟨h.ok.len, h.ok.cap, h.ok.st, h.ok.en⟩, fun i hi hs => by have := h.lim i hi hs; simp only; omega, h.len, h.one⟩
theorem raise_lim (x : B) (l : Nat) : (raise x l).1 = true → (raise x l).2.lim = l := by
  unfold Of.raise; split <;> simp
theorem raise_same (x : B) (l : Nat) : (raise x l).1 = false → (raise x l).2 = x := by
  unfold Of.raise; split <;> simp
/-- What goes out. -/
theorem due_right (x : B) (many : Nat) (hok : Ok x) (hl : ∀ i, i < x.s.length → x.s.getD i 0 ≠ 0 → i < x.lim) :
    ((due x many).2.2.2 = true ∧ (due x many).2.1 - (due x many).1 ≤ many ∧ ∀ i, (due x many).1 ≤ i → i < (due x many).2.1 → (x.s.getD i 0 = 0 ∨ x.s.getD i 0 = 2) ∧ i < x.lim)
      ∨ due x many = (0, 0, false, false) := by
  unfold due
  simp only
  by_cases h2 : fst 2 x.s < x.s.length
  · rw [if_pos h2]
    have hr := runs_le 2 (x.s.drop (fst 2 x.s)) many
    refine Or.inl ⟨rfl, by simp only; omega, fun i h3 h4 => ?_⟩
    simp only at h3 h4
    have hin := runs_in 2 (x.s.drop (fst 2 x.s)) many (i - fst 2 x.s) (by omega)
    rw [getD_drop, show fst 2 x.s + (i - fst 2 x.s) = i by omega] at hin
    have := hr.2
    rw [List.length_drop] at this
    exact ⟨Or.inr hin, hl i (by omega) (by omega)⟩
  · rw [if_neg h2]
    by_cases h0 : fst 0 (x.s.take (openB x)) < openB x
    · rw [if_pos h0]
      have hr := runs_le 0 ((x.s.take (openB x)).drop (fst 0 (x.s.take (openB x)))) many
      refine Or.inl ⟨rfl, by simp only; omega, fun i h3 h4 => ?_⟩
      simp only at h3 h4
      have hin := runs_in 0 ((x.s.take (openB x)).drop (fst 0 (x.s.take (openB x)))) many (i - fst 0 (x.s.take (openB x))) (by omega)
      rw [getD_drop, show fst 0 (x.s.take (openB x)) + (i - fst 0 (x.s.take (openB x))) = i by omega] at hin
      have := hr.2
      rw [List.length_drop, List.length_take] at this
      have hio : i < openB x := by unfold openB at *; omega
      rw [getD_take _ _ _ hio] at hin
      exact ⟨Or.inl hin, by unfold openB at hio; omega⟩
    · rw [if_neg h0]
      by_cases h5 : (ended x && fst 0 x.s == x.s.length) = true
      · rw [if_pos h5]
        exact Or.inl ⟨rfl, by simp, fun i h3 h4 => by simp only at h3 h4; omega⟩
      · rw [if_neg h5]; exact Or.inr rfl
theorem Right.next0 {x : B} {o : List Nat} (h : Right x o) (many : Nat) (hd : due x many = (0, 0, false, false)) : next x many = x := by
  unfold Of.next
  split
  · rfl
  · rw [hd]; simp only [setR_none]; rfl
theorem Right.next {x : B} {o : List Nat} (h : Right x o) (many : Nat) (hm : 0 < many) (hle : (due x many).1 ≤ (due x many).2.1 ∧ (due x many).2.1 ≤ x.s.length)
    (hd : ∀ i, (due x many).1 ≤ i → i < (due x many).2.1 → (x.s.getD i 0 = 0 ∨ x.s.getD i 0 = 2) ∧ i < x.lim) :
    (∀ i, (due x many).1 ≤ i → i < (due x many).2.1 → o.getD i 0 ≠ 1) ∧ Right (next x many) (setR o (due x many).1 (due x many).2.1 1) := by
  have hcap := h.ok.cap
  have hlen := h.ok.len
  refine ⟨fun i h1 h2 ho => ?_, h.ok.next many, ?_, by rw [setR_len]; exact h.len, ?_⟩
  · have h3 := h.one i (by omega) ho
    have h4 := hd i h1 h2
    omega
  · unfold Of.next
    rw [if_neg (by omega)]
    simp only [setR_len]
    intro i hi hs
    rw [setR_getD _ _ _ _ _ hi] at hs
    by_cases hh : (due x many).1 ≤ i ∧ i < (due x many).2.1
    · exact (hd i hh.1 hh.2).2
    · rw [if_neg hh] at hs; exact h.lim i hi hs
  · intro i hi ho
    rw [setR_getD _ _ _ _ _ (by rw [h.len]; exact hi)] at ho
    unfold Of.next
    rw [if_neg (by omega)]
    simp only [setR_len]
    by_cases hh : (due x many).1 ≤ i ∧ i < (due x many).2.1
    · refine ⟨by omega, Or.inl ?_⟩
      rw [setR_getD _ _ _ _ _ (by omega), if_pos hh]
    · rw [if_neg hh] at ho
      obtain ⟨h1, h2⟩ := h.one i hi ho
      refine ⟨h1, ?_⟩
      rw [setR_getD _ _ _ _ _ h1, if_neg hh]; exact h2
theorem turn_at (x : B) (off : Nat) (n : Int) (e : Bool) (f : Nat → Nat) (i : Nat) (h : i < x.s.length) :
    (turn x off n e f).s.getD i 0 = if off ≤ i ∧ (i : Int) < off + n then f (x.s.getD i 0) else x.s.getD i 0 := by
  unfold turn
  simp only
  rw [List.getD_eq_getElem?_getD, List.getElem?_map, List.getElem?_range h]
  simp only [Option.map_some, Option.getD_some]
  by_cases hh : off ≤ i ∧ (i : Int) < off + n
  · rw [if_pos hh, if_pos (by omega)]
  · rw [if_neg hh, if_neg (by omega)]
theorem Right.acked {x : B} {o : List Nat} (h : Right x o) (off : Nat) (n : Int) (e : Bool) : Right (turn x off n e fAck) o := by
  refine ⟨h.ok.turn _ _ _ _ fAck_le, ?_, h.len, ?_⟩
  · intro i hi hs
    rw [turn_len] at hi
    rw [turn_at _ _ _ _ _ _ hi] at hs
    refine h.lim i hi fun h0 => hs ?_
    rw [h0]; split <;> rfl
  · intro i hi ho
    obtain ⟨h1, h2⟩ := h.one i hi ho
    rw [turn_len, turn_at _ _ _ _ _ _ h1]
    refine ⟨h1, ?_⟩
    split
    · refine Or.inr ?_
      unfold fAck; rw [if_neg (by omega)]
    · exact h2
/-- Marks that fall: of the places from off on, n at most, below 2000. -/
theorem Right.lost {x : B} {o : List Nat} (h : Right x o) (off : Nat) (n : Int) (e : Bool) (k : Nat) (hk : (n ≤ k ∨ 2000 ≤ off + k)) : Right (turn x off n e fLost) (setR o off (off + k) 0) := by
  have hcap := h.ok.cap
  have hlen := h.ok.len
  refine ⟨h.ok.turn _ _ _ _ fLost_le, ?_, by rw [setR_len]; exact h.len, ?_⟩
  · intro i hi hs
    rw [turn_len] at hi
    rw [turn_at _ _ _ _ _ _ hi] at hs
    refine h.lim i hi fun h0 => hs ?_
    rw [h0]; split <;> rfl
  · intro i hi ho
    rw [setR_getD _ _ _ _ _ (by rw [h.len]; exact hi)] at ho
    by_cases hh : off ≤ i ∧ i < off + k
    · rw [if_pos hh] at ho; omega
    · rw [if_neg hh] at ho
      obtain ⟨h1, h2⟩ := h.one i hi ho
      rw [turn_len, turn_at _ _ _ _ _ _ h1, if_neg (by omega)]
      exact ⟨h1, h2⟩
end Of
namespace Go.Proofs.Ytdloeakmoaoalaa
end Go.Proofs.Ytdloeakmoaoalaa
