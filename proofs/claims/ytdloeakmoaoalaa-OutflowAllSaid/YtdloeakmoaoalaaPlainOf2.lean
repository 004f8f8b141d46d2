/- Layer 17's outflow, in plain words: what goes out in order (OutflowLimit), what was lost and acked (OutflowAcks). -/
import Derived.Test.YtdloeakmoaoalaaRows
import Derived.Test.YtdloeakmoaoalaaPlainOf
import Derived.Test.YtdloeakmoaoalaaOfM
namespace Of
set_option linter.unusedVariables false
set_option linter.unusedSimpArgs false
theorem runs_eq (c : Nat) : ∀ (l : List Nat) (many r : Nat), r ≤ many → r ≤ l.length → (∀ i, i < r → l.getD i 0 = c) → (r = many ∨ r = l.length ∨ l.getD r 0 ≠ c) → runs c l many = r
  | l, 0, r, h1, _, _, _ => by
    obtain rfl : r = 0 := by omega
    cases l <;> rfl
  | [], m + 1, r, _, h2, _, _ => by
    obtain rfl : r = 0 := by simpa using h2
    rfl
  | x :: t, m + 1, 0, _, _, _, h4 => by
    unfold runs
    rcases h4 with h | h | h
    · omega
    · simp at h
    · rw [if_neg (by simpa using h)]
  | x :: t, m + 1, r + 1, h1, h2, h3, h4 => by
    have hx : x = c := by simpa using h3 0 (by omega)
    unfold runs
    rw [if_pos hx, runs_eq c t m r (by omega) (by simpa using h2) (fun i hi => by simpa using h3 (i + 1) (by omega)) (by
      rcases h4 with h | h | h
      · exact Or.inl (by omega)
      · exact Or.inr (Or.inl (by simpa using h))
      · exact Or.inr (Or.inr (by simpa using h)))]
theorem getD_take (l : List Nat) (n i : Nat) (h : i < n) : (l.take n).getD i 0 = l.getD i 0 := by
  rw [List.getD_eq_getElem?_getD, List.getD_eq_getElem?_getD, List.getElem?_take, if_pos h]
theorem getD_drop (l : List Nat) (n i : Nat) : (l.drop n).getD i 0 = l.getD (n + i) 0 := by
  rw [List.getD_eq_getElem?_getD, List.getD_eq_getElem?_getD, List.getElem?_drop]

/-- The first k are out, the rest is new. -/
def St (t : List Nat) (lim k : Nat) : B := ⟨t, List.replicate k 1 ++ List.replicate (t.length - k) 0, false, 0, lim⟩
theorem st_len (t : List Nat) (lim k : Nat) (h : k ≤ t.length) : (St t lim k).s.length = t.length := by simp [St]; omega
theorem st_getD (t : List Nat) (lim k i : Nat) : (St t lim k).s.getD i 0 = if i < k then 1 else 0 := by
  unfold St
  simp only [List.getD_eq_getElem?_getD]
  rcases Nat.lt_or_ge i k with h | h
  · rw [if_pos h, List.getElem?_append_left (by simpa using h), List.getElem?_replicate, if_pos h]; rfl
  · rw [if_neg (by omega), List.getElem?_append_right (by simpa using h), List.getElem?_replicate]
    split <;> rfl
theorem st_new (t : List Nat) (lim : Nat) (h : t.length ≤ 2000) : Of.write ⟨[], [], false, 0, lim⟩ t = (t.length, St t lim 0) := by
  unfold Of.write St
  have : min t.length (2000 - 0) = t.length := by omega
  simp [this]
theorem st_fst2 (t : List Nat) (lim k : Nat) (h : k ≤ t.length) : fst 2 (St t lim k).s = t.length := by
  rw [fst_none (fun i hi => by rw [st_getD]; split <;> omega), st_len _ _ _ h]
theorem st_fst0 (t : List Nat) (lim k : Nat) (h : k ≤ t.length) : fst 0 (St t lim k).s = k := by
  rcases Nat.lt_or_ge k t.length with h' | h'
  · exact fst_eq (by rw [st_len _ _ _ h]; exact h') (by rw [st_getD, if_neg (by omega)]) (fun i hi => by rw [st_getD, if_pos hi]; omega)
  · rw [fst_none (fun i hi => by rw [st_len _ _ _ h] at hi; rw [st_getD, if_pos (by omega)]; omega), st_len _ _ _ h]; omega
theorem st_open (t : List Nat) (lim k : Nat) (h : k ≤ t.length) : openB (St t lim k) = min t.length lim := by
  unfold openB; rw [st_len _ _ _ h]; rfl
theorem st_due (t : List Nat) (lim k many : Nat) (h : k ≤ min t.length lim) :
    due (St t lim k) many = if k < min t.length lim then (k, k + min many (min t.length lim - k), false, true) else (0, 0, false, false) := by
  have hk : k ≤ t.length := by omega
  have ho := st_open t lim k hk
  have hl := st_len t lim k hk
  have htl : ((St t lim k).s.take (min t.length lim)).length = min t.length lim := by rw [List.length_take, hl]; omega
  have hf : fst 0 ((St t lim k).s.take (min t.length lim)) = k := by
    rcases Nat.lt_or_ge k (min t.length lim) with h' | h'
    · exact fst_eq (by rw [htl]; exact h') (by rw [getD_take _ _ _ h', st_getD, if_neg (by omega)]) (fun i hi => by rw [getD_take _ _ _ (by omega), st_getD, if_pos hi]; omega)
    · rw [fst_none (fun i hi => by rw [htl] at hi; rw [getD_take _ _ _ hi, st_getD, if_pos (by omega)]; omega), htl]; omega
  have he : ended (St t lim k) = false := rfl
  unfold due
  simp only [ho, hf, he, st_fst2 _ _ _ hk, hl]
  rw [if_neg (by omega)]
  by_cases h' : k < min t.length lim
  · rw [if_pos h', if_pos h']
    rw [runs_eq 0 _ many (min many (min t.length lim - k)) (by omega) (by rw [List.length_drop, htl]; omega) (fun i hi => by
      rw [getD_drop, getD_take _ _ _ (by omega), st_getD, if_neg (by omega)]) (by rw [List.length_drop, htl]; omega)]
    simp
  · rw [if_neg h', if_neg h']; rfl
theorem st_next (t : List Nat) (lim k many : Nat) (h : k < min t.length lim) (hm : 0 < many) :
    next (St t lim k) many = St t lim (k + min many (min t.length lim - k)) := by
  unfold next
  rw [if_neg (by omega), st_due _ _ _ _ (by omega), if_pos h]
  have hs : setR (St t lim k).s k (k + min many (min t.length lim - k)) 1 = (St t lim (k + min many (min t.length lim - k))).s :=
    list_ext (by rw [setR_len, st_len _ _ _ (by omega), st_len _ _ _ (by omega)]) fun i hi => by
      rw [setR_len] at hi
      rw [setR_getD _ _ _ _ _ hi, st_getD, st_getD]
      split <;> split <;> (try split) <;> omega
  simp only [hs]
  rfl
theorem st_some (t : List Nat) (lim k : Nat) (h : k ≤ min t.length lim) : some_ (St t lim k) = decide (k < min t.length lim) := by
  unfold some_
  rw [st_due _ _ _ _ h]
  by_cases h' : k < min t.length lim
  · rw [if_pos h', decide_eq_true h']
  · rw [if_neg h', decide_eq_false h']
theorem st_sent (t : List Nat) (lim k : Nat) (h : k ≤ t.length) : sent (St t lim k) = k := st_fst0 t lim k h
theorem st_blocked (t : List Nat) (lim k : Nat) (h : k ≤ t.length) : blocked (St t lim k) = (decide (k < t.length) && decide (min t.length lim ≤ k)) := by
  unfold blocked
  rw [st_fst0 _ _ _ h, st_fst2 _ _ _ h, st_len _ _ _ h, st_open _ _ _ h, decide_eq_true rfl, Bool.and_true]
theorem st_raise (t : List Nat) (lim k l' : Nat) (h : lim < l') : raise (St t lim k) l' = (true, St t l' k) := by
  unfold raise
  rw [if_neg (by show ¬ l' ≤ lim; omega)]; rfl
end Of
namespace Go.Proofs.Ytdloeakmoaoalaa
end Go.Proofs.Ytdloeakmoaoalaa
