/- Layer 17's outflow, in plain words: what the document's own loops come to (OutflowActs). -/
import Derived.Test.YtdloeakmoaoalaaRows
import Derived.Test.YtdloeakmoaoalaaPlainOf
import Derived.Test.YtdloeakmoaoalaaOfM
import Derived.Test.YtdloeakmoaoalaaPlainOf2
import Derived.Test.YtdloeakmoaoalaaPlainOf3
import Derived.Test.YtdloeakmoaoalaaOfP
import Derived.Test.YtdloeakmoaoalaaOfR
import Derived.Test.YtdloeakmoaoalaaPlainOf4
namespace Of
set_option linter.unusedVariables false
set_option linter.unusedSimpArgs false
/-- Behind the first new byte all are new. -/
def Pre (x : B) : Prop := ∃ p, ∀ i, i < x.s.length → (x.s.getD i 0 = 0 ↔ p ≤ i)
theorem pre_new (lim : Nat) : Pre ⟨[], [], false, 0, lim⟩ := ⟨0, fun i h => absurd h (Nat.not_lt_zero _)⟩
theorem pre_same {x y : B} (h : Pre x) (e : y.s = x.s) : Pre y := by
  obtain ⟨p, h⟩ := h
  exact ⟨p, by rw [e]; exact h⟩
theorem pre_write {x : B} (h : Pre x) (d : List Nat) : Pre (write x d).2 := by
  unfold Of.write
  by_cases hf : x.fin
  · rw [if_pos hf]; exact h
  · rw [if_neg hf]
    obtain ⟨p, h⟩ := h
    refine ⟨min p x.s.length, fun i hi => ?_⟩
    simp only at hi ⊢
    rcases Nat.lt_or_ge i x.s.length with h' | h'
    · rw [getD_app _ _ _ h', h i h']; omega
    · have : (x.s ++ List.replicate (min d.length (2000 - x.b.length)) 0).getD i 0 = 0 := by
        rw [List.getD_eq_getElem?_getD, List.getElem?_append_right h', List.getElem?_replicate]
        split <;> rfl
      rw [this]
      exact ⟨fun _ => by omega, fun _ => rfl⟩
theorem pre_finish {x : B} (h : Pre x) : Pre (finish x).2 := pre_same h (by unfold Of.finish; split <;> rfl)
theorem pre_raise {x : B} (h : Pre x) (l : Nat) : Pre (raise x l).2 := pre_same h (by unfold Of.raise; split <;> rfl)
theorem pre_turn {x : B} (h : Pre x) (off : Nat) (n : Int) (e : Bool) (f : Nat → Nat) (hf : ∀ c, f c = 0 ↔ c = 0) : Pre (turn x off n e f) := by
  obtain ⟨p, h⟩ := h
  refine ⟨p, fun i hi => ?_⟩
  rw [turn_len] at hi
  rw [turn_at _ _ _ _ _ _ hi]
  split
  · rw [hf]; exact h i hi
  · exact h i hi
theorem fAck_zero (c : Nat) : fAck c = 0 ↔ c = 0 := by unfold fAck; split <;> omega
theorem fLost_zero (c : Nat) : fLost c = 0 ↔ c = 0 := by unfold fLost; split <;> omega
theorem fst_take (c : Nat) (l : List Nat) (k : Nat) : fst c (l.take k) = min k (fst c l) := by
  unfold fst; rw [List.findIdx_take]
/-- How long what goes out is. -/
def rlen (x : B) (many : Nat) : Nat := (due x many).2.1 - (due x many).1
/-- The five ways of what goes out next. -/
inductive Due (x : B) (many : Nat) : Prop where
  | lost (l r : Nat) (h1 : fst 2 x.s = l) (h2 : l < x.s.length) (hr : r ≤ many) (hr2 : l + r ≤ x.s.length) (h3 : ∀ k, k ≤ r → (k < r ↔ (l + k < x.s.length ∧ k < many ∧ x.s.getD (l + k) 0 = 2))) (h : due x many = (l, l + r, ended x && l + r == x.s.length, true))
  | fresh (f r : Nat) (h0 : fst 2 x.s = x.s.length) (h1 : fst 0 x.s = f) (h2 : f < x.s.length) (h4 : f < x.lim) (hr : r ≤ many) (hr2 : f + r ≤ x.s.length) (h3 : ∀ k, k ≤ r → (k < r ↔ (f + k < x.s.length ∧ k < many ∧ x.s.getD (f + k) 0 = 0 ∧ f + k < x.lim))) (h : due x many = (f, f + r, ended x && f + r == x.s.length, true))
  | shut (h0 : fst 2 x.s = x.s.length) (h2 : fst 0 x.s < x.s.length) (h4 : x.lim ≤ fst 0 x.s) (h : due x many = (0, 0, false, false))
  | fin (h0 : fst 2 x.s = x.s.length) (h1 : fst 0 x.s = x.s.length) (h2 : ended x = true) (h : due x many = (x.s.length, x.s.length, true, true))
  | none (h0 : fst 2 x.s = x.s.length) (h1 : fst 0 x.s = x.s.length) (h2 : ended x = false) (h : due x many = (0, 0, false, false))
theorem due_ways (x : B) (many : Nat) : Due x many := by
  have hl2 := fst_le 2 x.s
  have hl0 := fst_le 0 x.s
  by_cases h2 : fst 2 x.s < x.s.length
  · have hr := runs_le 2 (x.s.drop (fst 2 x.s)) many
    have hd : (x.s.drop (fst 2 x.s)).length = x.s.length - fst 2 x.s := List.length_drop
    refine .lost (fst 2 x.s) (runs 2 (x.s.drop (fst 2 x.s)) many) rfl h2 hr.1 (by omega) (fun k hk => ⟨fun h => ?_, fun h => ?_⟩) (by unfold due; simp only; rw [if_pos h2])
    · have := runs_in 2 (x.s.drop (fst 2 x.s)) many k h
      rw [getD_drop] at this
      exact ⟨by omega, by omega, this⟩
    · rcases Nat.lt_or_ge k (runs 2 (x.s.drop (fst 2 x.s)) many) with h' | h'
      · exact h'
      · have hk' : k = runs 2 (x.s.drop (fst 2 x.s)) many := by omega
        have := runs_end 2 (x.s.drop (fst 2 x.s)) many (by omega) (by omega)
        rw [getD_drop, ← hk'] at this
        exact absurd h.2.2 this
  · have h2e : fst 2 x.s = x.s.length := by omega
    by_cases h0 : fst 0 x.s < x.s.length
    · by_cases hL : fst 0 x.s < x.lim
      · have hft : fst 0 (x.s.take (openB x)) = fst 0 x.s := by rw [fst_take]; unfold openB; omega
        have hop : fst 0 x.s < openB x := by unfold openB; omega
        have hr := runs_le 0 ((x.s.take (openB x)).drop (fst 0 x.s)) many
        have hd : ((x.s.take (openB x)).drop (fst 0 x.s)).length = openB x - fst 0 x.s := by rw [List.length_drop, List.length_take]; unfold openB; omega
        have hol : openB x ≤ x.s.length := by unfold openB; omega
        have holim : openB x ≤ x.lim := by unfold openB; omega
        refine .fresh (fst 0 x.s) (runs 0 ((x.s.take (openB x)).drop (fst 0 x.s)) many) h2e rfl h0 hL hr.1 (by omega) (fun k hk => ⟨fun h => ?_, fun h => ?_⟩) (by unfold due; simp only; rw [if_neg h2, hft, if_pos hop])
        · have := runs_in 0 ((x.s.take (openB x)).drop (fst 0 x.s)) many k h
          rw [getD_drop, getD_take _ _ _ (by omega)] at this
          exact ⟨by omega, by omega, this, by omega⟩
        · rcases Nat.lt_or_ge k (runs 0 ((x.s.take (openB x)).drop (fst 0 x.s)) many) with h' | h'
          · exact h'
          · have hk' : k = runs 0 ((x.s.take (openB x)).drop (fst 0 x.s)) many := by omega
            have hko : fst 0 x.s + k < openB x := by unfold openB; omega
            have := runs_end 0 ((x.s.take (openB x)).drop (fst 0 x.s)) many (by omega) (by omega)
            rw [getD_drop, ← hk', getD_take _ _ _ hko] at this
            exact absurd h.2.2.1 this
      · refine .shut h2e h0 (by omega) ?_
        have hno : ¬ fst 0 (x.s.take (openB x)) < openB x := by rw [fst_take]; unfold openB; omega
        unfold due; simp only; rw [if_neg h2, if_neg hno, if_neg]
        simp; omega
    · have h0e : fst 0 x.s = x.s.length := by omega
      have hno : ¬ fst 0 (x.s.take (openB x)) < openB x := by rw [fst_take]; unfold openB; omega
      cases he : ended x with
      | true => exact .fin h2e h0e he (by unfold due; simp only; rw [if_neg h2, if_neg hno, if_pos (by rw [he, h0e]; simp)])
      | false => exact .none h2e h0e he (by unfold due; simp only; rw [if_neg h2, if_neg hno, if_neg (by rw [he]; simp)])
theorem pre_next {x : B} (h : Pre x) (many : Nat) : Pre (next x many) := by
  unfold Of.next
  split
  · exact h
  · obtain ⟨p, hp⟩ := h
    rcases due_ways x many with ⟨l, r, h1, h2, hr, hr2, h3, hd⟩ | ⟨f, r, h0, h1, h2, h4, hr, hr2, h3, hd⟩ | ⟨h0, h2, h4, hd⟩ | ⟨h0, h1, h2, hd⟩ | ⟨h0, h1, h2, hd⟩
    · rw [hd]
      refine ⟨p, fun i hi => ?_⟩
      simp only [setR_len] at hi ⊢
      rw [setR_getD _ _ _ _ _ hi]
      by_cases hh : l ≤ i ∧ i < l + r
      · rw [if_pos hh]
        have := ((h3 (i - l) (by omega)).1 (by omega)).2.2
        rw [show l + (i - l) = i by omega] at this
        have h5 := hp i hi
        rw [this] at h5
        omega
      · rw [if_neg hh]; exact hp i hi
    · rw [hd]
      have hpf : p = f := by
        have ha : x.s.getD f 0 = 0 := by rw [← h1]; exact fst_at (by omega)
        have hb := (hp f h2).1 ha
        rcases Nat.lt_or_ge p f with h' | h'
        · have hc := (hp p (by omega)).2 (Nat.le_refl _)
          exact absurd hc (fst_not (by omega))
        · omega
      refine ⟨f + r, fun i hi => ?_⟩
      simp only [setR_len] at hi ⊢
      rw [setR_getD _ _ _ _ _ hi]
      by_cases hh : f ≤ i ∧ i < f + r
      · rw [if_pos hh]; omega
      · rw [if_neg hh, hp i hi]; omega
    all_goals
      rw [hd]
      refine ⟨p, fun i hi => ?_⟩
      simp only [setR_len] at hi ⊢
      rw [setR_getD _ _ _ _ _ hi, if_neg (by omega)]
      exact hp i hi
/-- The last place that went out. -/
theorem sent_pre {x : B} (h : Pre x) (i : Nat) (hi : i < x.s.length) : x.s.getD i 0 = 0 ↔ sent x ≤ i := by
  obtain ⟨p, hp⟩ := h
  unfold sent
  constructor
  · intro h0
    rcases Nat.lt_or_ge i (fst 0 x.s) with h' | h'
    · exact absurd h0 (fst_not h')
    · exact h'
  · intro h0
    have ha : x.s.getD (fst 0 x.s) 0 = 0 := fst_at (by omega)
    have hb := (hp _ (by omega)).1 ha
    exact (hp i hi).2 (by omega)
/-- within, of a place. -/
theorem turn_step (x : B) (off : Nat) (n : Int) (e : Bool) (f : Nat → Nat) (k : Nat) (hk : k < x.s.length) :
    ((turn x off n e f).s.take k ++ x.s.drop k).set k ((turn x off n e f).s.getD k 0) = (turn x off n e f).s.take (k + 1) ++ x.s.drop (k + 1) := by
  have hl : (turn x off n e f).s.length = x.s.length := turn_len ..
  generalize (turn x off n e f).s = m at *
  apply List.ext_getElem?
  intro i
  rw [List.getElem?_set, List.getElem?_append, List.getElem?_append]
  simp only [List.length_append, List.length_take, List.length_drop, List.getElem?_take, List.getElem?_drop]
  rcases Nat.lt_trichotomy i k with h | h | h
  · rw [if_neg (by omega), if_pos (by omega), if_pos (by omega), if_pos (by omega), if_pos (by omega)]
  · subst h
    rw [if_pos rfl, if_pos (by omega), if_pos (by omega), if_pos (by omega), List.getD_eq_getElem?_getD, List.getElem?_eq_getElem (by omega)]
    simp
  · rw [if_neg (by omega), if_neg (by omega), if_neg (by omega)]
    congr 1
    omega
/-- A finished end, turned. -/
theorem turn_end (x : B) (off : Nat) (n : Int) (e : Bool) (f : Nat → Nat) : turn x off n e f = { x with s := (turn x off n e f).s, en := if e && x.fin then f x.en else x.en } := rfl
theorem mid_at (m s : List Nat) (hl : m.length = s.length) (k i : Nat) (hi : i < s.length) : (m.take k ++ s.drop k).getD i 0 = if i < k then m.getD i 0 else s.getD i 0 := by
  rw [List.getD_eq_getElem?_getD, List.getElem?_append]
  simp only [List.length_take, List.getElem?_take, List.getElem?_drop]
  split
  · rw [if_pos (by omega), if_pos (by omega), List.getD_eq_getElem?_getD]
  · rw [if_neg (by omega), List.getD_eq_getElem?_getD, show k + (i - min k m.length) = i by omega]
theorem mid_len (m s : List Nat) (hl : m.length = s.length) (k : Nat) (hk : k ≤ s.length) : (m.take k ++ s.drop k).length = s.length := by
  rw [List.length_append, List.length_take, List.length_drop]; omega
theorem getD_app2 (l : List Nat) (a i : Nat) : (l ++ [a]).getD i 0 = if i < l.length then l.getD i 0 else if i = l.length then a else 0 := by
  rw [List.getD_eq_getElem?_getD, List.getElem?_append]
  split
  · rw [← List.getD_eq_getElem?_getD]
  · split
    · rename_i h1 h2; subst h2; simp
    · rw [List.getElem?_eq_none (by simp; omega)]; rfl
/-- What a write's steps come to. -/
def writeK (x : B) (d : List Nat) (k : Nat) : B := { x with b := x.b ++ d.take k, s := x.s ++ List.replicate k 0 }
theorem writeK_zero (x : B) (d : List Nat) : writeK x d 0 = x := by
  unfold writeK; simp
theorem write_eq (x : B) (d : List Nat) (hf : x.fin = false) : write x d = (min d.length (2000 - x.b.length), writeK x d (min d.length (2000 - x.b.length))) := by
  unfold Of.write writeK
  rw [if_neg (by rw [hf]; simp)]
theorem write_eqf (x : B) (d : List Nat) (hf : x.fin = true) : write x d = (0, x) := by
  unfold Of.write
  rw [if_pos hf]
theorem writeK_succ (x : B) (d : List Nat) (k : Nat) (hk : k < d.length) : writeK x d (k + 1) = { x with b := (writeK x d k).b ++ [d.getD k 0], s := (writeK x d k).s ++ [0] } := by
  unfold writeK
  simp only
  rw [List.take_add_one, List.getElem?_eq_getElem hk, List.getD_eq_getElem?_getD, List.getElem?_eq_getElem hk, List.replicate_succ']
  simp
theorem had_all (x : B) (off n : Nat) (h : off + n ≤ x.s.length) : had x off n = ((x.s.drop off).take n).all (· == 3) := by
  unfold had; rw [decide_eq_true h, Bool.true_and]
theorem all_at (s : List Nat) (off n : Nat) (h : off + n ≤ s.length) : ((s.drop off).take n).all (· == 3) = true ↔ ∀ i, off ≤ i → i < off + n → s.getD i 0 = 3 := by
  rw [List.all_eq_true]
  constructor
  · intro hh i h1 h2
    have hm : s.getD i 0 ∈ (s.drop off).take n := by
      rw [List.mem_iff_getElem?]
      refine ⟨i - off, ?_⟩
      rw [List.getElem?_take, if_pos (by omega), List.getElem?_drop, show off + (i - off) = i by omega, List.getElem?_eq_getElem (by omega), List.getD_eq_getElem?_getD, List.getElem?_eq_getElem (by omega)]
      rfl
    simpa using hh _ hm
  · intro hh y hy
    obtain ⟨i, hi⟩ := List.mem_iff_getElem?.1 hy
    rw [List.getElem?_take] at hi
    split at hi
    · rw [List.getElem?_drop] at hi
      have := hh (off + i) (by omega) (by omega)
      rw [List.getD_eq_getElem?_getD, hi] at this
      simpa using this
    · cases hi
end Of
namespace Go.Proofs.Ytdloeakmoaoalaa
end Go.Proofs.Ytdloeakmoaoalaa
