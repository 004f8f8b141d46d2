/- Layer 13's ranges, in plain words: Add, and what stays true. -/
import Derived.Test.YtgbgdbadifagcaaRows
import Derived.Test.YtgbgdbadifagcaaPlainRg
namespace Rg
set_option linter.unusedVariables false
set_option linter.unusedSimpArgs false
def top : Nat := 4611686018427387903
theorem join_mem {l : List R} {i : Nat} {r : R} (h : r ∈ join l i) : r ∈ l ∨ ∃ s ∈ l, r.2 = s.2 := by
  unfold join at h
  split at h
  · rename_i hc
    have h' := List.mem_of_mem_eraseIdx h
    rcases List.mem_or_eq_of_mem_set h' with h2 | h2
    · exact Or.inl h2
    · exact Or.inr ⟨_, getD_mem (i := i) (by omega), by rw [h2]⟩
  · exact Or.inl h
theorem join_le {l : List R} {i M : Nat} (h : ∀ r ∈ l, r.2 ≤ M) : ∀ r ∈ join l i, r.2 ≤ M := fun r hr => by
  rcases join_mem hr with h1 | ⟨s, hs, e⟩
  · exact h r h1
  · rw [e]; exact h s hs
theorem join_len (l : List R) (i : Nat) : (join l i).length ≤ l.length := by
  unfold join
  split
  · rw [List.length_eraseIdx]; split <;> simp
  · exact Nat.le_refl _
theorem ins_le {l : List R} {n M : Nat} (h : ∀ r ∈ l, r.2 ≤ M) (hn : n ≤ M) : ∀ r ∈ ins n l, r.2 ≤ M := fun r hr => by
  unfold ins at hr
  rcases List.mem_append.1 hr with h1 | h1
  · exact h r (List.mem_of_mem_take h1)
  · rcases List.mem_cons.1 h1 with rfl | h2
    · exact hn
    · exact h r (List.mem_of_mem_drop h2)
theorem ins_len (n : Nat) (l : List R) : (ins n l).length = l.length + 1 := by
  unfold ins
  have := find_le n l
  simp
  omega

/-- The state: ranges, and below which numbers are old. -/
structure S where
  l : List R
  old : Nat
deriving DecidableEq
def add (n : Nat) (s : S) : Bool × S :=
  if top < n ∨ n < s.old ∨ has n s.l = true then (false, s)
  else if (addL n s.l).length = 17 then (true, ⟨cutL ((addL n s.l).getD 16 (0, 0)).2 (addL n s.l), max s.old (((addL n s.l).getD 16 (0, 0)).2 + 1)⟩)
  else (true, ⟨addL n s.l, s.old⟩)
def forget (n : Nat) (s : S) : Nat × S := (s.l.length - findH (min n top) s.l, ⟨cutL (min n top) s.l, max s.old (min n top + 1)⟩)

/-- What stays true. -/
structure Ok (s : S) : Prop where
  norm : norm s.l
  le : ∀ x, mem x s.l → x ≤ top
  old : ∀ x, mem x s.l → s.old ≤ x
  oldle : s.old ≤ top + 1
  len : s.l.length ≤ 16
theorem Ok.hi {s : S} (h : Ok s) : ∀ r ∈ s.l, r.2 ≤ top := fun r hr => h.le r.2 ⟨r, hr, norm_le h.norm r hr, Nat.le_refl _⟩
theorem ok_nil : Ok ⟨[], 0⟩ := ⟨trivial, fun x h => absurd h (mem_nil x), fun x h => absurd h (mem_nil x), Nat.zero_le _, Nat.zero_le _⟩
theorem forget_ok {s : S} (h : Ok s) (n : Nat) : Ok (forget n s).2 ∧ (∀ x, mem x (forget n s).2.l ↔ min n top < x ∧ mem x s.l) := by
  obtain ⟨c1, c2, c3, c4⟩ := cutL_spec (n := min n top) h.norm
  have hmem : ∀ x, mem x (forget n s).2.l ↔ min n top < x ∧ mem x s.l := c2
  refine ⟨⟨c1, fun x hx => h.le x ((hmem x).1 hx).2, fun x hx => ?_, ?_, ?_⟩, hmem⟩
  · have := (hmem x).1 hx
    have h1 := h.old x this.2
    show max s.old (min n top + 1) ≤ x
    omega
  · have := h.oldle
    show max s.old (min n top + 1) ≤ top + 1
    omega
  · exact Nat.le_trans c3 h.len
/-- The number at which the seventeenth range ends. -/
def last (n : Nat) (s : S) : Nat := ((addL n s.l).getD 16 (0, 0)).2
theorem add_no {s : S} (h : Ok s) {n : Nat} (hn : top < n ∨ n < s.old ∨ mem n s.l) : add n s = (false, s) := by
  unfold add
  rw [if_pos]
  rcases hn with h1 | h1 | h1
  · exact Or.inl h1
  · exact Or.inr (Or.inl h1)
  · exact Or.inr (Or.inr ((has_iff h.norm n).2 h1))
theorem add_yes {s : S} (h : Ok s) {n : Nat} (h1 : n ≤ top) (h2 : s.old ≤ n) (h3 : ¬ mem n s.l) :
    (add n s).1 = true ∧ Ok (add n s).2 ∧ s.old ≤ (add n s).2.old ∧
    ((∀ x, mem x (add n s).2.l ↔ x = n ∨ mem x s.l) ∧ (add n s).2.old = s.old ∧ (addL n s.l).length ≤ 16 ∨
     ((addL n s.l).length = 17 ∧ ∀ x, mem x (add n s).2.l ↔ last n s < x ∧ (x = n ∨ mem x s.l)) ∧ (add n s).2.old = max s.old (last n s + 1) ∧ last n s ≤ top) := by
  obtain ⟨a1, a2, a3⟩ := addL_spec h.norm h3
  have hh : ¬ (top < n ∨ n < s.old ∨ has n s.l = true) := by
    rintro (h' | h' | h')
    · omega
    · omega
    · exact h3 ((has_iff h.norm n).1 h')
  have hl := h.len
  by_cases h17 : (addL n s.l).length = 17
  · have hadd : add n s = (true, ⟨cutL (last n s) (addL n s.l), max s.old (last n s + 1)⟩) := by
      unfold add; rw [if_neg hh, if_pos h17]; rfl
    obtain ⟨c1, c2, c3, c4⟩ := cutL_spec (n := last n s) a1
    have hlm : mem (last n s) (addL n s.l) := ⟨_, getD_mem (i := 16) (by omega), norm_le a1 _ (getD_mem (i := 16) (by omega)), Nat.le_refl _⟩
    have hlt : last n s ≤ top := by
      rcases (a2 _).1 hlm with h' | h'
      · omega
      · exact h.le _ h'
    have hmem : ∀ x, mem x (add n s).2.l ↔ last n s < x ∧ (x = n ∨ mem x s.l) := fun x => by
      rw [hadd]
      show mem x (cutL (last n s) (addL n s.l)) ↔ _
      rw [c2, a2]
    have hold : (add n s).2.old = max s.old (last n s + 1) := by rw [hadd]
    refine ⟨by rw [hadd], ⟨by rw [hadd]; exact c1, fun x hx => ?_, fun x hx => ?_, by rw [hold]; have := h.oldle; omega, ?_⟩, by rw [hold]; omega, Or.inr ⟨⟨h17, hmem⟩, hold, hlt⟩⟩
    · rcases ((hmem x).1 hx).2 with h' | h'
      · omega
      · exact h.le _ h'
    · rw [hold]
      have h5 := (hmem x).1 hx
      rcases h5.2 with h' | h'
      · omega
      · have := h.old _ h'; omega
    · rw [hadd]
      show (cutL (last n s) (addL n s.l)).length ≤ 16
      rw [c4]
      unfold findH
      have hd : (addL n s.l).drop 16 = [(addL n s.l).getD 16 (0, 0)] := by
        rw [List.drop_eq_getElem_cons (by omega), List.drop_of_length_le (by omega)]
        simp [List.getD_eq_getElem?_getD, h17]
      rw [← List.take_append_drop 16 (addL n s.l), List.countP_append, hd]
      have h1 : ((addL n s.l).take 16).countP (fun r => decide (last n s < r.2)) ≤ 16 := Nat.le_trans List.countP_le_length (by rw [List.length_take]; omega)
      have h2 : List.countP (fun r => decide (last n s < r.2)) [(addL n s.l).getD 16 (0, 0)] = 0 := by
        unfold last; simp
      omega
  · have hadd : add n s = (true, ⟨addL n s.l, s.old⟩) := by
      unfold add; rw [if_neg hh, if_neg h17]
    refine ⟨by rw [hadd], ⟨by rw [hadd]; exact a1, fun x hx => ?_, fun x hx => ?_, by rw [hadd]; exact h.oldle, by rw [hadd]; show (addL n s.l).length ≤ 16; omega⟩, by rw [hadd]; exact Nat.le_refl _, Or.inl ⟨fun x => by rw [hadd]; exact a2 x, by rw [hadd], by omega⟩⟩
    · rw [hadd] at hx
      rcases (a2 x).1 hx with h' | h'
      · omega
      · exact h.le _ h'
    · rw [hadd] at hx ⊢
      rcases (a2 x).1 hx with h' | h'
      · exact h' ▸ h2
      · exact h.old _ h'
theorem add_ok {s : S} (h : Ok s) (n : Nat) : Ok (add n s).2 := by
  by_cases hc : top < n ∨ n < s.old ∨ mem n s.l
  · rw [add_no h hc]; exact h
  · exact (add_yes h (by omega) (by omega) (fun hm => hc (Or.inr (Or.inr hm)))).2.1
end Rg
