/- Layer 13's ranges, in plain words: what the laws say. -/
import Derived.Test.YtgbgdbadifagcaaRows
import Derived.Test.YtgbgdbadifagcaaPlainRg
import Derived.Test.YtgbgdbadifagcaaPlainRg2
namespace Rg
set_option linter.unusedVariables false
set_option linter.unusedSimpArgs false
theorem len_span : ∀ {l : List R} {lo k : Nat}, norm l → (∀ x, mem x l → lo ≤ x ∧ x < lo + k) → l.length ≤ k := by
  intro l
  induction l with
  | nil => intro lo k _ _; exact Nat.zero_le _
  | cons r t ih =>
    intro lo k hn h
    have h1 := h r.1 ((mem_cons _ _ _).2 (Or.inl ⟨Nat.le_refl _, hn.1⟩))
    have := ih (lo := lo) (k := r.1 - lo) hn.2.2 (fun x hx => by
      have h2 := h x ((mem_cons _ _ _).2 (Or.inr hx))
      have := mem_lt hn hx
      omega)
    have : t.length ≤ r.1 - lo := this
    simp only [List.length_cons]
    omega
/-- Adding where no more than sixteen ranges come to be: nothing goes. -/
theorem add_few {s : S} (h : Ok s) (h0 : s.old = 0) {n : Nat} (hn : n ≤ top) (hf : ¬ mem n s.l → (addL n s.l).length ≤ 16) :
    (add n s).2.old = 0 ∧ ∀ x, mem x (add n s).2.l ↔ x = n ∨ mem x s.l := by
  by_cases hm : mem n s.l
  · rw [add_no h (Or.inr (Or.inr hm))]
    refine ⟨h0, fun x => ⟨Or.inr, fun hx => ?_⟩⟩
    rcases hx with rfl | hx
    · exact hm
    · exact hx
  · obtain ⟨k1, k2, k3, k4⟩ := add_yes h hn (by omega) hm
    rcases k4 with ⟨m1, m2, _⟩ | ⟨⟨m1, _⟩, _⟩
    · exact ⟨by rw [m2, h0], m1⟩
    · have := hf hm; omega
theorem add_span {s : S} (h : Ok s) (h0 : s.old = 0) {n lo k : Nat} (hk : k ≤ 16) (hn : n ≤ top) (h1 : lo ≤ n) (h2 : n < lo + k) (hs : ∀ x, mem x s.l → lo ≤ x ∧ x < lo + k) :
    (add n s).2.old = 0 ∧ (∀ x, mem x (add n s).2.l ↔ x = n ∨ mem x s.l) ∧ (∀ x, mem x (add n s).2.l → lo ≤ x ∧ x < lo + k) := by
  have h3 := add_few h h0 hn (fun hm => by
    obtain ⟨a1, a2, _⟩ := addL_spec h.norm hm
    have := len_span (lo := lo) (k := k) a1 (fun x hx => by
      rcases (a2 x).1 hx with rfl | hx
      · exact ⟨h1, h2⟩
      · exact hs x hx)
    omega)
  refine ⟨h3.1, h3.2, fun x hx => ?_⟩
  rcases (h3.2 x).1 hx with rfl | hx
  · exact ⟨h1, h2⟩
  · exact hs x hx
theorem one_range {l : List R} {lo k : Nat} (h : norm l) (hk : 0 < k) (hm : ∀ x, mem x l ↔ lo ≤ x ∧ x < lo + k) : l = [(lo, lo + k - 1)] :=
  unique h (show norm [(lo, lo + k - 1)] from ⟨by show lo ≤ lo + k - 1; omega, (fun s hs => by cases hs), trivial⟩) fun x => by
    rw [hm, mem_cons]
    have := mem_nil x
    constructor
    · intro h; exact Or.inl ⟨h.1, by show x ≤ lo + k - 1; omega⟩
    · rintro (h | h)
      · have h2 : x ≤ lo + k - 1 := h.2
        exact ⟨h.1, by omega⟩
      · exact absurd h this
/-- The state behind the adding of many. -/
def addAll : List Nat → S → S
  | [], s => s
  | n :: t, s => addAll t (add n s).2
theorem addAll_snoc (t : List Nat) (n : Nat) : ∀ s, addAll (t ++ [n]) s = (add n (addAll t s)).2 := by
  induction t with
  | nil => intro s; rfl
  | cons m t ih => intro s; exact ih _
theorem addAll_ok {s : S} (h : Ok s) (t : List Nat) : Ok (addAll t s) := by
  induction t generalizing s with
  | nil => exact h
  | cons n t ih => exact ih (add_ok h n)
theorem snocInd {P : List Nat → Prop} (h0 : P []) (h1 : ∀ t n, P t → P (t ++ [n])) : ∀ t, P t := by
  intro t
  rw [← t.reverse_reverse]
  generalize t.reverse = u
  induction u with
  | nil => exact h0
  | cons n u ih => rw [List.reverse_cons]; exact h1 _ _ ih
/-- At most sixteen numbers, in whichever order: the set is just those. -/
theorem addAll_few : ∀ (t : List Nat), t.length ≤ 16 → (addAll t ⟨[], 0⟩).old = 0 ∧ (∀ x, mem x (addAll t ⟨[], 0⟩).l ↔ x ∈ t ∧ x ≤ top) ∧ (addAll t ⟨[], 0⟩).l.length ≤ t.length := by
  refine snocInd ?_ ?_
  · intro _; exact ⟨rfl, fun x => ⟨fun h => absurd h (mem_nil x), fun h => absurd h.1 (by simp)⟩, Nat.le_refl _⟩
  · intro t n ih hl
    have hl' : t.length ≤ 15 := by simp at hl; omega
    obtain ⟨h0, hm, hlen⟩ := ih (by omega)
    have hok := addAll_ok ok_nil t
    rw [addAll_snoc]
    by_cases hn : n ≤ top
    · by_cases hmn : mem n (addAll t ⟨[], 0⟩).l
      · rw [add_no hok (Or.inr (Or.inr hmn))]
        refine ⟨h0, fun x => ?_, by simp; omega⟩
        rw [hm, List.mem_append, List.mem_singleton]
        constructor
        · rintro ⟨h1, h2⟩; exact ⟨Or.inl h1, h2⟩
        · rintro ⟨h1 | rfl, h2⟩
          · exact ⟨h1, h2⟩
          · exact (hm _).1 hmn
      · obtain ⟨a1, a2, a3⟩ := addL_spec hok.norm hmn
        have hf := add_few hok h0 hn (fun _ => by omega)
        refine ⟨hf.1, fun x => ?_, ?_⟩
        · rw [hf.2, hm, List.mem_append, List.mem_singleton]
          constructor
          · rintro (rfl | ⟨h1, h2⟩)
            · exact ⟨Or.inr rfl, hn⟩
            · exact ⟨Or.inl h1, h2⟩
          · rintro ⟨h1 | h1, h2⟩
            · exact Or.inr ⟨h1, h2⟩
            · exact Or.inl h1
        · have he : (add n (addAll t ⟨[], 0⟩)).2.l = addL n (addAll t ⟨[], 0⟩).l := by
            refine unique (add_ok hok n).norm a1 fun x => ?_
            rw [hf.2, a2]
          rw [he]; simp; omega
    · rw [add_no hok (Or.inl (by omega))]
      refine ⟨h0, fun x => ?_, by simp; omega⟩
      rw [hm, List.mem_append, List.mem_singleton]
      constructor
      · rintro ⟨h1, h2⟩; exact ⟨Or.inl h1, h2⟩
      · rintro ⟨h1 | rfl, h2⟩
        · exact ⟨h1, h2⟩
        · omega
/-- Two orders of the same numbers. -/
theorem addAll_same {t u : List Nat} (ht : t.length ≤ 16) (hu : u.length ≤ 16) (h : ∀ x, x ∈ t ↔ x ∈ u) : (addAll t ⟨[], 0⟩).l = (addAll u ⟨[], 0⟩).l :=
  unique (addAll_ok ok_nil t).norm (addAll_ok ok_nil u).norm fun x => by
    rw [(addAll_few t ht).2.1, (addAll_few u hu).2.1, h]
/-- What was added once is there or old. -/
def seen (x : Nat) (s : S) : Prop := top < x ∨ x < s.old ∨ mem x s.l
theorem seen_add {s : S} (h : Ok s) (x n : Nat) (hx : seen x s) : seen x (add n s).2 := by
  by_cases hc : top < n ∨ n < s.old ∨ mem n s.l
  · rw [add_no h hc]; exact hx
  · obtain ⟨k1, k2, k3, k4⟩ := add_yes h (n := n) (by omega) (by omega) (fun hm => hc (Or.inr (Or.inr hm)))
    rcases hx with h1 | h1 | h1
    · exact Or.inl h1
    · exact Or.inr (Or.inl (by omega))
    · rcases k4 with ⟨m1, m2, _⟩ | ⟨⟨_, m1⟩, m2, _⟩
      · exact Or.inr (Or.inr ((m1 x).2 (Or.inr h1)))
      · by_cases hl : last n s < x
        · exact Or.inr (Or.inr ((m1 x).2 ⟨hl, Or.inr h1⟩))
        · exact Or.inr (Or.inl (by rw [m2]; omega))
theorem seen_self {s : S} (h : Ok s) (n : Nat) : seen n (add n s).2 := by
  by_cases hc : top < n ∨ n < s.old ∨ mem n s.l
  · rw [add_no h hc]; exact hc
  · obtain ⟨k1, k2, k3, k4⟩ := add_yes h (n := n) (by omega) (by omega) (fun hm => hc (Or.inr (Or.inr hm)))
    rcases k4 with ⟨m1, m2, _⟩ | ⟨⟨_, m1⟩, m2, _⟩
    · exact Or.inr (Or.inr ((m1 n).2 (Or.inl rfl)))
    · by_cases hl : last n s < n
      · exact Or.inr (Or.inr ((m1 n).2 ⟨hl, Or.inl rfl⟩))
      · exact Or.inr (Or.inl (by rw [m2]; omega))
theorem seen_no {s : S} (h : Ok s) {x : Nat} (hx : seen x s) : (add x s).1 = false := by rw [add_no h hx]
theorem gaps {l : List R} (h : norm l) {k : Nat} (hk : k + 1 < l.length) : (l.getD (k + 1) (0, 0)).2 + 2 ≤ (l.getD k (0, 0)).1 := by
  have := List.pairwise_iff_getElem.1 (norm_pair h) k (k + 1) (by omega) hk (by omega)
  simp only [List.getD_eq_getElem?_getD, List.getElem?_eq_getElem hk, List.getElem?_eq_getElem (show k < l.length by omega), Option.getD_some]
  omega
theorem has_false {l : List R} (h : norm l) {n : Nat} (hm : ¬ mem n l) : has n l = false := by
  cases hh : has n l with
  | false => rfl
  | true => exact absurd ((has_iff h n).1 hh) hm
theorem has_forget {s : S} (h : Ok s) {n x : Nat} (hx : n < x) : has x (forget n s).2.l = has x s.l := by
  obtain ⟨h1, h2⟩ := forget_ok h n
  rw [Bool.eq_iff_iff, has_iff h1.norm, has_iff h.norm, h2]
  constructor
  · exact fun h => h.2
  · exact fun hm => ⟨by omega, hm⟩
theorem forgot {s : S} (h : Ok s) {n x : Nat} (hx : x ≤ n) (hxt : x ≤ top) : has x (forget n s).2.l = false ∧ x < (forget n s).2.old := by
  obtain ⟨h1, h2⟩ := forget_ok h n
  refine ⟨has_false h1.norm fun hm => ?_, ?_⟩
  · have := ((h2 x).1 hm).1; omega
  · show x < max s.old (min n top + 1); omega
end Rg
