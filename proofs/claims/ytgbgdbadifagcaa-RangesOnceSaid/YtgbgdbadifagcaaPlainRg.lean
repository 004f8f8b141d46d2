/- Layer 13's ranges, in plain words: a list of ranges, the greatest first, that neither meet nor touch. -/
import Derived.Test.YtgbgdbadifagcaaRows
namespace Rg
set_option linter.unusedVariables false
set_option linter.unusedSimpArgs false
abbrev R := Nat × Nat
def norm : List R → Prop
  | [] => True
  | r :: t => r.1 ≤ r.2 ∧ (∀ s ∈ t, s.2 + 1 < r.1) ∧ norm t
def mem (x : Nat) (l : List R) : Prop := ∃ r ∈ l, r.1 ≤ x ∧ x ≤ r.2
theorem mem_nil (x : Nat) : ¬ mem x [] := by rintro ⟨r, h, _⟩; cases h
theorem mem_cons (x : Nat) (r : R) (t : List R) : mem x (r :: t) ↔ (r.1 ≤ x ∧ x ≤ r.2) ∨ mem x t := by
  constructor
  · rintro ⟨s, hs, h⟩
    rcases List.mem_cons.1 hs with rfl | hs
    · exact Or.inl h
    · exact Or.inr ⟨s, hs, h⟩
  · rintro (h | ⟨s, hs, h⟩)
    · exact ⟨r, List.mem_cons_self, h⟩
    · exact ⟨s, List.mem_cons_of_mem _ hs, h⟩
theorem mem_append (x : Nat) (A B : List R) : mem x (A ++ B) ↔ mem x A ∨ mem x B := by
  constructor
  · rintro ⟨s, hs, h⟩
    rcases List.mem_append.1 hs with hs | hs
    · exact Or.inl ⟨s, hs, h⟩
    · exact Or.inr ⟨s, hs, h⟩
  · rintro (⟨s, hs, h⟩ | ⟨s, hs, h⟩)
    · exact ⟨s, List.mem_append_left _ hs, h⟩
    · exact ⟨s, List.mem_append_right _ hs, h⟩
theorem norm_append (A B : List R) : norm (A ++ B) ↔ norm A ∧ norm B ∧ ∀ a ∈ A, ∀ b ∈ B, b.2 + 1 < a.1 := by
  induction A with
  | nil => simp [norm]
  | cons r t ih =>
    simp only [List.cons_append, norm, ih, List.mem_append, List.mem_cons]
    constructor
    · rintro ⟨h1, h2, h3, h4, h5⟩
      exact ⟨⟨h1, fun s hs => h2 s (Or.inl hs), h3⟩, h4, fun a ha b hb => by
        rcases ha with rfl | ha
        · exact h2 b (Or.inr hb)
        · exact h5 a ha b hb⟩
    · rintro ⟨⟨h1, h2, h3⟩, h4, h5⟩
      exact ⟨h1, fun s hs => by
        rcases hs with hs | hs
        · exact h2 s hs
        · exact h5 r (Or.inl rfl) s hs, h3, h4, fun a ha b hb => h5 a (Or.inr ha) b hb⟩
theorem norm_le {l : List R} (h : norm l) : ∀ r ∈ l, r.1 ≤ r.2 := by
  induction l with
  | nil => intro r hr; cases hr
  | cons a t ih =>
    intro r hr
    rcases List.mem_cons.1 hr with rfl | hr
    · exact h.1
    · exact ih h.2.2 r hr
theorem mem_lt {x : Nat} {r : R} {t : List R} (h : norm (r :: t)) (hx : mem x t) : x + 1 < r.1 := by
  obtain ⟨s, hs, h1, h2⟩ := hx
  have := h.2.1 s hs
  omega
/-- Two lists of ranges that have the same numbers are the same. -/
theorem unique : ∀ {a b : List R}, norm a → norm b → (∀ x, mem x a ↔ mem x b) → a = b := by
  intro a
  induction a with
  | nil =>
    intro b _ hb h
    cases b with
    | nil => rfl
    | cons r t => exact absurd ((h r.1).2 ((mem_cons _ _ _).2 (Or.inl ⟨Nat.le_refl _, hb.1⟩))) (mem_nil _)
  | cons r t ih =>
    intro b ha hb h
    cases b with
    | nil => exact absurd ((h r.1).1 ((mem_cons _ _ _).2 (Or.inl ⟨Nat.le_refl _, ha.1⟩))) (mem_nil _)
    | cons s u =>
      have m1 : ∀ x, ((r.1 ≤ x ∧ x ≤ r.2) ∨ mem x t) ↔ ((s.1 ≤ x ∧ x ≤ s.2) ∨ mem x u) := fun x => by rw [← mem_cons, ← mem_cons]; exact h x
      have l1 := fun x => @mem_lt x r t ha
      have l2 := fun x => @mem_lt x s u hb
      have a1 := ha.1
      have b1 := hb.1
      have e2 : r.2 = s.2 := by
        have h1 := (m1 r.2).1 (Or.inl ⟨ha.1, Nat.le_refl _⟩)
        have h2 := (m1 s.2).2 (Or.inl ⟨hb.1, Nat.le_refl _⟩)
        have h3 := l1 s.2
        have h4 := l2 r.2
        rcases h1 with h1 | h1 <;> rcases h2 with h2 | h2 <;> (try have := h3 h2) <;> (try have := h4 h1) <;> omega
      have e1 : r.1 = s.1 := by
        rcases Nat.lt_trichotomy r.1 s.1 with hl | he | hl
        · have h1 := (m1 (s.1 - 1)).1 (Or.inl ⟨by omega, by omega⟩)
          rcases h1 with h1 | h1
          · omega
          · have := l2 _ h1; omega
        · exact he
        · have h1 := (m1 (r.1 - 1)).2 (Or.inl ⟨by omega, by omega⟩)
          rcases h1 with h1 | h1
          · omega
          · have := l1 _ h1; omega
      have ht : t = u := ih ha.2.2 hb.2.2 fun x => by
        constructor
        · intro hx
          have := l1 x hx
          rcases (m1 x).1 (Or.inr hx) with h1 | h1
          · omega
          · exact h1
        · intro hx
          have := l2 x hx
          rcases (m1 x).2 (Or.inr hx) with h1 | h1
          · omega
          · exact h1
      obtain ⟨r1, r2⟩ := r
      obtain ⟨s1, s2⟩ := s
      simp only at e1 e2
      subst e1 e2 ht
      rfl

theorem split_count (p : R → Bool) : ∀ (l : List R), l.Pairwise (fun a b => p b = true → p a = true) →
    (∀ r ∈ l.take (l.countP p), p r = true) ∧ (∀ r ∈ l.drop (l.countP p), p r = false) := by
  intro l
  induction l with
  | nil => intro _; simp
  | cons a t ih =>
    intro h
    rw [List.pairwise_cons] at h
    obtain ⟨h1, h2⟩ := ih h.2
    cases hp : p a with
    | true =>
      rw [List.countP_cons_of_pos hp]
      simp only [List.take_succ_cons, List.drop_succ_cons, List.mem_cons]
      refine ⟨fun r hr => ?_, h2⟩
      rcases hr with rfl | hr
      · exact hp
      · exact h1 r hr
    | false =>
      have h0 : ∀ r ∈ t, p r = false := fun r hr => by
        cases hr' : p r with
        | false => rfl
        | true => have := h.1 r hr hr'; rw [hp] at this; cases this
      rw [List.countP_cons_of_neg (by simp [hp]), List.countP_eq_zero.2 (by intro r hr; simp [h0 r hr])]
      simp only [List.take_zero, List.drop_zero, List.mem_cons]
      refine ⟨fun r hr => (by cases hr), fun r hr => ?_⟩
      rcases hr with rfl | hr
      · exact hp
      · exact h0 r hr

def find (n : Nat) (l : List R) : Nat := l.countP fun r => decide (n < r.1)
def findH (n : Nat) (l : List R) : Nat := l.countP fun r => decide (n < r.2)
theorem norm_pair : ∀ {l : List R}, norm l → l.Pairwise (fun a b => b.2 + 1 < a.1) := by
  intro l
  induction l with
  | nil => intro _; exact List.Pairwise.nil
  | cons r t ih => intro h; exact List.pairwise_cons.2 ⟨h.2.1, ih h.2.2⟩
theorem find_split {l : List R} (h : norm l) (n : Nat) : ∃ A B, l = A ++ B ∧ A.length = find n l ∧ (∀ r ∈ A, n < r.1) ∧ (∀ r ∈ B, r.1 ≤ n) := by
  have hp : l.Pairwise (fun a b => decide (n < b.1) = true → decide (n < a.1) = true) := by
    refine (norm_pair h).imp_of_mem ?_
    intro a b ha hb hab
    have := norm_le h b hb
    simp; omega
  obtain ⟨h1, h2⟩ := split_count _ l hp
  refine ⟨l.take (find n l), l.drop (find n l), (List.take_append_drop _ _).symm, ?_, ?_, ?_⟩
  · rw [List.length_take]; exact Nat.min_eq_left (List.countP_le_length)
  · intro r hr; simpa using h1 r hr
  · intro r hr; simpa using h2 r hr
theorem findH_split {l : List R} (h : norm l) (n : Nat) : ∃ A B, l = A ++ B ∧ A.length = findH n l ∧ (∀ r ∈ A, n < r.2) ∧ (∀ r ∈ B, r.2 ≤ n) := by
  have hp : l.Pairwise (fun a b => decide (n < b.2) = true → decide (n < a.2) = true) := by
    refine (norm_pair h).imp_of_mem ?_
    intro a b ha hb hab
    have := norm_le h a ha
    simp; omega
  obtain ⟨h1, h2⟩ := split_count _ l hp
  refine ⟨l.take (findH n l), l.drop (findH n l), (List.take_append_drop _ _).symm, ?_, ?_, ?_⟩
  · rw [List.length_take]; exact Nat.min_eq_left (List.countP_le_length)
  · intro r hr; simpa using h1 r hr
  · intro r hr; simpa using h2 r hr
theorem find_le (n : Nat) (l : List R) : find n l ≤ l.length := List.countP_le_length
theorem findH_le (n : Nat) (l : List R) : findH n l ≤ l.length := List.countP_le_length
/-- Search's own count is this one. -/
theorem count_lo (n : Nat) (l : List R) : (List.range l.length).countP (fun i => !decide ((l.getD i (0, 0)).1 ≤ n)) = find n l := by
  unfold find
  have h : l = (List.range l.length).map (fun i => l.getD i (0, 0)) := by
    apply List.ext_getElem
    · simp
    · intro i h1 h2; simp [List.getD_eq_getElem?_getD, h1]
  refine Eq.trans ?_ (congrArg (List.countP _) h.symm)
  rw [List.countP_map]
  congr 1
  funext i
  simp only [Function.comp]
  rw [← decide_not, decide_eq_decide, Nat.not_le]
theorem count_hi (n : Nat) (l : List R) : (List.range l.length).countP (fun i => !decide ((l.getD i (0, 0)).2 ≤ n)) = findH n l := by
  unfold findH
  have h : l = (List.range l.length).map (fun i => l.getD i (0, 0)) := by
    apply List.ext_getElem
    · simp
    · intro i h1 h2; simp [List.getD_eq_getElem?_getD, h1]
  refine Eq.trans ?_ (congrArg (List.countP _) h.symm)
  rw [List.countP_map]
  congr 1
  funext i
  simp only [Function.comp]
  rw [← decide_not, decide_eq_decide, Nat.not_le]
/-- What Search asks. -/
theorem getD_mem {l : List R} {i : Nat} (h : i < l.length) : l.getD i (0, 0) ∈ l := by
  rw [List.getD_eq_getElem?_getD, List.getElem?_eq_getElem h]; exact List.getElem_mem h
theorem lo_mono {l : List R} (h : norm l) (n a b : Nat) (hab : a ≤ b) (hb : b < l.length) (ha : (l.getD a (0, 0)).1 ≤ n) : (l.getD b (0, 0)).1 ≤ n := by
  rcases Nat.lt_or_eq_of_le hab with hlt | rfl
  · have := List.pairwise_iff_getElem.1 (norm_pair h) a b (by omega) hb hlt
    have h2 := norm_le h _ (getD_mem hb)
    simp only [List.getD_eq_getElem?_getD, List.getElem?_eq_getElem hb, List.getElem?_eq_getElem (show a < l.length by omega), Option.getD_some] at *
    omega
  · exact ha
theorem hi_mono {l : List R} (h : norm l) (n a b : Nat) (hab : a ≤ b) (hb : b < l.length) (ha : (l.getD a (0, 0)).2 ≤ n) : (l.getD b (0, 0)).2 ≤ n := by
  rcases Nat.lt_or_eq_of_le hab with hlt | rfl
  · have := List.pairwise_iff_getElem.1 (norm_pair h) a b (by omega) hb hlt
    have h2 := norm_le h _ (getD_mem (show a < l.length by omega))
    simp only [List.getD_eq_getElem?_getD, List.getElem?_eq_getElem hb, List.getElem?_eq_getElem (show a < l.length by omega), Option.getD_some] at *
    omega
  · exact ha

def has (n : Nat) (l : List R) : Bool := decide (find n l < l.length) && decide (n ≤ (l.getD (find n l) (0, 0)).2)
theorem getD_mid (A : List R) (x : R) (C : List R) : (A ++ x :: C).getD A.length (0, 0) = x := by
  simp [List.getD_eq_getElem?_getD]
theorem has_iff {l : List R} (h : norm l) (n : Nat) : has n l = true ↔ mem n l := by
  obtain ⟨A, B, e, hl, hA, hB⟩ := find_split h n
  unfold has
  rw [← hl, e]
  rw [e, norm_append] at h
  have hAm : ¬ mem n A := by rintro ⟨r, hr, h1, h2⟩; have := hA r hr; omega
  cases B with
  | nil => simp [mem_append, hAm, mem_nil]
  | cons b B =>
    rw [getD_mid, mem_append, mem_cons]
    have hb := hB b List.mem_cons_self
    have hBm : ¬ mem n B := by
      rintro ⟨r, hr, h1, h2⟩
      have := h.2.1.2.1 r hr; omega
    simp [hAm, hBm, hb]

def join (l : List R) (i : Nat) : List R :=
  if i + 1 < l.length ∧ (l.getD i (0, 0)).1 = (l.getD (i + 1) (0, 0)).2 + 1 then (l.set i ((l.getD (i + 1) (0, 0)).1, (l.getD i (0, 0)).2)).eraseIdx (i + 1) else l
def joinB (x : R) : List R → List R
  | [] => [x]
  | y :: C => if x.1 = y.2 + 1 then (y.1, x.2) :: C else x :: y :: C
theorem getD_mid1 (A : List R) (x y : R) (C : List R) : (A ++ x :: y :: C).getD (A.length + 1) (0, 0) = y := by
  rw [List.getD_eq_getElem?_getD, List.getElem?_append_right (by omega)]; simp
theorem join_mid (A : List R) (x : R) (C : List R) : join (A ++ x :: C) A.length = A ++ joinB x C := by
  unfold join
  cases C with
  | nil => simp [joinB]
  | cons y C =>
    rw [getD_mid, getD_mid1]
    show _ = A ++ (if x.1 = y.2 + 1 then (y.1, x.2) :: C else x :: y :: C)
    by_cases h : x.1 = y.2 + 1
    · rw [if_pos ⟨by simp, h⟩, if_pos h, List.set_append_right _ _ (Nat.le_refl _), Nat.sub_self, List.set_cons_zero, List.eraseIdx_append_of_length_le (by omega)]
      simp
    · rw [if_neg (fun hh => h hh.2), if_neg h]
theorem joinB_norm {x : R} {C : List R} (hx : x.1 ≤ x.2) (hC : norm C) (h : ∀ c ∈ C, c.2 < x.1) : norm (joinB x C) ∧ (∀ n, mem n (joinB x C) ↔ (x.1 ≤ n ∧ n ≤ x.2) ∨ mem n C) ∧ (∀ r ∈ joinB x C, r.2 ≤ x.2) ∧ (joinB x C).length ≤ C.length + 1 := by
  cases C with
  | nil =>
    refine ⟨⟨hx, (fun s hs => by cases hs), trivial⟩, fun n => mem_cons _ _ _, fun r hr => ?_, by simp [joinB]⟩
    simp [joinB] at hr; rw [hr]; exact Nat.le_refl _
  | cons y C =>
    have hy := h y List.mem_cons_self
    rw [show joinB x (y :: C) = (if x.1 = y.2 + 1 then (y.1, x.2) :: C else x :: y :: C) from rfl]
    by_cases he : x.1 = y.2 + 1
    · rw [if_pos he]
      have h1 := hC.1
      refine ⟨⟨show y.1 ≤ x.2 by omega, hC.2.1, hC.2.2⟩, fun n => ?_, fun r hr => ?_, by simp⟩
      · rw [mem_cons, mem_cons]
        simp only
        constructor
        · rintro (h2 | h2)
          · by_cases hn : x.1 ≤ n
            · exact Or.inl ⟨hn, h2.2⟩
            · exact Or.inr (Or.inl ⟨h2.1, by omega⟩)
          · exact Or.inr (Or.inr h2)
        · rintro (h2 | h2 | h2)
          · exact Or.inl ⟨by omega, h2.2⟩
          · exact Or.inl ⟨h2.1, by omega⟩
          · exact Or.inr h2
      · rcases List.mem_cons.1 hr with rfl | hr
        · exact Nat.le_refl _
        · have := h r (List.mem_cons_of_mem _ hr); omega
    · rw [if_neg he]
      refine ⟨⟨hx, fun s hs => ?_, hC⟩, fun n => mem_cons _ _ _, fun r hr => ?_, by simp⟩
      · rcases List.mem_cons.1 hs with rfl | hs
        · omega
        · have := hC.2.1 s hs; have := hC.1; omega
      · rcases List.mem_cons.1 hr with rfl | hr
        · exact Nat.le_refl _
        · have := h r hr; omega

def ins (n : Nat) (l : List R) : List R := l.take (find n l) ++ (n, n) :: l.drop (find n l)
def addL (n : Nat) (l : List R) : List R :=
  if find n l = 0 then join (ins n l) (find n l) else join (join (ins n l) (find n l)) (find n l - 1)
theorem addL_spec {n : Nat} {l : List R} (h : norm l) (hm : ¬ mem n l) : norm (addL n l) ∧ (∀ x, mem x (addL n l) ↔ x = n ∨ mem x l) ∧ (addL n l).length ≤ l.length + 1 := by
  obtain ⟨A, B, e, hl, hA, hB⟩ := find_split h n
  have hi : ins n l = A ++ (n, n) :: B := by
    unfold ins
    rw [← hl, e, List.take_left, List.drop_left]
  unfold addL
  rw [hi, ← hl, join_mid]
  rw [e] at hm ⊢
  rw [e, norm_append] at h
  obtain ⟨n1, n2, n3⟩ := h
  rw [mem_append] at hm
  have hBn : ∀ c ∈ B, c.2 < n := fun c hc => by
    have h1 := hB c hc
    rcases Nat.lt_or_ge c.2 n with h2 | h2
    · exact h2
    · exact absurd (Or.inr ⟨c, hc, h1, h2⟩) hm
  obtain ⟨j1, j2, j3, j4⟩ := joinB_norm (x := (n, n)) (Nat.le_refl n) n2 hBn
  simp only at j2 j3
  by_cases h0 : A.length = 0
  · obtain rfl : A = [] := List.length_eq_zero_iff.1 h0
    simp only [List.length_nil, if_true, List.nil_append] at *
    refine ⟨j1, fun x => ?_, j4⟩
    rw [j2]
    constructor
    · rintro (h1 | h1)
      · exact Or.inl (by omega)
      · exact Or.inr h1
    · rintro (h1 | h1)
      · exact Or.inl (by omega)
      · exact Or.inr h1
  · rw [if_neg h0]
    obtain ⟨A', z, rfl⟩ : ∃ A' z, A = A' ++ [z] := ⟨A.dropLast, A.getLast (by intro hh; rw [hh] at h0; exact h0 rfl), (List.dropLast_concat_getLast _).symm⟩
    rw [show (A' ++ [z]).length - 1 = A'.length by simp, List.append_assoc, List.singleton_append, join_mid]
    rw [norm_append] at n1
    obtain ⟨p1, p2, p3⟩ := n1
    have hz : n < z.1 := hA z (by simp)
    obtain ⟨k1, k2, k3, k4⟩ := joinB_norm (x := z) (C := joinB (n, n) B) p2.1 j1 (fun c hc => by have := j3 c hc; omega)
    refine ⟨?_, fun x => ?_, ?_⟩
    · rw [norm_append]
      refine ⟨p1, k1, fun a ha b hb => ?_⟩
      have := k3 b hb
      have := p3 a ha z (by simp)
      omega
    · rw [mem_append, k2, j2, mem_append, mem_append, mem_cons]
      have := mem_nil x
      constructor
      · rintro (h1 | h1 | h1 | h1)
        · exact Or.inr (Or.inl (Or.inl h1))
        · exact Or.inr (Or.inl (Or.inr (Or.inl h1)))
        · exact Or.inl (by omega)
        · exact Or.inr (Or.inr h1)
      · rintro (h1 | (h1 | h1 | h1) | h1)
        · exact Or.inr (Or.inr (Or.inl (by omega)))
        · exact Or.inl h1
        · exact Or.inr (Or.inl h1)
        · exact absurd h1 this
        · exact Or.inr (Or.inr (Or.inr h1))
    · simp at k4 j4 ⊢; omega

/-- What is left when numbers up to n go. -/
def cutL (n : Nat) (l : List R) : List R :=
  if 0 < findH n l ∧ (l.getD (findH n l - 1) (0, 0)).1 ≤ n then (l.take (findH n l)).set (findH n l - 1) (n + 1, (l.getD (findH n l - 1) (0, 0)).2) else l.take (findH n l)
theorem cutL_spec {n : Nat} {l : List R} (h : norm l) : norm (cutL n l) ∧ (∀ x, mem x (cutL n l) ↔ n < x ∧ mem x l) ∧ (cutL n l).length ≤ l.length ∧ (cutL n l).length = findH n l := by
  obtain ⟨A, B, e, hl, hA, hB⟩ := findH_split h n
  unfold cutL
  rw [← hl, e]
  rw [e, norm_append] at h
  obtain ⟨n1, n2, n3⟩ := h
  rw [List.take_left]
  have hBm : ∀ x, mem x B → x ≤ n := fun x hx => by obtain ⟨r, hr, h1, h2⟩ := hx; have := hB r hr; omega
  by_cases h0 : A = []
  · subst h0
    simp only [List.length_nil, Nat.lt_irrefl, false_and, if_false]
    refine ⟨trivial, fun x => ?_, by simp, trivial⟩
    rw [List.nil_append]
    exact ⟨fun h => absurd h (mem_nil _), fun ⟨h1, h2⟩ => by have := hBm x h2; omega⟩
  · obtain ⟨A', z, rfl⟩ : ∃ A' z, A = A' ++ [z] := ⟨A.dropLast, A.getLast h0, (List.dropLast_concat_getLast _).symm⟩
    rw [norm_append] at n1
    obtain ⟨p1, p2, p3⟩ := n1
    have hz := hA z (by simp)
    have hz1 := p2.1
    have hA'n : ∀ x, mem x A' → n < x := fun x hx => by
      obtain ⟨r, hr, h1, h2⟩ := hx
      have := p3 r hr z (by simp); omega
    rw [show (A' ++ [z]).length - 1 = A'.length by simp, List.append_assoc, List.singleton_append, getD_mid]
    by_cases hc : z.1 ≤ n
    · rw [if_pos ⟨by simp, hc⟩, List.set_append_right _ _ (Nat.le_refl _), Nat.sub_self, List.set_cons_zero]
      refine ⟨?_, fun x => ?_, by simp, by simp⟩
      · rw [norm_append]
        refine ⟨p1, ⟨by simp; omega, (fun s hs => by cases hs), trivial⟩, fun a ha b hb => ?_⟩
        rw [List.mem_singleton] at hb
        subst hb
        exact p3 a ha z (by simp)
      · rw [mem_append, mem_cons, mem_append, mem_cons]
        have h1 := mem_nil x
        have h2 := hA'n x
        have h3 := hBm x
        simp only
        constructor
        · rintro (h | h | h)
          · exact ⟨h2 h, Or.inl h⟩
          · exact ⟨by omega, Or.inr (Or.inl ⟨by omega, h.2⟩)⟩
          · exact absurd h h1
        · rintro ⟨hn, h | h | h⟩
          · exact Or.inl h
          · exact Or.inr (Or.inl ⟨by omega, h.2⟩)
          · have := h3 h; omega
    · rw [if_neg (fun hh => hc hh.2)]
      refine ⟨(norm_append _ _).2 ⟨p1, p2, p3⟩, fun x => ?_, by simp, by simp⟩
      rw [mem_append, mem_cons, mem_append, mem_cons]
      have h1 := mem_nil x
      have h2 := hA'n x
      have h3 := hBm x
      constructor
      · rintro (h | h | h)
        · exact ⟨h2 h, Or.inl h⟩
        · exact ⟨by omega, Or.inr (Or.inl h)⟩
        · exact absurd h h1
      · rintro ⟨hn, h | h | h⟩
        · exact Or.inl h
        · exact Or.inr (Or.inl h)
        · have := h3 h; omega
end Rg
