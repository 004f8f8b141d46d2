/- Layer 13's document, in plain words: all numbers, in order. -/
import Derived.Test.YtgbgdbadifagcaaRows
import Derived.Test.YtgbgdbadifagcaaPlainRg
import Derived.Test.YtgbgdbadifagcaaPlainRg2
import Derived.Test.YtgbgdbadifagcaaPlainRg3
namespace Rg
set_option linter.unusedVariables false
set_option linter.unusedSimpArgs false
/-- One number more, at the lower end. -/
def stepR (out : List R) (n : Nat) : List R :=
  if 0 < out.length ∧ (out.getD (out.length - 1) (0, 0)).1 = n + 1 then out.set (out.length - 1) (n, (out.getD (out.length - 1) (0, 0)).2) else out ++ [(n, n)]
theorem stepR_spec {out : List R} {n : Nat} (h : norm out) (hg : ∀ x, mem x out → n < x) : norm (stepR out n) ∧ ∀ x, mem x (stepR out n) ↔ x = n ∨ mem x out := by
  unfold stepR
  by_cases h0 : out = []
  · subst h0
    rw [if_neg (by simp)]
    refine ⟨⟨Nat.le_refl _, (fun s hs => by cases hs), trivial⟩, fun x => ?_⟩
    rw [List.nil_append, mem_cons]
    have := mem_nil x
    constructor
    · rintro (h | h)
      · have h1 : n ≤ x := h.1
        have h2 : x ≤ n := h.2
        exact Or.inl (by omega)
      · exact absurd h this
    · rintro (rfl | h)
      · exact Or.inl ⟨Nat.le_refl _, Nat.le_refl _⟩
      · exact absurd h this
  · obtain ⟨A, z, rfl⟩ : ∃ A z, out = A ++ [z] := ⟨out.dropLast, out.getLast h0, (List.dropLast_concat_getLast _).symm⟩
    rw [show (A ++ [z]).length - 1 = A.length by simp, getD_mid]
    rw [norm_append] at h
    obtain ⟨p1, p2, p3⟩ := h
    have hz := p2.1
    have hzn := hg z.1 ⟨z, by simp, Nat.le_refl _, hz⟩
    by_cases hc : z.1 = n + 1
    · rw [if_pos ⟨by simp, hc⟩, List.set_append_right _ _ (Nat.le_refl _), Nat.sub_self, List.set_cons_zero]
      refine ⟨(norm_append _ _).2 ⟨p1, ⟨by show n ≤ z.2; omega, (fun s hs => by cases hs), trivial⟩, fun a ha b hb => ?_⟩, fun x => ?_⟩
      · rw [List.mem_singleton] at hb
        subst hb
        exact p3 a ha z (by simp)
      · rw [mem_append, mem_cons, mem_append, mem_cons]
        have := mem_nil x
        simp only
        constructor
        · rintro (h | h | h)
          · exact Or.inr (Or.inl h)
          · by_cases hx : x = n
            · exact Or.inl hx
            · exact Or.inr (Or.inr (Or.inl ⟨by omega, h.2⟩))
          · exact absurd h this
        · rintro (h | h | h | h)
          · exact Or.inr (Or.inl ⟨by omega, by omega⟩)
          · exact Or.inl h
          · exact Or.inr (Or.inl ⟨by omega, h.2⟩)
          · exact absurd h this
    · rw [if_neg (fun hh => hc hh.2)]
      refine ⟨(norm_append _ _).2 ⟨(norm_append _ _).2 ⟨p1, p2, p3⟩, ⟨Nat.le_refl _, (fun s hs => by cases hs), trivial⟩, fun a ha b hb => ?_⟩, fun x => ?_⟩
      · rw [List.mem_singleton] at hb
        subst hb
        show n + 1 < a.1
        rcases List.mem_append.1 ha with ha | ha
        · have := p3 a ha z (by simp)
          omega
        · rw [List.mem_singleton] at ha
          subst ha
          omega
      · rw [mem_append, mem_cons]
        have := mem_nil x
        simp only
        constructor
        · rintro (h | h | h)
          · exact Or.inr h
          · exact Or.inl (by omega)
          · exact absurd h this
        · rintro (h | h)
          · exact Or.inr (Or.inl (by omega))
          · exact Or.inl h
/-- The ranges of what stands from j on. -/
def outs (L : List Nat) (j : Nat) : List R := (L.drop j).reverse.foldl stepR []
theorem outs_end (L : List Nat) : outs L L.length = [] := by unfold outs; simp
theorem outs_step (L : List Nat) (j : Nat) (h : j < L.length) : stepR (outs L (j + 1)) (L.getD j 0) = outs L j := by
  unfold outs
  rw [List.drop_eq_getElem_cons h, List.reverse_cons, List.foldl_append]
  simp [List.getD_eq_getElem?_getD, h]
theorem outs_spec {L : List Nat} (hL : L.Pairwise (· < ·)) : ∀ k, k ≤ L.length → norm (outs L (L.length - k)) ∧ ∀ x, mem x (outs L (L.length - k)) ↔ x ∈ L.drop (L.length - k) := by
  intro k
  induction k with
  | zero => intro _; rw [Nat.sub_zero, outs_end]; exact ⟨trivial, fun x => by simp [mem_nil]⟩
  | succ k ih =>
    intro hk
    obtain ⟨h1, h2⟩ := ih (by omega)
    have hj : L.length - (k + 1) < L.length := by omega
    have he : L.length - (k + 1) + 1 = L.length - k := by omega
    rw [← outs_step L _ hj, he]
    have hd : L.drop (L.length - (k + 1)) = L.getD (L.length - (k + 1)) 0 :: L.drop (L.length - k) := by
      rw [List.drop_eq_getElem_cons hj, he]
      simp [List.getD_eq_getElem?_getD, hj]
    have hp : (L.drop (L.length - (k + 1))).Pairwise (· < ·) := hL.sublist (List.drop_sublist _ _)
    rw [hd, List.pairwise_cons] at hp
    obtain ⟨s1, s2⟩ := stepR_spec h1 (n := L.getD (L.length - (k + 1)) 0) (fun x hx => hp.1 x ((h2 x).1 hx))
    refine ⟨s1, fun x => ?_⟩
    rw [s2, h2, hd, List.mem_cons]
/-- What stays true, a seventeenth range let in. -/
structure Okk (s : S) : Prop where
  norm : norm s.l
  le : ∀ x, mem x s.l → x ≤ top
  old : ∀ x, mem x s.l → s.old ≤ x
  oldle : s.old ≤ top + 1
  len : s.l.length ≤ 17
theorem Ok.kk {s : S} (h : Ok s) : Okk s := ⟨h.norm, h.le, h.old, h.oldle, by have := h.len; omega⟩
theorem forget_okk {s : S} (h : Okk s) (n : Nat) : Okk (forget n s).2 ∧ (∀ x, mem x (forget n s).2.l ↔ min n top < x ∧ mem x s.l) := by
  obtain ⟨c1, c2, c3, c4⟩ := cutL_spec (n := min n top) h.norm
  have hmem : ∀ x, mem x (forget n s).2.l ↔ min n top < x ∧ mem x s.l := c2
  refine ⟨⟨c1, fun x hx => h.le x ((hmem x).1 hx).2, fun x hx => ?_, ?_, ?_⟩, hmem⟩
  · have := (hmem x).1 hx
    have h1 := h.old x this.2
    show max s.old (min n top + 1) ≤ x
    omega
  · have := h.oldle
    show max s.old (min n top + 1) ≤ top + 1
    omega
  · exact Nat.le_trans c3 h.len
/-- A set and all its numbers. -/
structure Tie (s : S) (L : List Nat) : Prop where
  ok : Okk s
  inc : L.Pairwise (· < ·)
  mem : ∀ x, mem x s.l ↔ x ∈ L
theorem tie_outs {s : S} {L : List Nat} (h : Tie s L) : Rg.outs L 0 = s.l := by
  obtain ⟨h1, h2⟩ := outs_spec h.inc L.length (Nat.le_refl _)
  rw [Nat.sub_self] at h1 h2
  exact unique h1 h.ok.norm fun x => by rw [h2, h.mem, List.drop_zero]
theorem tie_has {s : S} {L : List Nat} (h : Tie s L) (n : Nat) : has n s.l = decide (n ∈ L) := by
  rw [Bool.eq_iff_iff, has_iff h.ok.norm, decide_eq_true_eq, h.mem]
theorem tie_cut {s : S} {L : List Nat} (h : Tie s L) (n : Nat) : Tie (forget n s).2 (L.filter fun x => decide (min n top < x)) := by
  obtain ⟨h1, h2⟩ := forget_okk h.ok n
  refine ⟨h1, h.inc.sublist List.filter_sublist, fun x => ?_⟩
  rw [h2, h.mem, List.mem_filter, decide_eq_true_eq, And.comm]
theorem forget_count (n : Nat) (s : S) : (forget n s).1 = s.l.countP fun r => decide (r.2 ≤ min n top) := by
  unfold forget findH
  have h := List.length_eq_countP_add_countP (fun r : R => decide (min n top < r.2)) (l := s.l)
  have h2 : (s.l.countP fun r => decide ¬ (decide (min n top < r.2) = true)) = s.l.countP fun r => decide (r.2 ≤ min n top) := by
    congr 1; funext r; rw [decide_eq_decide]; simp
  simp only at h ⊢
  rw [← h2]
  omega
/-- Where a number belongs. -/
def place (n : Nat) (L : List Nat) : Nat := L.countP fun x => decide (x < n)
theorem place_split {L : List Nat} (h : L.Pairwise (· < ·)) (n : Nat) : (∀ x ∈ L.take (place n L), x < n) ∧ (∀ x ∈ L.drop (place n L), n ≤ x) := by
  induction L with
  | nil => exact ⟨(fun x hx => by simp at hx), (fun x hx => by simp at hx)⟩
  | cons a t ih =>
    rw [List.pairwise_cons] at h
    obtain ⟨h1, h2⟩ := ih h.2
    unfold place at *
    by_cases ha : a < n
    · rw [List.countP_cons_of_pos (by simpa using ha)]
      simp only [List.take_succ_cons, List.drop_succ_cons, List.mem_cons]
      refine ⟨fun x hx => ?_, h2⟩
      rcases hx with rfl | hx
      · exact ha
      · exact h1 x hx
    · have h0 : (t.countP fun x => decide (x < n)) = 0 := List.countP_eq_zero.2 fun x hx => by have := h.1 x hx; simp; omega
      rw [List.countP_cons_of_neg (by simpa using ha), h0]
      simp only [List.take_zero, List.drop_zero, List.mem_cons]
      refine ⟨(fun x hx => by simp at hx), fun x hx => ?_⟩
      rcases hx with rfl | hx
      · omega
      · have := h.1 x hx; omega
theorem place_le (n : Nat) (L : List Nat) : place n L ≤ L.length := List.countP_le_length
theorem place_low {L : List Nat} (h : L.Pairwise (· < ·)) {n i : Nat} (hi : i < place n L) : L.getD i 0 < n := by
  have hl : i < L.length := Nat.lt_of_lt_of_le hi (place_le n L)
  refine (place_split h n).1 _ ?_
  rw [List.getD_eq_getElem?_getD, List.getElem?_eq_getElem hl, Option.getD_some]
  rw [List.mem_take_iff_getElem]
  exact ⟨i, by omega, rfl⟩
theorem place_high {L : List Nat} (h : L.Pairwise (· < ·)) {n i : Nat} (hi : place n L ≤ i) (hl : i < L.length) (hn : n ∉ L) : n < L.getD i 0 := by
  have hm : L.getD i 0 ∈ L := by rw [List.getD_eq_getElem?_getD, List.getElem?_eq_getElem hl]; exact List.getElem_mem _
  have := (place_split h n).2 (L.getD i 0) (by
    rw [List.getD_eq_getElem?_getD, List.getElem?_eq_getElem hl, Option.getD_some]
    rw [List.mem_drop_iff_getElem]
    exact ⟨i - place n L, by omega, by congr 1; omega⟩)
  rcases Nat.lt_or_eq_of_le this with h' | h'
  · exact h'
  · rw [← h'] at hm; exact absurd hm hn
def insL (n : Nat) (L : List Nat) : List Nat := L.take (place n L) ++ n :: L.drop (place n L)
theorem insL_spec {L : List Nat} (h : L.Pairwise (· < ·)) {n : Nat} (hn : n ∉ L) : (insL n L).Pairwise (· < ·) ∧ ∀ x, x ∈ insL n L ↔ x = n ∨ x ∈ L := by
  obtain ⟨h1, h2⟩ := place_split h n
  have hm : ∀ x, x ∈ insL n L ↔ x = n ∨ x ∈ L := fun x => by
    unfold insL
    conv => rhs; rw [← List.take_append_drop (place n L) L]
    simp only [List.mem_append, List.mem_cons]
    constructor
    · rintro (h | h | h)
      · exact Or.inr (Or.inl h)
      · exact Or.inl h
      · exact Or.inr (Or.inr h)
    · rintro (h | h | h)
      · exact Or.inr (Or.inl h)
      · exact Or.inl h
      · exact Or.inr (Or.inr h)
  refine ⟨?_, hm⟩
  unfold insL
  rw [List.pairwise_append]
  have hlt : ∀ x ∈ L.drop (place n L), n < x := fun x hx => by
    rcases Nat.lt_or_eq_of_le (h2 x hx) with h' | h'
    · exact h'
    · exact absurd (h' ▸ List.mem_of_mem_drop hx) hn
  refine ⟨h.sublist (List.take_sublist _ _), List.pairwise_cons.2 ⟨hlt, h.sublist (List.drop_sublist _ _)⟩, fun a ha b hb => ?_⟩
  have ha' := h1 a ha
  rcases List.mem_cons.1 hb with rfl | hb
  · exact ha'
  · have := hlt b hb; omega
theorem top_last {s : S} {L : List Nat} (h : Tie s L) (h0 : L ≠ []) : s.l ≠ [] ∧ (s.l.getD 0 (0, 0)).2 = L.getD (L.length - 1) 0 := by
  have hlen : 0 < L.length := List.length_pos_iff.2 h0
  have hm : L.getD (L.length - 1) 0 ∈ L := by rw [List.getD_eq_getElem?_getD, List.getElem?_eq_getElem (by omega)]; exact List.getElem_mem _
  have hne : s.l ≠ [] := fun he => by
    have := (h.mem _).2 hm
    rw [he] at this; exact mem_nil _ this
  refine ⟨hne, ?_⟩
  obtain ⟨r, t, he⟩ : ∃ r t, s.l = r :: t := by
    cases hs : s.l with
    | nil => exact absurd hs hne
    | cons r t => exact ⟨r, t, rfl⟩
  have hn := h.ok.norm
  rw [he] at hn
  have h1 : r.2 ∈ L := (h.mem _).1 (by rw [he]; exact (mem_cons _ _ _).2 (Or.inl ⟨hn.1, Nat.le_refl _⟩))
  have h2 := (h.mem _).2 hm
  rw [he, mem_cons] at h2
  have h3 : L.getD (L.length - 1) 0 ≤ r.2 := by
    rcases h2 with h2 | h2
    · exact h2.2
    · have := mem_lt hn h2; have := hn.1; omega
  have h4 : r.2 ≤ L.getD (L.length - 1) 0 := by
    obtain ⟨i, hi, e⟩ := List.getElem_of_mem h1
    rw [← e, List.getD_eq_getElem?_getD, List.getElem?_eq_getElem (show L.length - 1 < L.length by omega), Option.getD_some]
    rcases Nat.lt_or_eq_of_le (show i ≤ L.length - 1 by omega) with hlt | rfl
    · exact Nat.le_of_lt (List.pairwise_iff_getElem.1 h.inc i (L.length - 1) hi (by omega) hlt)
    · exact Nat.le_refl _
  rw [he, List.getD_cons_zero]
  omega
/-- Adding, as the document does it. -/
theorem tie_add {s : S} {L : List Nat} (hok : Ok s) (h : Tie s L) {n : Nat} (h1 : n ≤ top) (h2 : s.old ≤ n) (h3 : n ∉ L) :
    Tie ⟨addL n s.l, s.old⟩ (insL n L) ∧ add n s = if 16 < (addL n s.l).length then (true, (forget ((addL n s.l).getD 16 (0, 0)).2 ⟨addL n s.l, s.old⟩).2) else (true, ⟨addL n s.l, s.old⟩) := by
  have hm : ¬ Rg.mem n s.l := fun hm => h3 ((h.mem n).1 hm)
  obtain ⟨a1, a2, a3⟩ := addL_spec h.ok.norm hm
  obtain ⟨i1, i2⟩ := insL_spec h.inc h3
  have hh : ¬ (top < n ∨ n < s.old ∨ has n s.l = true) := by
    rintro (h' | h' | h')
    · omega
    · omega
    · exact hm ((has_iff h.ok.norm n).1 h')
  have hlen := hok.len
  have hto : ∀ x, Rg.mem x (addL n s.l) → x ≤ top := fun x hx => by
    rcases (a2 x).1 hx with h' | h'
    · omega
    · exact h.ok.le _ h'
  refine ⟨⟨⟨a1, hto, fun x hx => ?_, h.ok.oldle, by show (addL n s.l).length ≤ 17; omega⟩, i1, fun x => ?_⟩, ?_⟩
  · rcases (a2 x).1 hx with rfl | h'
    · exact h2
    · exact h.ok.old _ h'
  · show Rg.mem x (addL n s.l) ↔ _
    rw [a2, i2, h.mem]
  · unfold add
    rw [if_neg hh]
    by_cases h17 : (addL n s.l).length = 17
    · rw [if_pos h17, if_pos (by omega)]
      have hmin : min ((addL n s.l).getD 16 (0, 0)).2 top = ((addL n s.l).getD 16 (0, 0)).2 := Nat.min_eq_left (hto _ ⟨_, getD_mem (i := 16) (by omega), norm_le a1 _ (getD_mem (i := 16) (by omega)), Nat.le_refl _⟩)
      unfold forget
      simp only [hmin]
    · rw [if_neg h17, if_neg (by omega)]
end Rg
