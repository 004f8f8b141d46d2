/- Layer 16's reasm, in plain words: pieces of a text. -/
import Derived.Test.YtdloeakmoaoalaaPlainRs
import Derived.Test.YtdloeakmoaoalaaPlainRs2
namespace Rs
set_option linter.unusedVariables false
set_option linter.unusedSimpArgs false
/-- Marks from lo on, below hi. -/
def mark (h : List Bool) (lo hi : Nat) : List Bool := (List.range h.length).map fun j => h.getD j false || (decide (lo ≤ j) && decide (j < hi))
theorem mark_len (h : List Bool) (lo hi : Nat) : (mark h lo hi).length = h.length := by simp [mark]
theorem mark_at (h : List Bool) (lo hi j : Nat) (hj : j < h.length) : (mark h lo hi).getD j false = (h.getD j false || (decide (lo ≤ j) && decide (j < hi))) := by
  unfold mark
  rw [List.getD_eq_getElem?_getD, List.getElem?_map, List.getElem?_range hj]; rfl
theorem list_extB {l m : List Bool} (h : l.length = m.length) (hi : ∀ i, i < l.length → l.getD i false = m.getD i false) : l = m := by
  apply List.ext_getElem h
  intro i h1 h2
  have := hi i h1
  rw [List.getD_eq_getElem?_getD, List.getD_eq_getElem?_getD, List.getElem?_eq_getElem h1, List.getElem?_eq_getElem h2] at this
  simpa using this
theorem mark_none (h : List Bool) (lo : Nat) : mark h lo lo = h := by
  refine list_extB (mark_len _ _ _) fun i hi => ?_
  rw [mark_len] at hi
  rw [mark_at _ _ _ _ hi]
  have : (decide (lo ≤ i) && decide (i < lo)) = false := by
    rw [Bool.and_eq_false_iff]; simp only [decide_eq_false_iff_not]; omega
  rw [this, Bool.or_false]
theorem mark_set (h : List Bool) (lo k : Nat) (h1 : lo ≤ k) (h2 : k < h.length) : (mark h lo k).set k true = mark h lo (k + 1) := by
  refine list_extB (by simp [mark]) fun i hi => ?_
  rw [List.length_set, mark_len] at hi
  rw [mark_at _ _ _ _ hi, List.getD_eq_getElem?_getD, List.getElem?_set]
  by_cases e : k = i
  · subst e
    rw [if_pos rfl, if_pos (by rw [mark_len]; exact hi)]
    have : (decide (lo ≤ k) && decide (k < k + 1)) = true := by simp; omega
    rw [this, Bool.or_true]; rfl
  · rw [if_neg e, ← List.getD_eq_getElem?_getD, mark_at _ _ _ _ hi]
    congr 1
    rw [Bool.eq_iff_iff]
    simp
    omega
/-- Between two pieces. -/
structure Pf (t : List Nat) (x : S) (h : List Bool) (g : List Nat) : Prop where
  ok : Ok x
  win : x.win = 200
  len : t.length ≤ 200
  hl : h.length = 200
  rd : x.rd ≤ t.length
  g : g = t.take x.rd
  m : ∀ j, x.m j = if h.getD j false = true ∧ x.rd ≤ j then some (t.getD j 0) else none
  low : ∀ j, j < x.rd → h.getD j false = true
  in_ : ∀ j, h.getD j false = true → j < t.length
  top : x.top ≤ t.length
  size : x.known = true → x.size = t.length
theorem Pf.start (t : List Nat) (ht : t.length ≤ 200) : Pf t (new 200) (List.replicate 200 false) [] := by
  have hf : ∀ j, (List.replicate 200 false).getD j false = false := fun j => by
    rw [List.getD_eq_getElem?_getD, List.getElem?_replicate]; split <;> rfl
  refine ⟨Ok.new (by omega), rfl, ht, List.length_replicate, Nat.zero_le _, by show [] = t.take 0; simp, fun j => ?_, fun j hj => absurd hj (Nat.not_lt_zero _), fun j hj => ?_, Nat.zero_le _, fun h => by cases h⟩
  · rw [if_neg (by rw [hf]; simp)]; rfl
  · rw [hf] at hj; cases hj
theorem Pf.glen {t : List Nat} {x : S} {h : List Bool} {g : List Nat} (p : Pf t x h g) : g.length = x.rd := by
  rw [p.g, List.length_take]; have := p.rd; omega
def piece (t : List Nat) (a e : Nat) : List Nat := (t.drop a).take (e - a)
theorem piece_len (t : List Nat) (a e : Nat) (h1 : a ≤ e) (h2 : e ≤ t.length) : (piece t a e).length = e - a := by simp [piece]; omega
theorem piece_at (t : List Nat) (a e j : Nat) (h1 : a ≤ j) (h2 : j < e) : (piece t a e).getD (j - a) 0 = t.getD j 0 := by
  unfold piece
  rw [List.getD_eq_getElem?_getD, List.getElem?_take, if_pos (by omega), List.getElem?_drop, List.getD_eq_getElem?_getD, show a + (j - a) = j by omega]
theorem Pf.put {t : List Nat} {x : S} {h : List Bool} {g : List Nat} (p : Pf t x h g) (ht : ∀ c ∈ t, c < 256) (a e : Nat) (h1 : a ≤ e) (h2 : e ≤ t.length) (last : Bool) (hl : last = decide (e = t.length)) :
    err x a (e - a) last = 0 ∧ Pf t (put x a (piece t a e) last) (mark h a e) g := by
  have hlen := p.len
  have hpl := piece_len t a e h1 h2
  have he : err x a (e - a) last = 0 := by
    refine err_zero (by omega) (by rw [p.win]; omega) (fun hk => ?_) (fun hk => ?_)
    · rw [p.size hk]
      exact ⟨by omega, fun hl' => by rw [hl] at hl'; have := of_decide_eq_true hl'; omega⟩
    · rw [hl] at hk
      have := of_decide_eq_true hk
      have := p.top
      omega
  refine ⟨he, ?_⟩
  have hp := put_eq (x := x) (off := a) (d := piece t a e) (last := last) (by rw [hpl]; exact he)
  have hbyte : ∀ c ∈ piece t a e, c < 256 := fun c hc => ht c (List.mem_of_mem_drop (List.mem_of_mem_take hc))
  have hmk : ∀ j, (mark h a e).getD j false = true ↔ (h.getD j false = true ∨ (a ≤ j ∧ j < e)) := fun j => by
    by_cases hj : j < h.length
    · rw [mark_at _ _ _ _ hj]; simp
    · have h3 := p.hl
      have : (mark h a e).getD j false = false := by rw [List.getD_eq_getElem?_getD, List.getElem?_eq_none (by rw [mark_len]; omega)]; rfl
      rw [this]
      have h4 : h.getD j false = false := by rw [List.getD_eq_getElem?_getD, List.getElem?_eq_none (by omega)]; rfl
      rw [h4]; simp; omega
  have hrw := put_rd x a (piece t a e) last
  refine ⟨p.ok.put _ _ _ hbyte, by rw [hrw.2]; exact p.win, p.len, by rw [mark_len]; exact p.hl, by rw [hrw.1]; exact p.rd, by rw [hrw.1]; exact p.g, fun j => ?_, fun j hj => ?_, fun j hj => ?_, ?_, fun hk => ?_⟩
  · rw [hrw.1, hp]
    show mK x a (piece t a e) (piece t a e).length j = _
    unfold mK
    rw [hpl]
    by_cases hj : h.getD j false = true ∧ x.rd ≤ j
    · rw [if_neg (by rw [p.m j, if_pos hj]; simp), p.m j, if_pos hj, if_pos ⟨(hmk j).2 (Or.inl hj.1), hj.2⟩]
    · by_cases hc : a ≤ j ∧ j < a + (e - a) ∧ x.rd ≤ j ∧ x.m j = none
      · rw [if_pos hc, if_pos ⟨(hmk j).2 (Or.inr ⟨hc.1, by omega⟩), hc.2.2.1⟩, piece_at t a e j hc.1 (by omega)]
      · rw [if_neg hc, p.m j, if_neg hj, if_neg]
        rintro ⟨h3, h4⟩
        rcases (hmk j).1 h3 with h5 | h5
        · exact hj ⟨h5, h4⟩
        · exact hc ⟨h5.1, by omega, h4, by rw [p.m j, if_neg hj]⟩
  · rw [hrw.1] at hj
    exact (hmk j).2 (Or.inl (p.low j hj))
  · rcases (hmk j).1 hj with h3 | h3
    · exact p.in_ j h3
    · omega
  · rw [hp]; show max x.top (a + (piece t a e).length) ≤ _; have := p.top; rw [hpl]; omega
  · rw [hp] at hk ⊢
    show (if last = true then a + (piece t a e).length else x.size) = _
    by_cases hla : last = true
    · rw [if_pos hla, hpl]
      rw [hl] at hla
      have := of_decide_eq_true hla
      omega
    · rw [if_neg hla]
      have : (x.known || last) = true := hk
      have hlf : last = false := by simpa using hla
      rw [hlf, Bool.or_false] at this
      exact p.size this
theorem Pf.bytes {t : List Nat} {x : S} {h : List Bool} {g : List Nat} (p : Pf t x h g) (k : Nat) (hk : k ≤ ready x) : g ++ bytes x k = t.take (x.rd + k) ∧ x.rd + k ≤ t.length ∧ ∀ j, j < x.rd + k → h.getD j false = true := by
  have hin : ∀ i, i < k → h.getD (x.rd + i) false = true ∧ x.m (x.rd + i) = some (t.getD (x.rd + i) 0) := fun i hi => by
    obtain ⟨c, hc⟩ := ready_in x i (by omega)
    have := p.m (x.rd + i)
    by_cases hh : h.getD (x.rd + i) false = true ∧ x.rd ≤ x.rd + i
    · rw [if_pos hh] at this; exact ⟨hh.1, this⟩
    · rw [if_neg hh, hc] at this; cases this
  have hle : x.rd + k ≤ t.length := by
    cases k with
    | zero => exact p.rd
    | succ k => have := p.in_ _ (hin k (by omega)).1; omega
  refine ⟨?_, hle, fun j hj => ?_⟩
  · rw [p.g, List.take_add]
    congr 1
    apply List.ext_getElem (by rw [bytes_len]; simp; omega)
    intro i h1 h2
    rw [bytes_len] at h1
    have := bytes_at x k i h1
    rw [(hin i h1).2] at this
    rw [List.getD_eq_getElem?_getD, List.getElem?_eq_getElem (by rw [bytes_len]; exact h1)] at this
    simp only [Option.getD_some] at this
    rw [this]
    simp [List.getD_eq_getElem?_getD, show x.rd + i < t.length by omega]
  · by_cases h1 : j < x.rd
    · exact p.low j h1
    · have := (hin (j - x.rd) (by omega)).1
      rwa [show x.rd + (j - x.rd) = j by omega] at this
theorem Pf.readK {t : List Nat} {x : S} {h : List Bool} {g : List Nat} (p : Pf t x h g) (k : Nat) (hk : k ≤ ready x) : Pf t (Rs.readK x k) h (g ++ Rs.bytes x k) := by
  obtain ⟨h1, h2, h3⟩ := p.bytes k hk
  refine ⟨p.ok.readK k hk, p.win, p.len, p.hl, h2, h1, fun j => ?_, h3, p.in_, p.top, p.size⟩
  show (if x.rd ≤ j ∧ j < x.rd + k then none else x.m j) = if h.getD j false = true ∧ x.rd + k ≤ j then some (t.getD j 0) else none
  by_cases hj : x.rd ≤ j ∧ j < x.rd + k
  · rw [if_pos hj, if_neg (by omega)]
  · rw [if_neg hj, p.m j]
    by_cases hh : h.getD j false = true ∧ x.rd ≤ j
    · rw [if_pos hh, if_pos ⟨hh.1, by omega⟩]
    · rw [if_neg hh, if_neg (fun hc => hh ⟨hc.1, by omega⟩)]
theorem Pf.read {t : List Nat} {x : S} {h : List Bool} {g : List Nat} (p : Pf t x h g) (k : Int) : Pf t (Rs.read x k).2 h (g ++ Rs.bytes x (many x k)) := p.readK _ (many_le x k)
theorem ready_zero {x : S} (h : x.m x.rd = none) : ready x = 0 := by
  refine runF_eq _ _ _ _ (Nat.zero_le _) (fun i hi => absurd hi (Nat.not_lt_zero _)) (fun _ => ?_)
  rw [Nat.add_zero, h]; rfl
/-- At the end all that came from the beginning on was read. -/
theorem Pf.fin {t : List Nat} {x : S} {h : List Bool} {g : List Nat} (p : Pf t x h g) : ∃ n, many x 1000 = ready x ∧ g ++ Rs.bytes x (ready x) = t.take n ∧ n ≤ t.length ∧ (∀ j, j < n → h.getD j false = true) ∧ (n < t.length → h.getD n false = false) ∧ ready (Rs.read x 1000).2 = 0 := by
  obtain ⟨h1, h2, h3⟩ := p.bytes (ready x) (Nat.le_refl _)
  have hrl := runF_le x.m x.win x.rd
  have hr2 : ready x ≤ 200 := by have := p.win; unfold ready; omega
  have hm : many x 1000 = ready x := by unfold many; omega
  have hstop := p.ok.stop
  refine ⟨x.rd + ready x, hm, h1, h2, h3, fun hlt => ?_, ?_⟩
  · have := p.m (x.rd + ready x)
    rw [hstop] at this
    by_cases hh : h.getD (x.rd + ready x) false = true ∧ x.rd ≤ x.rd + ready x
    · rw [if_pos hh] at this; cases this
    · cases hv : h.getD (x.rd + ready x) false with
      | false => rfl
      | true => exact absurd ⟨hv, by omega⟩ hh
  · apply ready_zero
    show (if x.rd ≤ x.rd + many x 1000 ∧ x.rd + many x 1000 < x.rd + many x 1000 then none else x.m (x.rd + many x 1000)) = none
    rw [if_neg (by omega), hm, hstop]
end Rs
namespace Go.Proofs.Ytdloeakmoaoalaa
end Go.Proofs.Ytdloeakmoaoalaa
