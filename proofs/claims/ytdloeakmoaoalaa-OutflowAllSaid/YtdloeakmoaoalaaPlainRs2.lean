/- Layer 16's reasm, in plain words: what the laws say. -/
import Derived.Test.YtdloeakmoaoalaaPlainRs
namespace Rs
set_option linter.unusedVariables false
set_option linter.unusedSimpArgs false
/-- All of a text is there, and nothing was read. -/
structure Full (x : S) (t : List Nat) : Prop where
  rd : x.rd = 0
  m : ∀ j, x.m j = if j < t.length then some (t.getD j 0) else none
  win : t.length ≤ x.win
theorem Full.ready {x : S} {t : List Nat} (h : Full x t) : ready x = t.length := by
  refine runF_eq _ _ _ _ h.win (fun i hi => ?_) (fun _ => ?_)
  · rw [h.m, h.rd, if_pos (by omega)]; rfl
  · rw [h.m, h.rd, if_neg (by omega)]; rfl
theorem Full.many {x : S} {t : List Nat} (h : Full x t) (k : Nat) (hk : t.length ≤ k) : many x (k : Int) = t.length := by
  unfold Rs.many; rw [h.ready]; omega
theorem Full.bytes {x : S} {t : List Nat} (h : Full x t) : bytes x t.length = t := by
  apply List.ext_getElem (bytes_len _ _)
  intro i h1 h2
  have := bytes_at x t.length i (by simpa using h2)
  rw [List.getD_eq_getElem?_getD, List.getElem?_eq_getElem h1] at this
  simp only [Option.getD_some] at this
  rw [this, h.rd, h.m, if_pos (by omega)]
  simp [List.getD_eq_getElem?_getD, h2]
theorem put_eq {x : S} {off : Nat} {d : List Nat} {last : Bool} (h : err x off d.length last = 0) : put x off d last = { x with m := mK x off d d.length, cnt := cK x off d.length, top := max x.top (off + d.length), size := if last then off + d.length else x.size, known := x.known || last } := by
  unfold put; rw [if_pos h]
theorem err_zero {x : S} {off len : Nat} {last : Bool} (h1 : off + len ≤ 4611686018427387903) (h2 : off + len ≤ x.rd + x.win) (h3 : x.known = true → off + len ≤ x.size ∧ (last = true → off + len = x.size)) (h4 : last = true → x.top ≤ off + len) : err x off len last = 0 := by
  unfold err
  rw [if_neg (by omega), if_neg (by omega), if_neg]
  rintro (⟨a, b | ⟨b, c⟩⟩ | ⟨a, b⟩)
  · have := h3 a; omega
  · exact c ((h3 a).2 b)
  · have := h4 a; omega
/-- Two texts for one place. -/
theorem first_law (la lb : List Nat) (ha : la.length ≤ 100) (hb : lb.length ≤ 100) : err (new 100) 0 la.length false = 0 ∧ err (put (new 100) 0 la false) 0 lb.length false = 0 ∧
    many (put (put (new 100) 0 la false) 0 lb false) 200 = max la.length lb.length ∧ bytes (put (put (new 100) 0 la false) 0 lb false) (max la.length lb.length) = la ++ lb.drop la.length ∧ (put (put (new 100) 0 la false) 0 lb false).top = max la.length lb.length := by
  have e1 : err (new 100) 0 la.length false = 0 := err_zero (by omega) (by show _ ≤ 0 + 100; omega) (fun h => by cases h) (fun h => by cases h)
  have p1 := put_eq e1
  have e2 : err (put (new 100) 0 la false) 0 lb.length false = 0 := err_zero (by omega) (by rw [p1]; show _ ≤ 0 + 100; omega) (fun h => by rw [p1] at h; cases h) (fun h => by cases h)
  have p2 := put_eq e2
  have hl : (la ++ lb.drop la.length).length = max la.length lb.length := by simp; omega
  have hF : Full (put (put (new 100) 0 la false) 0 lb false) (la ++ lb.drop la.length) := by
    refine ⟨by rw [p2, p1]; rfl, fun j => ?_, by rw [hl, p2, p1]; show _ ≤ 100; omega⟩
    rw [p2, p1]
    have hrd : (new 100).rd = 0 := rfl
    have hm : (new 100).m = fun _ => none := rfl
    simp only [mK, hrd, hm, hl]
    have hga : (la ++ lb.drop la.length).getD j 0 = if j < la.length then la.getD j 0 else (lb.drop la.length).getD (j - la.length) 0 := by
      rw [List.getD_eq_getElem?_getD, List.getElem?_append]
      split <;> simp [List.getD_eq_getElem?_getD]
    rw [hga]
    by_cases h1 : j < la.length
    · rw [if_pos (by omega : j < max la.length lb.length), if_pos h1]
      have hc : (0 ≤ j ∧ j < 0 + la.length ∧ 0 ≤ j ∧ True) := ⟨by omega, by omega, by omega, trivial⟩
      simp only [if_pos hc]
      rw [if_neg (by simp)]
      simp
    · have hc : ¬ (0 ≤ j ∧ j < 0 + la.length ∧ 0 ≤ j ∧ True) := by omega
      simp only [if_neg hc]
      rw [if_neg h1]
      by_cases h2 : j < lb.length
      · rw [if_pos (by omega : j < max la.length lb.length), if_pos ⟨by omega, by omega, by omega, trivial⟩]
        congr 1
        simp [List.getD_eq_getElem?_getD, List.getElem?_drop]
        congr 2
        omega
      · rw [if_neg (by omega : ¬ j < max la.length lb.length), if_neg (by omega)]
  refine ⟨e1, e2, ?_, ?_, ?_⟩
  · have := hF.many 200 (by omega); rw [hl] at this; exact this
  · have := hF.bytes; rw [hl] at this; exact this
  · rw [p2, p1]; show max (max 0 (0 + la.length)) (0 + lb.length) = _; omega
/-- A text in two halves. -/
theorem more_law (t : List Nat) (k : Nat) (ht : t.length ≤ 100) (hk : k ≤ t.length) :
    err (new 100) k (t.drop k).length true = 0 ∧ err (put (new 100) k (t.drop k) true) 0 (t.take k).length false = 0 ∧ err (new 100) 0 t.length true = 0 ∧
    Full (put (put (new 100) k (t.drop k) true) 0 (t.take k) false) t ∧ Full (put (new 100) 0 t true) t ∧
    (put (put (new 100) k (t.drop k) true) 0 (t.take k) false).size = t.length ∧ (put (put (new 100) k (t.drop k) true) 0 (t.take k) false).known = true ∧ (put (put (new 100) k (t.drop k) true) 0 (t.take k) false).win = 100 ∧
    (put (new 100) 0 t true).size = t.length ∧ (put (new 100) 0 t true).known = true ∧ (put (new 100) 0 t true).win = 100 := by
  have hd : (t.drop k).length = t.length - k := by simp
  have htk : (t.take k).length = k := by simp; omega
  have e1 : err (new 100) k (t.drop k).length true = 0 := err_zero (by omega) (by show _ ≤ 0 + 100; omega) (fun h => by cases h) (fun _ => Nat.zero_le _)
  have p1 := put_eq e1
  have e2 : err (put (new 100) k (t.drop k) true) 0 (t.take k).length false = 0 := err_zero (by omega) (by rw [p1]; show _ ≤ 0 + 100; omega) (fun _ => by rw [p1]; exact ⟨by show _ ≤ k + (t.drop k).length; omega, fun h => by cases h⟩) (fun h => by cases h)
  have p2 := put_eq e2
  have e3 : err (new 100) 0 t.length true = 0 := err_zero (by omega) (by show _ ≤ 0 + 100; omega) (fun h => by cases h) (fun _ => Nat.zero_le _)
  have p3 := put_eq e3
  have hrd : (new 100).rd = 0 := rfl
  have hm : (new 100).m = fun _ => none := rfl
  refine ⟨e1, e2, e3, ⟨by rw [p2, p1]; rfl, fun j => ?_, by rw [p2, p1]; exact ht⟩, ⟨by rw [p3]; rfl, fun j => ?_, by rw [p3]; exact ht⟩, ?_, by rw [p2, p1]; rfl, by rw [p2, p1]; rfl, by rw [p3]; show 0 + t.length = _; omega, by rw [p3]; rfl, by rw [p3]; rfl⟩
  · rw [p2, p1]
    simp only [mK, hrd, hm]
    by_cases h1 : j < k
    · have hc : ¬ (k ≤ j ∧ j < k + (t.drop k).length ∧ 0 ≤ j ∧ True) := by omega
      simp only [if_neg hc]
      rw [if_pos ⟨by omega, by omega, by omega, trivial⟩, if_pos (by omega)]
      simp [List.getD_eq_getElem?_getD, List.getElem?_take, h1]
    · by_cases h2 : j < t.length
      · have hc : (k ≤ j ∧ j < k + (t.drop k).length ∧ 0 ≤ j ∧ True) := ⟨by omega, by omega, by omega, trivial⟩
        simp only [if_pos hc]
        rw [if_neg (by omega), if_pos h2]
        simp [List.getD_eq_getElem?_getD, List.getElem?_drop]
        congr 2
        omega
      · have hc : ¬ (k ≤ j ∧ j < k + (t.drop k).length ∧ 0 ≤ j ∧ True) := by omega
        simp only [if_neg hc]
        rw [if_neg (by omega), if_neg h2]
  · rw [p3]
    simp only [mK, hrd, hm]
    by_cases h2 : j < t.length
    · rw [if_pos ⟨by omega, by omega, by omega, trivial⟩, if_pos h2]; simp
    · rw [if_neg (by omega), if_neg h2]
  · rw [p2, p1]; show k + (t.drop k).length = _; omega
/-- A final size is kept. -/
theorem sizes_law (t : List Nat) (a s : Nat) (ht : t.length ≤ 100) (ha : a ≤ 255) (hs : s ≤ 255) :
    err (new 400) a t.length true = 0 ∧ (put (new 400) a t true).size = a + t.length ∧ (put (new 400) a t true).known = true ∧
    err (put (new 400) a t true) s 0 true = (if s = a + t.length then 0 else 10) ∧ err (put (put (new 400) a t true) s [] true) (a + t.length) 1 false = 10 := by
  have e1 : err (new 400) a t.length true = 0 := err_zero (by omega) (by show _ ≤ 0 + 400; omega) (fun h => by cases h) (fun _ => Nat.zero_le _)
  have p1 := put_eq e1
  have hz : (put (new 400) a t true).size = a + t.length := by rw [p1]; rfl
  have hk : (put (new 400) a t true).known = true := by rw [p1]; rfl
  have hw : (put (new 400) a t true).win = 400 := by rw [p1]; rfl
  have hr : (put (new 400) a t true).rd = 0 := by rw [p1]; rfl
  have htp : (put (new 400) a t true).top = a + t.length := by rw [p1]; show max 0 _ = _; omega
  have e2 : err (put (new 400) a t true) s 0 true = (if s = a + t.length then 0 else 10) := by
    by_cases h : s = a + t.length
    · rw [if_pos h]
      exact err_zero (by omega) (by rw [hr, hw]; omega) (fun _ => by rw [hz]; exact ⟨by omega, fun _ => by omega⟩) (fun _ => by rw [htp]; omega)
    · rw [if_neg h]
      unfold err
      rw [hr, hw, hz, hk, htp, if_neg (by omega), if_neg (by omega), if_pos]
      exact Or.inl ⟨rfl, Or.inr ⟨rfl, by omega⟩⟩
  refine ⟨e1, hz, hk, e2, ?_⟩
  have h5 : (put (put (new 400) a t true) s [] true).size = a + t.length ∧ (put (put (new 400) a t true) s [] true).known = true ∧ (put (put (new 400) a t true) s [] true).win = 400 ∧ (put (put (new 400) a t true) s [] true).rd = 0 := by
    by_cases h : s = a + t.length
    · rw [if_pos h] at e2
      have p2 := put_eq (d := []) e2
      rw [p2]
      exact ⟨by show s + 0 = _; omega, by rw [hk]; rfl, hw, hr⟩
    · rw [if_neg h] at e2
      have p2 : put (put (new 400) a t true) s [] true = put (new 400) a t true := by
        show (if err (put (new 400) a t true) s ([] : List Nat).length true = 0 then _ else _) = _
        rw [if_neg]
        show ¬ err (put (new 400) a t true) s 0 true = 0
        omega
      rw [p2]
      exact ⟨hz, hk, hw, hr⟩
  unfold err
  rw [h5.1, h5.2.1, h5.2.2.1, h5.2.2.2, if_neg (by omega), if_neg (by omega), if_pos]
  exact Or.inl ⟨rfl, Or.inl (by omega)⟩
/-- What a Put says, where no number is great. -/
theorem err_flow {x : S} {off len : Nat} {last : Bool} (h : off + len ≤ 4611686018427387903) : (err x off len last = 9) ↔ x.rd + x.win < off + len := by
  unfold err
  rw [if_neg (by omega)]
  by_cases h2 : x.rd + x.win < off + len
  · rw [if_pos h2]; simp [h2]
  · rw [if_neg h2]
    split <;> simp <;> omega
theorem put_rd (x : S) (off : Nat) (d : List Nat) (last : Bool) : (put x off d last).rd = x.rd ∧ (put x off d last).win = x.win := by
  unfold put; split <;> exact ⟨rfl, rfl⟩
end Rs
namespace Go.Proofs.Ytdloeakmoaoalaa
end Go.Proofs.Ytdloeakmoaoalaa
