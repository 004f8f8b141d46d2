/- Layer 17's outflow and layer 16's reasm, in plain words: what goes out piece by piece all comes (OutflowAll). -/
import Derived.Test.YtdloeakmoaoalaaRows
import Derived.Test.YtdloeakmoaoalaaPlainOf
import Derived.Test.YtdloeakmoaoalaaOfM
import Derived.Test.YtdloeakmoaoalaaPlainOf2
import Derived.Test.YtdloeakmoaoalaaPlainOf3
import Derived.Test.YtdloeakmoaoalaaPlainRs
import Derived.Test.YtdloeakmoaoalaaPlainRs2
import Derived.Test.YtdloeakmoaoalaaPlainRs3
namespace Of
set_option linter.unusedVariables false
set_option linter.unusedSimpArgs false
theorem runs_pos {c : Nat} {l : List Nat} {many : Nat} (hm : 0 < many) (hl : 0 < l.length) (h : l.getD 0 0 = c) : 0 < runs c l many := by
  rcases Nat.eq_zero_or_pos (runs c l many) with h0 | h0
  · have := runs_end c l many (by omega) (by omega)
    rw [h0] at this
    exact absurd h this
  · exact h0
theorem due_all (x : B) (many : Nat) (hm : 0 < many) (hf : x.fin = true) (hl : x.s.length ≤ x.lim) (hs : ∀ i, i < x.s.length → x.s.getD i 0 = 0 ∨ x.s.getD i 0 = 2 ∨ x.s.getD i 0 = 3) (he : x.en = 0 ∨ x.en = 2 ∨ x.en = 3) (hd : done x = false) :
    ∃ o to e, due x many = (o, to, e, true) ∧ o ≤ to ∧ to ≤ x.s.length ∧ (∀ i, o ≤ i → i < to → x.s.getD i 0 = 0 ∨ x.s.getD i 0 = 2) ∧ (e = true → to = x.s.length ∧ (x.en = 0 ∨ x.en = 2)) ∧ (o < to ∨ e = true) := by
  have ho : openB x = x.s.length := by unfold openB; omega
  have hen : ∀ to : Nat, (ended x && to == x.s.length) = true → to = x.s.length ∧ (x.en = 0 ∨ x.en = 2) := fun to h => by
    unfold ended at h
    simp at h
    exact ⟨h.2, h.1.2⟩
  unfold due
  simp only [ho, List.take_length]
  by_cases h2 : fst 2 x.s < x.s.length
  · rw [if_pos h2]
    have hr := runs_le 2 (x.s.drop (fst 2 x.s)) many
    have hp : 0 < runs 2 (x.s.drop (fst 2 x.s)) many := runs_pos hm (by rw [List.length_drop]; omega) (by rw [getD_drop]; exact fst_at h2)
    have hr2 := hr.2
    rw [List.length_drop] at hr2
    refine ⟨_, _, _, rfl, by omega, by omega, fun i h3 h4 => ?_, hen _, Or.inl (by omega)⟩
    have hin := runs_in 2 (x.s.drop (fst 2 x.s)) many (i - fst 2 x.s) (by omega)
    rw [getD_drop, show fst 2 x.s + (i - fst 2 x.s) = i by omega] at hin
    exact Or.inr hin
  · rw [if_neg h2]
    by_cases h0 : fst 0 x.s < x.s.length
    · rw [if_pos h0]
      have hr := runs_le 0 (x.s.drop (fst 0 x.s)) many
      have hp : 0 < runs 0 (x.s.drop (fst 0 x.s)) many := runs_pos hm (by rw [List.length_drop]; omega) (by rw [getD_drop]; exact fst_at h0)
      have hr2 := hr.2
      rw [List.length_drop] at hr2
      refine ⟨_, _, _, rfl, by omega, by omega, fun i h3 h4 => ?_, hen _, Or.inl (by omega)⟩
      have hin := runs_in 0 (x.s.drop (fst 0 x.s)) many (i - fst 0 x.s) (by omega)
      rw [getD_drop, show fst 0 x.s + (i - fst 0 x.s) = i by omega] at hin
      exact Or.inl hin
    · rw [if_neg h0]
      have hf0 := fst_le 0 x.s
      have hf2 := fst_le 2 x.s
      have hall : ∀ i, i < x.s.length → x.s.getD i 0 = 3 := fun i hi => by
        have h5 := fst_not (c := 0) (l := x.s) (i := i) (by omega)
        have h6 := fst_not (c := 2) (l := x.s) (i := i) (by omega)
        have := hs i hi
        omega
      have hen3 : x.en ≠ 3 := fun h3 => by
        have : done x = true := by
          unfold done
          rw [hf, h3]
          simp only [Bool.true_and, BEq.rfl, List.all_eq_true]
          intro c hc
          obtain ⟨i, hi, rfl⟩ := List.getElem_of_mem hc
          have := hall i hi
          rw [List.getD_eq_getElem?_getD, List.getElem?_eq_getElem hi] at this
          simpa using this
        rw [this] at hd
        cases hd
      have he' : x.en = 0 ∨ x.en = 2 := by omega
      have hend : ended x = true := by
        unfold ended
        rw [hf]
        rcases he' with h | h <;> rw [h] <;> rfl
      have hff : fst 0 x.s = x.s.length := by omega
      rw [if_pos (by rw [hend, hff]; simp)]
      exact ⟨_, _, _, rfl, Nat.le_refl _, Nat.le_refl _, fun i h3 h4 => by omega, fun _ => ⟨rfl, he'⟩, Or.inr rfl⟩
/-- How much is not acked. -/
def left (x : B) : Nat := Rs.cn (fun i => x.s.getD i 0 != 3) x.s.length + if x.en = 3 then 0 else 1
theorem cn_le2 {p q : Nat → Bool} (h : ∀ i, q i = true → p i = true) : ∀ n, Rs.cn q n ≤ Rs.cn p n
  | 0 => Nat.le_refl _
  | n + 1 => by
    rw [Rs.cn_succ, Rs.cn_succ]
    have := cn_le2 h n
    have hq := h n
    cases hqn : q n <;> cases hpn : p n <;> simp_all <;> omega
theorem cn_lt {p q : Nat → Bool} : ∀ {n : Nat}, (∀ i, q i = true → p i = true) → (∃ i, i < n ∧ p i = true ∧ q i = false) → Rs.cn q n + 1 ≤ Rs.cn p n
  | 0, _, ⟨i, h, _⟩ => by omega
  | n + 1, h, ⟨i, h1, h2, h3⟩ => by
    rw [Rs.cn_succ, Rs.cn_succ]
    by_cases e : i = n
    · subst e
      have hle : Rs.cn q i ≤ Rs.cn p i := cn_le2 h i
      rw [h2, h3]; simp; omega
    · have := cn_lt (n := n) h ⟨i, by omega, h2, h3⟩
      have hq := h n
      cases hqn : q n <;> cases hpn : p n <;> simp_all <;> omega
/-- Between two rounds. -/
structure All (t : List Nat) (x : B) (y : Rs.S) : Prop where
  b : x.b = t
  sl : x.s.length = t.length
  fin : x.fin = true
  lim : x.lim = 300
  len : t.length ≤ 300
  st : ∀ i, i < t.length → x.s.getD i 0 = 0 ∨ x.s.getD i 0 = 2 ∨ x.s.getD i 0 = 3
  en : x.en = 0 ∨ x.en = 2 ∨ x.en = 3
  yok : Rs.Ok y
  win : y.win = 300
  rd : y.rd = 0
  m : ∀ i, y.m i = if i < t.length ∧ x.s.getD i 0 = 3 then some (t.getD i 0) else none
  known : y.known = (x.en == 3)
  size : y.known = true → y.size = t.length
  top : y.top ≤ t.length
theorem All.start (t : List Nat) (h : t.length ≤ 300) : (write ⟨[], [], false, 0, 300⟩ t).1 = t.length ∧ (finish (write ⟨[], [], false, 0, 300⟩ t).2).1 = true ∧ All t (finish (write ⟨[], [], false, 0, 300⟩ t).2).2 (Rs.new 300) ∧ left (finish (write ⟨[], [], false, 0, 300⟩ t).2).2 ≤ 301 := by
  rw [st_new t 300 (by omega)]
  have hf : finish (St t 300 0) = (true, { St t 300 0 with fin := true }) := rfl
  rw [hf]
  have hg : ∀ i, (St t 300 0).s.getD i 0 = 0 := fun i => by rw [st_getD]; rw [if_neg (by omega)]
  have hl := st_len t 300 0 (Nat.zero_le _)
  refine ⟨rfl, rfl, ⟨rfl, hl, rfl, rfl, h, fun i _ => Or.inl (hg i), Or.inl rfl, Rs.Ok.new (by omega), rfl, rfl, fun i => ?_, rfl, fun h => (by cases h), Nat.zero_le _⟩, ?_⟩
  · rw [if_neg]
    · rfl
    · rintro ⟨_, h2⟩
      rw [hg] at h2
      cases h2
  · unfold left
    have := Rs.cn_le (fun i => ((St t 300 0).s.getD i 0) != 3) (St t 300 0).s.length
    simp only
    rw [hl] at *
    split <;> omega
/-- A round: a piece goes out; it is lost, or it comes and is acked. -/
theorem All.round {t : List Nat} {x : B} {y : Rs.S} (h : All t x y) (hb : ∀ c ∈ t, c < 256) (many : Nat) (hm : 0 < many) (hd : done x = false) :
    ∃ o to e, due x many = (o, to, e, true) ∧ o ≤ to ∧ to ≤ t.length ∧ (t.drop o).take (to - o) = Rs.piece t o to ∧ 1 ≤ left x ∧
      (All t (turn (next x many) o ((to - o : Nat) : Int) e fLost) y ∧ left (turn (next x many) o ((to - o : Nat) : Int) e fLost) = left x) ∧
      (Rs.err y o (to - o) e = 0 ∧ All t (turn (next x many) o ((to - o : Nat) : Int) e fAck) (Rs.put y o (Rs.piece t o to) e) ∧ left (turn (next x many) o ((to - o : Nat) : Int) e fAck) + 1 ≤ left x) := by
  have hlen := h.len
  have hsl := h.sl
  obtain ⟨o, to, e, hdue, h1, h2, h3, h4, h5⟩ := due_all x many hm h.fin (by rw [h.sl, h.lim]; exact h.len) (fun i hi => h.st i (by omega)) h.en hd
  have hnx : next x many = { x with s := setR x.s o to 1, en := if e then 1 else x.en } := by
    unfold next
    rw [if_neg (by omega), hdue]
  have hns : ∀ i, i < t.length → (next x many).s.getD i 0 = if o ≤ i ∧ i < to then 1 else x.s.getD i 0 := fun i hi => by
    rw [hnx]; exact setR_getD _ _ _ _ _ (by omega)
  have hnl : (next x many).s.length = t.length := by rw [hnx]; show (setR x.s o to 1).length = _; rw [setR_len, hsl]
  have hT : ∀ (f : Nat → Nat) i, i < t.length → (turn (next x many) o ((to - o : Nat) : Int) e f).s.getD i 0 = if o ≤ i ∧ i < to then f 1 else x.s.getD i 0 := fun f i hi => by
    rw [turn_getD _ _ _ _ _ _ (by rw [hnl]; exact hi), hns i hi]
    by_cases hh : o ≤ i ∧ i < to
    · rw [if_pos hh, if_pos (by omega), if_pos hh]
    · rw [if_neg hh, if_neg (by omega), if_neg hh]
  have hTl : ∀ (f : Nat → Nat), (turn (next x many) o ((to - o : Nat) : Int) e f).s.length = t.length := fun f => by rw [turn_len, hnl]
  have hTe : ∀ (f : Nat → Nat), (turn (next x many) o ((to - o : Nat) : Int) e f).en = if e = true then f 1 else x.en := fun f => by
    unfold turn
    rw [hnx]
    simp only [h.fin, Bool.and_true]
    cases e <;> rfl
  have hTr : ∀ (f : Nat → Nat), (turn (next x many) o ((to - o : Nat) : Int) e f).b = t ∧ (turn (next x many) o ((to - o : Nat) : Int) e f).fin = true ∧ (turn (next x many) o ((to - o : Nat) : Int) e f).lim = 300 := fun f => by
    unfold turn
    rw [hnx]
    exact ⟨h.b, h.fin, h.lim⟩
  have h2' : to ≤ t.length := by omega
  have hne3 : ∀ i, o ≤ i → i < to → x.s.getD i 0 ≠ 3 := fun i q1 q2 => by have := h3 i q1 q2; omega
  have hpl := Rs.piece_len t o to h1 h2'
  have hpos : 1 ≤ left x := by
    unfold left
    rcases h5 with h5 | h5
    · have := cn_lt (p := fun i => x.s.getD i 0 != 3) (q := fun _ => false) (n := x.s.length) (fun i hi => by cases hi) ⟨o, by omega, by simpa using hne3 o (Nat.le_refl _) h5, rfl⟩
      omega
    · have := (h4 h5).2
      rw [if_neg (by omega)]; omega
  refine ⟨o, to, e, hdue, h1, h2', rfl, hpos, ⟨?_, ?_⟩, ?_, ?_, ?_⟩
  · obtain ⟨r1, r2, r3⟩ := hTr fLost
    have hen : (turn (next x many) o ((to - o : Nat) : Int) e fLost).en = 3 ↔ x.en = 3 := by
      rw [hTe]
      by_cases he : e = true
      · rw [if_pos he]
        have := (h4 he).2
        show (2 : Nat) = 3 ↔ _
        omega
      · rw [if_neg he]
    have hs3 : ∀ i, i < t.length → ((turn (next x many) o ((to - o : Nat) : Int) e fLost).s.getD i 0 = 3 ↔ x.s.getD i 0 = 3) := fun i hi => by
      rw [hT _ i hi]
      by_cases hh : o ≤ i ∧ i < to
      · rw [if_pos hh]
        have := hne3 i hh.1 hh.2
        show (2 : Nat) = 3 ↔ _
        omega
      · rw [if_neg hh]
    refine ⟨r1, hTl _, r2, r3, h.len, fun i hi => ?_, ?_, h.yok, h.win, h.rd, fun i => ?_, ?_, h.size, h.top⟩
    · rw [hT _ i hi]
      by_cases hh : o ≤ i ∧ i < to
      · rw [if_pos hh]; exact Or.inr (Or.inl rfl)
      · rw [if_neg hh]; exact h.st i hi
    · rw [hTe]
      by_cases he : e = true
      · rw [if_pos he]; exact Or.inr (Or.inl rfl)
      · rw [if_neg he]; exact h.en
    · rw [h.m i]
      by_cases hi : i < t.length
      · by_cases hh : x.s.getD i 0 = 3
        · rw [if_pos ⟨hi, hh⟩, if_pos ⟨hi, (hs3 i hi).2 hh⟩]
        · rw [if_neg (fun q => hh q.2), if_neg (fun q => hh ((hs3 i hi).1 q.2))]
      · rw [if_neg (fun q => hi q.1), if_neg (fun q => hi q.1)]
    · rw [h.known, Bool.eq_iff_iff]
      simp only [beq_iff_eq]
      exact hen.symm
  · have hen : (turn (next x many) o ((to - o : Nat) : Int) e fLost).en = 3 ↔ x.en = 3 := by
      rw [hTe]
      by_cases he : e = true
      · rw [if_pos he]
        have := (h4 he).2
        show (2 : Nat) = 3 ↔ _
        omega
      · rw [if_neg he]
    unfold left
    rw [hTl, hsl, Rs.cn_congr (q := fun i => x.s.getD i 0 != 3) (n := t.length) (fun i hi => by
      rw [hT _ i hi]
      by_cases hh : o ≤ i ∧ i < to
      · rw [if_pos hh]
        have := hne3 i hh.1 hh.2
        rw [bne_iff_ne.2 this]; rfl
      · rw [if_neg hh])]
    by_cases he3 : x.en = 3
    · rw [if_pos he3, if_pos (hen.2 he3)]
    · rw [if_neg he3, if_neg (fun q => he3 (hen.1 q))]
  · refine Rs.err_zero (by omega) (by rw [h.rd, h.win]; omega) (fun hk => ?_) (fun he => ?_)
    · rw [h.size hk]
      exact ⟨by omega, fun he => by have := (h4 he).1; omega⟩
    · have := (h4 he).1
      have := h.top
      omega
  · have herr : Rs.err y o (Rs.piece t o to).length e = 0 := by
      rw [hpl]
      refine Rs.err_zero (by omega) (by rw [h.rd, h.win]; omega) (fun hk => ?_) (fun he => ?_)
      · rw [h.size hk]
        exact ⟨by omega, fun he => by have := (h4 he).1; omega⟩
      · have := (h4 he).1
        have := h.top
        omega
    have hp := Rs.put_eq herr
    have hrw := Rs.put_rd y o (Rs.piece t o to) e
    obtain ⟨r1, r2, r3⟩ := hTr fAck
    refine ⟨r1, hTl _, r2, r3, h.len, fun i hi => ?_, ?_, h.yok.put _ _ _ (fun c hc => hb c (List.mem_of_mem_drop (List.mem_of_mem_take hc))), by rw [hrw.2]; exact h.win, by rw [hrw.1]; exact h.rd, fun i => ?_, ?_, fun hk => ?_, ?_⟩
    · rw [hT _ i hi]
      by_cases hh : o ≤ i ∧ i < to
      · rw [if_pos hh]; exact Or.inr (Or.inr rfl)
      · rw [if_neg hh]; exact h.st i hi
    · rw [hTe]
      by_cases he : e = true
      · rw [if_pos he]; exact Or.inr (Or.inr rfl)
      · rw [if_neg he]; exact h.en
    · rw [hp]
      show Rs.mK y o (Rs.piece t o to) (Rs.piece t o to).length i = _
      unfold Rs.mK
      rw [hpl, h.rd]
      by_cases hh : o ≤ i ∧ i < to
      · have hi : i < t.length := by omega
        have hn : y.m i = none := by rw [h.m i, if_neg (fun q => hne3 i hh.1 hh.2 q.2)]
        rw [if_pos ⟨hh.1, by omega, Nat.zero_le _, hn⟩, if_pos ⟨hi, by rw [hT _ i hi, if_pos hh]; rfl⟩, Rs.piece_at t o to i hh.1 hh.2]
      · rw [if_neg (fun q => hh ⟨q.1, by omega⟩), h.m i]
        by_cases hi : i < t.length
        · rw [hT _ i hi, if_neg hh]
        · rw [if_neg (fun q => hi q.1), if_neg (fun q => hi q.1)]
    · rw [hp, hTe]
      show (y.known || e) = _
      by_cases he : e = true
      · rw [if_pos he, he, Bool.or_true]; rfl
      · rw [if_neg he, Bool.eq_false_iff.2 he, Bool.or_false, h.known]
    · rw [hp] at hk ⊢
      show (if e = true then o + (Rs.piece t o to).length else y.size) = _
      by_cases he : e = true
      · rw [if_pos he, hpl]; have := (h4 he).1; omega
      · rw [if_neg he]
        have hk' : (y.known || e) = true := hk
        rw [Bool.eq_false_iff.2 he, Bool.or_false] at hk'
        exact h.size hk'
    · rw [hp]
      show max y.top (o + (Rs.piece t o to).length) ≤ _
      have := h.top
      rw [hpl]; omega
  · unfold left
    rw [hTl, hTe, hsl]
    have himp : ∀ i, i < t.length → ((turn (next x many) o ((to - o : Nat) : Int) e fAck).s.getD i 0 != 3) = (!(decide (o ≤ i) && decide (i < to)) && x.s.getD i 0 != 3) := fun i hi => by
      rw [hT _ i hi]
      by_cases hh : o ≤ i ∧ i < to
      · rw [if_pos hh, decide_eq_true hh.1, decide_eq_true hh.2]; rfl
      · rw [if_neg hh]
        have : (decide (o ≤ i) && decide (i < to)) = false := by
          rw [Bool.and_eq_false_iff, decide_eq_false_iff_not, decide_eq_false_iff_not]; omega
        rw [this]; rfl
    rw [Rs.cn_congr himp]
    have hle := cn_le2 (p := fun i => x.s.getD i 0 != 3) (q := fun i => (!(decide (o ≤ i) && decide (i < to)) && x.s.getD i 0 != 3)) (fun i hi => by simp only [Bool.and_eq_true] at hi; exact hi.2) t.length
    rcases h5 with h5 | h5
    · have := cn_lt (p := fun i => x.s.getD i 0 != 3) (q := fun i => (!(decide (o ≤ i) && decide (i < to)) && x.s.getD i 0 != 3)) (n := t.length) (fun i hi => by simp only [Bool.and_eq_true] at hi; exact hi.2) ⟨o, by omega, by simpa using hne3 o (Nat.le_refl _) h5, by
        rw [decide_eq_true (Nat.le_refl o), decide_eq_true h5]; rfl⟩
      by_cases he : e = true
      · rw [if_pos he]
        show _ + (if (3 : Nat) = 3 then 0 else 1) + 1 ≤ _
        rw [if_pos rfl]
        split <;> omega
      · rw [if_neg he]; omega
    · rw [if_pos h5]
      have := (h4 h5).2
      show _ + (if (3 : Nat) = 3 then 0 else 1) + 1 ≤ _
      rw [if_pos rfl, if_neg (show ¬ x.en = 3 by omega)]
      omega
theorem All.fin_ {t : List Nat} {x : B} {y : Rs.S} (h : All t x y) (hd : done x = true) : Rs.Full y t ∧ y.known = true ∧ y.size = t.length := by
  unfold done at hd
  simp only [Bool.and_eq_true, beq_iff_eq, List.all_eq_true] at hd
  have hk : y.known = true := by rw [h.known, hd.1.2]; rfl
  refine ⟨⟨h.rd, fun j => ?_, by rw [h.win]; exact h.len⟩, hk, h.size hk⟩
  rw [h.m j]
  by_cases hj : j < t.length
  · have hj' : j < x.s.length := by rw [h.sl]; exact hj
    rw [if_pos ⟨hj, by rw [List.getD_eq_getElem?_getD, List.getElem?_eq_getElem hj']; exact hd.2 _ (List.getElem_mem hj')⟩, if_pos hj]
  · rw [if_neg (fun q => hj q.1), if_neg hj]
end Of
namespace Go.Proofs.Ytdloeakmoaoalaa
end Go.Proofs.Ytdloeakmoaoalaa
