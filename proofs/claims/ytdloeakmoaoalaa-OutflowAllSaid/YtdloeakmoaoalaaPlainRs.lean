/- Layer 16's reasm, in plain words: a map from places to bytes, how many were read, the greatest end, the final size. -/
import Derived.Test.YtdloeakmoaoalaaRows
namespace Rs
set_option linter.unusedVariables false
set_option linter.unusedSimpArgs false
structure S where
  win : Nat
  rd : Nat
  top : Nat
  size : Nat
  known : Bool
  m : Nat → Option Nat
  cnt : Nat
def new (win : Nat) : S := ⟨win, 0, 0, 0, false, fun _ => none, 0⟩
/-- An error's number. -/
def err (x : S) (off len : Nat) (last : Bool) : Nat :=
  if 4611686018427387903 < off ∨ 4611686018427387903 < off + len then 1
  else if x.rd + x.win < off + len then 9
  else if (x.known = true ∧ (x.size < off + len ∨ (last = true ∧ off + len ≠ x.size))) ∨ (last = true ∧ off + len < x.top) then 10 else 0
/-- The map, and how many it holds, behind k bytes. -/
def mK (x : S) (off : Nat) (d : List Nat) (k : Nat) : Nat → Option Nat := fun j => if off ≤ j ∧ j < off + k ∧ x.rd ≤ j ∧ x.m j = none then some (d.getD (j - off) 0) else x.m j
def cK (x : S) (off : Nat) : Nat → Nat
  | 0 => x.cnt
  | k + 1 => cK x off k + (if x.rd ≤ off + k ∧ x.m (off + k) = none then 1 else 0)
def put (x : S) (off : Nat) (d : List Nat) (last : Bool) : S :=
  if err x off d.length last = 0 then
    { x with m := mK x off d d.length, cnt := cK x off d.length, top := max x.top (off + d.length), size := if last then off + d.length else x.size, known := x.known || last }
  else x
/-- How many places from here on have come, so many at most. -/
def runF (m : Nat → Option Nat) (at_ : Nat) : Nat → Nat
  | 0 => 0
  | n + 1 => if (m at_).isSome then runF m (at_ + 1) n + 1 else 0
def ready (x : S) : Nat := runF x.m x.rd x.win
/-- What is left behind so many bytes that were read. -/
def readK (x : S) (t : Nat) : S := { x with rd := x.rd + t, m := fun j => if x.rd ≤ j ∧ j < x.rd + t then none else x.m j, cnt := x.cnt - t }
def bytes (x : S) (t : Nat) : List Nat := (List.range t).map fun i => (x.m (x.rd + i)).getD 0
def many (x : S) (n : Int) : Nat := min n.toNat (ready x)
def read (x : S) (n : Int) : List Nat × S := (bytes x (many x n), readK x (many x n))
def limit (x : S) : Nat := x.rd + x.win
def done (x : S) : Bool := x.known && x.rd == x.size
/-- How many places below n. -/
def cn (p : Nat → Bool) : Nat → Nat
  | 0 => 0
  | n + 1 => cn p n + (if p n then 1 else 0)
theorem cn_succ (p : Nat → Bool) (n : Nat) : cn p (n + 1) = cn p n + (if p n then 1 else 0) := rfl
theorem cK_succ (x : S) (off k : Nat) : cK x off (k + 1) = cK x off k + (if x.rd ≤ off + k ∧ x.m (off + k) = none then 1 else 0) := rfl
theorem cn_le (p : Nat → Bool) : ∀ n, cn p n ≤ n
  | 0 => Nat.le_refl _
  | n + 1 => by have := cn_le p n; rw [cn_succ]; split <;> omega
theorem cn_congr {p q : Nat → Bool} : ∀ {n}, (∀ i, i < n → p i = q i) → cn p n = cn q n
  | 0, _ => rfl
  | n + 1, h => by rw [cn_succ]; (try rw [cn_succ]); rw [cn_congr (fun i hi => h i (by omega)), h n (by omega)]
theorem cn_all {p : Nat → Bool} : ∀ {n}, (∀ i, i < n → p i = true) → cn p n = n
  | 0, _ => rfl
  | n + 1, h => by rw [cn_succ]; (try rw [cn_succ]); rw [cn_all (fun i hi => h i (by omega)), h n (by omega)]; rfl
theorem cn_none {p : Nat → Bool} : ∀ {n}, (∀ i, i < n → p i = false) → cn p n = 0
  | 0, _ => rfl
  | n + 1, h => by rw [cn_succ]; (try rw [cn_succ]); rw [cn_none (fun i hi => h i (by omega)), h n (by omega)]; rfl
theorem cn_add (p : Nat → Bool) (t : Nat) : ∀ n, cn p (t + n) = cn p t + cn (fun i => p (t + i)) n
  | 0 => rfl
  | n + 1 => by
    show cn p (t + n) + _ = cn p t + (cn (fun i => p (t + i)) n + _)
    rw [cn_add p t n]; exact Nat.add_assoc _ _ _
theorem cn_set {p q : Nat → Bool} {i : Nat} : ∀ {n}, i < n → p i = false → q i = true → (∀ j, j ≠ i → q j = p j) → cn q n = cn p n + 1
  | 0, h, _, _, _ => by omega
  | n + 1, h, h1, h2, h3 => by
    rw [cn_succ, cn_succ]
    by_cases e : i = n
    · subst e
      rw [h1, h2, cn_congr (fun j hj => h3 j (by omega))]; simp
    · rw [cn_set (by omega) h1 h2 h3, h3 n (by omega)]; omega
theorem cn_mono (p : Nat → Bool) (t n : Nat) (h : t ≤ n) : cn p t ≤ cn p n := by
  obtain ⟨k, rfl⟩ : ∃ k, n = t + k := ⟨n - t, by omega⟩
  rw [cn_add]; omega
theorem runF_succ (m : Nat → Option Nat) (a n : Nat) : runF m a (n + 1) = if (m a).isSome then runF m (a + 1) n + 1 else 0 := rfl
theorem runF_le (m : Nat → Option Nat) : ∀ (n at_ : Nat), runF m at_ n ≤ n
  | 0, _ => Nat.le_refl _
  | n + 1, a => by rw [runF_succ]; have := runF_le m n (a + 1); split <;> omega
theorem runF_in (m : Nat → Option Nat) : ∀ (n at_ i : Nat), i < runF m at_ n → (m (at_ + i)).isSome = true
  | 0, a, i, h => by unfold runF at h; omega
  | n + 1, a, i, h => by
    unfold runF at h
    split at h
    · rename_i h0
      cases i with
      | zero => exact h0
      | succ i =>
        have := runF_in m n (a + 1) i (by omega)
        rwa [show a + 1 + i = a + (i + 1) by omega] at this
    · omega
theorem runF_end (m : Nat → Option Nat) : ∀ (n at_ : Nat), runF m at_ n < n → (m (at_ + runF m at_ n)).isSome = false
  | 0, a, h => by omega
  | n + 1, a, h => by
    unfold runF at *
    by_cases h0 : (m a).isSome = true
    · rw [if_pos h0] at *
      have := runF_end m n (a + 1) (by omega)
      rwa [show a + 1 + runF m (a + 1) n = a + (runF m (a + 1) n + 1) by omega] at this
    · rw [if_neg h0]; simpa using h0
theorem runF_eq (m : Nat → Option Nat) (at_ n r : Nat) (hr : r ≤ n) (h1 : ∀ i, i < r → (m (at_ + i)).isSome = true) (h2 : r < n → (m (at_ + r)).isSome = false) : runF m at_ n = r := by
  rcases Nat.lt_trichotomy (runF m at_ n) r with h | h | h
  · have := runF_end m n at_ (by omega)
    rw [h1 _ h] at this; cases this
  · exact h
  · have := runF_in m n at_ r h
    have hl := runF_le m n at_
    rw [h2 (by omega)] at this; cases this
/-- What stays true. -/
structure Ok (x : S) : Prop where
  win : x.win ≤ 100000
  rd : x.rd ≤ 4611686018427387903
  lo : ∀ k, x.m k ≠ none → x.rd ≤ k ∧ k < x.rd + x.win ∧ k < 4611686018427387903
  by_ : ∀ k c, x.m k = some c → c < 256
  cnt : x.cnt = cn (fun i => (x.m (x.rd + i)).isSome) x.win
  top : x.top ≤ 4611686018427387903
  size : x.size ≤ 4611686018427387903
theorem Ok.new {win : Nat} (h : win ≤ 100000) : Ok (new win) :=
  ⟨h, Nat.zero_le _, fun k hk => absurd rfl hk, fun k c hk => (by cases hk), (by show 0 = cn (fun _ => false) win; rw [cn_none (fun _ _ => rfl)]), Nat.zero_le _, Nat.zero_le _⟩
theorem Ok.held {x : S} (h : Ok x) : x.cnt ≤ x.win := by rw [h.cnt]; exact cn_le _ _
theorem Ok.ready_le {x : S} (h : Ok x) : ready x ≤ x.cnt := by
  rw [h.cnt]
  have h1 := runF_le x.m x.win x.rd
  have h2 := cn_all (p := fun i => (x.m (x.rd + i)).isSome) (n := ready x) fun i hi => runF_in x.m x.win x.rd i hi
  have := cn_mono (fun i => (x.m (x.rd + i)).isSome) (ready x) x.win h1
  omega
/-- Behind the run there is none. -/
theorem Ok.stop {x : S} (h : Ok x) : x.m (x.rd + ready x) = none := by
  have h1 := runF_le x.m x.win x.rd
  by_cases hr : ready x < x.win
  · have := runF_end x.m x.win x.rd hr
    cases e : x.m (x.rd + ready x) with
    | none => rfl
    | some c =>
      unfold ready at e
      rw [e] at this
      cases this
  · cases e : x.m (x.rd + ready x) with
    | none => rfl
    | some c =>
      have := h.lo (x.rd + ready x) (by rw [e]; simp)
      unfold ready at *
      omega
theorem ready_in (x : S) (i : Nat) (h : i < ready x) : ∃ c, x.m (x.rd + i) = some c := by
  have := runF_in x.m x.win x.rd i h
  exact Option.isSome_iff_exists.1 this
theorem err_lim {x : S} {off len : Nat} {last : Bool} (h : err x off len last = 0) : off + len ≤ x.rd + x.win ∧ off + len ≤ 4611686018427387903 := by
  unfold err at h
  split at h
  · cases h
  · split at h
    · cases h
    · omega
theorem mK_cn {x : S} (h : Ok x) (off : Nat) (d : List Nat) : ∀ k, off + k ≤ x.rd + x.win → cK x off k = cn (fun i => (mK x off d k (x.rd + i)).isSome) x.win
  | 0, _ => by
    show x.cnt = _
    rw [h.cnt]
    refine cn_congr fun i hi => ?_
    unfold mK
    rw [if_neg (by omega)]
  | k + 1, hk => by
    have ih := mK_cn h off d k (by omega)
    rw [cK_succ]
    by_cases hc : x.rd ≤ off + k ∧ x.m (off + k) = none
    · rw [if_pos hc, ih]
      symm
      refine cn_set (i := off + k - x.rd) (by omega) ?_ ?_ fun j hj => ?_
      · show (mK x off d k (x.rd + (off + k - x.rd))).isSome = false
        rw [show x.rd + (off + k - x.rd) = off + k by omega]
        unfold mK
        rw [if_neg (by omega), hc.2]; rfl
      · show (mK x off d (k + 1) (x.rd + (off + k - x.rd))).isSome = true
        rw [show x.rd + (off + k - x.rd) = off + k by omega]
        unfold mK
        rw [if_pos ⟨by omega, by omega, hc.1, hc.2⟩]; rfl
      · show (mK x off d (k + 1) (x.rd + j)).isSome = (mK x off d k (x.rd + j)).isSome
        unfold mK
        by_cases hh : off ≤ x.rd + j ∧ x.rd + j < off + k ∧ x.rd ≤ x.rd + j ∧ x.m (x.rd + j) = none
        · rw [if_pos hh, if_pos ⟨hh.1, by omega, hh.2.2.1, hh.2.2.2⟩]
        · rw [if_neg hh, if_neg (fun h2 => hh ⟨h2.1, by omega, h2.2.2.1, h2.2.2.2⟩)]
    · rw [if_neg hc, ih, Nat.add_zero]
      refine cn_congr fun j hj => ?_
      unfold mK
      by_cases hh : off ≤ x.rd + j ∧ x.rd + j < off + k ∧ x.rd ≤ x.rd + j ∧ x.m (x.rd + j) = none
      · rw [if_pos hh, if_pos ⟨hh.1, by omega, hh.2.2.1, hh.2.2.2⟩]
      · rw [if_neg hh, if_neg (fun h2 => by
          rcases Nat.lt_or_ge (x.rd + j) (off + k) with h3 | h3
          · exact hh ⟨h2.1, h3, h2.2.2.1, h2.2.2.2⟩
          · exact hc (by rw [show off + k = x.rd + j by omega]; exact ⟨h2.2.2.1, h2.2.2.2⟩))]
theorem Ok.put {x : S} (h : Ok x) (off : Nat) (d : List Nat) (last : Bool) (hd : ∀ c ∈ d, c < 256) : Ok (put x off d last) := by
  unfold Rs.put
  split
  · rename_i he
    obtain ⟨h1, h2⟩ := err_lim he
    refine ⟨h.win, h.rd, fun k hk => ?_, fun k c hk => ?_, mK_cn h off d d.length h1, ?_, ?_⟩
    · simp only at hk
      unfold mK at hk
      split at hk
      · rename_i hh; simp only; omega
      · exact h.lo k hk
    · simp only at hk
      unfold mK at hk
      split at hk
      · rename_i hh
        cases hk
        rw [List.getD_eq_getElem?_getD, List.getElem?_eq_getElem (by omega)]
        exact hd _ (List.getElem_mem _)
      · exact h.by_ k c hk
    · have := h.top; simp only; omega
    · have := h.size; simp only; split <;> omega
  · exact h
theorem Ok.readK {x : S} (h : Ok x) (t : Nat) (ht : t ≤ ready x) : Ok (readK x t) := by
  have hr := runF_le x.m x.win x.rd
  have hin := fun i (hi : i < t) => ready_in x i (by omega)
  refine ⟨h.win, ?_, fun k hk => ?_, fun k c hk => ?_, ?_, h.top, h.size⟩
  · show x.rd + t ≤ _
    cases t with
    | zero => exact h.rd
    | succ t =>
      obtain ⟨c, hc⟩ := hin t (by omega)
      have := h.lo (x.rd + t) (by rw [hc]; simp)
      omega
  · simp only [Rs.readK] at hk ⊢
    split at hk
    · exact absurd rfl hk
    · rename_i hh
      have := h.lo k hk
      omega
  · simp only [Rs.readK] at hk
    split at hk
    · cases hk
    · exact h.by_ k c hk
  · show x.cnt - t = cn (fun i => ((if x.rd ≤ x.rd + t + i ∧ x.rd + t + i < x.rd + t then none else x.m (x.rd + t + i)) : Option Nat).isSome) x.win
    have e1 : cn (fun i => (x.m (x.rd + i)).isSome) (t + x.win) = t + cn (fun i => (x.m (x.rd + t + i)).isSome) x.win := by
      rw [cn_add, cn_all (n := t) (fun i hi => by obtain ⟨c, hc⟩ := hin i hi; (try simp only); rw [hc]; rfl)]
      congr 1
      exact cn_congr fun i _ => by (try simp only); rw [Nat.add_assoc]
    have e2 : cn (fun i => (x.m (x.rd + i)).isSome) (x.win + t) = x.cnt + 0 := by
      rw [cn_add, h.cnt]
      congr 1
      refine cn_none fun i _ => ?_
      (try simp only)
      cases e : x.m (x.rd + (x.win + i)) with
      | none => rfl
      | some c =>
        have := h.lo (x.rd + (x.win + i)) (by rw [e]; simp)
        omega
    rw [Nat.add_comm t x.win, e2] at e1
    have e3 : cn (fun i => ((if x.rd ≤ x.rd + t + i ∧ x.rd + t + i < x.rd + t then none else x.m (x.rd + t + i)) : Option Nat).isSome) x.win = cn (fun i => (x.m (x.rd + t + i)).isSome) x.win :=
      cn_congr fun i _ => by (try simp only); rw [if_neg (by omega)]
    rw [e3]; omega
theorem many_le (x : S) (n : Int) : many x n ≤ ready x := Nat.min_le_right _ _
theorem Ok.read {x : S} (h : Ok x) (n : Int) : Ok (read x n).2 := h.readK _ (many_le x n)
theorem bytes_succ (x : S) (t : Nat) : bytes x (t + 1) = bytes x t ++ [(x.m (x.rd + t)).getD 0] := by
  unfold bytes; rw [List.range_succ, List.map_append]; rfl
theorem bytes_len (x : S) (t : Nat) : (bytes x t).length = t := by simp [bytes]
theorem bytes_at (x : S) (t i : Nat) (h : i < t) : (bytes x t).getD i 0 = (x.m (x.rd + i)).getD 0 := by
  unfold bytes
  rw [List.getD_eq_getElem?_getD, List.getElem?_map, List.getElem?_range h]; rfl
theorem Ok.bytes256 {x : S} (h : Ok x) (t : Nat) : ∀ c ∈ bytes x t, c < 256 := by
  intro c hc
  unfold bytes at hc
  obtain ⟨i, _, rfl⟩ := List.mem_map.1 hc
  cases e : x.m (x.rd + i) with
  | none => decide
  | some v => exact h.by_ _ _ e
/-- One byte more that comes. -/
theorem mK_step (x : S) (off : Nat) (d : List Nat) (k : Nat) :
    mK x off d k (off + k) = x.m (off + k) ∧
    (x.rd ≤ off + k → x.m (off + k) = none → mK x off d (k + 1) = (fun j => if j = off + k then some (d.getD k 0) else mK x off d k j) ∧ cK x off (k + 1) = cK x off k + 1) ∧
    (¬ (x.rd ≤ off + k ∧ x.m (off + k) = none) → mK x off d (k + 1) = mK x off d k ∧ cK x off (k + 1) = cK x off k) := by
  refine ⟨by unfold mK; rw [if_neg (by omega)], fun h1 h2 => ⟨?_, by rw [cK_succ, if_pos ⟨h1, h2⟩]⟩, fun h => ⟨?_, by rw [cK_succ, if_neg h, Nat.add_zero]⟩⟩
  · funext j
    unfold mK
    by_cases e : j = off + k
    · subst e
      rw [if_pos ⟨by omega, by omega, h1, h2⟩, if_pos rfl, show off + k - off = k by omega]
    · rw [if_neg e]
      by_cases hh : off ≤ j ∧ j < off + k ∧ x.rd ≤ j ∧ x.m j = none
      · rw [if_pos hh, if_pos ⟨hh.1, by omega, hh.2.2.1, hh.2.2.2⟩]
      · rw [if_neg hh, if_neg (fun h3 => hh ⟨h3.1, by omega, h3.2.2.1, h3.2.2.2⟩)]
  · funext j
    unfold mK
    by_cases hh : off ≤ j ∧ j < off + k ∧ x.rd ≤ j ∧ x.m j = none
    · rw [if_pos hh, if_pos ⟨hh.1, by omega, hh.2.2.1, hh.2.2.2⟩]
    · rw [if_neg hh, if_neg (fun h3 => by
        rcases Nat.lt_or_ge j (off + k) with h4 | h4
        · exact hh ⟨h3.1, h4, h3.2.2.1, h3.2.2.2⟩
        · exact h (by rw [show off + k = j by omega]; exact ⟨h3.2.2.1, h3.2.2.2⟩))]
theorem mK_zero (x : S) (off : Nat) (d : List Nat) : mK x off d 0 = x.m := by
  funext j; unfold mK; rw [if_neg (by omega)]
/-- One byte more that is read. -/
theorem readK_zero (x : S) : readK x 0 = x := by
  obtain ⟨win, rd, top, size, known, m, cnt⟩ := x
  unfold readK
  simp only [Nat.add_zero, Nat.sub_zero]
  congr 1
  funext j
  rw [if_neg (by omega)]
theorem readK_succ (x : S) (t : Nat) : readK x (t + 1) = { readK x t with rd := x.rd + t + 1, m := fun j => if j = x.rd + t then none else (readK x t).m j, cnt := (readK x t).cnt - 1 } := by
  unfold readK
  simp only
  congr 1
  · funext j
    by_cases e : j = x.rd + t
    · subst e; rw [if_pos (by omega), if_pos rfl]
    · rw [if_neg e]
      by_cases hh : x.rd ≤ j ∧ j < x.rd + t
      · rw [if_pos hh, if_pos (by omega)]
      · rw [if_neg hh, if_neg (by omega)]
end Rs
namespace Go.Proofs.Ytdloeakmoaoalaa
end Go.Proofs.Ytdloeakmoaoalaa
