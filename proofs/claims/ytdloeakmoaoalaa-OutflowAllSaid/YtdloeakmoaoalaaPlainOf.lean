/- Layer 17's outflow, in plain words: a text, the states of its bytes (0 new, 1 out, 2 lost, 3 acked), its end, the limit. -/
import Derived.Test.YtdloeakmoaoalaaRows
namespace Of
set_option linter.unusedVariables false
set_option linter.unusedSimpArgs false
structure B where
  b : List Nat
  s : List Nat
  fin : Bool
  en : Nat
  lim : Nat
deriving DecidableEq
/-- The first place of a state; the length, if there is none. -/
def fst (c : Nat) (l : List Nat) : Nat := l.findIdx (· == c)
theorem fst_le (c : Nat) (l : List Nat) : fst c l ≤ l.length := List.findIdx_le_length
theorem fst_at {c : Nat} {l : List Nat} (h : fst c l < l.length) : l.getD (fst c l) 0 = c := by
  have := List.findIdx_getElem (w := h)
  rw [List.getD_eq_getElem?_getD, List.getElem?_eq_getElem h, Option.getD_some]
  have h2 : l[List.findIdx (fun x => x == c) l] = c := by simpa using this
  exact h2
theorem fst_not {c : Nat} {l : List Nat} {i : Nat} (h : i < fst c l) : l.getD i 0 ≠ c := by
  have hl : i < l.length := Nat.lt_of_lt_of_le h (fst_le c l)
  have := List.not_of_lt_findIdx h
  rw [List.getD_eq_getElem?_getD, List.getElem?_eq_getElem hl, Option.getD_some]
  simpa using this
theorem fst_eq {c : Nat} {l : List Nat} {i : Nat} (hi : i < l.length) (h1 : l.getD i 0 = c) (h2 : ∀ k, k < i → l.getD k 0 ≠ c) : fst c l = i := by
  rcases Nat.lt_trichotomy (fst c l) i with h | h | h
  · exact absurd (fst_at (Nat.lt_trans h hi)) (h2 _ h)
  · exact h
  · exact absurd h1 (fst_not h)
theorem fst_none {c : Nat} {l : List Nat} (h : ∀ k, k < l.length → l.getD k 0 ≠ c) : fst c l = l.length := by
  rcases Nat.lt_or_ge (fst c l) l.length with h' | h'
  · exact absurd (fst_at h') (h _ h')
  · exact Nat.le_antisymm (fst_le c l) h'
/-- How long a run of a state is, so many at most. -/
def runs (c : Nat) : List Nat → Nat → Nat
  | _, 0 => 0
  | [], _ => 0
  | x :: t, many + 1 => if x = c then runs c t many + 1 else 0
theorem runs_le (c : Nat) : ∀ (l : List Nat) (many : Nat), runs c l many ≤ many ∧ runs c l many ≤ l.length
  | _, 0 => by simp [runs]
  | [], m + 1 => by simp [runs]
  | x :: t, m + 1 => by
    have := runs_le c t m
    unfold runs
    split <;> simp <;> omega
theorem runs_in (c : Nat) : ∀ (l : List Nat) (many i : Nat), i < runs c l many → l.getD i 0 = c
  | _, 0, i, h => by simp [runs] at h
  | [], m + 1, i, h => by simp [runs] at h
  | x :: t, m + 1, i, h => by
    unfold runs at h
    split at h
    · rename_i hx
      cases i with
      | zero => simpa using hx
      | succ i => simpa using runs_in c t m i (by omega)
    · omega
theorem runs_end (c : Nat) : ∀ (l : List Nat) (many : Nat), runs c l many < many → runs c l many < l.length → l.getD (runs c l many) 0 ≠ c
  | _, 0, h, _ => by omega
  | [], m + 1, _, h => by simp [runs] at h
  | x :: t, m + 1, h, h2 => by
    unfold runs at *
    by_cases hx : x = c
    · rw [if_pos hx] at *
      simpa using runs_end c t m (by omega) (by simpa using h2)
    · rw [if_neg hx] at *
      simpa using hx
/-- The first run of a state below a place: from where, how long; its length is 0 if there is none. -/
def run (s : List Nat) (c top many : Nat) : Nat × Nat :=
  let l := s.take top
  (fst c l, runs c (l.drop (fst c l)) many)
def openB (x : B) : Nat := min x.s.length x.lim
def ended (x : B) : Bool := x.fin && (x.en == 0 || x.en == 2)
/-- What goes out next: from where, to where, whether the end does, whether something does. -/
def due (x : B) (many : Nat) : Nat × Nat × Bool × Bool :=
  let l := fst 2 x.s
  if l < x.s.length then
    let to := l + runs 2 (x.s.drop l) many
    (l, to, ended x && to == x.s.length, true)
  else
    let f := fst 0 (x.s.take (openB x))
    if f < openB x then
      let to := f + runs 0 ((x.s.take (openB x)).drop f) many
      (f, to, ended x && to == x.s.length, true)
    else if ended x && fst 0 x.s == x.s.length then (x.s.length, x.s.length, true, true) else (0, 0, false, false)
def setR (s : List Nat) (lo hi v : Nat) : List Nat := (List.range s.length).map fun i => if lo ≤ i ∧ i < hi then v else s.getD i 0
def next (x : B) (many : Nat) : B :=
  if many = 0 then x else
  let d := due x many
  { x with s := setR x.s d.1 d.2.1 1, en := if d.2.2.1 then 1 else x.en }
def write (x : B) (data : List Nat) : Nat × B :=
  if x.fin then (0, x) else
  let n := min data.length (2000 - x.b.length)
  (n, { x with b := x.b ++ data.take n, s := x.s ++ List.replicate n 0 })
def raise (x : B) (lim : Nat) : Bool × B := if lim ≤ x.lim then (false, x) else (true, { x with lim := lim })
def finish (x : B) : Bool × B := if x.fin then (false, x) else (true, { x with fin := true })
def turn (x : B) (off : Nat) (n : Int) (e : Bool) (f : Nat → Nat) : B :=
  let at_ := min off x.s.length
  { x with s := (List.range x.s.length).map (fun i => if at_ ≤ i ∧ ((i : Int) - at_ < n) then f (x.s.getD i 0) else x.s.getD i 0), en := if e && x.fin then f x.en else x.en }
def fAck (c : Nat) : Nat := if c = 0 then 0 else 3
def fLost (c : Nat) : Nat := if c = 1 then 2 else c
def sent (x : B) : Nat := fst 0 x.s
def blocked (x : B) : Bool := decide (fst 0 x.s < x.s.length) && decide (openB x ≤ fst 0 x.s) && decide (fst 2 x.s = x.s.length)
def had (x : B) (off n : Nat) : Bool := decide (off + n ≤ x.s.length) && ((x.s.drop off).take n).all (· == 3)
def done (x : B) : Bool := x.fin && x.en == 3 && x.s.all (· == 3)
def some_ (x : B) : Bool := (due x 1).2.2.2
/-- What stays true. -/
structure Ok (x : B) : Prop where
  len : x.s.length = x.b.length
  cap : x.b.length ≤ 2000
  st : ∀ c ∈ x.s, c ≤ 3
  en : x.en ≤ 3
end Of
