/- What layer 2's functions compute, and the plain laws on it: no program in sight. No conditions. -/
import Derived.Lib.BitFns
import Derived.RowKit
namespace Go.Proofs.Ytfigedhfoljloaa.Pn
set_option linter.unusedVariables false

/-- The greatest number. -/
def okN (n : Int) : Prop := 0 ≤ n ∧ n ≤ 4611686018427387903
instance (n : Int) : Decidable (okN n) := by unfold okN; exact inferInstance

/-- How many bytes a number takes. -/
def length (n acked : Int) : Int :=
  if okN n ∧ -1 ≤ acked ∧ acked < n then min 4 (((Lib.bitLen (n - acked).toNat : Nat) + 8) / 8 : Int) else 0

/-- The bytes, the greatest first. -/
def low (l : List Int) : Int := l.foldl (fun a c => a * 256 + c) 0

def win (k : Nat) : Int := 256 ^ k

def cand (e w lo : Int) : Int :=
  let c := e / w * w + lo
  if c ≤ e - w / 2 ∧ c + w ≤ 4611686018427387903 then c + w else if e + w / 2 < c ∧ w ≤ c then c - w else c

/-- What is told. -/
def full (largest : Int) (l : List Int) : Int :=
  if 1 ≤ l.length ∧ l.length ≤ 4 ∧ -1 ≤ largest ∧ largest ≤ 4611686018427387903 then cand (largest + 1) (win l.length) (low l) else -1

/-- The low bytes of a number. -/
def cut (n : Int) (k : Nat) : List Int := (List.range k).map fun j => n / 256 ^ (k - 1 - j) % 256

def isByte (c : Int) : Prop := 0 ≤ c ∧ c ≤ 255

theorem low_snoc (l : List Int) (c : Int) : low (l ++ [c]) = low l * 256 + c := by
  unfold low; rw [List.foldl_append]; rfl

theorem low_go : ∀ (l : List Int) (a : Int) (k : Nat), (∀ c ∈ l, isByte c) → 0 ≤ a → a < win k → 0 ≤ l.foldl (fun a c => a * 256 + c) a ∧ l.foldl (fun a c => a * 256 + c) a < win (k + l.length)
  | [], a, k, _, h0, h1 => ⟨h0, h1⟩
  | c :: l, a, k, h, h0, h1 => by
    have hc : isByte c := h c (by simp)
    unfold isByte at hc
    have hw : win (k + 1) = win k * 256 := by unfold win; rw [Int.pow_succ]
    have := low_go l (a * 256 + c) (k + 1) (fun x hx => h x (by simp [hx])) (by omega) (by omega)
    rw [List.foldl_cons, List.length_cons, show k + (l.length + 1) = k + 1 + l.length from by omega]
    exact this

theorem low_bound (l : List Int) (h : ∀ c ∈ l, isByte c) : 0 ≤ low l ∧ low l < win l.length := by
  have := low_go l 0 0 h (by omega) (by simp [win])
  rwa [Nat.zero_add] at this

theorem low_cut (n : Int) (h : okN n) (k : Nat) (hk : 1 ≤ k ∧ k ≤ 4) : low (cut n k) = n % win k := by
  unfold okN at h
  obtain rfl | rfl | rfl | rfl : k = 1 ∨ k = 2 ∨ k = 3 ∨ k = 4 := by omega
  all_goals
    simp [low, cut, win, List.range_succ]
    try omega

theorem win_cases (k : Nat) (hk : 1 ≤ k ∧ k ≤ 4) : (k = 1 ∧ win k = 256) ∨ (k = 2 ∧ win k = 65536) ∨ (k = 3 ∧ win k = 16777216) ∨ (k = 4 ∧ win k = 4294967296) := by
  obtain rfl | rfl | rfl | rfl : k = 1 ∨ k = 2 ∨ k = 3 ∨ k = 4 := by omega
  all_goals simp [win]

theorem cand_told (e n w lo : Int) (hw : w = 256 ∨ w = 65536 ∨ w = 16777216 ∨ w = 4294967296) (he : 0 ≤ e) (hn : okN n) (hlo : lo = n % w)
    (h1 : e - w / 2 < n) (h2 : n ≤ e + w / 2) : cand e w lo = n := by
  unfold okN at hn
  unfold cand
  rcases hw with rfl | rfl | rfl | rfl <;> subst hlo <;> dsimp only <;> split <;> (try split) <;> omega

theorem cand_near (e w lo : Int) (hw : w = 256 ∨ w = 65536 ∨ w = 16777216 ∨ w = 4294967296) (he : 0 ≤ e) (hlo : 0 ≤ lo ∧ lo < w) :
    0 ≤ cand e w lo ∧ cand e w lo % w = lo ∧ cand e w lo - e < w ∧ -w < cand e w lo - e := by
  unfold cand
  rcases hw with rfl | rfl | rfl | rfl <;> dsimp only <;> split <;> (try split) <;> omega

theorem cand_bound (e w lo : Int) (hw : w = 256 ∨ w = 65536 ∨ w = 16777216 ∨ w = 4294967296) (he : 0 ≤ e ∧ e ≤ 4611686018427387904) (hlo : 0 ≤ lo ∧ lo < w) :
    0 ≤ cand e w lo ∧ cand e w lo ≤ 4611686022722355199 := by
  unfold cand
  rcases hw with rfl | rfl | rfl | rfl <;> dsimp only <;> split <;> (try split) <;> omega

theorem bitLen_lt : ∀ (b x : Nat), x < 2 ^ 64 → (x < 2 ^ b ↔ Lib.bitLen x ≤ b)
  | 0, x, hx => by
    rcases Nat.eq_zero_or_pos x with rfl | h0
    · simp [Lib.bitLen, Lib.bitLenAux]
    · have := Lib.bitLen_half x (by omega) hx
      simp; omega
  | b + 1, x, hx => by
    rcases Nat.eq_zero_or_pos x with rfl | h0
    · simp [Lib.bitLen, Lib.bitLenAux, Nat.two_pow_pos]
    · have h := Lib.bitLen_half x (by omega) hx
      have ih := bitLen_lt b (x / 2) (by omega)
      rw [Nat.pow_succ]
      omega

/-- A number of at most so many bits takes so many bytes. -/
theorem length_cases (n acked : Int) (h : okN n) (ha : -1 ≤ acked) (hl : acked < n) :
    (length n acked = 1 ∧ n - acked < 128) ∨ (length n acked = 2 ∧ 128 ≤ n - acked ∧ n - acked < 32768) ∨ (length n acked = 3 ∧ 32768 ≤ n - acked ∧ n - acked < 8388608) ∨ (length n acked = 4 ∧ 8388608 ≤ n - acked) := by
  have hv : okN n ∧ -1 ≤ acked ∧ acked < n := ⟨h, ha, hl⟩
  unfold length
  rw [if_pos hv]
  have hd : ((n - acked).toNat : Int) = n - acked := by omega
  generalize (n - acked).toNat = x at *
  unfold okN at h
  have hx : x < 2 ^ 64 := by omega
  have a7 := bitLen_lt 7 x hx
  have a15 := bitLen_lt 15 x hx
  have a23 := bitLen_lt 23 x hx
  simp only [Nat.reducePow] at a7 a15 a23
  generalize Lib.bitLen x = b at *
  by_cases h7 : x < 128
  · exact .inl ⟨by have := a7.1 h7; omega, by omega⟩
  · by_cases h15 : x < 32768
    · exact .inr (.inl ⟨by have := a15.1 h15; omega, by omega, by omega⟩)
    · by_cases h23 : x < 8388608
      · exact .inr (.inr (.inl ⟨by have := a23.1 h23; omega, by omega, by omega⟩))
      · exact .inr (.inr (.inr ⟨by omega, by omega⟩))

theorem length_bad (n acked : Int) (h : ¬ (okN n ∧ -1 ≤ acked ∧ acked < n)) : length n acked = 0 := by unfold length; rw [if_neg h]

theorem length_ne (n acked : Int) (h : length n acked ≠ 0) : okN n ∧ -1 ≤ acked ∧ acked < n := by
  unfold length at h; split at h
  · assumption
  · exact absurd rfl h

theorem cut_byte (n : Int) (k : Nat) : ∀ c ∈ cut n k, isByte c := by
  intro c hc; unfold cut at hc; obtain ⟨j, _, rfl⟩ := List.mem_map.1 hc; unfold isByte; omega

theorem cut_length (n : Int) (k : Nat) : (cut n k).length = k := by simp [cut]

/-- P2.3: told again. -/
theorem back (n acked largest : Int) (k : Nat) (hk : length n acked = k) (h0 : k ≠ 0) (hd : n - acked ≤ 1073741824)
    (h1 : acked ≤ largest) (h2 : largest ≤ n + 2 ^ (8 * k - 1) - 2) (h3 : largest ≤ 4611686018427387903) : full largest (cut n k) = n := by
  obtain ⟨hn, ha, hl⟩ := length_ne n acked (by omega)
  have hc := length_cases n acked hn ha hl
  have hk4 : 1 ≤ k ∧ k ≤ 4 := by omega
  unfold full
  rw [cut_length, if_pos ⟨hk4.1, hk4.2, by omega, h3⟩, low_cut n hn k hk4]
  rcases hc with ⟨e, hb⟩ | ⟨e, _, hb⟩ | ⟨e, _, hb⟩ | ⟨e, _⟩
  · obtain rfl : k = 1 := by omega
    exact cand_told _ n _ _ (by simp [win]) (by omega) hn rfl (by simp [win]; omega) (by simp [win]; omega)
  · obtain rfl : k = 2 := by omega
    exact cand_told _ n _ _ (by simp [win]) (by omega) hn rfl (by simp [win] at *; omega) (by simp [win] at *; omega)
  · obtain rfl : k = 3 := by omega
    exact cand_told _ n _ _ (by simp [win]) (by omega) hn rfl (by simp [win] at *; omega) (by simp [win] at *; omega)
  · obtain rfl : k = 4 := by omega
    exact cand_told _ n _ _ (by simp [win]) (by omega) hn rfl (by simp [win] at *; omega) (by simp [win] at *; omega)

end Go.Proofs.Ytfigedhfoljloaa.Pn
