/- Layer 8's blocks: round keys, the cipher, streams: no program in sight. -/
import Derived.Test.YtnphanhoakbkpaaPlainAe
namespace Go.Proofs.Ytnphanhoakbkpaa.Ae
set_option linter.unusedVariables false
set_option linter.unusedSimpArgs false

def pwr : Nat → Nat
  | 0 => 1
  | n + 1 => mul (pwr n) 2
/-- The word behind i words. -/
def word (key l : List Nat) (i : Nat) : List Nat :=
  if i < 4 then [key.getD (4 * i) 0, key.getD (4 * i + 1) 0, key.getD (4 * i + 2) 0, key.getD (4 * i + 3) 0]
  else
    let a := l.getD (4 * i - 4) 0
    let b := l.getD (4 * i - 3) 0
    let c := l.getD (4 * i - 2) 0
    let d := l.getD (4 * i - 1) 0
    let p := l.getD (4 * i - 16) 0
    let q := l.getD (4 * i - 15) 0
    let r := l.getD (4 * i - 14) 0
    let s := l.getD (4 * i - 13) 0
    if i % 4 = 0 then [p ^^^ (box b ^^^ pwr (i / 4 - 1)), q ^^^ box c, r ^^^ box d, s ^^^ box a] else [p ^^^ a, q ^^^ b, r ^^^ c, s ^^^ d]
/-- So many words. -/
def ks (key : List Nat) : Nat → List Nat
  | 0 => []
  | i + 1 => ks key i ++ word key (ks key i) i
def sched (key : List Nat) : List Nat := ks key 44
/-- The word that is added, behind i words. -/
def tmpW (l : List Nat) (i : Nat) : List Nat :=
  if i % 4 = 0 then [box (l.getD (4 * i - 3) 0) ^^^ pwr (i / 4 - 1), box (l.getD (4 * i - 2) 0), box (l.getD (4 * i - 1) 0), box (l.getD (4 * i - 4) 0)]
  else [l.getD (4 * i - 4) 0, l.getD (4 * i - 3) 0, l.getD (4 * i - 2) 0, l.getD (4 * i - 1) 0]
theorem word_tmp (key l : List Nat) (i : Nat) (h : 4 ≤ i) (k : Nat) (hk : k < 4) : (word key l i).getD k 0 = l.getD (4 * i - 16 + k) 0 ^^^ (tmpW l i).getD k 0 := by
  have hk4 : k = 0 ∨ k = 1 ∨ k = 2 ∨ k = 3 := by omega
  unfold word tmpW
  rw [if_neg (by omega)]
  dsimp only
  by_cases h4 : i % 4 = 0
  · rw [if_pos h4, if_pos h4]
    rcases hk4 with rfl | rfl | rfl | rfl
    · rfl
    · rw [show 4 * i - 16 + 1 = 4 * i - 15 by omega]; rfl
    · rw [show 4 * i - 16 + 2 = 4 * i - 14 by omega]; rfl
    · rw [show 4 * i - 16 + 3 = 4 * i - 13 by omega]; rfl
  · rw [if_neg h4, if_neg h4]
    rcases hk4 with rfl | rfl | rfl | rfl
    · rfl
    · rw [show 4 * i - 16 + 1 = 4 * i - 15 by omega]; rfl
    · rw [show 4 * i - 16 + 2 = 4 * i - 14 by omega]; rfl
    · rw [show 4 * i - 16 + 3 = 4 * i - 13 by omega]; rfl
theorem word_low (key l : List Nat) (j i : Nat) (hj : j < 4) (hi : i < 4) : (word key l j).getD i 0 = key.getD (4 * j + i) 0 := by
  unfold word
  rw [if_pos hj]
  have hi4 : i = 0 ∨ i = 1 ∨ i = 2 ∨ i = 3 := by omega
  rcases hi4 with rfl | rfl | rfl | rfl <;> rfl
theorem tmpW_len (l : List Nat) (i : Nat) : (tmpW l i).length = 4 := by unfold tmpW; split <;> rfl
theorem word_len (key l : List Nat) (i : Nat) : (word key l i).length = 4 := by unfold word; split; rfl; dsimp only; split <;> rfl
theorem ks_len (key : List Nat) : ∀ i, (ks key i).length = 4 * i
  | 0 => rfl
  | i + 1 => by rw [ks, List.length_append, ks_len key i, word_len]; omega

def arr (f : Nat → Nat) : List Nat := (List.range 16).map f
theorem arr_len (f : Nat → Nat) : (arr f).length = 16 := by simp [arr]
theorem arr_get (f : Nat → Nat) (i : Nat) (h : i < 16) : (arr f).getD i 0 = f i := by simp [arr, List.getD_eq_getElem?_getD, h]
def withK (b w : List Nat) (r : Nat) : List Nat := arr fun i => b.getD i 0 ^^^ w.getD (16 * r + i) 0
def shifted (b : List Nat) : List Nat := arr fun i => box (b.getD ((i + 4 * (i % 4)) % 16) 0)
def mixed (b : List Nat) : List Nat := arr fun i => mul (b.getD (i / 4 * 4 + i % 4) 0) 2 ^^^ mul (b.getD (i / 4 * 4 + (i % 4 + 1) % 4) 0) 3 ^^^ b.getD (i / 4 * 4 + (i % 4 + 2) % 4) 0 ^^^ b.getD (i / 4 * 4 + (i % 4 + 3) % 4) 0
/-- So many of the inner rounds. -/
def rnds (w b : List Nat) : Nat → List Nat
  | 0 => withK b w 0
  | n + 1 => withK (mixed (shifted (rnds w b n))) w (n + 1)
def enc (w b : List Nat) : List Nat := withK (shifted (rnds w b 9)) w 10
theorem enc_len (w b : List Nat) : (enc w b).length = 16 := arr_len _

def bytes (l : List Nat) : Prop := ∀ c ∈ l, c < 256
theorem bytes_get {l : List Nat} (h : bytes l) (i : Nat) : l.getD i 0 < 256 := by
  rw [List.getD_eq_getElem?_getD]
  rcases hl : l[i]? with _ | v
  · simp
  · simpa using h v (List.mem_of_getElem? hl)
theorem bytes_arr {f : Nat → Nat} (h : ∀ i, i < 16 → f i < 256) : bytes (arr f) := by
  intro c hc
  obtain ⟨i, hi, rfl⟩ := List.mem_map.1 hc
  exact h i (List.mem_range.1 hi)
theorem bytes_append {a b : List Nat} (ha : bytes a) (hb : bytes b) : bytes (a ++ b) := fun c hc => (List.mem_append.1 hc).elim (ha c) (hb c)
theorem pwr_lt : ∀ n, pwr n < 256
  | 0 => by decide
  | n + 1 => mul_lt _ _ (pwr_lt n)
theorem word_bytes {key l : List Nat} (i : Nat) (hk : bytes key) (hl : bytes l) : bytes (word key l i) := by
  have k := fun j => bytes_get hk j
  have b := fun j => bytes_get hl j
  have q := fun j => box_lt _ (b j)
  unfold word
  split
  · intro c hc; simp at hc; rcases hc with rfl | rfl | rfl | rfl <;> exact k _
  · dsimp only
    split
    · intro c hc; simp only [List.mem_cons, List.not_mem_nil, or_false] at hc
      rcases hc with rfl | rfl | rfl | rfl
      · exact xor_lt (b _) (xor_lt (q _) (pwr_lt _))
      · exact xor_lt (b _) (q _)
      · exact xor_lt (b _) (q _)
      · exact xor_lt (b _) (q _)
    · intro c hc; simp only [List.mem_cons, List.not_mem_nil, or_false] at hc
      rcases hc with rfl | rfl | rfl | rfl <;> exact xor_lt (b _) (b _)
theorem ks_bytes {key : List Nat} (hk : bytes key) : ∀ i, bytes (ks key i)
  | 0 => fun _ h => by cases h
  | i + 1 => bytes_append (ks_bytes hk i) (word_bytes i hk (ks_bytes hk i))
theorem sched_bytes {key : List Nat} (hk : bytes key) : bytes (sched key) := ks_bytes hk 44
theorem sched_len (key : List Nat) : (sched key).length = 176 := ks_len key 44
theorem withK_bytes {b w : List Nat} (r : Nat) (hb : bytes b) (hw : bytes w) : bytes (withK b w r) := bytes_arr fun i _ => xor_lt (bytes_get hb _) (bytes_get hw _)
theorem shifted_bytes {b : List Nat} (hb : bytes b) : bytes (shifted b) := bytes_arr fun i _ => box_lt _ (bytes_get hb _)
theorem mixed_bytes {b : List Nat} (hb : bytes b) : bytes (mixed b) := bytes_arr fun i _ => xor_lt (xor_lt (xor_lt (mul_lt _ _ (bytes_get hb _)) (mul_lt _ _ (bytes_get hb _))) (bytes_get hb _)) (bytes_get hb _)
theorem rnds_bytes {w b : List Nat} (hb : bytes b) (hw : bytes w) : ∀ n, bytes (rnds w b n)
  | 0 => withK_bytes 0 hb hw
  | n + 1 => withK_bytes _ (mixed_bytes (shifted_bytes (rnds_bytes hb hw n))) hw
theorem enc_bytes {w b : List Nat} (hb : bytes b) (hw : bytes w) : bytes (enc w b) := withK_bytes _ (shifted_bytes (rnds_bytes hb hw 9)) hw

/-- The last four bytes as a number, one more. -/
def nextL (b : List Nat) : Nat → List Nat
  | 0 => b
  | n + 1 => let c := (b.getD (11 + (n + 1)) 0 + 1) % 256
             if c = 0 then nextL (b.set (11 + (n + 1)) c) n else b.set (11 + (n + 1)) c
def next (b : List Nat) : List Nat := nextL b 4
def ctr (b : List Nat) : Nat → List Nat
  | 0 => b
  | n + 1 => next (ctr b n)
/-- The byte that a place of a text is enciphered by. -/
def pad (w first : List Nat) (k : Nat) : Nat := (enc w (ctr first (k / 16))).getD (k % 16) 0
def stream (w first text : List Nat) : List Nat := (List.range text.length).map fun k => text.getD k 0 ^^^ pad w first k
theorem nextL_len : ∀ (n : Nat) (b : List Nat), (nextL b n).length = b.length
  | 0, _ => rfl
  | n + 1, b => by unfold nextL; dsimp only; split; rw [nextL_len n]; simp; simp
theorem bytes_set {b : List Nat} (h : bytes b) (i v : Nat) (hv : v < 256) : bytes (b.set i v) := fun c hc => (List.mem_or_eq_of_mem_set hc).elim (h c) (fun e => e ▸ hv)
theorem nextL_bytes : ∀ (n : Nat) {b : List Nat}, bytes b → bytes (nextL b n)
  | 0, _, h => h
  | n + 1, b, h => by unfold nextL; dsimp only; split; exact nextL_bytes n (bytes_set h _ _ (Nat.mod_lt _ (by decide))); exact bytes_set h _ _ (Nat.mod_lt _ (by decide))
theorem ctr_len (b : List Nat) : ∀ n, (ctr b n).length = b.length
  | 0 => rfl
  | n + 1 => by rw [ctr, next, nextL_len, ctr_len b n]
theorem ctr_bytes {b : List Nat} (h : bytes b) : ∀ n, bytes (ctr b n)
  | 0 => h
  | n + 1 => nextL_bytes 4 (ctr_bytes h n)
theorem pad_lt {w first : List Nat} (hw : bytes w) (hf : bytes first) (k : Nat) : pad w first k < 256 := bytes_get (enc_bytes (ctr_bytes hf _) hw) _
theorem stream_len (w first text : List Nat) : (stream w first text).length = text.length := by simp [stream]
theorem stream_get (w first text : List Nat) (k : Nat) (h : k < text.length) : (stream w first text).getD k 0 = text.getD k 0 ^^^ pad w first k := by simp [stream, List.getD_eq_getElem?_getD, h]
theorem stream_bytes {w first text : List Nat} (hw : bytes w) (hf : bytes first) (ht : bytes text) : bytes (stream w first text) := by
  intro c hc
  obtain ⟨i, hi, rfl⟩ := List.mem_map.1 hc
  exact xor_lt (bytes_get ht _) (pad_lt hw hf _)
theorem ext_get {a b : List Nat} (h : a.length = b.length) (g : ∀ i, i < a.length → a.getD i 0 = b.getD i 0) : a = b := by
  refine List.ext_getElem h fun i h1 h2 => ?_
  have := g i h1
  simpa [List.getD_eq_getElem?_getD, h1, h2] using this
/-- What is enciphered twice is the text. -/
theorem stream_twice (w first text : List Nat) : stream w first (stream w first text) = text := by
  refine ext_get (by rw [stream_len, stream_len]) fun i hi => ?_
  rw [stream_len, stream_len] at hi
  rw [stream_get _ _ _ _ (by rw [stream_len]; exact hi), stream_get _ _ _ _ hi, Nat.xor_assoc, Nat.xor_self, Nat.xor_zero]
theorem stream_take (w first text : List Nat) (k : Nat) (hk : k ≤ text.length) : stream w first (text.take k) = (stream w first text).take k := by
  refine ext_get (by rw [stream_len, List.length_take, List.length_take, stream_len]) fun i hi => ?_
  rw [stream_len, List.length_take] at hi
  have hik : i < k := by omega
  have e : ∀ l : List Nat, (l.take k).getD i 0 = l.getD i 0 := fun l => by simp [List.getD_eq_getElem?_getD, hik]
  rw [stream_get _ _ _ _ (by rw [List.length_take]; omega), e, e, stream_get _ _ _ _ (by omega)]

/-! Two blocks that are enciphered to the same are the same. -/
theorem getD_eq_of {f g : Nat → Nat} (h : arr f = arr g) (i : Nat) (hi : i < 16) : f i = g i := by rw [← arr_get f i hi, h, arr_get g i hi]
theorem xor_inj {a b c : Nat} (h : a ^^^ c = b ^^^ c) : a = b := by
  have := congrArg (· ^^^ c) h
  simpa [Nat.xor_assoc] using this
theorem withK_inj {a b w : List Nat} {r : Nat} (ha : a.length = 16) (hb : b.length = 16) (h : withK a w r = withK b w r) : a = b :=
  ext_get (by omega) fun i hi => xor_inj (getD_eq_of h i (by omega))
theorem perm16 : ∀ i, i < 16 → ∃ j, j < 16 ∧ (j + 4 * (j % 4)) % 16 = i := by decide
theorem shifted_inj {a b : List Nat} (ha : a.length = 16) (hb : b.length = 16) (qa : bytes a) (qb : bytes b) (h : shifted a = shifted b) : a = b :=
  ext_get (by omega) fun i hi => by
    obtain ⟨j, hj, rfl⟩ := perm16 i (by omega)
    exact box_inj _ _ (bytes_get qa _) (bytes_get qb _) (getD_eq_of h j hj)
theorem mul3 : ∀ a, a < 256 → mul a 3 = xt a ^^^ a := by decide +kernel
theorem mul2 : ∀ a, a < 256 → mul a 2 = xt a := by decide +kernel
theorem xor_xor (a b : Nat) : a ^^^ (a ^^^ b) = b := by rw [← Nat.xor_assoc, Nat.xor_self, Nat.zero_xor]
def col (a b c d : Nat) : Nat := xt a ^^^ (xt b ^^^ b) ^^^ c ^^^ d
theorem col_lt {a b c d : Nat} (ha : a < 256) (hb : b < 256) (hc : c < 256) (hd : d < 256) : col a b c d < 256 :=
  xor_lt (xor_lt (xor_lt (xt_lt a ha) (xor_lt (xt_lt b hb) hb)) hc) hd
/-- Twice: five times the first and four times the third. -/
theorem col_two {a b c d : Nat} (ha : a < 256) (hb : b < 256) (hc : c < 256) (hd : d < 256) :
    col (col a b c d) (col b c d a) (col c d a b) (col d a b c) = xt (xt a) ^^^ a ^^^ xt (xt c) := by
  have x := fun p q (hp : p < 256) (hq : q < 256) => xt_xor p hp q hq
  have l := fun p hp => xt_lt p hp
  unfold col
  rw [x _ _ (xor_lt (xor_lt (l a ha) (xor_lt (l b hb) hb)) hc) hd, x _ _ (xor_lt (l a ha) (xor_lt (l b hb) hb)) hc, x _ _ (l a ha) (xor_lt (l b hb) hb), x _ _ (l b hb) hb,
    x _ _ (xor_lt (xor_lt (l b hb) (xor_lt (l c hc) hc)) hd) ha, x _ _ (xor_lt (l b hb) (xor_lt (l c hc) hc)) hd, x _ _ (l b hb) (xor_lt (l c hc) hc), x _ _ (l c hc) hc]
  generalize xt (xt a) = aa; generalize xt (xt b) = bb; generalize xt (xt c) = cc
  generalize xt a = a1; generalize xt b = b1; generalize xt c = c1; generalize xt d = d1
  simp [Nat.xor_comm, xor_left, Nat.xor_assoc, xor_xor, Nat.xor_self]
theorem col_back {a b c d a' b' c' d' : Nat} (ha : a < 256) (hb : b < 256) (hc : c < 256) (hd : d < 256) (ha' : a' < 256) (hb' : b' < 256) (hc' : c' < 256) (hd' : d' < 256)
    (h1 : col a b c d = col a' b' c' d') (h2 : col b c d a = col b' c' d' a') (h3 : col c d a b = col c' d' a' b') (h4 : col d a b c = col d' a' b' c') : a = a' := by
  have e1 := col_two ha hb hc hd
  have e3 := col_two hc hd ha hb
  rw [h1, h2, h3, h4, col_two ha' hb' hc' hd'] at e1
  rw [h1, h2, h3, h4, col_two hc' hd' ha' hb'] at e3
  -- e1 : 5a' + 4c' = 5a + 4c ; e3 : 5c' + 4a' = 5c + 4a ; their sum : a' + c' = a + c
  have s : a' ^^^ c' = a ^^^ c := by
    have u : (xt (xt a') ^^^ a' ^^^ xt (xt c')) ^^^ (xt (xt c') ^^^ c' ^^^ xt (xt a')) = a' ^^^ c' := by
      generalize xt (xt a') = p; generalize xt (xt c') = q
      simp [Nat.xor_comm, xor_left, Nat.xor_assoc, xor_xor, Nat.xor_self]
    have v : (xt (xt a) ^^^ a ^^^ xt (xt c)) ^^^ (xt (xt c) ^^^ c ^^^ xt (xt a)) = a ^^^ c := by
      generalize xt (xt a) = p; generalize xt (xt c) = q
      simp [Nat.xor_comm, xor_left, Nat.xor_assoc, xor_xor, Nat.xor_self]
    rw [← u, ← v, e1, e3]
  have l4 : xt (xt a') ^^^ xt (xt c') = xt (xt a) ^^^ xt (xt c) := by
    rw [← xt_xor _ (xt_lt _ ha') _ (xt_lt _ hc'), ← xt_xor _ ha' _ hc', s, xt_xor _ ha _ hc, xt_xor _ (xt_lt _ ha) _ (xt_lt _ hc)]
  have f1 : (xt (xt a') ^^^ xt (xt c')) ^^^ a' = (xt (xt a) ^^^ xt (xt c)) ^^^ a := by
    rw [Nat.xor_assoc, Nat.xor_comm (xt (xt c')) a', ← Nat.xor_assoc, e1, Nat.xor_assoc, Nat.xor_comm a, ← Nat.xor_assoc]
  rw [l4] at f1
  have := congrArg (fun z => (xt (xt a) ^^^ xt (xt c)) ^^^ z) f1
  simpa [xor_xor] using this.symm
theorem mixed_inj {a b : List Nat} (ha : a.length = 16) (hb : b.length = 16) (qa : bytes a) (qb : bytes b) (h : mixed a = mixed b) : a = b := by
  have h2 : ∀ i, i < 16 → ∀ (l : List Nat), bytes l → (mul (l.getD (i / 4 * 4 + i % 4) 0) 2 ^^^ mul (l.getD (i / 4 * 4 + (i % 4 + 1) % 4) 0) 3 ^^^ l.getD (i / 4 * 4 + (i % 4 + 2) % 4) 0 ^^^ l.getD (i / 4 * 4 + (i % 4 + 3) % 4) 0)
      = col (l.getD (i / 4 * 4 + i % 4) 0) (l.getD (i / 4 * 4 + (i % 4 + 1) % 4) 0) (l.getD (i / 4 * 4 + (i % 4 + 2) % 4) 0) (l.getD (i / 4 * 4 + (i % 4 + 3) % 4) 0) := fun i hi l hl => by
    rw [mul2 _ (bytes_get hl _), mul3 _ (bytes_get hl _)]; rfl
  have key : ∀ i, i < 16 → col (a.getD (i / 4 * 4 + i % 4) 0) (a.getD (i / 4 * 4 + (i % 4 + 1) % 4) 0) (a.getD (i / 4 * 4 + (i % 4 + 2) % 4) 0) (a.getD (i / 4 * 4 + (i % 4 + 3) % 4) 0) = col (b.getD (i / 4 * 4 + i % 4) 0) (b.getD (i / 4 * 4 + (i % 4 + 1) % 4) 0) (b.getD (i / 4 * 4 + (i % 4 + 2) % 4) 0) (b.getD (i / 4 * 4 + (i % 4 + 3) % 4) 0) := fun i hi => by
    rw [← h2 i hi a qa, ← h2 i hi b qb]; exact getD_eq_of h i hi
  refine ext_get (by omega) fun i hi => ?_
  rw [ha] at hi
  have A := fun j => bytes_get qa j
  have B := fun j => bytes_get qb j
  obtain ⟨n, r, rfl, hn, hr⟩ : ∃ n r, i = 4 * n + r ∧ n < 4 ∧ r < 4 := ⟨i / 4, i % 4, by omega, by omega, by omega⟩
  have K := fun r' (h : r' < 4) => key (4 * n + r') (by omega)
  have k0 := K 0 (by omega); have k1 := K 1 (by omega); have k2 := K 2 (by omega); have k3 := K 3 (by omega)
  rw [show (4 * n + 0) / 4 * 4 = 4 * n by omega, show (4 * n + 0) % 4 = 0 by omega] at k0
  rw [show (4 * n + 1) / 4 * 4 = 4 * n by omega, show (4 * n + 1) % 4 = 1 by omega] at k1
  rw [show (4 * n + 2) / 4 * 4 = 4 * n by omega, show (4 * n + 2) % 4 = 2 by omega] at k2
  rw [show (4 * n + 3) / 4 * 4 = 4 * n by omega, show (4 * n + 3) % 4 = 3 by omega] at k3
  simp only [Nat.zero_add, Nat.reduceAdd, Nat.reduceMod] at k0 k1 k2 k3
  have hr4 : r = 0 ∨ r = 1 ∨ r = 2 ∨ r = 3 := by omega
  rcases hr4 with rfl | rfl | rfl | rfl
  · exact col_back (A _) (A _) (A _) (A _) (B _) (B _) (B _) (B _) k0 k1 k2 k3
  · exact col_back (A _) (A _) (A _) (A _) (B _) (B _) (B _) (B _) k1 k2 k3 k0
  · exact col_back (A _) (A _) (A _) (A _) (B _) (B _) (B _) (B _) k2 k3 k0 k1
  · exact col_back (A _) (A _) (A _) (A _) (B _) (B _) (B _) (B _) k3 k0 k1 k2
theorem rnds_inj {w a b : List Nat} (ha : a.length = 16) (hb : b.length = 16) (qa : bytes a) (qb : bytes b) (qw : bytes w) : ∀ n, rnds w a n = rnds w b n → a = b
  | 0, h => withK_inj ha hb h
  | n + 1, h => by
    have ra := rnds_bytes qa qw n
    have rb := rnds_bytes qb qw n
    have la : ∀ x, (rnds w x n).length = 16 := fun x => by cases n <;> exact arr_len _
    have h1 := withK_inj (arr_len _) (arr_len _) h
    have h2 := mixed_inj (arr_len _) (arr_len _) (shifted_bytes ra) (shifted_bytes rb) h1
    exact rnds_inj ha hb qa qb qw n (shifted_inj (la _) (la _) ra rb h2)
theorem enc_inj {w a b : List Nat} (ha : a.length = 16) (hb : b.length = 16) (qa : bytes a) (qb : bytes b) (qw : bytes w) (h : enc w a = enc w b) : a = b :=
  rnds_inj ha hb qa qb qw 9 (shifted_inj (arr_len _) (arr_len _) (rnds_bytes qa qw 9) (rnds_bytes qb qw 9) (withK_inj (arr_len _) (arr_len _) h))
theorem tmpW_bytes {l : List Nat} (i : Nat) (hl : bytes l) : bytes (tmpW l i) := by
  have b := fun j => bytes_get hl j
  have q := fun j => box_lt _ (b j)
  unfold tmpW
  split
  · intro c hc; simp only [List.mem_cons, List.not_mem_nil, or_false] at hc
    rcases hc with rfl | rfl | rfl | rfl
    · exact xor_lt (q _) (pwr_lt _)
    · exact q _
    · exact q _
    · exact q _
  · intro c hc; simp only [List.mem_cons, List.not_mem_nil, or_false] at hc
    rcases hc with rfl | rfl | rfl | rfl <;> exact b _
/-- The row of words, as far as it has come: k bytes of the next word. -/
def rowW (A W : List Nat) (k : Nat) : List Nat := A ++ (W.take k ++ List.replicate (176 - A.length - k) 0)
theorem rowW_len (A W : List Nat) (k : Nat) (h : A.length + k ≤ 176) (hk : k ≤ W.length) : (rowW A W k).length = 176 := by simp [rowW]; omega
theorem rowW_low (A W : List Nat) (k i : Nat) (h : i < A.length) : (rowW A W k).getD i 0 = A.getD i 0 := by
  simp [rowW, List.getD_eq_getElem?_getD, List.getElem?_append_left h]
theorem rowW_set (A W : List Nat) (k : Nat) (h : A.length + k < 176) (hk : k < W.length) : (rowW A W k).set (A.length + k) (W.getD k 0) = rowW A W (k + 1) := by
  unfold rowW
  rw [List.set_append_right _ _ (by omega), show A.length + k - A.length = k by omega, List.set_append_right _ _ (by simp; omega)]
  congr 1
  have e1 : 176 - A.length - k = (176 - A.length - (k + 1)) + 1 := by omega
  have e2 : W.take (k + 1) = W.take k ++ [W.getD k 0] := by rw [List.take_succ_eq_append_getElem hk]; simp [List.getD_eq_getElem?_getD, hk]
  rw [e1, List.replicate_succ, e2, show k - (W.take k).length = 0 by simp; omega, List.set_cons_zero, List.append_assoc]
  rfl
theorem rowW_full (key : List Nat) (i : Nat) : rowW (ks key i) (word key (ks key i) i) 4 = rowW (ks key (i + 1)) [] 0 := by
  unfold rowW
  rw [List.take_of_length_le (by rw [word_len]; omega), ks, List.take_nil, List.nil_append, List.append_assoc, List.length_append, word_len]
  congr 3
theorem rowW_none (A W : List Nat) : rowW A W 0 = rowW A [] 0 := by simp [rowW]
theorem rowW_end (key : List Nat) : rowW (ks key 44) [] 0 = sched key := by
  unfold rowW; rw [ks_len]; simp [sched]
/-- A list of which so many places are turned. -/
def upto (f : Nat → Nat) (g : List Nat) (j : Nat) : List Nat := (List.range g.length).map fun i => if i < j then f i else g.getD i 0
theorem upto_len (f : Nat → Nat) (g : List Nat) (j : Nat) : (upto f g j).length = g.length := by simp [upto]
theorem upto_get (f : Nat → Nat) (g : List Nat) (j i : Nat) (h : i < g.length) : (upto f g j).getD i 0 = if i < j then f i else g.getD i 0 := by simp [upto, List.getD_eq_getElem?_getD, h]
theorem upto_zero (f : Nat → Nat) (g : List Nat) : upto f g 0 = g := ext_get (upto_len f g 0) fun i hi => by rw [upto_len] at hi; rw [upto_get _ _ _ _ hi]; simp
theorem upto_set (f : Nat → Nat) (g : List Nat) (j : Nat) (h : j < g.length) : (upto f g j).set j (f j) = upto f g (j + 1) := by
  refine ext_get (by simp [upto_len]) fun i hi => ?_
  rw [List.length_set, upto_len] at hi
  rw [upto_get _ _ _ _ hi]
  by_cases e : i = j
  · subst e; simp [List.getD_eq_getElem?_getD, upto_len, h]
  · have e2 : ((upto f g j).set j (f j)).getD i 0 = (upto f g j).getD i 0 := by
      rw [List.getD_eq_getElem?_getD, List.getD_eq_getElem?_getD, List.getElem?_set_ne (fun h => e h.symm)]
    rw [e2, upto_get _ _ _ _ hi]
    by_cases h1 : i < j
    · rw [if_pos h1, if_pos (by omega)]
    · rw [if_neg h1, if_neg (by omega)]
theorem upto_full (f : Nat → Nat) (g : List Nat) (n : Nat) (h : g.length ≤ n) : upto f g n = (List.range g.length).map f := by
  unfold upto
  refine List.map_congr_left fun i hi => ?_
  rw [if_pos (by have := List.mem_range.1 hi; omega)]
end Go.Proofs.Ytnphanhoakbkpaa.Ae
