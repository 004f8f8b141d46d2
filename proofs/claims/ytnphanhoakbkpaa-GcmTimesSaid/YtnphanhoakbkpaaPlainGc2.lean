/- Blocks as bytes, as numbers, as two halves; sums; texts that are sealed: in plain words. -/
import Derived.Test.YtnphanhoakbkpaaPlainAe
import Derived.Test.YtnphanhoakbkpaaPlainAe2
import Derived.Test.YtnphanhoakbkpaaPlainGc
namespace Go.Gc
open Go.Proofs.Ytnphanhoakbkpaa

def hi (v : Nat) : Nat := v / 2 ^ 64
def lo (v : Nat) : Nat := v % 2 ^ 64
theorem hi_lt {v : Nat} (h : v < 2 ^ 128) : hi v < 18446744073709551616 := by unfold hi; omega
theorem lo_lt (v : Nat) : lo v < 18446744073709551616 := by unfold lo; omega
theorem hi_lo (v : Nat) : hi v * 2 ^ 64 + lo v = v := by unfold hi lo; omega
theorem hi_xor (a b : Nat) : hi (a ^^^ b) = hi a ^^^ hi b := by
  have := Nat.shiftRight_xor_distrib (a := a) (b := b) (i := 64)
  unfold hi
  rw [← Nat.shiftRight_eq_div_pow, ← Nat.shiftRight_eq_div_pow, ← Nat.shiftRight_eq_div_pow]
  exact this
theorem lo_xor (a b : Nat) : lo (a ^^^ b) = lo a ^^^ lo b := Nat.xor_mod_two_pow
theorem hi_mx (v : Nat) : hi (mx v) = (hi v / 2) ^^^ (lo v % 2 * 16212958658533785600) := by
  unfold mx
  rw [hi_xor]
  congr 1
  · unfold hi; omega
  · unfold hi lo top; omega
theorem lo_mx (v : Nat) : lo (mx v) = lo v / 2 + hi v % 2 * 9223372036854775808 := by
  unfold mx
  rw [lo_xor, show lo (v % 2 * top) = 0 by unfold lo top; omega, Nat.xor_zero]
  unfold hi lo
  omega
/-- The program's bit number i of a block, out of a half that was moved. -/
theorem bit_hi (v t : Nat) (h : t < 64) : (decide (hi v * 2 ^ t % 2 ^ 64 / 2 ^ 63 = 1)) = bit v t := by
  unfold bit hi
  rw [Nat.testBit_eq_decide_div_mod_eq]
  congr 1
  have h1 : v / 2 ^ (127 - t) % 2 = v / 2 ^ 64 * 2 ^ t % 2 ^ 64 / 2 ^ 63 := by
    have e : 127 - t = 64 + (63 - t) := by omega
    rw [e, Nat.pow_add, ← Nat.div_div_eq_div_mul]
    generalize v / 2 ^ 64 = u
    have h2 : 2 ^ 64 = 2 ^ t * 2 ^ (64 - t) := by rw [← Nat.pow_add]; congr 1; omega
    have h3 : 2 ^ 63 = 2 ^ t * 2 ^ (63 - t) := by rw [← Nat.pow_add]; congr 1; omega
    rw [h2, h3, Nat.mul_comm u, Nat.mul_mod_mul_left, Nat.mul_div_mul_left _ _ (Nat.two_pow_pos t), show 64 - t = (63 - t) + 1 by omega, Nat.pow_succ]
    rw [Nat.mod_mul_right_div_self]
  rw [h1]
theorem bit_lo (v t : Nat) (h : t < 64) : (decide (lo v * 2 ^ t % 2 ^ 64 / 2 ^ 63 = 1)) = bit v (64 + t) := by
  have e : bit v (64 + t) = bit (lo v * 2 ^ 64) t := by
    unfold bit lo
    rw [Nat.testBit_mul_two_pow, Nat.testBit_mod_two_pow, show 127 - (64 + t) = 127 - t - 64 by omega]
    have h1 : 64 ≤ 127 - t := by omega
    have h2 : 127 - t - 64 < 64 := by omega
    simp [h1, h2]
  rw [e, ← bit_hi _ t h, show hi (lo v * 2 ^ 64) = lo v by unfold hi; rw [Nat.mul_div_cancel _ (by decide)]]

/-- Bytes as a number. -/
def nb (l : List Nat) : Nat := l.foldl (fun v x => v * 256 + x) 0
theorem nb_snoc (l : List Nat) (x : Nat) : nb (l ++ [x]) = nb l * 256 + x := by unfold nb; rw [List.foldl_append]; rfl
theorem nb_from : ∀ (l : List Nat) (v : Nat), l.foldl (fun v x => v * 256 + x) v = v * 256 ^ l.length + nb l
  | [], v => by simp [nb]
  | x :: t, v => by
    rw [List.foldl_cons, nb_from t (v * 256 + x)]
    have h : nb (x :: t) = x * 256 ^ t.length + nb t := by
      show t.foldl _ (0 * 256 + x) = _
      rw [nb_from t (0 * 256 + x), Nat.zero_mul, Nat.zero_add]
    rw [h, List.length_cons, Nat.pow_succ, Nat.add_mul, Nat.add_assoc, Nat.mul_assoc, Nat.mul_comm 256]
theorem nb_cons (x : Nat) (t : List Nat) : nb (x :: t) = x * 256 ^ t.length + nb t := by
  show t.foldl _ (0 * 256 + x) = _
  rw [nb_from t (0 * 256 + x), Nat.zero_mul, Nat.zero_add]
theorem nb_append (a b : List Nat) : nb (a ++ b) = nb a * 256 ^ b.length + nb b := by
  unfold nb
  rw [List.foldl_append]
  exact nb_from b _
theorem nb_lt : ∀ l : List Nat, Ae.bytes l → nb l < 256 ^ l.length
  | [], _ => by decide
  | x :: t, h => by
    have h1 := nb_lt t fun c hc => h c (by simp [hc])
    have h2 := h x (by simp)
    rw [nb_cons, List.length_cons, Nat.pow_succ, Nat.mul_comm (256 ^ t.length)]
    have h3 : x * 256 ^ t.length ≤ 255 * 256 ^ t.length := Nat.mul_le_mul_right _ (by omega)
    omega
/-- A half's bytes. -/
def by8 (v : Nat) : List Nat := (List.range 8).map fun i => v / 2 ^ (8 * (7 - i)) % 256
/-- A block's bytes. -/
def bn (v : Nat) : List Nat := by8 (hi v) ++ by8 (lo v)
theorem by8_len (v : Nat) : (by8 v).length = 8 := by simp [by8]
theorem bn_len (v : Nat) : (bn v).length = 16 := by simp [bn, by8_len]
theorem by8_bytes (v : Nat) : Ae.bytes (by8 v) := fun c hc => by
  unfold by8 at hc
  obtain ⟨i, _, rfl⟩ := List.mem_map.1 hc
  exact Nat.mod_lt _ (by decide)
theorem bn_bytes (v : Nat) : Ae.bytes (bn v) := Ae.bytes_append (by8_bytes _) (by8_bytes _)
theorem by8_eq (v : Nat) : by8 v = [v / 2 ^ 56 % 256, v / 2 ^ 48 % 256, v / 2 ^ 40 % 256, v / 2 ^ 32 % 256, v / 2 ^ 24 % 256, v / 2 ^ 16 % 256, v / 2 ^ 8 % 256, v / 2 ^ 0 % 256] := rfl
theorem nb_by8 {v : Nat} (h : v < 18446744073709551616) : nb (by8 v) = v := by
  rw [by8_eq]
  unfold nb
  simp only [List.foldl_cons, List.foldl_nil]
  omega
theorem by8_nb {l : List Nat} (hl : l.length = 8) (hb : Ae.bytes l) : by8 (nb l) = l := by
  rcases l with _ | ⟨a, _ | ⟨b, _ | ⟨c, _ | ⟨d, _ | ⟨e, _ | ⟨f, _ | ⟨g, _ | ⟨i, _ | ⟨j, r⟩⟩⟩⟩⟩⟩⟩⟩⟩ <;> (try (simp at hl; done))
  have ha := hb a (by simp)
  have hb1 := hb b (by simp)
  have hc := hb c (by simp)
  have hd := hb d (by simp)
  have he := hb e (by simp)
  have hf := hb f (by simp)
  have hg := hb g (by simp)
  have hi := hb i (by simp)
  rw [by8_eq]
  unfold nb
  simp only [List.foldl_cons, List.foldl_nil, List.cons.injEq, and_true]
  refine ⟨?_, ?_, ?_, ?_, ?_, ?_, ?_, ?_⟩ <;> omega
theorem nb_bn {v : Nat} (h : v < 2 ^ 128) : nb (bn v) = v := by
  unfold bn
  rw [nb_append, by8_len, nb_by8 (hi_lt h), nb_by8 (lo_lt v)]
  exact hi_lo v
theorem nb16_lt {l : List Nat} (hl : l.length = 16) (hb : Ae.bytes l) : nb l < 2 ^ 128 := by
  have := nb_lt l hb
  rw [hl] at this
  exact this
theorem nb_parts {l : List Nat} (hl : l.length = 16) (hb : Ae.bytes l) : hi (nb l) = nb (l.take 8) ∧ lo (nb l) = nb (l.drop 8) := by
  have e : nb l = nb (l.take 8) * 2 ^ 64 + nb (l.drop 8) := by
    conv => lhs; rw [← List.take_append_drop 8 l]
    rw [nb_append, List.length_drop, hl]
  have h1 := nb_lt (l.drop 8) (fun c hc => hb c (List.mem_of_mem_drop hc))
  rw [List.length_drop, hl] at h1
  have h2 : nb (l.drop 8) < 2 ^ 64 := h1
  unfold hi lo
  rw [e]
  constructor <;> omega
theorem bn_nb {l : List Nat} (hl : l.length = 16) (hb : Ae.bytes l) : bn (nb l) = l := by
  unfold bn
  obtain ⟨h1, h2⟩ := nb_parts hl hb
  rw [h1, h2, by8_nb (by simp [hl]) (fun c hc => hb c (List.mem_of_mem_take hc)), by8_nb (by simp [hl]) (fun c hc => hb c (List.mem_of_mem_drop hc)), List.take_append_drop]
theorem bn_inj {a b : Nat} (ha : a < 2 ^ 128) (hb : b < 2 ^ 128) (h : bn a = bn b) : a = b := by rw [← nb_bn ha, h, nb_bn hb]
theorem bn_zero : bn 0 = List.replicate 16 0 := by decide

/-- Filled up to a block. -/
def pad (c : List Nat) : List Nat := c ++ List.replicate (16 - c.length) 0
theorem pad_len {c : List Nat} (h : c.length ≤ 16) : (pad c).length = 16 := by unfold pad; simp; omega
theorem pad_bytes {c : List Nat} (h : Ae.bytes c) : Ae.bytes (pad c) := Ae.bytes_append h fun x hx => by have := List.eq_of_mem_replicate hx; omega
/-- Part number i. -/
def chunk (l : List Nat) (i : Nat) : List Nat := (l.drop (16 * i)).take 16
def nch (l : List Nat) : Nat := (l.length + 15) / 16
theorem chunk_len (l : List Nat) (i : Nat) : (chunk l i).length ≤ 16 := by unfold chunk; rw [List.length_take]; exact Nat.min_le_left _ _
theorem chunk_bytes {l : List Nat} (h : Ae.bytes l) (i : Nat) : Ae.bytes (chunk l i) := fun c hc => h c (List.mem_of_mem_drop (List.mem_of_mem_take hc))
/-- One block more. -/
def step (h y : Nat) (c : List Nat) : Nat := mul (y ^^^ nb (pad c)) h
def absb (h y : Nat) (l : List Nat) : Nat → Nat
  | 0 => y
  | i + 1 => step h (absb h y l i) (chunk l i)
theorem step_lt {h y : Nat} {c : List Nat} (hh : h < 2 ^ 128) : step h y c < 2 ^ 128 := mul_lt hh
theorem absb_lt {h y : Nat} {l : List Nat} (hh : h < 2 ^ 128) (hy : y < 2 ^ 128) : ∀ i, absb h y l i < 2 ^ 128
  | 0 => hy
  | _ + 1 => step_lt hh
def ends (more text : List Nat) : Nat := more.length * 8 * 2 ^ 64 + text.length * 8
theorem ends_lt {more text : List Nat} (h1 : more.length ≤ 1000000) (h2 : text.length ≤ 1000000) : ends more text < 2 ^ 128 ∧ hi (ends more text) = more.length * 8 ∧ lo (ends more text) = text.length * 8 := by
  unfold ends hi lo; omega
/-- A sum. -/
def gsum (h : Nat) (more text : List Nat) : Nat := mul (absb h (absb h 0 more (nch more)) text (nch text) ^^^ ends more text) h
theorem gsum_lt {h : Nat} {more text : List Nat} (hh : h < 2 ^ 128) : gsum h more text < 2 ^ 128 := mul_lt hh
theorem gsum_nil (h : Nat) : gsum h [] [] = 0 := by
  show mul (0 ^^^ ends [] []) h = 0
  rw [show (0 ^^^ ends [] [] : Nat) = 0 from rfl, zero_mul]
/-- A nonce's first block, and the one behind. -/
def b1 (nonce : List Nat) : List Nat := nonce ++ [0, 0, 0, 1]
def b2 (nonce : List Nat) : List Nat := nonce ++ [0, 0, 0, 2]
def hkey (key : List Nat) : Nat := nb (Ae.enc (Ae.sched key) (List.replicate 16 0))
def tag (key first more c : List Nat) : List Nat := Ae.stream (Ae.sched key) first (bn (gsum (hkey key) more c))
def ciph (key nonce text : List Nat) : List Nat := Ae.stream (Ae.sched key) (b2 nonce) text
def sealT (key nonce more text : List Nat) : List Nat := ciph key nonce text ++ tag key (b1 nonce) more (ciph key nonce text)
theorem tag_len (key first more c : List Nat) : (tag key first more c).length = 16 := by unfold tag; rw [Ae.stream_len, bn_len]
theorem ciph_len (key nonce text : List Nat) : (ciph key nonce text).length = text.length := Ae.stream_len _ _ _
theorem sealT_len (key nonce more text : List Nat) : (sealT key nonce more text).length = text.length + 16 := by unfold sealT; rw [List.length_append, tag_len, ciph_len]
theorem b1_bytes {n : List Nat} (h : Ae.bytes n) : Ae.bytes (b1 n) := Ae.bytes_append h (by unfold Ae.bytes; decide)
theorem b2_bytes {n : List Nat} (h : Ae.bytes n) : Ae.bytes (b2 n) := Ae.bytes_append h (by unfold Ae.bytes; decide)
theorem zeros_bytes (n : Nat) : Ae.bytes (List.replicate n 0) := fun c hc => by have := List.eq_of_mem_replicate hc; omega
theorem hkey_lt {key : List Nat} (h : Ae.bytes key) : hkey key < 2 ^ 128 := nb16_lt (Ae.enc_len _ _) (Ae.enc_bytes (zeros_bytes 16) (Ae.sched_bytes h))
theorem tag_bytes {key first more c : List Nat} (hk : Ae.bytes key) (hf : Ae.bytes first) : Ae.bytes (tag key first more c) := Ae.stream_bytes (Ae.sched_bytes hk) hf (bn_bytes _)
theorem ciph_bytes {key nonce text : List Nat} (hk : Ae.bytes key) (hn : Ae.bytes nonce) (ht : Ae.bytes text) : Ae.bytes (ciph key nonce text) := Ae.stream_bytes (Ae.sched_bytes hk) (b2_bytes hn) ht
theorem ciph_twice (key nonce text : List Nat) : ciph key nonce (ciph key nonce text) = text := Ae.stream_twice _ _ _
theorem sealT_bytes {key nonce more text : List Nat} (hk : Ae.bytes key) (hn : Ae.bytes nonce) (ht : Ae.bytes text) : Ae.bytes (sealT key nonce more text) := Ae.bytes_append (ciph_bytes hk hn ht) (tag_bytes hk (b1_bytes hn))
/-- What is opened: the text, or none. -/
def openT (key nonce more s : List Nat) : Option (List Nat) :=
  if tag key (b1 nonce) more (s.take (s.length - 16)) = s.drop (s.length - 16) then some (ciph key nonce (s.take (s.length - 16))) else none
theorem open_seal (key nonce more text : List Nat) : openT key nonce more (sealT key nonce more text) = some text := by
  have hl : (sealT key nonce more text).length - 16 = (ciph key nonce text).length := by rw [sealT_len, ciph_len]; omega
  unfold openT
  rw [hl]
  unfold sealT
  rw [List.take_left, List.drop_left, if_pos rfl, ciph_twice]
end Go.Gc
