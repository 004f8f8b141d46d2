/- Layer 8: the document's columns and rows: no program in sight. -/
import Derived.Test.YtnphanhoakbkpaaPlainAe
import Derived.Test.YtnphanhoakbkpaaPlainAe2
namespace Go.Proofs.Ytnphanhoakbkpaa.Ae
set_option linter.unusedVariables false
set_option linter.unusedSimpArgs false

/-- A block, column by column, as rows. -/
def tr (L : List Nat) : List Nat := arr fun p => L.getD (4 * (p % 4) + p / 4) 0
theorem tr_len (L : List Nat) : (tr L).length = 16 := arr_len _
theorem tr_bytes {L : List Nat} (h : bytes L) : bytes (tr L) := bytes_arr fun i _ => bytes_get h _
theorem tr_get (L : List Nat) (p : Nat) (h : p < 16) : (tr L).getD p 0 = L.getD (4 * (p % 4) + p / 4) 0 := arr_get _ p h
theorem tr_at (L : List Nat) (i : Nat) (h : i < 16) : (tr L).getD (i % 4 * 4 + i / 4) 0 = L.getD i 0 := by
  rw [tr_get _ _ (by omega), show 4 * ((i % 4 * 4 + i / 4) % 4) + (i % 4 * 4 + i / 4) / 4 = i by omega]

theorem l16 : ∀ (l : List Nat), l.length = 16 → ∃ a b c d e f g h i j k m n o p q, l = [a, b, c, d, e, f, g, h, i, j, k, m, n, o, p, q]
  | [a, b, c, d, e, f, g, h, i, j, k, m, n, o, p, q], _ => ⟨a, b, c, d, e, f, g, h, i, j, k, m, n, o, p, q, rfl⟩
/-- A list laid down so far, column by column. -/
def scat (V base : List Nat) : Nat → List Nat
  | 0 => base
  | i + 1 => (scat V base i).set (i % 4 * 4 + i / 4) (V.getD i 0)
theorem scat_len (V base : List Nat) : ∀ i, (scat V base i).length = base.length
  | 0 => rfl
  | i + 1 => by rw [scat, List.length_set, scat_len V base i]
theorem scat_full (V base : List Nat) (h : base.length = 16) : scat V base 16 = tr V := by
  obtain ⟨a, b, c, d, e, f, g, h, i, j, k, m, n, o, p, q, rfl⟩ := l16 base h
  rfl
def subF (L : List Nat) (p : Nat) : Nat := box ((tr L).getD (p / 4 * 4 + (p % 4 + p / 4) % 4) 0)
theorem arr_tr (F : Nat → Nat) (V : List Nat) (h : ∀ p, p < 16 → F p = V.getD (4 * (p % 4) + p / 4) 0) : arr F = tr V := by
  unfold tr arr
  exact List.map_congr_left fun p hp => h p (List.mem_range.1 hp)
theorem subF_full (L : List Nat) : upto (subF L) (List.replicate 16 0) 16 = tr (shifted L) := by
  rw [upto_full _ _ _ (by simp), List.length_replicate]
  refine arr_tr _ _ fun p hp => ?_
  unfold subF shifted
  have e : ∀ p, p < 16 → 4 * ((p / 4 * 4 + (p % 4 + p / 4) % 4) % 4) + (p / 4 * 4 + (p % 4 + p / 4) % 4) / 4 = (4 * (p % 4) + p / 4 + 4 * ((4 * (p % 4) + p / 4) % 4)) % 16 := by decide
  rw [arr_get _ _ (by omega), tr_get _ _ (by omega), e p hp]
def cv0 (M : List Nat) (c : Nat) : Nat := mul (M.getD c 0) 2 ^^^ mul (M.getD (4 + c) 0) 3 ^^^ M.getD (8 + c) 0 ^^^ M.getD (12 + c) 0
def cv1 (M : List Nat) (c : Nat) : Nat := M.getD c 0 ^^^ mul (M.getD (4 + c) 0) 2 ^^^ mul (M.getD (8 + c) 0) 3 ^^^ M.getD (12 + c) 0
def cv2 (M : List Nat) (c : Nat) : Nat := M.getD c 0 ^^^ M.getD (4 + c) 0 ^^^ mul (M.getD (8 + c) 0) 2 ^^^ mul (M.getD (12 + c) 0) 3
def cv3 (M : List Nat) (c : Nat) : Nat := mul (M.getD c 0) 3 ^^^ M.getD (4 + c) 0 ^^^ M.getD (8 + c) 0 ^^^ mul (M.getD (12 + c) 0) 2
/-- So many columns mixed. -/
def cols (M : List Nat) : Nat → List Nat
  | 0 => M
  | c + 1 => ((((cols M c).set c (cv0 M c)).set (4 + c) (cv1 M c)).set (8 + c) (cv2 M c)).set (12 + c) (cv3 M c)
theorem cols_len (M : List Nat) : ∀ c, (cols M c).length = M.length
  | 0 => rfl
  | c + 1 => by rw [cols, List.length_set, List.length_set, List.length_set, List.length_set, cols_len M c]
theorem turn1 (a b c d : Nat) : a ^^^ b ^^^ c ^^^ d = b ^^^ c ^^^ d ^^^ a := by rw [Nat.xor_comm _ a, ← Nat.xor_assoc, ← Nat.xor_assoc]
theorem cols_row (M : List Nat) (h : M.length = 16) : cols M 4 = [cv0 M 0, cv0 M 1, cv0 M 2, cv0 M 3, cv1 M 0, cv1 M 1, cv1 M 2, cv1 M 3, cv2 M 0, cv2 M 1, cv2 M 2, cv2 M 3, cv3 M 0, cv3 M 1, cv3 M 2, cv3 M 3] := by
  have e : ∀ N : List Nat, N.length = 16 → ∀ v0 v1 v2 v3 : Nat → Nat, ((((((((((((((((N.set 0 (v0 0)).set (4 + 0) (v1 0)).set (8 + 0) (v2 0)).set (12 + 0) (v3 0)).set 1 (v0 1)).set (4 + 1) (v1 1)).set (8 + 1) (v2 1)).set (12 + 1) (v3 1)).set 2 (v0 2)).set (4 + 2) (v1 2)).set (8 + 2) (v2 2)).set (12 + 2) (v3 2)).set 3 (v0 3)).set (4 + 3) (v1 3)).set (8 + 3) (v2 3)).set (12 + 3) (v3 3)) = [v0 0, v0 1, v0 2, v0 3, v1 0, v1 1, v1 2, v1 3, v2 0, v2 1, v2 2, v2 3, v3 0, v3 1, v3 2, v3 3] := by
    intro N hN v0 v1 v2 v3
    obtain ⟨a, b, c, d, e, f, g, h, i, j, k, m, n, o, p, q, rfl⟩ := l16 N hN
    rfl
  exact e M h (cv0 M) (cv1 M) (cv2 M) (cv3 M)
theorem cols_full (B : List Nat) : cols (tr B) 4 = tr (mixed B) := by
  rw [cols_row _ (tr_len B)]
  have e : tr (mixed B) = arr fun p => (mixed B).getD (4 * (p % 4) + p / 4) 0 := rfl
  rw [e]
  have m : ∀ c r, c < 4 → r < 4 → (mixed B).getD (4 * c + r) 0 = mul (B.getD (4 * c + r) 0) 2 ^^^ mul (B.getD (4 * c + (r + 1) % 4) 0) 3 ^^^ B.getD (4 * c + (r + 2) % 4) 0 ^^^ B.getD (4 * c + (r + 3) % 4) 0 := by
    intro c r hc hr
    unfold mixed
    rw [arr_get _ _ (by omega), show (4 * c + r) / 4 * 4 = 4 * c by omega, show (4 * c + r) % 4 = r by omega]
  have t : ∀ c r, c < 4 → r < 4 → (tr B).getD (4 * r + c) 0 = B.getD (4 * c + r) 0 := by
    intro c r hc hr
    rw [tr_get _ _ (by omega)]
    congr 1
    omega
  have k0 : ∀ c, c < 4 → cv0 (tr B) c = (mixed B).getD (4 * c + 0) 0 := by
    intro c hc
    rw [m c 0 hc (by decide)]
    unfold cv0
    rw [show (tr B).getD c 0 = (tr B).getD (4 * 0 + c) 0 by rw [Nat.mul_zero, Nat.zero_add], t c 0 hc (by decide), show 4 + c = 4 * 1 + c by omega, t c 1 hc (by decide), show 8 + c = 4 * 2 + c by omega, t c 2 hc (by decide), show 12 + c = 4 * 3 + c by omega, t c 3 hc (by decide)]
  have k1 : ∀ c, c < 4 → cv1 (tr B) c = (mixed B).getD (4 * c + 1) 0 := by
    intro c hc
    rw [m c 1 hc (by decide)]
    unfold cv1
    rw [show (tr B).getD c 0 = (tr B).getD (4 * 0 + c) 0 by rw [Nat.mul_zero, Nat.zero_add], t c 0 hc (by decide), show 4 + c = 4 * 1 + c by omega, t c 1 hc (by decide), show 8 + c = 4 * 2 + c by omega, t c 2 hc (by decide), show 12 + c = 4 * 3 + c by omega, t c 3 hc (by decide), turn1]
  have k2 : ∀ c, c < 4 → cv2 (tr B) c = (mixed B).getD (4 * c + 2) 0 := by
    intro c hc
    rw [m c 2 hc (by decide)]
    unfold cv2
    rw [show (tr B).getD c 0 = (tr B).getD (4 * 0 + c) 0 by rw [Nat.mul_zero, Nat.zero_add], t c 0 hc (by decide), show 4 + c = 4 * 1 + c by omega, t c 1 hc (by decide), show 8 + c = 4 * 2 + c by omega, t c 2 hc (by decide), show 12 + c = 4 * 3 + c by omega, t c 3 hc (by decide), turn1, turn1]
  have k3 : ∀ c, c < 4 → cv3 (tr B) c = (mixed B).getD (4 * c + 3) 0 := by
    intro c hc
    rw [m c 3 hc (by decide)]
    unfold cv3
    rw [show (tr B).getD c 0 = (tr B).getD (4 * 0 + c) 0 by rw [Nat.mul_zero, Nat.zero_add], t c 0 hc (by decide), show 4 + c = 4 * 1 + c by omega, t c 1 hc (by decide), show 8 + c = 4 * 2 + c by omega, t c 2 hc (by decide), show 12 + c = 4 * 3 + c by omega, t c 3 hc (by decide), turn1, turn1, turn1]
  rw [k0 0, k0 1, k0 2, k0 3, k1 0, k1 1, k1 2, k1 3, k2 0, k2 1, k2 2, k2 3, k3 0, k3 1, k3 2, k3 3] <;> first | decide | rfl
/-- The block behind so many rounds. -/
def stt (w b : List Nat) (n : Nat) : List Nat := if n < 10 then rnds w b n else enc w b
theorem stt_zero (w b : List Nat) : stt w b 0 = withK b w 0 := rfl
theorem stt_in (w b : List Nat) (r : Nat) (h1 : 1 ≤ r) (h : r < 10) : stt w b r = withK (mixed (shifted (stt w b (r - 1)))) w r := by
  obtain ⟨n, rfl⟩ : ∃ n, r = n + 1 := ⟨r - 1, by omega⟩
  unfold stt
  rw [if_pos h, if_pos (by omega)]
  rfl
theorem stt_out (w b : List Nat) : stt w b 10 = withK (shifted (stt w b 9)) w 10 := rfl
theorem stt_len (w b : List Nat) (n : Nat) : (stt w b n).length = 16 := by
  unfold stt; split
  · cases n <;> exact arr_len _
  · exact arr_len _
theorem stt_bytes {w b : List Nat} (hb : bytes b) (hw : bytes w) (n : Nat) : bytes (stt w b n) := by
  unfold stt; split
  · exact rnds_bytes hb hw n
  · exact enc_bytes hb hw
theorem cv_lt {M : List Nat} (h : bytes M) (c : Nat) : cv0 M c < 256 ∧ cv1 M c < 256 ∧ cv2 M c < 256 ∧ cv3 M c < 256 := by
  have g := fun i => bytes_get h i
  have p := fun i k => mul_lt _ k (g i)
  exact ⟨xor_lt (xor_lt (xor_lt (p _ _) (p _ _)) (g _)) (g _), xor_lt (xor_lt (xor_lt (g _) (p _ _)) (p _ _)) (g _), xor_lt (xor_lt (xor_lt (g _) (g _)) (p _ _)) (p _ _), xor_lt (xor_lt (xor_lt (p _ _) (g _)) (g _)) (p _ _)⟩
theorem upto_same (L : List Nat) (h : L.length = 16) : upto (fun i => L.getD i 0) (List.replicate 16 0) 16 = L := by
  rw [upto_full _ _ _ (by simp), List.length_replicate]
  obtain ⟨a, b, c, d, e, f, g, h, i, j, k, m, n, o, p, q, rfl⟩ := l16 L h
  rfl
end Go.Proofs.Ytnphanhoakbkpaa.Ae
