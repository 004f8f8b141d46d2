/- Joined: Layer 8: the document's columns and rows: no program in sight. | Layer 8: the document's search for an inverse: no program in sight. | Layer 8: the document's table of boxes, round by round: no program in sight. | The document's table, walked. | Layer 8: a byte of the next word, as the document reckons it: no program in sight. | The document's round keys, walked (under way: the two inner stores are left). | The document's Block, walked. -/
import Derived.Test.YtabfcaidioohfaaDoorZp
import Derived.Test.YtabfcaidioohfaaDoorRows
import Derived.Test.YtabfcaidioohfaaDoorZa
import Derived.WalkKit
import Derived.Laws.BitsAllLaws
import Derived.Laws.Rows
import Derived.Laws.Tables
import Derived.Deep.WholeRow
import Derived.WalkSpells
import Derived.WalkLawsBesides
import Derived.Handy
import Derived.Lib.Hide
import Derived.StillTailTactics
import Derived.IntWalk
namespace Go.Proofs.YtabfcaidioohfaaDoor.Ae
set_option maxRecDepth 100000
set_option linter.unusedVariables false
set_option linter.unusedSimpArgs false
/-- A block, column by column, as rows. -/
def tr (L : List Nat) : List Nat := arr fun p => L.getD (4 * (p % 4) + p / 4) 0
theorem tr_len (L : List Nat) : (tr L).length = 16 := arr_len _
theorem tr_bytes {L : List Nat} (h : bytes L) : bytes (tr L) := bytes_arr fun i _ => bytes_get h _
theorem tr_get (L : List Nat) (p : Nat) (h : p < 16) : (tr L).getD p 0 = L.getD (4 * (p % 4) + p / 4) 0 := arr_get _ p h
theorem tr_at (L : List Nat) (i : Nat) (h : i < 16) : (tr L).getD (i % 4 * 4 + i / 4) 0 = L.getD i 0 := by
 rw [tr_get _ _ (by omega), show 4 * ((i % 4 * 4 + i / 4) % 4) + (i % 4 * 4 + i / 4) / 4 = i by omega]
theorem l16 : ∀ (l : List Nat), l.length = 16 → ∃ a b c d e f g h i j k m n o p q, l = [a, b, c, d, e, f, g, h, i, j, k, m, n, o, p, q]
 | [a, b, c, d, e, f, g, h, i, j, k, m, n, o, p, q], _ => ⟨a, b, c, d, e, f, g, h, i, j, k, m, n, o, p, q, rfl⟩
/-- A list laid down so far, column by column. -/
def scat (V base : List Nat) : Nat → List Nat
 | 0 => base
 | i + 1 => (scat V base i).set (i % 4 * 4 + i / 4) (V.getD i 0)
theorem scat_len (V base : List Nat) : ∀ i, (scat V base i).length = base.length
 | 0 => rfl
 | i + 1 => by rw [scat, List.length_set, scat_len V base i]
theorem scat_full (V base : List Nat) (h : base.length = 16) : scat V base 16 = tr V := by
 obtain ⟨a, b, c, d, e, f, g, h, i, j, k, m, n, o, p, q, rfl⟩ := l16 base h
 rfl
def subF (L : List Nat) (p : Nat) : Nat := box ((tr L).getD (p / 4 * 4 + (p % 4 + p / 4) % 4) 0)
theorem arr_tr (F : Nat → Nat) (V : List Nat) (h : ∀ p, p < 16 → F p = V.getD (4 * (p % 4) + p / 4) 0) : arr F = tr V := by
 unfold tr arr
 exact List.map_congr_left fun p hp => h p (List.mem_range.1 hp)
theorem subF_full (L : List Nat) : upto (subF L) (List.replicate 16 0) 16 = tr (shifted L) := by
 rw [upto_full _ _ _ (by simp), List.length_replicate]
 refine arr_tr _ _ fun p hp => ?_
 unfold subF shifted
 have e : ∀ p, p < 16 → 4 * ((p / 4 * 4 + (p % 4 + p / 4) % 4) % 4) + (p / 4 * 4 + (p % 4 + p / 4) % 4) / 4 = (4 * (p % 4) + p / 4 + 4 * ((4 * (p % 4) + p / 4) % 4)) % 16 := by decide
 rw [arr_get _ _ (by omega), tr_get _ _ (by omega), e p hp]
def cv0 (M : List Nat) (c : Nat) : Nat := mul (M.getD c 0) 2 ^^^ mul (M.getD (4 + c) 0) 3 ^^^ M.getD (8 + c) 0 ^^^ M.getD (12 + c) 0
def cv1 (M : List Nat) (c : Nat) : Nat := M.getD c 0 ^^^ mul (M.getD (4 + c) 0) 2 ^^^ mul (M.getD (8 + c) 0) 3 ^^^ M.getD (12 + c) 0
def cv2 (M : List Nat) (c : Nat) : Nat := M.getD c 0 ^^^ M.getD (4 + c) 0 ^^^ mul (M.getD (8 + c) 0) 2 ^^^ mul (M.getD (12 + c) 0) 3
def cv3 (M : List Nat) (c : Nat) : Nat := mul (M.getD c 0) 3 ^^^ M.getD (4 + c) 0 ^^^ M.getD (8 + c) 0 ^^^ mul (M.getD (12 + c) 0) 2
/-- So many columns mixed. -/
def cols (M : List Nat) : Nat → List Nat
 | 0 => M
 | c + 1 => ((((cols M c).set c (cv0 M c)).set (4 + c) (cv1 M c)).set (8 + c) (cv2 M c)).set (12 + c) (cv3 M c)
theorem cols_len (M : List Nat) : ∀ c, (cols M c).length = M.length
 | 0 => rfl
 | c + 1 => by rw [cols, List.length_set, List.length_set, List.length_set, List.length_set, cols_len M c]
theorem turn1 (a b c d : Nat) : a ^^^ b ^^^ c ^^^ d = b ^^^ c ^^^ d ^^^ a := by rw [Nat.xor_comm _ a, ← Nat.xor_assoc, ← Nat.xor_assoc]
theorem cols_row (M : List Nat) (h : M.length = 16) : cols M 4 = [cv0 M 0, cv0 M 1, cv0 M 2, cv0 M 3, cv1 M 0, cv1 M 1, cv1 M 2, cv1 M 3, cv2 M 0, cv2 M 1, cv2 M 2, cv2 M 3, cv3 M 0, cv3 M 1, cv3 M 2, cv3 M 3] := by
 have e : ∀ N : List Nat, N.length = 16 → ∀ v0 v1 v2 v3 : Nat → Nat, ((((((((((((((((N.set 0 (v0 0)).set (4 + 0) (v1 0)).set (8 + 0) (v2 0)).set (12 + 0) (v3 0)).set 1 (v0 1)).set (4 + 1) (v1 1)).set (8 + 1) (v2 1)).set (12 + 1) (v3 1)).set 2 (v0 2)).set (4 + 2) (v1 2)).set (8 + 2) (v2 2)).set (12 + 2) (v3 2)).set 3 (v0 3)).set (4 + 3) (v1 3)).set (8 + 3) (v2 3)).set (12 + 3) (v3 3)) = [v0 0, v0 1, v0 2, v0 3, v1 0, v1 1, v1 2, v1 3, v2 0, v2 1, v2 2, v2 3, v3 0, v3 1, v3 2, v3 3] := by
  intro N hN v0 v1 v2 v3
  obtain ⟨a, b, c, d, e, f, g, h, i, j, k, m, n, o, p, q, rfl⟩ := l16 N hN
  rfl
 exact e M h (cv0 M) (cv1 M) (cv2 M) (cv3 M)
theorem cols_full (B : List Nat) : cols (tr B) 4 = tr (mixed B) := by
 rw [cols_row _ (tr_len B)]
 have e : tr (mixed B) = arr fun p => (mixed B).getD (4 * (p % 4) + p / 4) 0 := rfl
 rw [e]
 have m : ∀ c r, c < 4 → r < 4 → (mixed B).getD (4 * c + r) 0 = mul (B.getD (4 * c + r) 0) 2 ^^^ mul (B.getD (4 * c + (r + 1) % 4) 0) 3 ^^^ B.getD (4 * c + (r + 2) % 4) 0 ^^^ B.getD (4 * c + (r + 3) % 4) 0 := by
  intro c r hc hr
  unfold mixed
  rw [arr_get _ _ (by omega), show (4 * c + r) / 4 * 4 = 4 * c by omega, show (4 * c + r) % 4 = r by omega]
 have t : ∀ c r, c < 4 → r < 4 → (tr B).getD (4 * r + c) 0 = B.getD (4 * c + r) 0 := by
  intro c r hc hr
  rw [tr_get _ _ (by omega)]
  congr 1
  omega
 have k0 : ∀ c, c < 4 → cv0 (tr B) c = (mixed B).getD (4 * c + 0) 0 := by
  intro c hc
  rw [m c 0 hc (by decide)]
  unfold cv0
  rw [show (tr B).getD c 0 = (tr B).getD (4 * 0 + c) 0 by rw [Nat.mul_zero, Nat.zero_add], t c 0 hc (by decide), show 4 + c = 4 * 1 + c by omega, t c 1 hc (by decide), show 8 + c = 4 * 2 + c by omega, t c 2 hc (by decide), show 12 + c = 4 * 3 + c by omega, t c 3 hc (by decide)]
 have k1 : ∀ c, c < 4 → cv1 (tr B) c = (mixed B).getD (4 * c + 1) 0 := by
  intro c hc
  rw [m c 1 hc (by decide)]
  unfold cv1
  rw [show (tr B).getD c 0 = (tr B).getD (4 * 0 + c) 0 by rw [Nat.mul_zero, Nat.zero_add], t c 0 hc (by decide), show 4 + c = 4 * 1 + c by omega, t c 1 hc (by decide), show 8 + c = 4 * 2 + c by omega, t c 2 hc (by decide), show 12 + c = 4 * 3 + c by omega, t c 3 hc (by decide), turn1]
 have k2 : ∀ c, c < 4 → cv2 (tr B) c = (mixed B).getD (4 * c + 2) 0 := by
  intro c hc
  rw [m c 2 hc (by decide)]
  unfold cv2
  rw [show (tr B).getD c 0 = (tr B).getD (4 * 0 + c) 0 by rw [Nat.mul_zero, Nat.zero_add], t c 0 hc (by decide), show 4 + c = 4 * 1 + c by omega, t c 1 hc (by decide), show 8 + c = 4 * 2 + c by omega, t c 2 hc (by decide), show 12 + c = 4 * 3 + c by omega, t c 3 hc (by decide), turn1, turn1]
 have k3 : ∀ c, c < 4 → cv3 (tr B) c = (mixed B).getD (4 * c + 3) 0 := by
  intro c hc
  rw [m c 3 hc (by decide)]
  unfold cv3
  rw [show (tr B).getD c 0 = (tr B).getD (4 * 0 + c) 0 by rw [Nat.mul_zero, Nat.zero_add], t c 0 hc (by decide), show 4 + c = 4 * 1 + c by omega, t c 1 hc (by decide), show 8 + c = 4 * 2 + c by omega, t c 2 hc (by decide), show 12 + c = 4 * 3 + c by omega, t c 3 hc (by decide), turn1, turn1, turn1]
 rw [k0 0, k0 1, k0 2, k0 3, k1 0, k1 1, k1 2, k1 3, k2 0, k2 1, k2 2, k2 3, k3 0, k3 1, k3 2, k3 3] <;> first | decide | rfl
/-- The block behind so many rounds. -/
def stt (w b : List Nat) (n : Nat) : List Nat := if n < 10 then rnds w b n else enc w b
theorem stt_zero (w b : List Nat) : stt w b 0 = withK b w 0 := rfl
theorem stt_in (w b : List Nat) (r : Nat) (h1 : 1 ≤ r) (h : r < 10) : stt w b r = withK (mixed (shifted (stt w b (r - 1)))) w r := by
 obtain ⟨n, rfl⟩ : ∃ n, r = n + 1 := ⟨r - 1, by omega⟩
 unfold stt
 rw [if_pos h, if_pos (by omega)]
 rfl
theorem stt_out (w b : List Nat) : stt w b 10 = withK (shifted (stt w b 9)) w 10 := rfl
theorem stt_len (w b : List Nat) (n : Nat) : (stt w b n).length = 16 := by
 unfold stt; split
 ·cases n <;> exact arr_len _
 ·exact arr_len _
theorem stt_bytes {w b : List Nat} (hb : bytes b) (hw : bytes w) (n : Nat) : bytes (stt w b n) := by
 unfold stt; split
 ·exact rnds_bytes hb hw n
 ·exact enc_bytes hb hw
theorem cv_lt {M : List Nat} (h : bytes M) (c : Nat) : cv0 M c < 256 ∧ cv1 M c < 256 ∧ cv2 M c < 256 ∧ cv3 M c < 256 := by
 have g := fun i => bytes_get h i
 have p := fun i k => mul_lt _ k (g i)
 exact ⟨xor_lt (xor_lt (xor_lt (p _ _) (p _ _)) (g _)) (g _), xor_lt (xor_lt (xor_lt (g _) (p _ _)) (p _ _)) (g _), xor_lt (xor_lt (xor_lt (g _) (g _)) (p _ _)) (p _ _), xor_lt (xor_lt (xor_lt (p _ _) (g _)) (g _)) (p _ _)⟩
theorem upto_same (L : List Nat) (h : L.length = 16) : upto (fun i => L.getD i 0) (List.replicate 16 0) 16 = L := by
 rw [upto_full _ _ _ (by simp), List.length_replicate]
 obtain ⟨a, b, c, d, e, f, g, h, i, j, k, m, n, o, p, q, rfl⟩ := l16 L h
 rfl
end Go.Proofs.YtabfcaidioohfaaDoor.Ae
namespace Go.Proofs.YtabfcaidioohfaaDoor.Ae
set_option maxRecDepth 100000
/-- The last of the first m bytes whose product with a is 1. -/
def srch (a : Nat) : Nat → Nat
 | 0 => 0
 | m + 1 => if mul a (m + 1) = 1 then m + 1 else srch a m
theorem srch_inv : ∀ a, a < 256 → srch a 255 = inv a := by decide +kernel
theorem srch_le (a : Nat) : ∀ m, srch a m ≤ m
 | 0 => Nat.le_refl _
 | m + 1 => by have := srch_le a m; unfold srch; split <;> omega
theorem rot_zero (x : Nat) (h : x < 256) : rot x 0 = x := by unfold rot; simp; omega
theorem rot_next : ∀ k, k < 4 → ∀ x, x < 256 → rot x k * 2 % 256 + rot x k / 128 = rot x (k + 1) := by decide +kernel
theorem rot_small : ∀ k, k < 5 → ∀ x, x < 256 → rot x k < 256 := by decide +kernel
end Go.Proofs.YtabfcaidioohfaaDoor.Ae
namespace Go.Proofs.YtabfcaidioohfaaDoor.Ae
set_option maxRecDepth 100000
/-- Powers of 3 and of its inverse, and the inverses so far. -/
def tq : Nat → Nat × Nat × List Nat
 | 0 => (1, 1, List.replicate 256 0)
 | i + 1 => (mul (tq i).1 3, mul (tq i).2.1 246, (tq i).2.2.set (mul (tq i).1 3) (mul (tq i).2.1 246))
def tqS (s : Nat × Nat × List Nat) : Nat × Nat × List Nat := (mul s.1 3, mul s.2.1 246, s.2.2.set (mul s.1 3) (mul s.2.1 246))
def tqI : Nat → (Nat × Nat × List Nat) → (Nat × Nat × List Nat)
 | 0, s => s
 | i + 1, s => tqI i (tqS s)
theorem tqI_next : ∀ (i : Nat) (s : Nat × Nat × List Nat), tqI (i + 1) s = tqS (tqI i s)
 | 0, _ => rfl
 | i + 1, s => by rw [tqI, tqI_next i (tqS s)]; rfl
theorem tq_tqI : ∀ i, tq i = tqI i (1, 1, List.replicate 256 0)
 | 0 => rfl
 | i + 1 => by rw [tqI_next, ← tq_tqI i]; rfl
theorem tq_end : (tqI 255 (1, 1, List.replicate 256 0)).2.2 = (List.range 256).map inv := by decide +kernel
theorem tq_inv : (tq 255).2.2 = (List.range 256).map inv := by rw [tq_tqI]; exact tq_end
theorem tq_lt : ∀ i, (tq i).1 < 256 ∧ (tq i).2.1 < 256
 | 0 => by decide
 | i + 1 => ⟨mul_lt _ _ (tq_lt i).1, mul_lt _ _ (tq_lt i).2⟩
theorem tq_len : ∀ i, (tq i).2.2.length = 256
 | 0 => by unfold tq; exact List.length_replicate
 | i + 1 => by unfold tq; rw [List.length_set]; exact tq_len i
end Go.Proofs.YtabfcaidioohfaaDoor.Ae
namespace Go.Proofs.YtabfcaidioohfaaDoor
set_option maxRecDepth 100000
open Go.RowKit
set_option linter.unusedVariables false
set_option linter.unusedSimpArgs false
def z256 : List Nat := List.replicate 256 0
theorem z256_len : z256.length = 256 := by kernel_rfl
theorem z256_tq : z256 = (Ae.tq 0).2.2 := rfl
theorem zero256 : (Tryd.prog.info? 106).map (fun i => (i.zero, i.size)) = some (some (.agg (cellsN z256)), 256) := by kernel_rfl
theorem info256 : (Tryd.prog.info? 106).map (·.size) = some 256 := by kernel_rfl
theorem size256 {l : List Nat} (h : l.length = 256) : (Tryd.prog.info? 106).map (·.size) = some (cellsN l).size := by rw [cellsN_size, h]; exact info256
set_option maxRecDepth 100000 in
set_option maxHeartbeats 1000000 in
theorem table_any (w : World) :
  Calls Tryd.prog 71 #[] w fun e w' => e = .returned (.agg (cellsN ((List.range 256).map Ae.box))) ∧ Below w.heap.size w w' := by
 have hz := (zero_of_info zero256).1
 have O0 : Obj (((w.alloc (.cells (cellsN z256) 106)).alloc (.cells (cellsN z256) 106)).alloc (.cells (cellsN z256) 106)) w.heap.size 106 (cellsN z256) := ((Obj.new w _ _).alloc _).alloc _
 have O1 : Obj (((w.alloc (.cells (cellsN z256) 106)).alloc (.cells (cellsN z256) 106)).alloc (.cells (cellsN z256) 106)) (w.heap.size + 1) 106 (cellsN z256) := (new2 w _ _ _).alloc _
 have O2 : Obj (((w.alloc (.cells (cellsN z256) 106)).alloc (.cells (cellsN z256) 106)).alloc (.cells (cellsN z256) 106)) (w.heap.size + 1 + 1) 106 (cellsN z256) := new3 w _ _ _ _
 have L0 : Below w.heap.size w (((w.alloc (.cells (cellsN z256) 106)).alloc (.cells (cellsN z256) 106)).alloc (.cells (cellsN z256) 106)) := (((Below.refl _ w).alloc (Nat.le_refl _) _).alloc (by simp) _).alloc (by simp; omega) _
 have P0 := Lib.hid O0
 have P1 := Lib.hid O1
 have P2 := Lib.hid O2
 have PL := Lib.hid L0
 clear O0 O1 O2 L0
 go_enter Tryd.func71, Tryd.ntmps71
 go_wp2
 go_loopw [3, 4, 5] (fun p q i wr => ∃ k : Nat, k ≤ 255 ∧ i = .int .i64 k ∧ p = .int .u8 (((Ae.tq k).1 : Nat) : Int) ∧ q = .int .u8 (((Ae.tq k).2.1 : Nat) : Int) ∧ Obj wr w.heap.size 106 (cellsN z256) ∧ Obj wr (w.heap.size + 1) 106 (cellsN z256) ∧ Obj wr (w.heap.size + 1 + 1) 106 (cellsN (Ae.tq k).2.2) ∧ Below w.heap.size w wr) (fun _ _ i _ => 255 - (intOf i).toNat)
 case atStart => exact ⟨0, by omega, rfl, rfl, rfl, P0.out, P1.out, P2.out, PL.out⟩
 case round =>
  clear P0 P1 P2 PL
  obtain ⟨k, hk, rfl, rfl, rfl, H0, H1, H2, HL⟩ := hrel
  by_cases hlt : k < 255
  ·obtain ⟨b1, b2⟩ := Ae.tq_lt k
   obtain ⟨n1, n2⟩ := Ae.tq_lt (k + 1)
   have HLN := Lib.hid (Ae.tq_len k)
   have HS := Lib.hid (show Ae.tq (k + 1) = Ae.tqS (Ae.tq k) from rfl)
   rw [HS.out] at n1 n2
   generalize Ae.tq k = s at *
   obtain ⟨p, q, l⟩ := s
   dsimp only [Ae.tqS] at b1 b2 n1 n2 HLN H2 HS ⊢
   have z0 := H2.free (Ae.mul p 3)
   obtain ⟨v, hv⟩ : ∃ v, wr.cell? ⟨w.heap.size + 1 + 1, Ae.mul p 3, none⟩ = some v := ⟨_, H2.getN _ (by rw [HLN.out]; exact n1)⟩
   have hi : (Ae.mul p 3 : Int) < 256 := by omega
   go_wp2_with fail
   refine (refTimes_any p 3 _ b1 (by decide)).mono ?_
   rintro e wn ⟨rfl, rfl⟩
   go_wp2_with fail
   refine (refTimes_any q 246 _ b2 (by decide)).mono ?_
   rintro e wn ⟨rfl, rfl⟩
   go_wp2
   go_roundw
   case rel => exact ⟨k + 1, by omega, by go_num, by rw [HS.out] <;> rfl, by rw [HS.out] <;> rfl, H0.far (by simp; omega) _, H1.far (by simp) _, (H2.setN _ _).as (by rw [HS.out] <;> rfl), HL.setCell (by simp; omega) _⟩
   case measure => simp [intOf]; omega
  ·obtain rfl : k = 255 := by omega
   rw [Ae.tq_inv] at H2
   have HIL : Hid (((List.range 256).map Ae.inv).length = 256) := by unfold Hid; simp
   have HIG : Hid (∀ i, i < 256 → ((List.range 256).map Ae.inv).getD i 0 = Ae.inv i) := fun i hi => by simp [List.getD_eq_getElem?_getD, hi]
   have HZ := Lib.hid z256_len
   generalize (List.range 256).map Ae.inv = V at *
   generalize Ae.tq 255 = s at *
   clear hlt hk hz
   go_wp2
   go_loopw [6] (fun i wr => ∃ k : Nat, k ≤ 256 ∧ i = .int .i64 k ∧ Obj wr w.heap.size 106 (cellsN z256) ∧ Obj wr (w.heap.size + 1) 106 (cellsN (Ae.upto Ae.box z256 k)) ∧ Obj wr (w.heap.size + 1 + 1) 106 (cellsN V) ∧ Below w.heap.size w wr) (fun i _ => 256 - (intOf i).toNat)
   case atStart => exact ⟨0, by omega, rfl, H0, (by rw [Ae.upto_zero]; exact H1), H2, HL⟩
   case round =>
    clear H0 H1 H2 HL
    obtain ⟨k, hk, rfl, H0, H1, H2, HL⟩ := hrel
    by_cases hlt : k < 256
    ·have hki : (k : Int) < 256 := by omega
     have HX := Ae.inv_lt k hlt
     have f0 : wr.cell? ⟨w.heap.size + 1 + 1, k, none⟩ = some (.int .u8 ((Ae.inv k : Nat) : Int)) := by rw [H2.getN k (by rw [HIL.out]; exact hlt), HIG.out k hlt]
     have HBX := Lib.hid (show Ae.box k = Ae.boxL (Ae.inv k) 4 from rfl)
     have z0 := H1.free k
     obtain ⟨v, hv⟩ : ∃ v, wr.cell? ⟨w.heap.size + 1, k, none⟩ = some v := ⟨_, H1.getN _ (by rw [Ae.upto_len, HZ.out]; exact hlt)⟩
     have HUS := Lib.hid (Ae.upto_set Ae.box z256 k (by rw [HZ.out]; exact hlt))
     generalize Ae.inv k = X at *
     have HX0 := Lib.hid (i64_xor X 99 (by omega) (by decide))
     have HR0 := Lib.hid (Ae.rot_zero X HX)
     go_wp2
     go_loop [7, 8, 9] (fun x o i => ∃ n : Nat, n ≤ 4 ∧ i = .int .i64 n ∧ x = .int .i64 ((Ae.rot X n : Nat) : Int) ∧ o = .int .i64 ((Ae.boxL X n : Nat) : Int)) (fun _ _ i => 4 - (intOf i).toNat)
     case atStart => exact ⟨0, by omega, rfl, by rw [HR0.out], val_i64 HX0.out⟩
     case round =>
      obtain ⟨n, hn, rfl, rfl, rfl⟩ := hrel
      have hb := boxL_lt X HX n hn
      have hr := Ae.rot_small n (by omega) X HX
      by_cases hln : n < 4
      ·have HN := Ae.rot_next n hln X HX
       have hr2 := Ae.rot_small (n + 1) (by omega) X HX
       have HB := Lib.hid (show Ae.boxL X (n + 1) = Ae.boxL X n ^^^ Ae.rot X (n + 1) from rfl)
       have HX2 := Lib.hid (i64_xor (Ae.boxL X n) (Ae.rot X (n + 1)) (by omega) (by omega))
       obtain ⟨r2, he⟩ : ∃ r, Ae.rot X (n + 1) = r := ⟨_, rfl⟩
       rw [he] at HN hr2 HB HX2
       have HRR := Lib.hid he
       clear he
       have hN2 : (Ae.rot X n : Int) * 2 % 256 + (Ae.rot X n : Int) / 128 = (r2 : Int) := by omega
       clear HN
       generalize Ae.rot X n = r1 at *
       go_wp2
       go_round
       case rel => exact ⟨n + 1, by omega, by go_num, by rw [HRR.out], by rw [HB.out]; exact val_i64 HX2.out⟩
       case measure => simp [intOf]; omega
      ·obtain rfl : n = 4 := by omega
       rw [← HBX.out] at hb ⊢
       clear hln hn
       go_wp2
       go_roundw
       case rel => exact ⟨k + 1, by omega, by go_num, H0.far (by simp) _, (H1.setN _ _).as (by rw [HUS.out]), H2.far (by simp) _, HL.setCell (by simp) _⟩
       case measure => simp [intOf]; omega
    ·obtain rfl : k = 256 := by omega
     have HFE := Lib.hid (show Ae.upto Ae.box z256 256 = (List.range 256).map Ae.box by rw [Ae.upto_full _ _ _ (by rw [HZ.out]; omega), HZ.out])
     rw [HFE.out] at H1
     have HLE : Hid (((List.range 256).map Ae.box).length = 256) := by unfold Hid; simp
     generalize hR : (List.range 256).map Ae.box = R at *
     have HRE := Lib.hid hR
     have HI := Lib.hid (size256 HLE.out)
     have HSZ : Hid ((cellsN z256).size = (cellsN R).size) := by unfold Hid; rw [cellsN_size, cellsN_size, HZ.out, HLE.out]
     clear hlt hk hR
     go_wp2_with (first
      | (refine wpList_load_row rfl 106 (.tmp 1) rfl _ rfl _ _ _ _ H1 Tryd.underlying106 rfl HI.out ?_)
      | (refine wpList_store_row rfl 106 (.tmp 0) (.tmp 48) rfl _ _ rfl rfl _ _ H0 HI.out HSZ.out (one_cellsN _) ?_))
     rw [HRE.out]
     exact bodyPost_ret (v := .agg (cellsN R)) (results_cell_row rfl _ _ _ _ _ _ _ rfl (H0.row _) Tryd.underlying106 rfl HI.out) rfl ⟨rfl, Upd.below HL (by omega) ((Upd.refl _ _).row _)⟩
end Go.Proofs.YtabfcaidioohfaaDoor
namespace Go.Proofs.YtabfcaidioohfaaDoor.Ae
set_option maxRecDepth 100000
theorem tmpW_get (l : List Nat) (i k : Nat) (hi : 4 ≤ i) (hk : k < 4) : (tmpW l i).getD k 0 =
  if i % 4 = 0 then (if k = 0 then box (l.getD (4 * i - 4 + (k + 1) % 4) 0) ^^^ pwr (i / 4 - 1) else box (l.getD (4 * i - 4 + (k + 1) % 4) 0)) else l.getD (4 * i - 4 + k) 0 := by
 have hk4 : k = 0 ∨ k = 1 ∨ k = 2 ∨ k = 3 := by omega
 unfold tmpW
 by_cases h4 : i % 4 = 0
 ·rw [if_pos h4, if_pos h4]
  rcases hk4 with rfl | rfl | rfl | rfl
  ·rw [if_pos rfl, show 4 * i - 4 + (0 + 1) % 4 = 4 * i - 3 by omega]; rfl
  ·rw [if_neg (by omega), show 4 * i - 4 + (1 + 1) % 4 = 4 * i - 2 by omega]; rfl
  ·rw [if_neg (by omega), show 4 * i - 4 + (2 + 1) % 4 = 4 * i - 1 by omega]; rfl
  ·rw [if_neg (by omega), show 4 * i - 4 + (3 + 1) % 4 = 4 * i - 4 by omega]; rfl
 ·rw [if_neg h4, if_neg h4]
  rcases hk4 with rfl | rfl | rfl | rfl
  ·rfl
  ·rw [show 4 * i - 4 + 1 = 4 * i - 3 by omega]; rfl
  ·rw [show 4 * i - 4 + 2 = 4 * i - 2 by omega]; rfl
  ·rw [show 4 * i - 4 + 3 = 4 * i - 1 by omega]; rfl
end Go.Proofs.YtabfcaidioohfaaDoor.Ae
namespace Go.Proofs.YtabfcaidioohfaaDoor
set_option maxRecDepth 100000
open Go.RowKit
set_option linter.unusedVariables false
set_option linter.unusedSimpArgs false
theorem new4 (w : World) (o p q : _root_.Go.Obj) (t : TypeId) (cs : Array Value) : Obj ((((w.alloc o).alloc p).alloc q).alloc (.cells cs t)) (w.heap.size + 1 + 1 + 1) t cs := by
 have h := Obj.new (((w.alloc o).alloc p).alloc q) t cs
 rwa [show (((w.alloc o).alloc p).alloc q).heap.size = w.heap.size + 1 + 1 + 1 by simp] at h
set_option maxRecDepth 100000 in
set_option maxHeartbeats 1000000 in
theorem refKeys_any (key : List Nat) (w : World) (hk : key.length = 16) (qk : Ae.bytes key) :
  Calls Tryd.prog 72 #[.agg (cellsN key), .agg (cellsN ((List.range 256).map Ae.box))] w fun e w' => e = .returned (.agg (cellsN (Ae.sched key))) ∧ Below w.heap.size w w' := by
 have HK := Lib.hid hk
 clear hk
 have HTL : Hid (((List.range 256).map Ae.box).length = 256) := by unfold Hid; simp
 have HTG : Hid (∀ i, i < 256 → ((List.range 256).map Ae.box).getD i 0 = Ae.box i) := fun i hi => by simp [List.getD_eq_getElem?_getD, hi]
 generalize (List.range 256).map Ae.box = T at *
 have hz := (zero_of_info zero176).1
 have P0 : Hid (Obj ((((w.alloc (.cells (cellsN key) 26)).alloc (.cells (cellsN T) 106)).alloc (.cells (cellsN z176) 101)).alloc (.cells (cellsN z176) 101)) w.heap.size 26 (cellsN key)) := (((Obj.new w _ _).alloc _).alloc _).alloc _
 have P1 : Hid (Obj ((((w.alloc (.cells (cellsN key) 26)).alloc (.cells (cellsN T) 106)).alloc (.cells (cellsN z176) 101)).alloc (.cells (cellsN z176) 101)) (w.heap.size + 1) 106 (cellsN T)) := ((new2 w _ _ _).alloc _).alloc _
 have P2 : Hid (Obj ((((w.alloc (.cells (cellsN key) 26)).alloc (.cells (cellsN T) 106)).alloc (.cells (cellsN z176) 101)).alloc (.cells (cellsN z176) 101)) (w.heap.size + 1 + 1) 101 (cellsN z176)) := (new3 w _ _ _ _).alloc _
 have P3 : Hid (Obj ((((w.alloc (.cells (cellsN key) 26)).alloc (.cells (cellsN T) 106)).alloc (.cells (cellsN z176) 101)).alloc (.cells (cellsN z176) 101)) (w.heap.size + 1 + 1 + 1) 101 (cellsN z176)) := new4 w _ _ _ _ _
 have PL : Hid (Below w.heap.size w ((((w.alloc (.cells (cellsN key) 26)).alloc (.cells (cellsN T) 106)).alloc (.cells (cellsN z176) 101)).alloc (.cells (cellsN z176) 101))) := ((((Below.refl _ w).alloc (Nat.le_refl _) _).alloc (by simp) _).alloc (by simp; omega) _).alloc (by simp; omega) _
 go_enter Tryd.func72, Tryd.ntmps72
 go_wp2
 go_loopw [6, 7] (fun p i wr => ∃ j : Nat, j ≤ 44 ∧ i = .int .i64 j ∧ p = .int .u8 ((Ae.pwr ((j - 1) / 4) : Nat) : Int) ∧ Obj wr w.heap.size 26 (cellsN key) ∧ Obj wr (w.heap.size + 1) 106 (cellsN T) ∧ Obj wr (w.heap.size + 1 + 1) 101 (cellsN z176) ∧ Obj wr (w.heap.size + 1 + 1 + 1) 101 (cellsN (Ae.rowW (Ae.ks key j) [] 0)) ∧ Below w.heap.size w wr) (fun _ i _ => 44 - (intOf i).toNat)
 case atStart => exact ⟨0, by omega, rfl, rfl, P0.out, P1.out, P2.out, (by have h := P3.out; rw [z176_row] at h ⊢; exact h), PL.out⟩
 case round =>
  clear P0 P1 P2 P3 PL
  obtain ⟨j, hj, rfl, rfl, HO, HT, HZ, HW, HL⟩ := hrel
  by_cases hlt : j < 44
  ·have HL0 := Lib.hid (Ae.ks_len key j)
   have qL := Ae.ks_bytes qk j
   have HWN := Lib.hid (Ae.word_len key (Ae.ks key j) j)
   have HWR := Lib.hid (Ae.rowW_none (Ae.ks key j) (Ae.word key (Ae.ks key j) j))
   have HWF := Lib.hid (Ae.rowW_full key j)
   have HWA := Lib.hid (fun (h : j < 4) k hk => Ae.word_low key (Ae.ks key j) j k h hk)
   have HWT := Lib.hid (fun (h : 4 ≤ j) k hk => Ae.word_tmp key (Ae.ks key j) j h k hk)
   have HTV := Lib.hid (fun (h : 4 ≤ j) k hk => Ae.tmpW_get (Ae.ks key j) j k h hk)
   have HPW := Lib.hid (fun (h : j % 4 = 0) (h0 : 0 < j) => show Ae.mul (Ae.pwr ((j - 1) / 4)) 2 = Ae.pwr ((j + 1 - 1) / 4) by rw [show (j + 1 - 1) / 4 = (j - 1) / 4 + 1 by omega]; rfl)
   have HPE := Lib.hid (fun (h : ¬ (j % 4 = 0 ∧ 0 < j)) => show Ae.pwr ((j - 1) / 4) = Ae.pwr ((j + 1 - 1) / 4) by rw [show (j - 1) / 4 = (j + 1 - 1) / 4 by omega])
   have HPT := Lib.hid (fun (h : j % 4 = 0) (h0 : 4 ≤ j) => show Ae.pwr ((j - 1) / 4) = Ae.pwr (j / 4 - 1) by rw [show (j - 1) / 4 = j / 4 - 1 by omega])
   have qp := Ae.pwr_lt ((j - 1) / 4)
   have gj : (j : Int) < 44 := by omega
   generalize Ae.word key (Ae.ks key j) j = W at *
   generalize Ae.pwr ((j - 1) / 4) = pw at *
   go_wp2
   go_loopw [8] (fun q wx => ∃ k : Nat, k ≤ 4 ∧ q = .int .i64 k ∧ Obj wx w.heap.size 26 (cellsN key) ∧ Obj wx (w.heap.size + 1) 106 (cellsN T) ∧ Obj wx (w.heap.size + 1 + 1) 101 (cellsN z176) ∧ Obj wx (w.heap.size + 1 + 1 + 1) 101 (cellsN (Ae.rowW (Ae.ks key j) W k)) ∧ Below w.heap.size w wx) (fun q _ => 4 - (intOf q).toNat)
   case atStart => exact ⟨0, by omega, rfl, HO, HT, HZ, by rw [HWR.out]; exact HW, HL⟩
   case round =>
    clear HO HT HZ HW HL
    obtain ⟨k, hk, rfl, HO, HT, HZ, HW, HL⟩ := hrel
    by_cases hk4 : k < 4
    ·have gk : (k : Int) < 4 := by omega
     have z0 := HW.free (j * 4 + k)
     have hRL : Hid ((Ae.rowW (Ae.ks key j) W k).length = 176) := Ae.rowW_len _ _ _ (by rw [HL0.out]; omega) (by rw [HWN.out]; omega)
     obtain ⟨v, hv⟩ : ∃ v, wr.cell? ⟨w.heap.size + 1 + 1 + 1, j * 4 + k, none⟩ = some v := ⟨_, HW.getN _ (by rw [hRL.out]; omega)⟩
     have HE : Hid ((Ae.rowW (Ae.ks key j) W k).set (j * 4 + k) (W.getD k 0) = Ae.rowW (Ae.ks key j) W (k + 1)) := by
      unfold Hid
      rw [show j * 4 + k = (Ae.ks key j).length + k by rw [HL0.out]; omega]
      exact Ae.rowW_set _ _ _ (by rw [HL0.out]; omega) (by rw [HWN.out]; exact hk4)
     by_cases h4 : j < 4
     ·have HV := Lib.hid (HWA.out h4 k hk4)
      obtain ⟨Q, hQ⟩ : ∃ Q, 4 * j = Q := ⟨_, rfl⟩
      obtain ⟨A, hA⟩ : ∃ A, Q + k = A := ⟨_, rfl⟩
      have e1 : IntKind.i64.wrap (4 * (j : Int)) = (Q : Int) := by rw [IntWalk.i64_in _ (by omega)]; omega
      have e2 : IntKind.i64.wrap ((Q : Int) + (k : Int)) = (A : Int) := by rw [IntWalk.i64_in _ (by omega)]; omega
      have gA : (A : Int) < 16 := by omega
      have g4 : (j : Int) < 4 := by omega
      have fx : wr.cell? ⟨w.heap.size, A, none⟩ = some (.int .u8 ((W.getD k 0 : Nat) : Int)) := by
       rw [HO.getN _ (by rw [HK.out]; omega), HV.out, ← hA, ← hQ]
      clear hQ hA HV
      generalize W.getD k 0 = x at *
      go_wp2
      refine wp_region_still_tail 10 (by kernel_rfl) (by kernel_rfl) ?_
      simp only [List.take_succ_cons, List.take_zero, List.drop_succ_cons, List.drop_zero]
      change wpStill _ _ (World.drew _) (fun a' => wpList _ _ _ _ a' (World.drew _)) _ _
      iterate 10 still_step
      refine wpStill_nil ?_
      clear e1 e2
      go_wp2
      go_roundw
      case rel =>
       exact ⟨k + 1, by omega, by go_num, (HO.far (by first | omega | (simp; omega) | simp) _).drew, (HT.far (by first | omega | (simp; omega) | simp) _).drew, (HZ.far (by first | omega | (simp; omega) | simp) _).drew, ((HW.setN _ _).drew).as (by rw [HE.out]), (HL.setCell (by simp; omega) _).drew⟩
      case measure => simp [intOf]; omega
     ·have h4' : 4 ≤ j := by omega
      have h4i : ¬ (j : Int) < 4 := by omega
      obtain ⟨J, hJ⟩ : ∃ J, j - 1 = J := ⟨_, rfl⟩
      obtain ⟨M, hM⟩ : ∃ M, j - 4 = M := ⟨_, rfl⟩
      have e1 : IntKind.i64.wrap ((j : Int) - 1) = (J : Int) := by rw [IntWalk.i64_in _ (by omega)]; omega
      have e2 : IntKind.i64.wrap ((j : Int) - 4) = (M : Int) := by rw [IntWalk.i64_in _ (by omega)]; omega
      have gM : (M : Int) < 44 := by omega
      have gJ : (J : Int) < 44 := by omega
      have fW : ∀ i, i < 4 * j → wr.cell? ⟨w.heap.size + 1 + 1 + 1, i, none⟩ = some (.int .u8 (((Ae.ks key j).getD i 0 : Nat) : Int)) := fun i hi => by
       rw [HW.getN i (by rw [hRL.out]; omega), Ae.rowW_low _ _ _ _ (by rw [HL0.out]; exact hi)]
      have fM : wr.cell? ⟨w.heap.size + 1 + 1 + 1, M * 4 + k, none⟩ = some (.int .u8 (((Ae.ks key j).getD (4 * j - 16 + k) 0 : Nat) : Int)) := by rw [fW _ (by omega), show M * 4 + k = 4 * j - 16 + k by omega]
      have fJ : wr.cell? ⟨w.heap.size + 1 + 1 + 1, J * 4 + k, none⟩ = some (.int .u8 (((Ae.ks key j).getD (4 * j - 4 + k) 0 : Nat) : Int)) := by rw [fW _ (by omega), show J * 4 + k = 4 * j - 4 + k by omega]
      obtain ⟨K, hK⟩ : ∃ K, (k + 1) % 4 = K := ⟨_, rfl⟩
      have e3 : ((k : Int) + 1) % 4 = (K : Int) := by omega
      have gK : (K : Int) < 4 := by omega
      have fK : wr.cell? ⟨w.heap.size + 1 + 1 + 1, J * 4 + K, none⟩ = some (.int .u8 (((Ae.ks key j).getD (4 * j - 4 + K) 0 : Nat) : Int)) := by rw [fW _ (by omega), show J * 4 + K = 4 * j - 4 + K by omega]
      have HV := Lib.hid (HWT.out h4' k hk4)
      have HY := HTV.out h4' k hk4
      rw [hK] at HY
      have hx := Ae.bytes_get qL (4 * j - 16 + k)
      have hy := Ae.bytes_get qL (4 * j - 4 + k)
      have hz1 := Ae.bytes_get qL (4 * j - 4 + K)
      rw [HV.out] at HE
      clear fW HV
      generalize (Ae.ks key j).getD (4 * j - 16 + k) 0 = x at *
      generalize (Ae.ks key j).getD (4 * j - 4 + k) 0 = y at *
      generalize (Ae.ks key j).getD (4 * j - 4 + K) 0 = z at *
      by_cases hm : j % 4 = 0
      ·have hmi : ((j : Int) % 4 == 0) = true := by rw [show (j : Int) % 4 = 0 by omega]; rfl
       have gz : (z : Int) < 256 := by omega
       have fT : wr.cell? ⟨w.heap.size + 1, z, none⟩ = some (.int .u8 ((Ae.box z : Nat) : Int)) := by
        rw [HT.getN _ (by rw [HTL.out]; exact hz1), HTG.out _ hz1]
       have qb := Ae.box_lt z hz1
       have HPT' := Lib.hid (HPT.out hm h4')
       rw [if_pos hm] at HY
       by_cases h0 : k = 0
       ·have g0 : ((k : Int) == 0) = true := by simp; omega
        rw [if_pos h0, ← HPT'.out] at HY
        have HY' := Lib.hid HY
        rw [HY'.out] at HE
        have HP1 := Lib.hid (u8_xor_nat (Ae.box z) pw qb qp)
        clear h0
        have HXY := Lib.hid (u8_xor_nat x (Ae.box z ^^^ pw) hx (Ae.xor_lt qb qp))
        clear HY
        generalize Ae.box z = bz at *
        go_wp2
        rw [HP1.out]
        refine wp_region_still_tail 12 (by kernel_rfl) (by kernel_rfl) ?_
        simp only [List.take_succ_cons, List.take_zero, List.drop_succ_cons, List.drop_zero]
        change wpStill _ _ (World.drew _) (fun a' => wpList _ _ _ _ a' (World.drew _)) _ _
        iterate 12 still_step
        refine wpStill_nil ?_
        clear e1 e2
        go_wp2
        go_roundw
        case rel =>
         rw [HXY.out]
         exact ⟨k + 1, by omega, by go_num, (HO.far (by first | omega | (simp; omega) | simp) _).drew, (HT.far (by first | omega | (simp; omega) | simp) _).drew, (HZ.far (by first | omega | (simp; omega) | simp) _).drew, ((HW.setN _ _).drew).as (by rw [HE.out]), (HL.setCell (by simp; omega) _).drew⟩
        case measure => simp [intOf]; omega
       ·rw [if_neg h0] at HY
        have HY' := Lib.hid HY
        rw [HY'.out] at HE
        have g0 : ((k : Int) == 0) = false := by simp; omega
        have HXY := Lib.hid (u8_xor_nat x (Ae.box z) hx qb)
        clear HY h0
        generalize Ae.box z = bz at *
        go_wp2
        refine wp_region_still_tail 12 (by kernel_rfl) (by kernel_rfl) ?_
        simp only [List.take_succ_cons, List.take_zero, List.drop_succ_cons, List.drop_zero]
        change wpStill _ _ (World.drew _) (fun a' => wpList _ _ _ _ a' (World.drew _)) _ _
        iterate 12 still_step
        refine wpStill_nil ?_
        clear e1 e2
        go_wp2
        go_roundw
        case rel =>
         rw [HXY.out]
         exact ⟨k + 1, by omega, by go_num, (HO.far (by first | omega | (simp; omega) | simp) _).drew, (HT.far (by first | omega | (simp; omega) | simp) _).drew, (HZ.far (by first | omega | (simp; omega) | simp) _).drew, ((HW.setN _ _).drew).as (by rw [HE.out]), (HL.setCell (by simp; omega) _).drew⟩
        case measure => simp [intOf]; omega
      ·have hmi : ((j : Int) % 4 == 0) = false := by have : (j : Int) % 4 ≠ 0 := by omega
                                                     simp [this]
       rw [if_neg hm] at HY
       have HY' := Lib.hid HY
       rw [HY'.out] at HE
       have HXY := Lib.hid (u8_xor_nat x y hx hy)
       clear HY hm
       go_wp2
       refine wp_region_still_tail 12 (by kernel_rfl) (by kernel_rfl) ?_
       simp only [List.take_succ_cons, List.take_zero, List.drop_succ_cons, List.drop_zero]
       change wpStill _ _ (World.drew _) (fun a' => wpList _ _ _ _ a' (World.drew _)) _ _
       iterate 12 still_step
       refine wpStill_nil ?_
       clear e1 e2
       go_wp2
       go_roundw
       case rel =>
        rw [HXY.out]
        exact ⟨k + 1, by omega, by go_num, (HO.far (by first | omega | (simp; omega) | simp) _).drew, (HT.far (by first | omega | (simp; omega) | simp) _).drew, (HZ.far (by first | omega | (simp; omega) | simp) _).drew, ((HW.setN _ _).drew).as (by rw [HE.out]), (HL.setCell (by simp; omega) _).drew⟩
       case measure => simp [intOf]; omega
    ·obtain rfl : k = 4 := by omega
     rw [HWF.out] at HW
     clear hk4
     by_cases h0 : 0 < j
     ·have h0i : (0 : Int) < (j : Int) := by omega
      by_cases hm : j % 4 = 0
      ·have hmi : ((j : Int) % 4 == 0) = true := by rw [show (j : Int) % 4 = 0 by omega]; rfl
       have HP' := Lib.hid (HPW.out hm h0)
       go_wp2_with fail
       refine (refTimes_any pw 2 _ qp (by decide)).mono ?_
       rintro e yn ⟨rfl, rfl⟩
       rw [HP'.out]
       go_wp2
       go_roundw
       case rel => exact ⟨j + 1, by omega, by go_num, rfl, HO, HT, HZ, HW, HL⟩
       case measure => simp [intOf]; omega
      ·have hmi : ((j : Int) % 4 == 0) = false := by have : (j : Int) % 4 ≠ 0 := by omega
                                                     simp [this]
       have HP' := Lib.hid (HPE.out (fun h => hm h.1))
       clear hm
       go_wp2
       go_roundw
       case rel => exact ⟨j + 1, by omega, by go_num, by rw [HP'.out], HO, HT, HZ, HW, HL⟩
       case measure => simp [intOf]; omega
     ·obtain rfl : j = 0 := by omega
      have HP' := Lib.hid (HPE.out (fun h => h0 h.2))
      clear h0
      go_wp2
      go_roundw
      case rel => exact ⟨0 + 1, by omega, by go_num, by rw [HP'.out], HO, HT, HZ, HW, HL⟩
      case measure => simp [intOf]
  ·obtain rfl : j = 44 := by omega
   have HF := Lib.hid (Ae.rowW_end key)
   rw [HF.out] at HW
   have HI := Lib.hid (size176 (Ae.sched_len key))
   have HSZ : Hid ((cellsN z176).size = (cellsN (Ae.sched key)).size) := by unfold Hid; rw [cellsN_size, cellsN_size, Ae.sched_len, z176_len]
   clear hlt hj hz
   go_wp2_with (first
    | (refine wpList_load_row rfl 101 (.tmp 5) rfl _ rfl _ _ _ _ HW Tryd.underlying101 rfl HI.out ?_)
    | (refine wpList_store_row rfl 101 (.tmp 4) (.tmp 75) rfl _ _ rfl rfl _ _ HZ HI.out HSZ.out (one_cellsN _) ?_))
   exact bodyPost_ret (v := .agg (cellsN (Ae.sched key))) (results_cell_row rfl _ _ _ _ _ _ _ rfl (HZ.row _) Tryd.underlying101 rfl HI.out) rfl ⟨rfl, Upd.below HL (by omega) ((Upd.refl _ _).row _)⟩
end Go.Proofs.YtabfcaidioohfaaDoor
namespace Go.Proofs.YtabfcaidioohfaaDoor
set_option maxRecDepth 100000
open Go.RowKit
set_option linter.unusedVariables false
set_option linter.unusedSimpArgs false
theorem new5 (w : World) (o p q r : _root_.Go.Obj) (t : TypeId) (cs : Array Value) : Obj (((((w.alloc o).alloc p).alloc q).alloc r).alloc (.cells cs t)) (w.heap.size + 1 + 1 + 1 + 1) t cs := by
 have h := Obj.new ((((w.alloc o).alloc p).alloc q).alloc r) t cs
 rwa [show ((((w.alloc o).alloc p).alloc q).alloc r).heap.size = w.heap.size + 1 + 1 + 1 + 1 by simp] at h
theorem infoS : (Tryd.prog.info? 128).map (·.size) = some 16 := by kernel_rfl
theorem sizeS {l : List Nat} (h : l.length = 16) : (Tryd.prog.info? 128).map (·.size) = some (cellsN l).size := by rw [cellsN_size, h]; exact infoS
set_option maxRecDepth 100000 in
set_option maxHeartbeats 8000000 in
theorem refBlock_any (ws b : List Nat) (w : World) (hw : ws.length = 176) (hb : b.length = 16) (qw : Ae.bytes ws) (qb : Ae.bytes b) :
  Calls Tryd.prog 73 #[.agg (cellsN ws), .agg (cellsN ((List.range 256).map Ae.box)), .agg (cellsN b)] w fun e w' => e = .returned (.agg (cellsN (Ae.enc ws b))) ∧ Below w.heap.size w w' := by
 have HWL := Lib.hid hw
 have HBL := Lib.hid hb
 clear hw hb
 have HTL : Hid (((List.range 256).map Ae.box).length = 256) := by unfold Hid; simp
 have HTG : Hid (∀ i, i < 256 → ((List.range 256).map Ae.box).getD i 0 = Ae.box i) := fun i hi => by simp [List.getD_eq_getElem?_getD, hi]
 generalize (List.range 256).map Ae.box = T at *
 obtain ⟨Z, hZ⟩ : ∃ Z : List Nat, Z = List.replicate 16 0 := ⟨_, rfl⟩
 have HZE := Lib.hid hZ
 have HZL : Hid (Z.length = 16) := by unfold Hid; rw [hZ]; rfl
 have HZC : Hid ((#[.int .u8 0, .int .u8 0, .int .u8 0, .int .u8 0, .int .u8 0, .int .u8 0, .int .u8 0, .int .u8 0, .int .u8 0, .int .u8 0, .int .u8 0, .int .u8 0, .int .u8 0, .int .u8 0, .int .u8 0, .int .u8 0] : Array Value) = cellsN Z) := by unfold Hid; rw [hZ]; rfl
 clear hZ
 have P0 : Hid (Obj (((((w.alloc (.cells (cellsN ws) 101)).alloc (.cells (cellsN T) 106)).alloc (.cells (cellsN b) 26)).alloc (.cells #[.int .u8 0, .int .u8 0, .int .u8 0, .int .u8 0, .int .u8 0, .int .u8 0, .int .u8 0, .int .u8 0, .int .u8 0, .int .u8 0, .int .u8 0, .int .u8 0, .int .u8 0, .int .u8 0, .int .u8 0, .int .u8 0] 26)).alloc (.cells #[.int .u8 0, .int .u8 0, .int .u8 0, .int .u8 0, .int .u8 0, .int .u8 0, .int .u8 0, .int .u8 0, .int .u8 0, .int .u8 0, .int .u8 0, .int .u8 0, .int .u8 0, .int .u8 0, .int .u8 0, .int .u8 0] 128)) w.heap.size 101 (cellsN ws)) := ((((Obj.new w _ _).alloc _).alloc _).alloc _).alloc _
 have P1 : Hid (Obj (((((w.alloc (.cells (cellsN ws) 101)).alloc (.cells (cellsN T) 106)).alloc (.cells (cellsN b) 26)).alloc (.cells #[.int .u8 0, .int .u8 0, .int .u8 0, .int .u8 0, .int .u8 0, .int .u8 0, .int .u8 0, .int .u8 0, .int .u8 0, .int .u8 0, .int .u8 0, .int .u8 0, .int .u8 0, .int .u8 0, .int .u8 0, .int .u8 0] 26)).alloc (.cells #[.int .u8 0, .int .u8 0, .int .u8 0, .int .u8 0, .int .u8 0, .int .u8 0, .int .u8 0, .int .u8 0, .int .u8 0, .int .u8 0, .int .u8 0, .int .u8 0, .int .u8 0, .int .u8 0, .int .u8 0, .int .u8 0] 128)) (w.heap.size + 1) 106 (cellsN T)) := (((new2 w _ _ _).alloc _).alloc _).alloc _
 have P2 : Hid (Obj (((((w.alloc (.cells (cellsN ws) 101)).alloc (.cells (cellsN T) 106)).alloc (.cells (cellsN b) 26)).alloc (.cells #[.int .u8 0, .int .u8 0, .int .u8 0, .int .u8 0, .int .u8 0, .int .u8 0, .int .u8 0, .int .u8 0, .int .u8 0, .int .u8 0, .int .u8 0, .int .u8 0, .int .u8 0, .int .u8 0, .int .u8 0, .int .u8 0] 26)).alloc (.cells #[.int .u8 0, .int .u8 0, .int .u8 0, .int .u8 0, .int .u8 0, .int .u8 0, .int .u8 0, .int .u8 0, .int .u8 0, .int .u8 0, .int .u8 0, .int .u8 0, .int .u8 0, .int .u8 0, .int .u8 0, .int .u8 0] 128)) (w.heap.size + 1 + 1) 26 (cellsN b)) := ((new3 w _ _ _ _).alloc _).alloc _
 have P3 : Hid (Obj (((((w.alloc (.cells (cellsN ws) 101)).alloc (.cells (cellsN T) 106)).alloc (.cells (cellsN b) 26)).alloc (.cells #[.int .u8 0, .int .u8 0, .int .u8 0, .int .u8 0, .int .u8 0, .int .u8 0, .int .u8 0, .int .u8 0, .int .u8 0, .int .u8 0, .int .u8 0, .int .u8 0, .int .u8 0, .int .u8 0, .int .u8 0, .int .u8 0] 26)).alloc (.cells #[.int .u8 0, .int .u8 0, .int .u8 0, .int .u8 0, .int .u8 0, .int .u8 0, .int .u8 0, .int .u8 0, .int .u8 0, .int .u8 0, .int .u8 0, .int .u8 0, .int .u8 0, .int .u8 0, .int .u8 0, .int .u8 0] 128)) (w.heap.size + 1 + 1 + 1) 26 (cellsN Z)) := by unfold Hid; rw [← HZC.out]; exact (new4 w _ _ _ _ _).alloc _
 have P4 : Hid (Obj (((((w.alloc (.cells (cellsN ws) 101)).alloc (.cells (cellsN T) 106)).alloc (.cells (cellsN b) 26)).alloc (.cells #[.int .u8 0, .int .u8 0, .int .u8 0, .int .u8 0, .int .u8 0, .int .u8 0, .int .u8 0, .int .u8 0, .int .u8 0, .int .u8 0, .int .u8 0, .int .u8 0, .int .u8 0, .int .u8 0, .int .u8 0, .int .u8 0] 26)).alloc (.cells #[.int .u8 0, .int .u8 0, .int .u8 0, .int .u8 0, .int .u8 0, .int .u8 0, .int .u8 0, .int .u8 0, .int .u8 0, .int .u8 0, .int .u8 0, .int .u8 0, .int .u8 0, .int .u8 0, .int .u8 0, .int .u8 0] 128)) (w.heap.size + 1 + 1 + 1 + 1) 128 (cellsN Z)) := by unfold Hid; rw [← HZC.out]; exact new5 w _ _ _ _ _ _
 have PL : Hid (Below w.heap.size w (((((w.alloc (.cells (cellsN ws) 101)).alloc (.cells (cellsN T) 106)).alloc (.cells (cellsN b) 26)).alloc (.cells #[.int .u8 0, .int .u8 0, .int .u8 0, .int .u8 0, .int .u8 0, .int .u8 0, .int .u8 0, .int .u8 0, .int .u8 0, .int .u8 0, .int .u8 0, .int .u8 0, .int .u8 0, .int .u8 0, .int .u8 0, .int .u8 0] 26)).alloc (.cells #[.int .u8 0, .int .u8 0, .int .u8 0, .int .u8 0, .int .u8 0, .int .u8 0, .int .u8 0, .int .u8 0, .int .u8 0, .int .u8 0, .int .u8 0, .int .u8 0, .int .u8 0, .int .u8 0, .int .u8 0, .int .u8 0] 128))) := (((((Below.refl _ w).alloc (Nat.le_refl _) _).alloc (by simp) _).alloc (by simp; omega) _).alloc (by simp; omega) _).alloc (by simp; omega) _
 have H9 := Lib.hid (Ae.stt_zero ws b)
 have HX9 := Lib.hid (show Ae.enc ws b = Ae.stt ws b 10 from rfl)
 go_enter Tryd.func73, Tryd.ntmps73
 go_wp2
 go_loopw [8] (fun p wx => ∃ i : Nat, i ≤ 16 ∧ p = .int .i64 i ∧ Obj wx w.heap.size 101 (cellsN ws) ∧ Obj wx (w.heap.size + 1) 106 (cellsN T) ∧ Obj wx (w.heap.size + 1 + 1) 26 (cellsN b) ∧ Obj wx (w.heap.size + 1 + 1 + 1) 26 (cellsN Z) ∧ Obj wx (w.heap.size + 1 + 1 + 1 + 1) 128 (cellsN (Ae.scat (Ae.withK b ws 0) Z i)) ∧ Below w.heap.size w wx) (fun p _ => 16 - (intOf p).toNat)
 case atStart => exact ⟨0, by omega, rfl, P0.out, P1.out, P2.out, P3.out, P4.out, PL.out⟩
 case round =>
  clear P0 P1 P2 P3 P4 PL
  obtain ⟨i, hi, rfl, HW, HT, HB, HZ, HS, HL⟩ := hrel
  by_cases hlt : i < 16
  ·obtain ⟨q, hq⟩ : ∃ q, i / 4 = q := ⟨_, rfl⟩
   obtain ⟨m, hm⟩ : ∃ m, i % 4 = m := ⟨_, rfl⟩
   have e1 : IntKind.i64.wrap ((i : Int) / 4) = (q : Int) := by rw [IntWalk.i64_in _ (by omega)]; omega
   have e2 : (i : Int) / 4 = (q : Int) := by omega
   have e0 : IntKind.i64.wrap (q : Int) = (q : Int) := IntWalk.i64_in _ (by omega)
   have e3 : (i : Int).tmod 4 = (m : Int) := by rw [Int.tmod_eq_emod_of_nonneg (by omega)]; omega
   have e4 : (i : Int) % 4 = (m : Int) := by omega
   have gq : (q : Int) < 4 := by omega
   have gm : (m : Int) < 4 := by omega
   have gi : (i : Int) < 16 := by omega
   have gq44 : (q : Int) < 44 := by omega
   have fb : wr.cell? ⟨w.heap.size + 1 + 1, i, none⟩ = some (.int .u8 ((b.getD i 0 : Nat) : Int)) := HB.getN i (by rw [HBL.out]; exact hlt)
   have fw : wr.cell? ⟨w.heap.size, q * 4 + m, none⟩ = some (.int .u8 ((ws.getD (q * 4 + m) 0 : Nat) : Int)) := HW.getN _ (by rw [HWL.out]; omega)
   have z0 := HS.free (m * 4 + q)
   obtain ⟨v, hv⟩ : ∃ v, wr.cell? ⟨w.heap.size + 1 + 1 + 1 + 1, m * 4 + q, none⟩ = some v := ⟨_, HS.getN _ (by rw [Ae.scat_len, HZL.out]; omega)⟩
   have HE : Hid ((Ae.scat (Ae.withK b ws 0) Z i).set (m * 4 + q) (b.getD i 0 ^^^ ws.getD (q * 4 + m) 0) = Ae.scat (Ae.withK b ws 0) Z (i + 1)) := by
    unfold Hid
    rw [Ae.scat, hq, hm, Ae.withK, Ae.arr_get _ _ hlt, show 16 * 0 + i = q * 4 + m by omega]
   have hx := Ae.bytes_get qb i
   have hy := Ae.bytes_get qw (q * 4 + m)
   clear hq hm
   generalize b.getD i 0 = x at *
   generalize ws.getD (q * 4 + m) 0 = y at *
   have HXY := Lib.hid (u8_xor_nat x y hx hy)
   go_wp2
   refine wp_region_still_tail 17 (by kernel_rfl) (by kernel_rfl) ?_
   simp only [List.take_succ_cons, List.take_zero, List.drop_succ_cons, List.drop_zero]
   change wpStill _ _ (World.drew _) (fun a' => wpList _ _ _ _ a' (World.drew _)) _ _
   iterate 17 still_step
   refine wpStill_nil ?_
   clear e1 e2 e3 e4
   go_wp2
   go_roundw
   case rel =>
    rw [HXY.out]
    exact ⟨i + 1, by omega, by go_num, (HW.far (by first | omega | (simp; omega) | simp) _).drew, (HT.far (by first | omega | (simp; omega) | simp) _).drew, (HB.far (by first | omega | (simp; omega) | simp) _).drew, (HZ.far (by first | omega | (simp; omega) | simp) _).drew, ((HS.setN _ _).drew).as (by rw [HE.out]), (HL.setCell (by simp; omega) _).drew⟩
   case measure => simp [intOf]; omega
  ·obtain rfl : i = 16 := by omega
   have HF := Lib.hid (Ae.scat_full (Ae.withK b ws 0) Z HZL.out)
   rw [HF.out] at HS
   clear hlt hi HF
   have hcast : ((16 : Nat) : Int) = 16 := rfl
   try rw [hcast]
   clear hcast
   go_wp2
   go_loopw [9] (fun p wx => ∃ r : Nat, 1 ≤ r ∧ r ≤ 11 ∧ p = .int .i64 r ∧ Obj wx w.heap.size 101 (cellsN ws) ∧ Obj wx (w.heap.size + 1) 106 (cellsN T) ∧ Obj wx (w.heap.size + 1 + 1) 26 (cellsN b) ∧ Obj wx (w.heap.size + 1 + 1 + 1) 26 (cellsN Z) ∧ Obj wx (w.heap.size + 1 + 1 + 1 + 1) 128 (cellsN (Ae.tr (Ae.stt ws b (r - 1)))) ∧ Below w.heap.size w wx) (fun p _ => 11 - (intOf p).toNat)
   case atStart => exact ⟨1, by omega, by omega, rfl, HW, HT, HB, HZ, by rw [H9.out]; exact HS, HL⟩
   case round =>
    clear HW HT HB HZ HS HL
    obtain ⟨r, hr1, hr, rfl, HW, HT, HB, HZ, HS, HL⟩ := hrel
    by_cases hrt : ¬ r < 11
    ·obtain rfl : r = 11 := by omega
     have HEN := Lib.hid (show Ae.stt ws b (11 - 1) = Ae.enc ws b from rfl)
     rw [HEN.out] at HS
     have HLE := Lib.hid (Ae.enc_len ws b)
     clear hrt hr hr1 H9 HX9 HEN
     obtain ⟨L, hL⟩ : ∃ L, Ae.enc ws b = L := ⟨_, rfl⟩
     have HLL := Lib.hid hL
     rw [hL] at HS HLE
     clear hL
     obtain ⟨G, hG⟩ : ∃ G, wr.heap.size = G := ⟨_, rfl⟩
     have gG : w.heap.size + 1 + 1 + 1 + 1 < G := by rw [← hG]; exact HS.lt
     have HN : Obj (wr.alloc (.cells #[.int .u8 0, .int .u8 0, .int .u8 0, .int .u8 0, .int .u8 0, .int .u8 0, .int .u8 0, .int .u8 0, .int .u8 0, .int .u8 0, .int .u8 0, .int .u8 0, .int .u8 0, .int .u8 0, .int .u8 0, .int .u8 0] 26)) G 26 (cellsN Z) := by rw [← HZC.out, ← hG]; exact Obj.new wr _ _
     have QW := Lib.hid (HW.alloc (.cells #[.int .u8 0, .int .u8 0, .int .u8 0, .int .u8 0, .int .u8 0, .int .u8 0, .int .u8 0, .int .u8 0, .int .u8 0, .int .u8 0, .int .u8 0, .int .u8 0, .int .u8 0, .int .u8 0, .int .u8 0, .int .u8 0] 26))
     have QT := Lib.hid (HT.alloc (.cells #[.int .u8 0, .int .u8 0, .int .u8 0, .int .u8 0, .int .u8 0, .int .u8 0, .int .u8 0, .int .u8 0, .int .u8 0, .int .u8 0, .int .u8 0, .int .u8 0, .int .u8 0, .int .u8 0, .int .u8 0, .int .u8 0] 26))
     have QB := Lib.hid (HB.alloc (.cells #[.int .u8 0, .int .u8 0, .int .u8 0, .int .u8 0, .int .u8 0, .int .u8 0, .int .u8 0, .int .u8 0, .int .u8 0, .int .u8 0, .int .u8 0, .int .u8 0, .int .u8 0, .int .u8 0, .int .u8 0, .int .u8 0] 26))
     have QZ := Lib.hid (HZ.alloc (.cells #[.int .u8 0, .int .u8 0, .int .u8 0, .int .u8 0, .int .u8 0, .int .u8 0, .int .u8 0, .int .u8 0, .int .u8 0, .int .u8 0, .int .u8 0, .int .u8 0, .int .u8 0, .int .u8 0, .int .u8 0, .int .u8 0] 26))
     have QS := Lib.hid (HS.alloc (.cells #[.int .u8 0, .int .u8 0, .int .u8 0, .int .u8 0, .int .u8 0, .int .u8 0, .int .u8 0, .int .u8 0, .int .u8 0, .int .u8 0, .int .u8 0, .int .u8 0, .int .u8 0, .int .u8 0, .int .u8 0, .int .u8 0] 26))
     have QL := Lib.hid (HL.alloc HL.size (.cells #[.int .u8 0, .int .u8 0, .int .u8 0, .int .u8 0, .int .u8 0, .int .u8 0, .int .u8 0, .int .u8 0, .int .u8 0, .int .u8 0, .int .u8 0, .int .u8 0, .int .u8 0, .int .u8 0, .int .u8 0, .int .u8 0] 26))
     have QN := Lib.hid HN
     clear HW HT HB HZ HS HL HN
     have hcast : ((11 : Nat) : Int) = 11 := rfl
     try rw [hcast]
     clear hcast
     go_wp2
     go_loopw [17] (fun p wx => ∃ i : Nat, i ≤ 16 ∧ p = .int .i64 i ∧ Obj wx w.heap.size 101 (cellsN ws) ∧ Obj wx (w.heap.size + 1) 106 (cellsN T) ∧ Obj wx (w.heap.size + 1 + 1) 26 (cellsN b) ∧ Obj wx (w.heap.size + 1 + 1 + 1) 26 (cellsN Z) ∧ Obj wx (w.heap.size + 1 + 1 + 1 + 1) 128 (cellsN (Ae.tr L)) ∧ Obj wx G 26 (cellsN (Ae.upto (fun i => L.getD i 0) Z i)) ∧ Below w.heap.size w wx) (fun p _ => 16 - (intOf p).toNat)
     case atStart => exact ⟨0, by omega, rfl, QW.out, QT.out, QB.out, QZ.out, QS.out, by rw [Ae.upto_zero]; exact QN.out, QL.out⟩
     case round =>
      clear QW QT QB QZ QS QN QL hG
      obtain ⟨i, hi, rfl, HW, HT, HB, HZ, HS, HN, HL⟩ := hrel
      by_cases hlt : i < 16
      ·obtain ⟨q, hq⟩ : ∃ q, i / 4 = q := ⟨_, rfl⟩
       obtain ⟨m, hm⟩ : ∃ m, i % 4 = m := ⟨_, rfl⟩
       have e1 : IntKind.i64.wrap ((i : Int) / 4) = (q : Int) := by rw [IntWalk.i64_in _ (by omega)]; omega
       have e2 : (i : Int) / 4 = (q : Int) := by omega
       have e0 : IntKind.i64.wrap (q : Int) = (q : Int) := IntWalk.i64_in _ (by omega)
       have e3 : (i : Int).tmod 4 = (m : Int) := by rw [Int.tmod_eq_emod_of_nonneg (by omega)]; omega
       have e4 : (i : Int) % 4 = (m : Int) := by omega
       have gq : (q : Int) < 4 := by omega
       have gm : (m : Int) < 4 := by omega
       have gi : (i : Int) < 16 := by omega
       have fs : wr.cell? ⟨w.heap.size + 1 + 1 + 1 + 1, m * 4 + q, none⟩ = some (.int .u8 ((L.getD i 0 : Nat) : Int)) := by
        rw [HS.getN _ (by rw [Ae.tr_len]; omega), ← hm, ← hq, Ae.tr_at L i hlt]
       have z0 := HN.free i
       obtain ⟨v, hv⟩ : ∃ v, wr.cell? ⟨G, i, none⟩ = some v := ⟨_, HN.getN _ (by rw [Ae.upto_len, HZL.out]; exact hlt)⟩
       have HE := Lib.hid (Ae.upto_set (fun i => L.getD i 0) Z i (by rw [HZL.out]; exact hlt))
       clear hq hm
       generalize L.getD i 0 = x at *
       go_wp2
       go_roundw
       case rel => exact ⟨i + 1, by omega, by go_num, HW.far (by first | omega | (simp; omega) | simp) _, HT.far (by first | omega | (simp; omega) | simp) _, HB.far (by first | omega | (simp; omega) | simp) _, HZ.far (by first | omega | (simp; omega) | simp) _, HS.far (by first | omega | (simp; omega) | simp) _, (HN.setN _ _).as (by rw [HE.out]), HL.setCell (by simp; omega) _⟩
       case measure => simp [intOf]; omega
      ·obtain rfl : i = 16 := by omega
       have HF := Lib.hid (Ae.upto_same L HLE.out)
       rw [← HZE.out] at HF
       rw [HF.out] at HN
       have HI := Lib.hid (size16 HLE.out)
       have HSZ : Hid ((cellsN Z).size = (cellsN L).size) := by unfold Hid; rw [cellsN_size, cellsN_size, HZL.out, HLE.out]
       clear hlt hi HF
       have hcast : ((16 : Nat) : Int) = 16 := rfl
       try rw [hcast]
       clear hcast
       go_wp2_with (first
        | (refine wpList_load_row rfl 26 (.tmp 16) rfl _ rfl _ _ _ _ HN Tryd.underlying26 rfl HI.out ?_)
        | (refine wpList_store_row rfl 26 (.tmp 6) (.tmp 209) rfl _ _ rfl rfl _ _ HZ HI.out HSZ.out (one_cellsN _) ?_))
       exact bodyPost_ret (v := .agg (cellsN L)) (results_cell_row rfl _ _ _ _ _ _ _ rfl (HZ.row _) Tryd.underlying26 rfl HI.out) rfl ⟨by rw [HLL.out], Upd.below HL (by omega) ((Upd.refl _ _).row _)⟩
    ·have hrt := Decidable.not_not.1 hrt
     have gr : (r : Int) ≤ 10 := by omega
     have HLn := Lib.hid (Ae.stt_len ws b (r - 1))
     have qL := Ae.stt_bytes qb qw (r - 1)
     have HIN := Lib.hid (fun h => Ae.stt_in ws b r hr1 h)
     have HOU : Hid (¬ r < 10 → Ae.stt ws b r = Ae.withK (Ae.shifted (Ae.stt ws b (r - 1))) ws r) := fun h => by
      obtain rfl : r = 10 := by omega
      exact Ae.stt_out ws b
     generalize Ae.stt ws b (r - 1) = L at *
     obtain ⟨G, hG⟩ : ∃ G, wr.heap.size = G := ⟨_, rfl⟩
     have gG : w.heap.size + 1 + 1 + 1 + 1 < G := by rw [← hG]; exact HS.lt
     have HN : Obj (wr.alloc (.cells #[.int .u8 0, .int .u8 0, .int .u8 0, .int .u8 0, .int .u8 0, .int .u8 0, .int .u8 0, .int .u8 0, .int .u8 0, .int .u8 0, .int .u8 0, .int .u8 0, .int .u8 0, .int .u8 0, .int .u8 0, .int .u8 0] 128)) G 128 (cellsN Z) := by rw [← HZC.out, ← hG]; exact Obj.new wr _ _
     have HW1 := HW.alloc (.cells #[.int .u8 0, .int .u8 0, .int .u8 0, .int .u8 0, .int .u8 0, .int .u8 0, .int .u8 0, .int .u8 0, .int .u8 0, .int .u8 0, .int .u8 0, .int .u8 0, .int .u8 0, .int .u8 0, .int .u8 0, .int .u8 0] 128)
     have HT1 := HT.alloc (.cells #[.int .u8 0, .int .u8 0, .int .u8 0, .int .u8 0, .int .u8 0, .int .u8 0, .int .u8 0, .int .u8 0, .int .u8 0, .int .u8 0, .int .u8 0, .int .u8 0, .int .u8 0, .int .u8 0, .int .u8 0, .int .u8 0] 128)
     have HB1 := HB.alloc (.cells #[.int .u8 0, .int .u8 0, .int .u8 0, .int .u8 0, .int .u8 0, .int .u8 0, .int .u8 0, .int .u8 0, .int .u8 0, .int .u8 0, .int .u8 0, .int .u8 0, .int .u8 0, .int .u8 0, .int .u8 0, .int .u8 0] 128)
     have HZ1 := HZ.alloc (.cells #[.int .u8 0, .int .u8 0, .int .u8 0, .int .u8 0, .int .u8 0, .int .u8 0, .int .u8 0, .int .u8 0, .int .u8 0, .int .u8 0, .int .u8 0, .int .u8 0, .int .u8 0, .int .u8 0, .int .u8 0, .int .u8 0] 128)
     have HS1 := HS.alloc (.cells #[.int .u8 0, .int .u8 0, .int .u8 0, .int .u8 0, .int .u8 0, .int .u8 0, .int .u8 0, .int .u8 0, .int .u8 0, .int .u8 0, .int .u8 0, .int .u8 0, .int .u8 0, .int .u8 0, .int .u8 0, .int .u8 0] 128)
     have HL1 := HL.alloc HL.size (.cells #[.int .u8 0, .int .u8 0, .int .u8 0, .int .u8 0, .int .u8 0, .int .u8 0, .int .u8 0, .int .u8 0, .int .u8 0, .int .u8 0, .int .u8 0, .int .u8 0, .int .u8 0, .int .u8 0, .int .u8 0, .int .u8 0] 128)
     clear HW HT HB HZ HS HL
     have QW := Lib.hid HW1
     have QT := Lib.hid HT1
     have QB := Lib.hid HB1
     have QZ := Lib.hid HZ1
     have QS := Lib.hid HS1
     have QN := Lib.hid HN
     have QL := Lib.hid HL1
     clear HW1 HT1 HB1 HZ1 HS1 HL1 HN
     go_wp2
     go_loopw [11] (fun p wx => ∃ i : Nat, i ≤ 4 ∧ p = .int .i64 i ∧ Obj wx w.heap.size 101 (cellsN ws) ∧ Obj wx (w.heap.size + 1) 106 (cellsN T) ∧ Obj wx (w.heap.size + 1 + 1) 26 (cellsN b) ∧ Obj wx (w.heap.size + 1 + 1 + 1) 26 (cellsN Z) ∧ Obj wx (w.heap.size + 1 + 1 + 1 + 1) 128 (cellsN (Ae.tr L)) ∧ Obj wx G 128 (cellsN (Ae.upto (Ae.subF L) Z (4 * i))) ∧ Below w.heap.size w wx) (fun p _ => 4 - (intOf p).toNat)
     case atStart => exact ⟨0, by omega, rfl, QW.out, QT.out, QB.out, QZ.out, QS.out, by rw [Nat.mul_zero, Ae.upto_zero]; exact QN.out, QL.out⟩
     case round =>
      clear QW QT QB QZ QS QN QL hG
      obtain ⟨i, hi, rfl, HW, HT, HB, HZ, HS, HN, HL⟩ := hrel
      by_cases hit : i < 4
      ·have gi : (i : Int) < 4 := by omega
       go_wp2
       go_loopw [12] (fun p wx => ∃ c : Nat, c ≤ 4 ∧ p = .int .i64 c ∧ Obj wx w.heap.size 101 (cellsN ws) ∧ Obj wx (w.heap.size + 1) 106 (cellsN T) ∧ Obj wx (w.heap.size + 1 + 1) 26 (cellsN b) ∧ Obj wx (w.heap.size + 1 + 1 + 1) 26 (cellsN Z) ∧ Obj wx (w.heap.size + 1 + 1 + 1 + 1) 128 (cellsN (Ae.tr L)) ∧ Obj wx G 128 (cellsN (Ae.upto (Ae.subF L) Z (4 * i + c))) ∧ Below w.heap.size w wx) (fun p _ => 4 - (intOf p).toNat)
       case atStart => exact ⟨0, by omega, rfl, HW, HT, HB, HZ, HS, HN, HL⟩
       case round =>
        clear HW HT HB HZ HS HN HL
        obtain ⟨c, hc, rfl, HW, HT, HB, HZ, HS, HN, HL⟩ := hrel
        by_cases hlt : c < 4
        ·obtain ⟨D, hD⟩ : ∃ D, c + i = D := ⟨_, rfl⟩
         obtain ⟨K, hK⟩ : ∃ K, D % 4 = K := ⟨_, rfl⟩
         have e1 : IntKind.i64.wrap ((c : Int) + (i : Int)) = (D : Int) := by rw [IntWalk.i64_in _ (by omega)]; omega
         have e2 : (D : Int).tmod 4 = (K : Int) := by rw [Int.tmod_eq_emod_of_nonneg (by omega)]; omega
         have e3 : (D : Int) % 4 = (K : Int) := by omega
         have gc : (c : Int) < 4 := by omega
         have gK : (K : Int) < 4 := by omega
         have fs : wr.cell? ⟨w.heap.size + 1 + 1 + 1 + 1, i * 4 + K, none⟩ = some (.int .u8 (((Ae.tr L).getD (i * 4 + K) 0 : Nat) : Int)) := HS.getN _ (by rw [Ae.tr_len]; omega)
         have hx := Ae.bytes_get (Ae.tr_bytes qL) (i * 4 + K)
         have z0 := HN.free (i * 4 + c)
         obtain ⟨v, hv⟩ : ∃ v, wr.cell? ⟨G, i * 4 + c, none⟩ = some v := ⟨_, HN.getN _ (by rw [Ae.upto_len, HZL.out]; omega)⟩
         have HE : Hid ((Ae.upto (Ae.subF L) Z (4 * i + c)).set (i * 4 + c) (Ae.box ((Ae.tr L).getD (i * 4 + K) 0)) = Ae.upto (Ae.subF L) Z (4 * i + (c + 1))) := by
          have h := Ae.upto_set (Ae.subF L) Z (4 * i + c) (by rw [HZL.out]; omega)
          unfold Ae.subF at h
          rw [show (4 * i + c) / 4 = i by omega, show (4 * i + c) % 4 = c by omega, hD, hK] at h
          unfold Hid Ae.subF
          rw [show i * 4 + c = 4 * i + c by omega]
          exact h
         clear hD hK
         generalize (Ae.tr L).getD (i * 4 + K) 0 = x at *
         have gx : (x : Int) < 256 := by omega
         have ft : wr.cell? ⟨w.heap.size + 1, x, none⟩ = some (.int .u8 ((Ae.box x : Nat) : Int)) := by rw [HT.getN _ (by rw [HTL.out]; exact hx), HTG.out _ hx]
         generalize Ae.box x = bx at *
         go_wp2
         refine wp_region_still_tail 14 (by kernel_rfl) (by kernel_rfl) ?_
         simp only [List.take_succ_cons, List.take_zero, List.drop_succ_cons, List.drop_zero]
         change wpStill _ _ (World.drew _) (fun a' => wpList _ _ _ _ a' (World.drew _)) _ _
         iterate 14 still_step
         refine wpStill_nil ?_
         clear e1 e2 e3
         go_wp2
         go_roundw
         case rel => exact ⟨c + 1, by omega, by go_num, (HW.far (by first | omega | (simp; omega) | simp) _).drew, (HT.far (by first | omega | (simp; omega) | simp) _).drew, (HB.far (by first | omega | (simp; omega) | simp) _).drew, (HZ.far (by first | omega | (simp; omega) | simp) _).drew, (HS.far (by first | omega | (simp; omega) | simp) _).drew, ((HN.setN _ _).drew).as (by rw [HE.out]), (HL.setCell (by simp; omega) _).drew⟩
         case measure => simp [intOf]; omega
        ·obtain rfl : c = 4 := by omega
         clear hlt hc
         have hcast : ((4 : Nat) : Int) = 4 := rfl
         try rw [hcast]
         clear hcast
         go_wp2
         go_roundw
         case rel => exact ⟨i + 1, by omega, by go_num, HW, HT, HB, HZ, HS, HN, HL⟩
         case measure => simp [intOf]; omega
      ·obtain rfl : i = 4 := by omega
       have HF := Lib.hid (Ae.subF_full L)
       rw [← HZE.out] at HF
       rw [HF.out] at HN
       have qB := Ae.shifted_bytes qL
       clear hit hi HF
       have hcast : ((4 : Nat) : Int) = 4 := rfl
       try rw [hcast]
       clear hcast
       have HOU2 := HOU
       generalize Ae.shifted L = B at *
       by_cases hr10 : r < 10
       ·obtain ⟨H, hH⟩ : ∃ H, wr.heap.size = H := ⟨_, rfl⟩
        have gH : G < H := by rw [← hH]; exact HN.lt
        have HHH := Lib.hid hH
        have hr10i : (r : Int) < 10 := by omega
        have HIB := Lib.hid (sizeS (Ae.tr_len B))
        have HM0 : Obj (wr.alloc (.cells #[.int .u8 0, .int .u8 0, .int .u8 0, .int .u8 0, .int .u8 0, .int .u8 0, .int .u8 0, .int .u8 0, .int .u8 0, .int .u8 0, .int .u8 0, .int .u8 0, .int .u8 0, .int .u8 0, .int .u8 0, .int .u8 0] 128)) H 128 (cellsN Z) := by rw [← HZC.out, ← HHH.out]; exact Obj.new wr _ _
        have HSZ : Hid ((cellsN Z).size = (cellsN (Ae.tr B)).size) := by unfold Hid; rw [cellsN_size, cellsN_size, HZL.out, Ae.tr_len]
        have HMP := Lib.hid HM0
        clear HM0
        go_wp2_with (first
         | (refine wpList_load_row rfl 128 (.tmp 10) rfl _ rfl _ _ _ _ HN Tryd.underlying128 rfl HIB.out ?_)
         | (refine wpList_store_row rfl 128 (.tmp 13) (.tmp 67) rfl _ _ rfl rfl _ _ HMP.out HIB.out HSZ.out (one_cellsN _) ?_))
        have U := (Upd.refl H (wr.alloc (.cells #[.int .u8 0, .int .u8 0, .int .u8 0, .int .u8 0, .int .u8 0, .int .u8 0, .int .u8 0, .int .u8 0, .int .u8 0, .int .u8 0, .int .u8 0, .int .u8 0, .int .u8 0, .int .u8 0, .int .u8 0, .int .u8 0] 128))).row (cellsN (Ae.tr B))
        have HM := HMP.out.row (cellsN (Ae.tr B))
        have HW2 := Obj.upd (HW.alloc (.cells #[.int .u8 0, .int .u8 0, .int .u8 0, .int .u8 0, .int .u8 0, .int .u8 0, .int .u8 0, .int .u8 0, .int .u8 0, .int .u8 0, .int .u8 0, .int .u8 0, .int .u8 0, .int .u8 0, .int .u8 0, .int .u8 0] 128)) U (by omega)
        have HT2 := Obj.upd (HT.alloc (.cells #[.int .u8 0, .int .u8 0, .int .u8 0, .int .u8 0, .int .u8 0, .int .u8 0, .int .u8 0, .int .u8 0, .int .u8 0, .int .u8 0, .int .u8 0, .int .u8 0, .int .u8 0, .int .u8 0, .int .u8 0, .int .u8 0] 128)) U (by omega)
        have HB2 := Obj.upd (HB.alloc (.cells #[.int .u8 0, .int .u8 0, .int .u8 0, .int .u8 0, .int .u8 0, .int .u8 0, .int .u8 0, .int .u8 0, .int .u8 0, .int .u8 0, .int .u8 0, .int .u8 0, .int .u8 0, .int .u8 0, .int .u8 0, .int .u8 0] 128)) U (by omega)
        have HZ2 := Obj.upd (HZ.alloc (.cells #[.int .u8 0, .int .u8 0, .int .u8 0, .int .u8 0, .int .u8 0, .int .u8 0, .int .u8 0, .int .u8 0, .int .u8 0, .int .u8 0, .int .u8 0, .int .u8 0, .int .u8 0, .int .u8 0, .int .u8 0, .int .u8 0] 128)) U (by omega)
        have HS2 := Obj.upd (HS.alloc (.cells #[.int .u8 0, .int .u8 0, .int .u8 0, .int .u8 0, .int .u8 0, .int .u8 0, .int .u8 0, .int .u8 0, .int .u8 0, .int .u8 0, .int .u8 0, .int .u8 0, .int .u8 0, .int .u8 0, .int .u8 0, .int .u8 0] 128)) U (by omega)
        have HN2 := Obj.upd (HN.alloc (.cells #[.int .u8 0, .int .u8 0, .int .u8 0, .int .u8 0, .int .u8 0, .int .u8 0, .int .u8 0, .int .u8 0, .int .u8 0, .int .u8 0, .int .u8 0, .int .u8 0, .int .u8 0, .int .u8 0, .int .u8 0, .int .u8 0] 128)) U (by omega)
        have HL2 := Upd.below (HL.alloc HL.size (.cells #[.int .u8 0, .int .u8 0, .int .u8 0, .int .u8 0, .int .u8 0, .int .u8 0, .int .u8 0, .int .u8 0, .int .u8 0, .int .u8 0, .int .u8 0, .int .u8 0, .int .u8 0, .int .u8 0, .int .u8 0, .int .u8 0] 128)) (by omega) U
        clear HMP U HSZ HW HT HB HZ HS HN HL hH
        generalize (wr.alloc (.cells #[.int .u8 0, .int .u8 0, .int .u8 0, .int .u8 0, .int .u8 0, .int .u8 0, .int .u8 0, .int .u8 0, .int .u8 0, .int .u8 0, .int .u8 0, .int .u8 0, .int .u8 0, .int .u8 0, .int .u8 0, .int .u8 0] 128)).setRow H (cellsN (Ae.tr B)) = wz at *
        clear HHH
        go_loopw [14] (fun p wx => ∃ c : Nat, c ≤ 4 ∧ p = .int .i64 c ∧ Obj wx w.heap.size 101 (cellsN ws) ∧ Obj wx (w.heap.size + 1) 106 (cellsN T) ∧ Obj wx (w.heap.size + 1 + 1) 26 (cellsN b) ∧ Obj wx (w.heap.size + 1 + 1 + 1) 26 (cellsN Z) ∧ Obj wx (w.heap.size + 1 + 1 + 1 + 1) 128 (cellsN (Ae.tr L)) ∧ Obj wx G 128 (cellsN (Ae.cols (Ae.tr B) c)) ∧ Obj wx H 128 (cellsN (Ae.tr B)) ∧ Below w.heap.size w wx) (fun p _ => 4 - (intOf p).toNat)
        case atStart => exact ⟨0, by omega, rfl, HW2, HT2, HB2, HZ2, HS2, HN2, HM, HL2⟩
        case round =>
         clear HW2 HT2 HB2 HZ2 HS2 HN2 HM HL2
         obtain ⟨c, hc, rfl, HW, HT, HB, HZ, HS, HN, HM, HL⟩ := hrel
         by_cases hlt : c < 4
         ·have gc : (c : Int) < 4 := by omega
          have HC0 := Lib.hid (show c < (Ae.tr B).length by rw [Ae.tr_len]; omega)
          have hx0 := Ae.bytes_get (Ae.tr_bytes qB) (c)
          have HC1 := Lib.hid (show 4 + c < (Ae.tr B).length by rw [Ae.tr_len]; omega)
          have hx1 := Ae.bytes_get (Ae.tr_bytes qB) (4 + c)
          have HC2 := Lib.hid (show 8 + c < (Ae.tr B).length by rw [Ae.tr_len]; omega)
          have hx2 := Ae.bytes_get (Ae.tr_bytes qB) (8 + c)
          have HC3 := Lib.hid (show 12 + c < (Ae.tr B).length by rw [Ae.tr_len]; omega)
          have hx3 := Ae.bytes_get (Ae.tr_bytes qB) (12 + c)
          obtain ⟨y0, hy0⟩ : ∃ y, Ae.cv0 (Ae.tr B) c = y := ⟨_, rfl⟩
          obtain ⟨y1, hy1⟩ : ∃ y, Ae.cv1 (Ae.tr B) c = y := ⟨_, rfl⟩
          obtain ⟨y2, hy2⟩ : ∃ y, Ae.cv2 (Ae.tr B) c = y := ⟨_, rfl⟩
          obtain ⟨y3, hy3⟩ : ∃ y, Ae.cv3 (Ae.tr B) c = y := ⟨_, rfl⟩
          have HE : Hid (((((Ae.cols (Ae.tr B) c).set c y0).set (4 + c) y1).set (8 + c) y2).set (12 + c) y3 = Ae.cols (Ae.tr B) (c + 1)) := by unfold Hid; rw [Ae.cols, hy0, hy1, hy2, hy3]
          unfold Ae.cv0 at hy0
          unfold Ae.cv1 at hy1
          unfold Ae.cv2 at hy2
          unfold Ae.cv3 at hy3
          obtain ⟨x0, hX0⟩ : ∃ x, (Ae.tr B).getD (c) 0 = x := ⟨_, rfl⟩
          rw [hX0] at hx0 hy0 hy1 hy2 hy3
          have HX0 := Lib.hid hX0
          clear hX0
          obtain ⟨x1, hX1⟩ : ∃ x, (Ae.tr B).getD (4 + c) 0 = x := ⟨_, rfl⟩
          rw [hX1] at hx1 hy0 hy1 hy2 hy3
          have HX1 := Lib.hid hX1
          clear hX1
          obtain ⟨x2, hX2⟩ : ∃ x, (Ae.tr B).getD (8 + c) 0 = x := ⟨_, rfl⟩
          rw [hX2] at hx2 hy0 hy1 hy2 hy3
          have HX2 := Lib.hid hX2
          clear hX2
          obtain ⟨x3, hX3⟩ : ∃ x, (Ae.tr B).getD (12 + c) 0 = x := ⟨_, rfl⟩
          rw [hX3] at hx3 hy0 hy1 hy2 hy3
          have HX3 := Lib.hid hX3
          clear hX3
          have XA0 := Lib.hid (u8_xor_nat (Ae.mul x0 2) (Ae.mul x1 3) (Ae.mul_lt x0 2 hx0) (Ae.mul_lt x1 3 hx1))
          have XB0 := Lib.hid (u8_xor_nat (Ae.mul x0 2 ^^^ Ae.mul x1 3) (x2) (Ae.xor_lt (Ae.mul_lt x0 2 hx0) (Ae.mul_lt x1 3 hx1)) hx2)
          have XC0 := Lib.hid (u8_xor_nat (Ae.mul x0 2 ^^^ Ae.mul x1 3 ^^^ x2) (x3) (Ae.xor_lt (Ae.xor_lt (Ae.mul_lt x0 2 hx0) (Ae.mul_lt x1 3 hx1)) hx2) hx3)
          have XD0 := Lib.hid hy0
          have XA1 := Lib.hid (u8_xor_nat (x0) (Ae.mul x1 2) hx0 (Ae.mul_lt x1 2 hx1))
          have XB1 := Lib.hid (u8_xor_nat (x0 ^^^ Ae.mul x1 2) (Ae.mul x2 3) (Ae.xor_lt hx0 (Ae.mul_lt x1 2 hx1)) (Ae.mul_lt x2 3 hx2))
          have XC1 := Lib.hid (u8_xor_nat (x0 ^^^ Ae.mul x1 2 ^^^ Ae.mul x2 3) (x3) (Ae.xor_lt (Ae.xor_lt hx0 (Ae.mul_lt x1 2 hx1)) (Ae.mul_lt x2 3 hx2)) hx3)
          have XD1 := Lib.hid hy1
          have XA2 := Lib.hid (u8_xor_nat (x0) (x1) hx0 hx1)
          have XB2 := Lib.hid (u8_xor_nat (x0 ^^^ x1) (Ae.mul x2 2) (Ae.xor_lt hx0 hx1) (Ae.mul_lt x2 2 hx2))
          have XC2 := Lib.hid (u8_xor_nat (x0 ^^^ x1 ^^^ Ae.mul x2 2) (Ae.mul x3 3) (Ae.xor_lt (Ae.xor_lt hx0 hx1) (Ae.mul_lt x2 2 hx2)) (Ae.mul_lt x3 3 hx3))
          have XD2 := Lib.hid hy2
          have XA3 := Lib.hid (u8_xor_nat (Ae.mul x0 3) (x1) (Ae.mul_lt x0 3 hx0) hx1)
          have XB3 := Lib.hid (u8_xor_nat (Ae.mul x0 3 ^^^ x1) (x2) (Ae.xor_lt (Ae.mul_lt x0 3 hx0) hx1) hx2)
          have XC3 := Lib.hid (u8_xor_nat (Ae.mul x0 3 ^^^ x1 ^^^ x2) (Ae.mul x3 2) (Ae.xor_lt (Ae.xor_lt (Ae.mul_lt x0 3 hx0) hx1) hx2) (Ae.mul_lt x3 2 hx3))
          have XD3 := Lib.hid hy3
          clear hy0 hy1 hy2 hy3
          have fm0 : wr.cell? ⟨H, c, none⟩ = some (.int .u8 ((x0 : Nat) : Int)) := by rw [← HX0.out]; exact HM.getN _ HC0.out
          have fm1 : wr.cell? ⟨H, 4 + c, none⟩ = some (.int .u8 ((x1 : Nat) : Int)) := by rw [← HX1.out]; exact HM.getN _ HC1.out
          have fm2 : wr.cell? ⟨H, 8 + c, none⟩ = some (.int .u8 ((x2 : Nat) : Int)) := by rw [← HX2.out]; exact HM.getN _ HC2.out
          have fm3 : wr.cell? ⟨H, 12 + c, none⟩ = some (.int .u8 ((x3 : Nat) : Int)) := by rw [← HX3.out]; exact HM.getN _ HC3.out
          have z := HN.free (c)
          obtain ⟨v, hv⟩ : ∃ v, wr.cell? ⟨G, c, none⟩ = some v := ⟨_, HN.getN _ (by (try simp only [List.length_set]); rw [Ae.cols_len]; exact HC0.out)⟩
          go_wp2
          refine wp_region_still_tail 24 (by kernel_rfl) (by kernel_rfl) ?_
          simp only [List.take_succ_cons, List.take_zero, List.drop_succ_cons, List.drop_zero]
          change wpStill _ _ (World.drew _) (fun a' => wpList _ _ _ _ a' (World.drew _)) _ _
          iterate 5 still_step
          still_call (still1 (refTimes_any x0 2 _ hx0 (by decide)))
          iterate 4 still_step
          still_call (still1 (refTimes_any x1 3 _ hx1 (by decide)))
          iterate 13 still_step
          refine wpStill_nil ?_
          rw [XA0.out, XB0.out, XC0.out, XD0.out]
          go_wp2
          clear fm0 fm1 fm2 fm3 z hv
          have HW1 := (HW.far (p := ⟨G, c, none⟩) (by first | omega | (simp; omega) | simp) (.int .u8 ((y0 : Nat) : Int))).drew
          have HT1 := (HT.far (p := ⟨G, c, none⟩) (by first | omega | (simp; omega) | simp) (.int .u8 ((y0 : Nat) : Int))).drew
          have HB1 := (HB.far (p := ⟨G, c, none⟩) (by first | omega | (simp; omega) | simp) (.int .u8 ((y0 : Nat) : Int))).drew
          have HZ1 := (HZ.far (p := ⟨G, c, none⟩) (by first | omega | (simp; omega) | simp) (.int .u8 ((y0 : Nat) : Int))).drew
          have HS1 := (HS.far (p := ⟨G, c, none⟩) (by first | omega | (simp; omega) | simp) (.int .u8 ((y0 : Nat) : Int))).drew
          have HM1 := (HM.far (p := ⟨G, c, none⟩) (by first | omega | (simp; omega) | simp) (.int .u8 ((y0 : Nat) : Int))).drew
          have HN1 := (HN.setN (c) y0).drew
          have HL1 := (HL.setCell (p := ⟨G, c, none⟩) (by simp; omega) (.int .u8 ((y0 : Nat) : Int))).drew
          clear HW HT HB HZ HS HM HN HL
          generalize (wr.setCell ⟨G, c, none⟩ (.int .u8 ((y0 : Nat) : Int))).drew = w1 at *
          have fm0 : w1.cell? ⟨H, c, none⟩ = some (.int .u8 ((x0 : Nat) : Int)) := by rw [← HX0.out]; exact HM1.getN _ HC0.out
          have fm1 : w1.cell? ⟨H, 4 + c, none⟩ = some (.int .u8 ((x1 : Nat) : Int)) := by rw [← HX1.out]; exact HM1.getN _ HC1.out
          have fm2 : w1.cell? ⟨H, 8 + c, none⟩ = some (.int .u8 ((x2 : Nat) : Int)) := by rw [← HX2.out]; exact HM1.getN _ HC2.out
          have fm3 : w1.cell? ⟨H, 12 + c, none⟩ = some (.int .u8 ((x3 : Nat) : Int)) := by rw [← HX3.out]; exact HM1.getN _ HC3.out
          have z := HN1.free (4 + c)
          obtain ⟨v, hv⟩ : ∃ v, w1.cell? ⟨G, 4 + c, none⟩ = some v := ⟨_, HN1.getN _ (by (try simp only [List.length_set]); rw [Ae.cols_len]; exact HC1.out)⟩
          refine wp_region_still_tail 24 (by kernel_rfl) (by kernel_rfl) ?_
          simp only [List.take_succ_cons, List.take_zero, List.drop_succ_cons, List.drop_zero]
          change wpStill _ _ (World.drew _) (fun a' => wpList _ _ _ _ a' (World.drew _)) _ _
          iterate 9 still_step
          still_call (still1 (refTimes_any x1 2 _ hx1 (by decide)))
          iterate 5 still_step
          still_call (still1 (refTimes_any x2 3 _ hx2 (by decide)))
          iterate 8 still_step
          refine wpStill_nil ?_
          rw [XA1.out, XB1.out, XC1.out, XD1.out]
          go_wp2
          clear fm0 fm1 fm2 fm3 z hv
          have HW2 := (HW1.far (p := ⟨G, 4 + c, none⟩) (by first | omega | (simp; omega) | simp) (.int .u8 ((y1 : Nat) : Int))).drew
          have HT2 := (HT1.far (p := ⟨G, 4 + c, none⟩) (by first | omega | (simp; omega) | simp) (.int .u8 ((y1 : Nat) : Int))).drew
          have HB2 := (HB1.far (p := ⟨G, 4 + c, none⟩) (by first | omega | (simp; omega) | simp) (.int .u8 ((y1 : Nat) : Int))).drew
          have HZ2 := (HZ1.far (p := ⟨G, 4 + c, none⟩) (by first | omega | (simp; omega) | simp) (.int .u8 ((y1 : Nat) : Int))).drew
          have HS2 := (HS1.far (p := ⟨G, 4 + c, none⟩) (by first | omega | (simp; omega) | simp) (.int .u8 ((y1 : Nat) : Int))).drew
          have HM2 := (HM1.far (p := ⟨G, 4 + c, none⟩) (by first | omega | (simp; omega) | simp) (.int .u8 ((y1 : Nat) : Int))).drew
          have HN2 := (HN1.setN (4 + c) y1).drew
          have HL2 := (HL1.setCell (p := ⟨G, 4 + c, none⟩) (by simp; omega) (.int .u8 ((y1 : Nat) : Int))).drew
          clear HW1 HT1 HB1 HZ1 HS1 HM1 HN1 HL1
          generalize (w1.setCell ⟨G, 4 + c, none⟩ (.int .u8 ((y1 : Nat) : Int))).drew = w2 at *
          have fm0 : w2.cell? ⟨H, c, none⟩ = some (.int .u8 ((x0 : Nat) : Int)) := by rw [← HX0.out]; exact HM2.getN _ HC0.out
          have fm1 : w2.cell? ⟨H, 4 + c, none⟩ = some (.int .u8 ((x1 : Nat) : Int)) := by rw [← HX1.out]; exact HM2.getN _ HC1.out
          have fm2 : w2.cell? ⟨H, 8 + c, none⟩ = some (.int .u8 ((x2 : Nat) : Int)) := by rw [← HX2.out]; exact HM2.getN _ HC2.out
          have fm3 : w2.cell? ⟨H, 12 + c, none⟩ = some (.int .u8 ((x3 : Nat) : Int)) := by rw [← HX3.out]; exact HM2.getN _ HC3.out
          have z := HN2.free (8 + c)
          obtain ⟨v, hv⟩ : ∃ v, w2.cell? ⟨G, 8 + c, none⟩ = some v := ⟨_, HN2.getN _ (by (try simp only [List.length_set]); rw [Ae.cols_len]; exact HC2.out)⟩
          refine wp_region_still_tail 24 (by kernel_rfl) (by kernel_rfl) ?_
          simp only [List.take_succ_cons, List.take_zero, List.drop_succ_cons, List.drop_zero]
          change wpStill _ _ (World.drew _) (fun a' => wpList _ _ _ _ a' (World.drew _)) _ _
          iterate 14 still_step
          still_call (still1 (refTimes_any x2 2 _ hx2 (by decide)))
          iterate 5 still_step
          still_call (still1 (refTimes_any x3 3 _ hx3 (by decide)))
          iterate 3 still_step
          refine wpStill_nil ?_
          rw [XA2.out, XB2.out, XC2.out, XD2.out]
          go_wp2
          clear fm0 fm1 fm2 fm3 z hv
          have HW3 := (HW2.far (p := ⟨G, 8 + c, none⟩) (by first | omega | (simp; omega) | simp) (.int .u8 ((y2 : Nat) : Int))).drew
          have HT3 := (HT2.far (p := ⟨G, 8 + c, none⟩) (by first | omega | (simp; omega) | simp) (.int .u8 ((y2 : Nat) : Int))).drew
          have HB3 := (HB2.far (p := ⟨G, 8 + c, none⟩) (by first | omega | (simp; omega) | simp) (.int .u8 ((y2 : Nat) : Int))).drew
          have HZ3 := (HZ2.far (p := ⟨G, 8 + c, none⟩) (by first | omega | (simp; omega) | simp) (.int .u8 ((y2 : Nat) : Int))).drew
          have HS3 := (HS2.far (p := ⟨G, 8 + c, none⟩) (by first | omega | (simp; omega) | simp) (.int .u8 ((y2 : Nat) : Int))).drew
          have HM3 := (HM2.far (p := ⟨G, 8 + c, none⟩) (by first | omega | (simp; omega) | simp) (.int .u8 ((y2 : Nat) : Int))).drew
          have HN3 := (HN2.setN (8 + c) y2).drew
          have HL3 := (HL2.setCell (p := ⟨G, 8 + c, none⟩) (by simp; omega) (.int .u8 ((y2 : Nat) : Int))).drew
          clear HW2 HT2 HB2 HZ2 HS2 HM2 HN2 HL2
          generalize (w2.setCell ⟨G, 8 + c, none⟩ (.int .u8 ((y2 : Nat) : Int))).drew = w3 at *
          have fm0 : w3.cell? ⟨H, c, none⟩ = some (.int .u8 ((x0 : Nat) : Int)) := by rw [← HX0.out]; exact HM3.getN _ HC0.out
          have fm1 : w3.cell? ⟨H, 4 + c, none⟩ = some (.int .u8 ((x1 : Nat) : Int)) := by rw [← HX1.out]; exact HM3.getN _ HC1.out
          have fm2 : w3.cell? ⟨H, 8 + c, none⟩ = some (.int .u8 ((x2 : Nat) : Int)) := by rw [← HX2.out]; exact HM3.getN _ HC2.out
          have fm3 : w3.cell? ⟨H, 12 + c, none⟩ = some (.int .u8 ((x3 : Nat) : Int)) := by rw [← HX3.out]; exact HM3.getN _ HC3.out
          have z := HN3.free (12 + c)
          obtain ⟨v, hv⟩ : ∃ v, w3.cell? ⟨G, 12 + c, none⟩ = some v := ⟨_, HN3.getN _ (by (try simp only [List.length_set]); rw [Ae.cols_len]; exact HC3.out)⟩
          refine wp_region_still_tail 24 (by kernel_rfl) (by kernel_rfl) ?_
          simp only [List.take_succ_cons, List.take_zero, List.drop_succ_cons, List.drop_zero]
          change wpStill _ _ (World.drew _) (fun a' => wpList _ _ _ _ a' (World.drew _)) _ _
          iterate 5 still_step
          still_call (still1 (refTimes_any x0 3 _ hx0 (by decide)))
          iterate 14 still_step
          still_call (still1 (refTimes_any x3 2 _ hx3 (by decide)))
          iterate 3 still_step
          refine wpStill_nil ?_
          rw [XA3.out, XB3.out, XC3.out, XD3.out]
          go_wp2
          clear fm0 fm1 fm2 fm3 z hv
          go_roundw
          case rel => exact ⟨c + 1, by omega, by go_num, (HW3.far (by first | omega | (simp; omega) | simp) _).drew, (HT3.far (by first | omega | (simp; omega) | simp) _).drew, (HB3.far (by first | omega | (simp; omega) | simp) _).drew, (HZ3.far (by first | omega | (simp; omega) | simp) _).drew, (HS3.far (by first | omega | (simp; omega) | simp) _).drew, ((HN3.setN _ _).drew).as (by rw [HE.out]), (HM3.far (by first | omega | (simp; omega) | simp) _).drew, (HL3.setCell (by simp; omega) _).drew⟩
          case measure => simp [intOf]; omega
         ·obtain rfl : c = 4 := by omega
          rw [Ae.cols_full] at HN
          clear hlt hc HM
          have hcast : ((4 : Nat) : Int) = 4 := rfl
          try rw [hcast]
          clear hcast
          have HBB := Lib.hid (show (Ae.mixed B).length = 16 from Ae.arr_len _)
          have qBB : Ae.bytes (Ae.mixed B) := Ae.mixed_bytes qB
          have HST : Hid (Ae.stt ws b r = Ae.withK (Ae.mixed B) ws r) := HIN.out hr10
          generalize Ae.mixed B = BB at *
          go_wp2
          go_loopw [15] (fun p wx => ∃ i : Nat, i ≤ 16 ∧ p = .int .i64 i ∧ Obj wx w.heap.size 101 (cellsN ws) ∧ Obj wx (w.heap.size + 1) 106 (cellsN T) ∧ Obj wx (w.heap.size + 1 + 1) 26 (cellsN b) ∧ Obj wx (w.heap.size + 1 + 1 + 1) 26 (cellsN Z) ∧ Obj wx (w.heap.size + 1 + 1 + 1 + 1) 128 (cellsN (Ae.scat (Ae.withK BB ws r) (Ae.tr L) i)) ∧ Obj wx G 128 (cellsN (Ae.tr BB)) ∧ Below w.heap.size w wx) (fun p _ => 16 - (intOf p).toNat)
          case atStart => exact ⟨0, by omega, rfl, HW, HT, HB, HZ, HS, HN, HL⟩
          case round =>
           clear HW HT HB HZ HS HN HL
           obtain ⟨i, hi, rfl, HW, HT, HB, HZ, HS, HN, HL⟩ := hrel
           by_cases hlt : i < 16
           ·obtain ⟨q, hq⟩ : ∃ q, i / 4 = q := ⟨_, rfl⟩
            obtain ⟨m, hm⟩ : ∃ m, i % 4 = m := ⟨_, rfl⟩
            have e1 : IntKind.i64.wrap ((i : Int) / 4) = (q : Int) := by rw [IntWalk.i64_in _ (by omega)]; omega
            have e2 : (i : Int) / 4 = (q : Int) := by omega
            have e0 : IntKind.i64.wrap (q : Int) = (q : Int) := IntWalk.i64_in _ (by omega)
            have e3 : (i : Int).tmod 4 = (m : Int) := by rw [Int.tmod_eq_emod_of_nonneg (by omega)]; omega
            have e4 : (i : Int) % 4 = (m : Int) := by omega
            have gq : (q : Int) < 4 := by omega
            have gm : (m : Int) < 4 := by omega
            have gi : (i : Int) < 16 := by omega
            obtain ⟨A, hA⟩ : ∃ A, 4 * r = A := ⟨_, rfl⟩
            obtain ⟨s, hs⟩ : ∃ s, A + q = s := ⟨_, rfl⟩
            have e5 : IntKind.i64.wrap (4 * (r : Int)) = (A : Int) := by rw [IntWalk.i64_in _ (by omega)]; omega
            have e6 : IntKind.i64.wrap ((A : Int) + (q : Int)) = (s : Int) := by rw [IntWalk.i64_in _ (by omega)]; omega
            have gs : (s : Int) < 44 := by omega
            have fn : wr.cell? ⟨G, m * 4 + q, none⟩ = some (.int .u8 ((BB.getD i 0 : Nat) : Int)) := by
             rw [HN.getN _ (by rw [Ae.tr_len]; omega), ← hm, ← hq, Ae.tr_at BB i hlt]
            have fw : wr.cell? ⟨w.heap.size, s * 4 + m, none⟩ = some (.int .u8 ((ws.getD (s * 4 + m) 0 : Nat) : Int)) := HW.getN _ (by rw [HWL.out]; omega)
            have z0 := HS.free (m * 4 + q)
            obtain ⟨v, hv⟩ : ∃ v, wr.cell? ⟨w.heap.size + 1 + 1 + 1 + 1, m * 4 + q, none⟩ = some v := ⟨_, HS.getN _ (by rw [Ae.scat_len, Ae.tr_len]; omega)⟩
            have HE : Hid ((Ae.scat (Ae.withK BB ws r) (Ae.tr L) i).set (m * 4 + q) (BB.getD i 0 ^^^ ws.getD (s * 4 + m) 0) = Ae.scat (Ae.withK BB ws r) (Ae.tr L) (i + 1)) := by
             unfold Hid
             rw [Ae.scat, hq, hm, Ae.withK, Ae.arr_get _ _ hlt, show 16 * r + i = s * 4 + m by omega]
            have hx := Ae.bytes_get qBB i
            have hy := Ae.bytes_get qw (s * 4 + m)
            clear hq hm hA hs
            generalize BB.getD i 0 = x at *
            generalize ws.getD (s * 4 + m) 0 = y at *
            have HXY := Lib.hid (u8_xor_nat x y hx hy)
            go_wp2
            refine wp_region_still_tail 24 (by kernel_rfl) (by kernel_rfl) ?_
            simp only [List.take_succ_cons, List.take_zero, List.drop_succ_cons, List.drop_zero]
            change wpStill _ _ (World.drew _) (fun a' => wpList _ _ _ _ a' (World.drew _)) _ _
            iterate 24 still_step
            refine wpStill_nil ?_
            clear e1 e2 e3 e4 e5 e6
            go_wp2
            go_roundw
            case rel =>
             rw [HXY.out]
             exact ⟨i + 1, by omega, by go_num, (HW.far (by first | omega | (simp; omega) | simp) _).drew, (HT.far (by first | omega | (simp; omega) | simp) _).drew, (HB.far (by first | omega | (simp; omega) | simp) _).drew, (HZ.far (by first | omega | (simp; omega) | simp) _).drew, ((HS.setN _ _).drew).as (by rw [HE.out]), (HN.far (by first | omega | (simp; omega) | simp) _).drew, (HL.setCell (by simp; omega) _).drew⟩
            case measure => simp [intOf]; omega
           ·obtain rfl : i = 16 := by omega
            have HF := Lib.hid (Ae.scat_full (Ae.withK BB ws r) (Ae.tr L) (Ae.tr_len _))
            rw [HF.out, ← HST.out] at HS
            clear hlt hi HF
            have hcast : ((16 : Nat) : Int) = 16 := rfl
            try rw [hcast]
            clear hcast
            go_wp2
            go_roundw
            case rel => exact ⟨r + 1, by omega, by omega, by go_num, HW, HT, HB, HZ, HS, HL⟩
            case measure => simp [intOf]; omega
       ·have hr10i : ¬ (r : Int) < 10 := by omega
        clear hr10i
        have hr10i : ¬ (r : Int) < 10 := by omega
        have qBB : Ae.bytes (B) := qB
        have HST : Hid (Ae.stt ws b r = Ae.withK (B) ws r) := HOU.out hr10
        generalize B = BB at *
        go_wp2
        go_loopw [15] (fun p wx => ∃ i : Nat, i ≤ 16 ∧ p = .int .i64 i ∧ Obj wx w.heap.size 101 (cellsN ws) ∧ Obj wx (w.heap.size + 1) 106 (cellsN T) ∧ Obj wx (w.heap.size + 1 + 1) 26 (cellsN b) ∧ Obj wx (w.heap.size + 1 + 1 + 1) 26 (cellsN Z) ∧ Obj wx (w.heap.size + 1 + 1 + 1 + 1) 128 (cellsN (Ae.scat (Ae.withK BB ws r) (Ae.tr L) i)) ∧ Obj wx G 128 (cellsN (Ae.tr BB)) ∧ Below w.heap.size w wx) (fun p _ => 16 - (intOf p).toNat)
        case atStart => exact ⟨0, by omega, rfl, HW, HT, HB, HZ, HS, HN, HL⟩
        case round =>
         clear HW HT HB HZ HS HN HL
         obtain ⟨i, hi, rfl, HW, HT, HB, HZ, HS, HN, HL⟩ := hrel
         by_cases hlt : i < 16
         ·obtain ⟨q, hq⟩ : ∃ q, i / 4 = q := ⟨_, rfl⟩
          obtain ⟨m, hm⟩ : ∃ m, i % 4 = m := ⟨_, rfl⟩
          have e1 : IntKind.i64.wrap ((i : Int) / 4) = (q : Int) := by rw [IntWalk.i64_in _ (by omega)]; omega
          have e2 : (i : Int) / 4 = (q : Int) := by omega
          have e0 : IntKind.i64.wrap (q : Int) = (q : Int) := IntWalk.i64_in _ (by omega)
          have e3 : (i : Int).tmod 4 = (m : Int) := by rw [Int.tmod_eq_emod_of_nonneg (by omega)]; omega
          have e4 : (i : Int) % 4 = (m : Int) := by omega
          have gq : (q : Int) < 4 := by omega
          have gm : (m : Int) < 4 := by omega
          have gi : (i : Int) < 16 := by omega
          obtain ⟨A, hA⟩ : ∃ A, 4 * r = A := ⟨_, rfl⟩
          obtain ⟨s, hs⟩ : ∃ s, A + q = s := ⟨_, rfl⟩
          have e5 : IntKind.i64.wrap (4 * (r : Int)) = (A : Int) := by rw [IntWalk.i64_in _ (by omega)]; omega
          have e6 : IntKind.i64.wrap ((A : Int) + (q : Int)) = (s : Int) := by rw [IntWalk.i64_in _ (by omega)]; omega
          have gs : (s : Int) < 44 := by omega
          have fn : wr.cell? ⟨G, m * 4 + q, none⟩ = some (.int .u8 ((BB.getD i 0 : Nat) : Int)) := by
           rw [HN.getN _ (by rw [Ae.tr_len]; omega), ← hm, ← hq, Ae.tr_at BB i hlt]
          have fw : wr.cell? ⟨w.heap.size, s * 4 + m, none⟩ = some (.int .u8 ((ws.getD (s * 4 + m) 0 : Nat) : Int)) := HW.getN _ (by rw [HWL.out]; omega)
          have z0 := HS.free (m * 4 + q)
          obtain ⟨v, hv⟩ : ∃ v, wr.cell? ⟨w.heap.size + 1 + 1 + 1 + 1, m * 4 + q, none⟩ = some v := ⟨_, HS.getN _ (by rw [Ae.scat_len, Ae.tr_len]; omega)⟩
          have HE : Hid ((Ae.scat (Ae.withK BB ws r) (Ae.tr L) i).set (m * 4 + q) (BB.getD i 0 ^^^ ws.getD (s * 4 + m) 0) = Ae.scat (Ae.withK BB ws r) (Ae.tr L) (i + 1)) := by
           unfold Hid
           rw [Ae.scat, hq, hm, Ae.withK, Ae.arr_get _ _ hlt, show 16 * r + i = s * 4 + m by omega]
          have hx := Ae.bytes_get qBB i
          have hy := Ae.bytes_get qw (s * 4 + m)
          clear hq hm hA hs
          generalize BB.getD i 0 = x at *
          generalize ws.getD (s * 4 + m) 0 = y at *
          have HXY := Lib.hid (u8_xor_nat x y hx hy)
          go_wp2
          refine wp_region_still_tail 24 (by kernel_rfl) (by kernel_rfl) ?_
          simp only [List.take_succ_cons, List.take_zero, List.drop_succ_cons, List.drop_zero]
          change wpStill _ _ (World.drew _) (fun a' => wpList _ _ _ _ a' (World.drew _)) _ _
          iterate 24 still_step
          refine wpStill_nil ?_
          clear e1 e2 e3 e4 e5 e6
          go_wp2
          go_roundw
          case rel =>
           rw [HXY.out]
           exact ⟨i + 1, by omega, by go_num, (HW.far (by first | omega | (simp; omega) | simp) _).drew, (HT.far (by first | omega | (simp; omega) | simp) _).drew, (HB.far (by first | omega | (simp; omega) | simp) _).drew, (HZ.far (by first | omega | (simp; omega) | simp) _).drew, ((HS.setN _ _).drew).as (by rw [HE.out]), (HN.far (by first | omega | (simp; omega) | simp) _).drew, (HL.setCell (by simp; omega) _).drew⟩
          case measure => simp [intOf]; omega
         ·obtain rfl : i = 16 := by omega
          have HF := Lib.hid (Ae.scat_full (Ae.withK BB ws r) (Ae.tr L) (Ae.tr_len _))
          rw [HF.out, ← HST.out] at HS
          clear hlt hi HF
          have hcast : ((16 : Nat) : Int) = 16 := rfl
          try rw [hcast]
          clear hcast
          go_wp2
          go_roundw
          case rel => exact ⟨r + 1, by omega, by omega, by go_num, HW, HT, HB, HZ, HS, HL⟩
          case measure => simp [intOf]; omega
end Go.Proofs.YtabfcaidioohfaaDoor
