/- Joined: Layer 9's gcm, the document's full and number. | The document's sum is the code's. Plain. | The document's product, as polynomials. Plain. | The document's product is the code's. Plain. | Layer 9's gcm, the document's list of bits. | Layer 9's gcm, the document's product. -/
import Derived.RangeFuncNested
import Derived.RangeFuncBound
import Derived.RangeFuncCalls
import Derived.RangeFuncLeaves
import Derived.RangeFuncBox
import Derived.Shelf.Abstract
import Derived.Shelf.RegionOpen
import Derived.WalkKit
import Derived.OwnWalkIn
import Derived.TacticsInMore
import Derived.LoopN
import Derived.LoopNIn
import Derived.LoopIn
import Derived.WalkSpells
import Derived.WalkLawsBesides
import Derived.Laws.Rows
import Derived.Laws.EntriesVeiled
import Derived.Laws.BitsAllLaws
import Derived.Handy
import Derived.BigQuiet
import Derived.Deep.QuietTactic
import Derived.IntWalk
import Derived.Lib.Hide
import Derived.Outline
import Derived.Test.YtabfcaidioohfaaDoorRows
import Derived.Test.YtabfcaidioohfaaDoorZp
import Derived.Test.YtabfcaidioohfaaDoorZa
import Derived.Test.YtabfcaidioohfaaDoorZt
import Derived.Test.YtabfcaidioohfaaDoorZg
import Derived.Deep.Onto
namespace Go.Gc
open List (getElem?_toArray getElem?_cons_zero getElem?_cons_succ setIfInBounds_toArray set_cons_zero set_cons_succ)
set_option maxRecDepth 100000
open Go.Proofs.YtabfcaidioohfaaDoor
/-- Filled up to whole blocks. -/
def up (n : Nat) : Nat := 16 * ((n + 15) / 16)
def fullL (l : List Nat) : List Nat := l ++ List.replicate (up l.length - l.length) 0
theorem up_le (n : Nat) : n ≤ up n := by unfold up; omega
theorem fullL_len (l : List Nat) : (fullL l).length = up l.length := by unfold fullL; rw [List.length_append, List.length_replicate]; have := up_le l.length; omega
end Go.Gc
namespace Go.Proofs.YtabfcaidioohfaaDoor
open List (getElem?_toArray getElem?_cons_zero getElem?_cons_succ setIfInBounds_toArray set_cons_zero set_cons_succ)
set_option maxRecDepth 100000
open Go Go.RowKit Go.Shelf
set_option linter.unusedVariables false
set_option linter.unusedSimpArgs false
def lenV : Value → Nat
 | .slice _ n _ => n
 | _ => 0
/-- A text that is being filled up. -/
def FuI (w : World) (n : Nat) (l : List Nat) (u : Nat) (v : Value) (V : World) : Prop :=
 ∃ k, n ≤ k ∧ k ≤ u ∧ V.ownsRow w.heap.size 5 1 v k ((l ++ List.replicate (k - n) 0).map u8v) ∧ Below w.heap.size w V
set_option maxHeartbeats 1000000 in
theorem full_any (A : Option Addr) (n c : Nat) (l : List Nat) (w : World) (h : Rd w A l) (hl : l.length = n) (hm : n ≤ 1000000) :
  Calls Tryd.prog 74 #[.slice A n c] w fun e w' => ∃ v, e = .returned v ∧ w'.ownsRow w.heap.size 5 1 v (Gc.up n) ((Gc.fullL l).map u8v) ∧ Below w.heap.size w w' := by
 have HBS : Hid (w.heap.size ≤ (w.alloc (.cells #[] 5)).heap.size) := by unfold Hid; simp
 have HOW := Lib.hid (World.ownsRow_made (base := w.heap.size) (e := 5) (size := 1) w #[] 0 (Nat.le_refl _) (Nat.zero_le _) rfl)
 have hup := Gc.up_le n
 have hup2 : Gc.up n ≤ n + 15 := by unfold Gc.up; omega
 have HUP : Hid (∀ k, n ≤ k → k ≤ Gc.up n → (k % 16 = 0 ↔ k = Gc.up n)) := by
  unfold Hid Gc.up; intro k h1 h2; omega
 have HFU : Hid (l ++ List.replicate (Gc.up n - n) 0 = Gc.fullL l) := by unfold Hid Gc.fullL; rw [hl]
 have HL := Lib.hid hl
 have tail : ∀ (v1 : Value) (w1 : World), w1.ownsRow w.heap.size 5 1 v1 n (l.map u8v) → Below w.heap.size w w1 → Hid (FuI w n l (Gc.up n) v1 w1) := fun v1 w1 h1 h2 => ⟨n, Nat.le_refl _, hup, by rw [Nat.sub_self, List.replicate_zero, List.append_nil]; exact h1, h2⟩
 rcases A with _ | a
 ·have h0 : n = 0 := by
   rcases Nat.eq_zero_or_pos n with h0 | h0
   ·exact h0
   ·obtain ⟨_, _, e, _⟩ := h (by omega)
    cases e
  subst h0
  obtain rfl : l = [] := List.eq_nil_of_length_eq_zero hl
  have HF := tail (.slice (some ⟨w.heap.size, 0, none⟩) 0 0) (w.alloc (.cells #[] 5)) HOW.out ((Below.refl _ w).alloc (Nat.le_refl _) _)
  clear tail h
  go_enter Tryd.func74, Tryd.ntmps74
  go_wp2
  go_loopw [3] (fun v wr => FuI w 0 [] (Gc.up 0) v wr) (fun v _ => Gc.up 0 - lenV v)
  case atStart => exact HF.out
  case round =>
   clear HF
   obtain ⟨k, hk1, hk2, hown, hbel⟩ := hrel
   obtain ⟨A', c', rfl, _, _, _, _⟩ := own_cap hown
   have hup4 : Gc.up 0 ≤ 1000015 := by omega
   have hkm : k ≤ 1000015 := by omega
   by_cases hku : k = Gc.up 0
   ·have hmz : ((k : Int) % 16) = 0 := by have := (HUP.out k hk1 hk2).2 hku; omega
    have HO := Lib.hid hown
    have HBL := Lib.hid hbel
    clear hown hbel
    go_wp2
    go_ret
    refine ⟨_, rfl, ?_, HBL.out⟩
    rw [← HFU.out, ← hku]
    exact HO.out
   ·have hmz : ¬ ((k : Int) % 16) = 0 := fun e => hku ((HUP.out k hk1 hk2).1 (by omega))
    have HO := Lib.hid (own_below hown ((Below.refl _ wr).alloc (Nat.le_refl _) (.cells #[.int .u8 0] 5)))
    have HBL := Lib.hid (hbel.alloc hbel.size (.cells #[.int .u8 0] 5))
    have HR1 : Hid (Rd (wr.alloc (.cells #[.int .u8 0] 5)) (some ⟨wr.heap.size, 0, none⟩) [0]) := Rd.new wr [0] 5
    have HM1 : Hid (k + 1 ≤ 100000000) := by unfold Hid; omega
    clear hown hbel
    go_wp2_with (at_builtin; refine wpList_app8 rfl _ _ rfl w.heap.size _ _ _ rfl HO.out ⟨wr.heap.size, 0, none⟩ 1 1 [0] rfl rfl HR1.out HM1.out HBL.out.size ?_; intro v2 w2 hown2 hgrow2)
    have HB2 := Below.grown HBL.out hgrow2 HBL.out.size (fun k hk => (HO.out.lt k hk).1)
    have e : ([] ++ List.replicate (k - 0) 0).map u8v ++ [0].map u8v = ([] ++ List.replicate (k + 1 - 0) 0).map u8v := by
     rw [← List.map_append, List.append_assoc, show k + 1 - 0 = (k - 0) + 1 by omega, List.replicate_succ']
    rw [e] at hown2
    have HF2 : Hid (FuI w 0 [] (Gc.up 0) v2 w2) := ⟨k + 1, by omega, by omega, hown2, HB2⟩
    obtain ⟨A2, c2, rfl, _⟩ := own_cap hown2
    clear hown2 hgrow2 HB2 e
    go_wp2
    go_roundw
    case rel => exact HF2.out
    case measure => simp [lenV]; omega
 ·have HR := Lib.hid (Rd.below h ((Below.refl _ w).alloc (Nat.le_refl _) (.cells #[] 5)))
  have HM := Lib.hid (show 0 + n ≤ 100000000 by omega)
  clear h hl
  go_enter Tryd.func74, Tryd.ntmps74
  go_wp2_with (at_builtin; refine wpList_app8 rfl _ _ rfl w.heap.size _ _ _ rfl HOW.out a n c l rfl HL.out HR.out HM.out HBS.out ?_; intro v' w1 hown1 hgrow1)
  rw [Nat.zero_add, List.nil_append] at hown1
  have HF := tail v' w1 hown1 (Below.grown ((Below.refl _ w).alloc (Nat.le_refl _) _) hgrow1 HBS.out (fun k hk => by cases hk; exact Nat.le_refl _))
  clear tail hown1 hgrow1
  go_loopw [3] (fun v wr => FuI w n l (Gc.up n) v wr) (fun v _ => Gc.up n - lenV v)
  case atStart => exact HF.out
  case round =>
   clear HF
   obtain ⟨k, hk1, hk2, hown, hbel⟩ := hrel
   obtain ⟨A', c', rfl, _, _, _, _⟩ := own_cap hown
   have hup4 : Gc.up n ≤ 1000015 := by omega
   have hkm : k ≤ 1000015 := by omega
   by_cases hku : k = Gc.up n
   ·have hmz : ((k : Int) % 16) = 0 := by have := (HUP.out k hk1 hk2).2 hku; omega
    have HO := Lib.hid hown
    have HBL := Lib.hid hbel
    clear hown hbel
    go_wp2
    go_ret
    refine ⟨_, rfl, ?_, HBL.out⟩
    rw [← HFU.out, ← hku]
    exact HO.out
   ·have hmz : ¬ ((k : Int) % 16) = 0 := fun e => hku ((HUP.out k hk1 hk2).1 (by omega))
    have HO := Lib.hid (own_below hown ((Below.refl _ wr).alloc (Nat.le_refl _) (.cells #[.int .u8 0] 5)))
    have HBL := Lib.hid (hbel.alloc hbel.size (.cells #[.int .u8 0] 5))
    have HR1 : Hid (Rd (wr.alloc (.cells #[.int .u8 0] 5)) (some ⟨wr.heap.size, 0, none⟩) [0]) := Rd.new wr [0] 5
    have HM1 : Hid (k + 1 ≤ 100000000) := by unfold Hid; omega
    clear hown hbel
    go_wp2_with (at_builtin; refine wpList_app8 rfl _ _ rfl w.heap.size _ _ _ rfl HO.out ⟨wr.heap.size, 0, none⟩ 1 1 [0] rfl rfl HR1.out HM1.out HBL.out.size ?_; intro v2 w2 hown2 hgrow2)
    have HB2 := Below.grown HBL.out hgrow2 HBL.out.size (fun k hk => (HO.out.lt k hk).1)
    have e : (l ++ List.replicate (k - n) 0).map u8v ++ [0].map u8v = (l ++ List.replicate (k + 1 - n) 0).map u8v := by
     rw [← List.map_append, List.append_assoc, show k + 1 - n = (k - n) + 1 by omega, List.replicate_succ']
    rw [e] at hown2
    have HF2 : Hid (FuI w n l (Gc.up n) v2 w2) := ⟨k + 1, by omega, by omega, hown2, HB2⟩
    obtain ⟨A2, c2, rfl, _⟩ := own_cap hown2
    clear hown2 hgrow2 HB2 e
    go_wp2
    go_roundw
    case rel => exact HF2.out
    case measure => simp [lenV]; omega
/-- A number's bytes, so many of them laid. -/
def nuL (N j : Nat) : List Nat := (List.range 8).map fun p => if 8 ≤ p + j then N / 256 ^ (7 - p) % 256 else 0
theorem nuL_len (N j : Nat) : (nuL N j).length = 8 := by simp [nuL]
theorem nuL_zero (N : Nat) : nuL N 0 = List.replicate 8 0 := by
 unfold nuL
 refine List.ext_getElem (by simp) fun i h1 h2 => ?_
 rw [List.length_replicate] at h2
 simp only [List.getElem_map, List.getElem_range, List.getElem_replicate]
 rw [if_neg (by omega)]
theorem nuL_set (N j : Nat) (h : j < 8) : (nuL N j).set (7 - j) (N / 256 ^ j % 256) = nuL N (j + 1) := by
 refine List.ext_getElem (by simp [nuL]) fun i h1 h2 => ?_
 rw [List.length_set, nuL_len] at h1
 rw [List.getElem_set]
 by_cases e : 7 - j = i
 ·rw [if_pos e]
  simp only [nuL, List.getElem_map, List.getElem_range]
  rw [if_pos (by omega), show 7 - i = j by omega]
 ·rw [if_neg e]
  simp only [nuL, List.getElem_map, List.getElem_range]
  by_cases h8 : 8 ≤ i + j
  ·rw [if_pos h8, if_pos (by omega)]
  ·rw [if_neg h8, if_neg (by omega)]
theorem nuL_full (N : Nat) : nuL N 8 = Gc.by8 N := by
 unfold nuL Gc.by8
 simp [List.range, List.range.loop]
set_option maxRecDepth 100000 in
set_option maxHeartbeats 1000000 in
theorem number_any (N : Nat) (w : World) (hN : N < 4611686018427387904) :
  Calls Tryd.prog 75 #[.int .i64 (N : Int)] w fun e w' => e = .returned (.slice (some ⟨w.heap.size, 0, none⟩) 8 8) ∧ Rd w' (some ⟨w.heap.size, 0, none⟩) (Gc.by8 N) ∧ Below w.heap.size w w' := by
 have hmk : ∀ w, (Instr.makeSlice 24 (.int .i64 8) (.int .i64 8)).run Tryd.prog w = .ok (.slice (some ⟨w.heap.size, 0, none⟩) 8 8) (w.alloc (.cells (cellsN (List.replicate 8 0)) 5)) := fun w => mk16 8 (by omega) w
 have HO : Hid (Obj (w.alloc (.cells (cellsN (List.replicate 8 0)) 5)) w.heap.size 5 (cellsN (nuL N 0))) := by rw [nuL_zero]; exact Obj.new w _ _
 have HB : Hid (Below w.heap.size w (w.alloc (.cells (cellsN (List.replicate 8 0)) 5))) := (Below.refl _ w).alloc (Nat.le_refl _) _
 go_enter Tryd.func75, Tryd.ntmps75
 go_wp2
 go_loopw [0, 4] (fun x i wr => ∃ j : Nat, j ≤ 8 ∧ i = .int .i64 (7 - (j : Int)) ∧ x = .int .i64 ((N / 256 ^ j : Nat) : Int) ∧ Obj wr w.heap.size 5 (cellsN (nuL N j)) ∧ Below w.heap.size w wr) (fun _ i _ => ((intOf i) + 1).toNat)
 case atStart => exact ⟨0, by omega, rfl, by simp, HO.out, HB.out⟩
 case round =>
  clear HO HB hmk
  obtain ⟨j, hj, rfl, rfl, hO, hB⟩ := hrel
  by_cases hlt : j < 8
  ·obtain ⟨p, hp⟩ : ∃ p, 7 - j = p := ⟨_, rfl⟩
   have hpi : (7 : Int) - (j : Int) = (p : Int) := by omega
   have hp0 : (0 : Int) ≤ (p : Int) := by omega
   have hp8 : (p : Int) < 8 := by omega
   have hp8n : p < 8 := by omega
   obtain ⟨v, hv⟩ : ∃ v, wr.cell? ⟨w.heap.size, p, none⟩ = some v := ⟨_, hO.getN p (by rw [nuL_len]; exact hp8n)⟩
   have hf := hO.free p
   have hM : N / 256 ^ j ≤ N := Nat.div_le_self _ _
   have HN : Hid (Obj (wr.setCell ⟨w.heap.size, p, none⟩ (.int .u8 ((N / 256 ^ j % 256 : Nat) : Int))) w.heap.size 5 (cellsN (nuL N (j + 1)))) := by
    have := hO.setN p (N / 256 ^ j % 256)
    rw [← hp, nuL_set N j hlt, hp] at this
    exact this
   have HB2 : Hid (Below w.heap.size w (wr.setCell ⟨w.heap.size, p, none⟩ (.int .u8 ((N / 256 ^ j % 256 : Nat) : Int)))) := hB.setCell (Nat.le_refl _) _
   have HD : Hid (N / 256 ^ j / 256 = N / 256 ^ (j + 1)) := by unfold Hid; rw [Nat.div_div_eq_div_mul, ← Nat.pow_succ]
   generalize hX : N / 256 ^ j = X at *
   have hX2 : X < 4611686018427387904 := by omega
   obtain ⟨r, hr⟩ : ∃ r, X % 256 = r := ⟨_, rfl⟩
   obtain ⟨q, hq⟩ : ∃ q, X / 256 = q := ⟨_, rfl⟩
   have hri : (X : Int) % 256 = (r : Int) := by omega
   have hqi : (X : Int) / 256 = (q : Int) := by omega
   have hr8 : r < 256 := by omega
   rw [hr] at HN HB2
   rw [hq] at HD
   clear hO hB hM hX hr hq hp
   rw [hpi]
   go_wp2
   go_roundw
   case rel => exact ⟨j + 1, by omega, by go_num, by rw [← HD.out], HN.out, HB2.out⟩
   case measure => simp [intOf] <;> omega
  ·obtain rfl : j = 8 := by omega
   rw [nuL_full] at hO
   have HO := Lib.hid hO
   have HB := Lib.hid hB
   clear hO hB
   go_wp2
   go_ret
   exact ⟨rfl, HO.out.rd, HB.out⟩
end Go.Proofs.YtabfcaidioohfaaDoor
namespace Go.Gc
open List (getElem?_toArray getElem?_cons_zero getElem?_cons_succ setIfInBounds_toArray set_cons_zero set_cons_succ)
set_option maxRecDepth 100000
open Go.Proofs.YtabfcaidioohfaaDoor
set_option linter.unusedVariables false
theorem absb_congr {h y : Nat} {l m : List Nat} : ∀ n, (∀ i, i < n → pad (chunk l i) = pad (chunk m i)) → absb h y l n = absb h y m n
 | 0, _ => rfl
 | n + 1, e => by
  rw [absb, absb, absb_congr n fun i hi => e i (by omega)]
  unfold step
  rw [e n (by omega)]
theorem absb_add (h y : Nat) (l m r : List Nat) (n : Nat) (h1 : ∀ i, i < n → chunk l i = chunk m i) (h2 : ∀ i, chunk l (n + i) = chunk r i) : ∀ k, absb h y l (n + k) = absb h (absb h y m n) r k
 | 0 => absb_congr n fun i hi => by rw [h1 i hi]
 | k + 1 => by
  rw [← Nat.add_assoc, absb, absb, absb_add h y l m r n h1 h2 k, h2 k]
theorem absb_append (h y : Nat) (l r : List Nat) (n k : Nat) (hl : l.length = 16 * n) : absb h y (l ++ r) (n + k) = absb h (absb h y l n) r k := by
 refine absb_add h y (l ++ r) l r n (fun i hi => ?_) (fun i => ?_) k
 ·unfold chunk
  rw [List.drop_append_of_le_length (by omega), List.take_append_of_le_length (by rw [List.length_drop]; omega)]
 ·unfold chunk
  rw [show 16 * (n + i) = l.length + 16 * i by omega, List.drop_append, List.drop_eq_nil_of_le (by omega), List.nil_append, Nat.add_sub_cancel_left]
theorem up_nch (l : List Nat) : up l.length = 16 * nch l := rfl
theorem absb_full (h y : Nat) (l : List Nat) : absb h y (fullL l) (nch l) = absb h y l (nch l) := by
 refine absb_congr _ fun i hi => ?_
 have hu := up_le l.length
 have hn := up_nch l
 unfold chunk fullL
 by_cases hf : 16 * i + 16 ≤ l.length
 ·rw [List.drop_append_of_le_length (by omega), List.take_append_of_le_length (by rw [List.length_drop]; omega)]
 ·have hd : 16 * i ≤ l.length := by unfold nch at hi; omega
  rw [List.drop_append_of_le_length hd]
  have hk : up l.length - l.length = 16 - (l.drop (16 * i)).length := by rw [List.length_drop]; unfold nch at hi hn; omega
  rw [hk]
  have ht : (l.drop (16 * i)).take 16 = l.drop (16 * i) := List.take_of_length_le (by rw [List.length_drop]; omega)
  rw [ht]
  have e : (l.drop (16 * i) ++ List.replicate (16 - (l.drop (16 * i)).length) 0) = pad (l.drop (16 * i)) := rfl
  rw [e, List.take_of_length_le (by rw [pad_len (by rw [List.length_drop]; omega)]; omega)]
  unfold pad
  have hlen : (l.drop (16 * i) ++ List.replicate (16 - (l.drop (16 * i)).length) 0).length = 16 := pad_len (by rw [List.length_drop]; omega)
  rw [hlen, Nat.sub_self, List.replicate_zero, List.append_nil]
/-- All that the document sums. -/
def allL (more text : List Nat) : List Nat := fullL more ++ (fullL text ++ bn (ends more text))
theorem allL_len (more text : List Nat) : (allL more text).length = 16 * (nch more + (nch text + 1)) := by
 unfold allL; rw [List.length_append, List.length_append, fullL_len, fullL_len, up_nch, up_nch, bn_len]; omega
theorem gsum_ref (h : Nat) {more text : List Nat} (h1 : more.length ≤ 1000000) (h2 : text.length ≤ 1000000) : absb h 0 (allL more text) (nch more + (nch text + 1)) = gsum h more text := by
 unfold allL gsum
 rw [absb_append _ _ _ _ _ _ (by rw [fullL_len, up_nch]), absb_append _ _ _ _ _ _ (by rw [fullL_len, up_nch]), absb_full, absb_full]
 rw [absb, absb]
 unfold step
 have hc : chunk (bn (ends more text)) 0 = bn (ends more text) := by unfold chunk; rw [Nat.mul_zero, List.drop_zero, List.take_of_length_le (by rw [bn_len]; omega)]
 have hp : pad (bn (ends more text)) = bn (ends more text) := by unfold pad; rw [bn_len]; simp
 rw [hc, hp, nb_bn (ends_lt h1 h2).1]
end Go.Gc
namespace Go.Gc
open List (getElem?_toArray getElem?_cons_zero getElem?_cons_succ setIfInBounds_toArray set_cons_zero set_cons_succ)
set_option maxRecDepth 100000
open Go.Proofs.YtabfcaidioohfaaDoor
set_option linter.unusedVariables false
theorem xs_at (f g : Nat → Nat) (q d : Nat) (h1 : g q = f q ^^^ d) (h2 : ∀ i, i ≠ q → g i = f i) : ∀ n, xs g n = if q < n then xs f n ^^^ d else xs f n
 | 0 => by simp [xs]
 | n + 1 => by
  rw [xs, xs, xs_at f g q d h1 h2 n]
  by_cases hq : q = n
  ·subst hq
   rw [if_neg (by omega), if_pos (by omega), h1, Nat.xor_assoc]
  ·rw [h2 n (fun e => hq e.symm)]
   by_cases hl : q < n
   ·rw [if_pos hl, if_pos (by omega), Nat.xor_assoc, Nat.xor_comm d, Nat.xor_assoc]
   ·rw [if_neg hl, if_neg (by omega)]
/-- Bits. -/
def bl (p : List Nat) : Prop := ∀ i, p.getD i 0 < 2
/-- A polynomial's number. -/
def pv (p : List Nat) (n : Nat) : Nat := xs (fun k => iff (p.getD k 0 == 1) (mxN one k)) n
theorem getD_set (p : List Nat) (q v i : Nat) (hq : q < p.length) : (p.set q v).getD i 0 = if i = q then v else p.getD i 0 := by
 simp only [List.getD_eq_getElem?_getD, List.getElem?_set]
 by_cases h : q = i
 ·subst h; simp [hq]
 ·rw [if_neg h, if_neg (fun e => h e.symm)]
theorem xor_bit {x v : Nat} (hx : x < 2) (hv : v < 2) : x ^^^ v < 2 := Nat.xor_lt_two_pow (n := 1) hx hv
theorem bl_set {p : List Nat} (h : bl p) (q v : Nat) (hq : q < p.length) (hv : v < 2) : bl (p.set q v) := fun i => by
 rw [getD_set p q v i hq]; split
 ·exact hv
 ·exact h i
theorem pv_set {p : List Nat} (h : bl p) (q v n : Nat) (hq : q < p.length) (hn : q < n) (hv : v < 2) :
  pv (p.set q (p.getD q 0 ^^^ v)) n = pv p n ^^^ iff (v == 1) (mxN one q) := by
 unfold pv
 rw [xs_at (fun k => iff (p.getD k 0 == 1) (mxN one k)) _ q (iff (v == 1) (mxN one q)) ?_ ?_ n, if_pos hn]
 ·have hx := h q
  rw [getD_set _ _ _ _ hq, if_pos rfl]
  have h2 : p.getD q 0 = 0 ∨ p.getD q 0 = 1 := by omega
  have h3 : v = 0 ∨ v = 1 := by omega
  rcases h2 with e | e <;> rcases h3 with rfl | rfl <;> rw [e] <;> simp [iff]
 ·intro i hi
  rw [getD_set _ _ _ _ hq, if_neg hi]
/-- A row is added. -/
def rowL (p y : List Nat) (i : Nat) : Nat → List Nat
 | 0 => p
 | k + 1 => (rowL p y i k).set (i + k) ((rowL p y i k).getD (i + k) 0 ^^^ y.getD k 0)
theorem rowL_len (p y : List Nat) (i : Nat) : ∀ k, (rowL p y i k).length = p.length
 | 0 => rfl
 | k + 1 => by rw [rowL, List.length_set, rowL_len p y i k]
theorem rowL_bl {p y : List Nat} (hp : bl p) (hy : bl y) (i : Nat) (hl : p.length = 255) (hi : i < 128) : ∀ k, k ≤ 128 → bl (rowL p y i k)
 | 0, _ => hp
 | k + 1, h => bl_set (rowL_bl hp hy i hl hi k (by omega)) _ _ (by rw [rowL_len, hl]; omega) (xor_bit (rowL_bl hp hy i hl hi k (by omega) _) (hy k))
theorem rowL_pv {p y : List Nat} (hp : bl p) (hy : bl y) (i : Nat) (hl : p.length = 255) (hi : i < 128) : ∀ k, k ≤ 128 → pv (rowL p y i k) 255 = pv p 255 ^^^ xs (fun j => iff (y.getD j 0 == 1) (mxN one (i + j))) k
 | 0, _ => by simp [rowL, xs]
 | k + 1, h => by
  rw [rowL, pv_set (rowL_bl hp hy i hl hi k (by omega)) _ _ _ (by rw [rowL_len, hl]; omega) (by omega) (hy k), rowL_pv hp hy i hl hi k (by omega), xs, Nat.xor_assoc]
/-- All rows. -/
def prod (x y : List Nat) : Nat → List Nat
 | 0 => List.replicate 255 0
 | i + 1 => if x.getD i 0 = 1 then rowL (prod x y i) y i 128 else prod x y i
theorem prod_len (x y : List Nat) : ∀ i, (prod x y i).length = 255
 | 0 => List.length_replicate
 | i + 1 => by
  rw [prod]; split
  ·rw [rowL_len, prod_len x y i]
  ·exact prod_len x y i
theorem bl_zeros (n : Nat) : bl (List.replicate n 0) := fun i => by
 rw [List.getD_eq_getElem?_getD, List.getElem?_replicate]; split <;> decide
theorem prod_bl (x : List Nat) {y : List Nat} (hy : bl y) : ∀ i, i ≤ 128 → bl (prod x y i)
 | 0, _ => bl_zeros 255
 | i + 1, h => by
  rw [prod]; split
  ·exact rowL_bl (prod_bl x hy i (by omega)) hy i (prod_len x y i) (by omega) 128 (Nat.le_refl _)
  ·exact prod_bl x hy i (by omega)
theorem pv_zeros (n m : Nat) : pv (List.replicate n 0) m = 0 := by
 unfold pv
 rw [xs_congr m (g := fun _ => 0) (fun i _ => by
  have : (List.replicate n 0).getD i 0 = 0 := by rw [List.getD_eq_getElem?_getD, List.getElem?_replicate]; split <;> rfl
  rw [this]; rfl), xs_zero]
theorem prod_pv (x : List Nat) {y : List Nat} (hy : bl y) : ∀ i, i ≤ 128 → pv (prod x y i) 255 = xs (fun i => iff (x.getD i 0 == 1) (xs (fun j => iff (y.getD j 0 == 1) (mxN one (i + j))) 128)) i
 | 0, _ => pv_zeros 255 255
 | i + 1, h => by
  rw [prod, xs, ← prod_pv x hy i (by omega)]
  by_cases e : x.getD i 0 = 1
  ·rw [if_pos e, rowL_pv (prod_bl x hy i (by omega)) hy i (prod_len x y i) (by omega) 128 (Nat.le_refl _), e]; rfl
  ·rw [if_neg e]
   have : (x.getD i 0 == 1) = false := by simpa using e
   rw [this]; simp [iff]
/-- One power is taken away. -/
def cut1 (p : List Nat) (i : Nat) : List Nat := p.set i (p.getD i 0 ^^^ 1)
theorem cut1_len (p : List Nat) (i : Nat) : (cut1 p i).length = p.length := List.length_set
theorem cut1_bl {p : List Nat} (h : bl p) (i : Nat) (hi : i < p.length) : bl (cut1 p i) := bl_set h _ _ hi (xor_bit (h i) (by decide))
theorem cut1_pv {p : List Nat} (h : bl p) (i : Nat) (hl : p.length = 255) (hi : i < 255) : pv (cut1 p i) 255 = pv p 255 ^^^ mxN one i := by
 unfold cut1; rw [pv_set h i 1 255 (by omega) hi (by decide)]; rfl
theorem cut1_get (p : List Nat) (i j : Nat) (hi : i < p.length) : (cut1 p i).getD j 0 = if j = i then p.getD i 0 ^^^ 1 else p.getD j 0 := getD_set _ _ _ _ hi
def cut5 (p : List Nat) (i : Nat) : List Nat := cut1 (cut1 (cut1 (cut1 (cut1 p i) (i - 128)) (i - 127)) (i - 126)) (i - 121)
theorem cut5_len (p : List Nat) (i : Nat) : (cut5 p i).length = p.length := by simp [cut5, cut1_len]
theorem cut5_bl {p : List Nat} (h : bl p) (i : Nat) (hl : p.length = 255) (h1 : 128 ≤ i) (h2 : i < 255) : bl (cut5 p i) := by
 unfold cut5
 exact cut1_bl (cut1_bl (cut1_bl (cut1_bl (cut1_bl h _ (by omega)) _ (by rw [cut1_len]; omega)) _ (by simp only [cut1_len]; omega)) _ (by simp only [cut1_len]; omega)) _ (by simp only [cut1_len]; omega)
theorem cut5_pv {p : List Nat} (h : bl p) (i : Nat) (hl : p.length = 255) (h1 : 128 ≤ i) (h2 : i < 255) : pv (cut5 p i) 255 = pv p 255 := by
 have b1 := cut1_bl h i (by omega)
 have b2 := cut1_bl b1 (i - 128) (by rw [cut1_len]; omega)
 have b3 := cut1_bl b2 (i - 127) (by simp only [cut1_len]; omega)
 have b4 := cut1_bl b3 (i - 126) (by simp only [cut1_len]; omega)
 unfold cut5
 rw [cut1_pv b4 _ (by simp only [cut1_len]; exact hl) (by omega), cut1_pv b3 _ (by simp only [cut1_len]; exact hl) (by omega), cut1_pv b2 _ (by simp only [cut1_len]; exact hl) (by omega), cut1_pv b1 _ (by simp only [cut1_len]; exact hl) (by omega), cut1_pv h _ hl h2]
 have e := left128 (i - 128)
 rw [show 128 + (i - 128) = i by omega, show i - 128 + 1 = i - 127 by omega, show i - 128 + 2 = i - 126 by omega, show i - 128 + 7 = i - 121 by omega] at e
 rw [e]
 generalize mxN one (i - 128) = A
 generalize mxN one (i - 127) = B
 generalize mxN one (i - 126) = C
 generalize mxN one (i - 121) = D
 generalize pv p 255 = P
 apply Nat.eq_of_testBit_eq
 intro k
 simp only [Nat.testBit_xor]
 cases P.testBit k <;> cases A.testBit k <;> cases B.testBit k <;> cases C.testBit k <;> cases D.testBit k <;> rfl
/-- So many powers are taken away, the greatest first. -/
def red (p : List Nat) : Nat → List Nat
 | 0 => p
 | m + 1 => if (red p m).getD (254 - m) 0 = 1 then cut5 (red p m) (254 - m) else red p m
theorem red_len (p : List Nat) : ∀ m, (red p m).length = p.length
 | 0 => rfl
 | m + 1 => by
  rw [red]; split
  ·rw [cut5_len, red_len p m]
  ·exact red_len p m
theorem red_bl {p : List Nat} (h : bl p) (hl : p.length = 255) : ∀ m, m ≤ 127 → bl (red p m)
 | 0, _ => h
 | m + 1, hm => by
  rw [red]; split
  ·exact cut5_bl (red_bl h hl m (by omega)) _ (by rw [red_len, hl]) (by omega) (by omega)
  ·exact red_bl h hl m (by omega)
theorem red_pv {p : List Nat} (h : bl p) (hl : p.length = 255) : ∀ m, m ≤ 127 → pv (red p m) 255 = pv p 255
 | 0, _ => rfl
 | m + 1, hm => by
  rw [red]; split
  ·rw [cut5_pv (red_bl h hl m (by omega)) _ (by rw [red_len, hl]) (by omega) (by omega), red_pv h hl m (by omega)]
  ·exact red_pv h hl m (by omega)
theorem red_zero {p : List Nat} (h : bl p) (hl : p.length = 255) : ∀ m, m ≤ 127 → ∀ j, 255 - m ≤ j → (red p m).getD j 0 = 0
 | 0, _, j, hj => by
  show p.getD j 0 = 0
  rw [List.getD_eq_getElem?_getD, List.getElem?_eq_none (by omega)]; rfl
 | m + 1, hm, j, hj => by
  have hb := red_bl h hl m (by omega)
  have hrl := red_len p m
  rw [red]
  by_cases hi : j = 254 - m
  ·subst hi
   split
   ·rename_i h1
    unfold cut5
    rw [cut1_get _ _ _ (by simp only [cut1_len]; omega), if_neg (by omega), cut1_get _ _ _ (by simp only [cut1_len]; omega), if_neg (by omega), cut1_get _ _ _ (by simp only [cut1_len]; omega), if_neg (by omega), cut1_get _ _ _ (by simp only [cut1_len]; omega), if_neg (by omega), cut1_get _ _ _ (by omega), if_pos rfl, h1]
    decide
   ·rename_i h1
    have := hb (254 - m)
    omega
  ·have hz := red_zero h hl m (by omega) j (by omega)
   split
   ·unfold cut5
    rw [cut1_get _ _ _ (by simp only [cut1_len]; omega), if_neg (by omega), cut1_get _ _ _ (by simp only [cut1_len]; omega), if_neg (by omega), cut1_get _ _ _ (by simp only [cut1_len]; omega), if_neg (by omega), cut1_get _ _ _ (by simp only [cut1_len]; omega), if_neg (by omega), cut1_get _ _ _ (by omega), if_neg hi, hz]
   ·exact hz
end Go.Gc
namespace Go.Gc
open List (getElem?_toArray getElem?_cons_zero getElem?_cons_succ setIfInBounds_toArray set_cons_zero set_cons_succ)
set_option maxRecDepth 100000
open Go.Proofs.YtabfcaidioohfaaDoor
set_option linter.unusedVariables false
set_option linter.unusedSimpArgs false
/-- A block's bit, as the document reckons it. -/
def lb (b : List Nat) (i : Nat) : Nat := b.getD (i / 8) 0 / 2 ^ (7 - i % 8) % 2
def lbs (b : List Nat) (k : Nat) : List Nat := (List.range k).map (lb b)
theorem lbs_len (b : List Nat) (k : Nat) : (lbs b k).length = k := by simp [lbs]
theorem lbs_succ (b : List Nat) (k : Nat) : lbs b (k + 1) = lbs b k ++ [lb b k] := by simp [lbs, List.range_succ]
theorem lbs_get (b : List Nat) (k i : Nat) (h : i < k) : (lbs b k).getD i 0 = lb b i := by simp [lbs, List.getD_eq_getElem?_getD, h]
theorem lb_lt (b : List Nat) (i : Nat) : lb b i < 2 := Nat.mod_lt _ (by decide)
theorem lbs_bl (b : List Nat) (k : Nat) : bl (lbs b k) := fun i => by
 rcases Nat.lt_or_ge i k with h | h
 ·rw [lbs_get b k i h]; exact lb_lt b i
 ·rw [List.getD_eq_getElem?_getD, List.getElem?_eq_none (by rw [lbs_len]; exact h)]; decide
theorem nb_part {b : List Nat} (hb : Ae.bytes b) (j : Nat) (hj : j < b.length) : nb b / 256 ^ (b.length - 1 - j) = nb (b.take j) * 256 + b.getD j 0 := by
 have e : b = b.take j ++ (b[j] :: b.drop (j + 1)) := by rw [← List.drop_eq_getElem_cons hj, List.take_append_drop]
 have hd : (b.drop (j + 1)).length = b.length - 1 - j := by rw [List.length_drop]; omega
 have hlt := nb_lt (b.drop (j + 1)) (fun c hc => hb c (List.mem_of_mem_drop hc))
 have hx : b.getD j 0 = b[j] := by simp [List.getD_eq_getElem?_getD, hj]
 have h1 : nb b = (nb (b.take j) * 256 + b[j]) * 256 ^ (b.length - 1 - j) + nb (b.drop (j + 1)) := by
  have := congrArg nb e
  rw [nb_append, nb_cons, List.length_cons, hd, Nat.pow_succ] at this
  rw [this, Nat.add_mul, Nat.mul_assoc, Nat.mul_comm 256, Nat.add_assoc]
 rw [h1, hx, Nat.mul_comm, Nat.mul_add_div (Nat.pow_pos (by decide)), Nat.div_eq_of_lt (by rw [hd] at hlt; exact hlt), Nat.add_zero]
theorem low_bit (Q x t : Nat) (h : t ≤ 7) : (Q * 256 + x) / 2 ^ t % 2 = x / 2 ^ t % 2 := by
 have : t = 0 ∨ t = 1 ∨ t = 2 ∨ t = 3 ∨ t = 4 ∨ t = 5 ∨ t = 6 ∨ t = 7 := by omega
 rcases this with rfl | rfl | rfl | rfl | rfl | rfl | rfl | rfl <;> simp only [Nat.reducePow] <;> omega
theorem lb_bit {b : List Nat} (hl : b.length = 16) (hb : Ae.bytes b) (i : Nat) (hi : i < 128) : bit (nb b) i = (lb b i == 1) := by
 unfold bit
 rw [Nat.testBit_eq_decide_div_mod_eq]
 have e : 127 - i = 8 * (16 - 1 - i / 8) + (7 - i % 8) := by omega
 have h1 := nb_part hb (i / 8) (by omega)
 rw [hl] at h1
 rw [e, Nat.pow_add, ← Nat.div_div_eq_div_mul, ← pow256', h1, low_bit _ _ _ (by omega)]
 unfold lb
 cases h : b.getD (i / 8) 0 / 2 ^ (7 - i % 8) % 2 with
 | zero => rfl
 | succ n => cases n <;> simp
where pow256' (k : Nat) : 256 ^ k = 2 ^ (8 * k) := by rw [show (256 : Nat) = 2 ^ 8 from rfl, ← Nat.pow_mul]
/-- Bytes out of bits. -/
def outv (p : List Nat) (j : Nat) : Nat → Nat
 | 0 => 0
 | t + 1 => outv p j t * 2 + p.getD (8 * j + t) 0
def outL (p : List Nat) (i : Nat) : List Nat := (List.range 16).map fun j => outv p j (min 8 (i - 8 * j))
theorem outL_len (p : List Nat) (i : Nat) : (outL p i).length = 16 := by simp [outL]
theorem outv_lt {p : List Nat} (h : bl p) (j : Nat) : ∀ t, outv p j t < 2 ^ t
 | 0 => Nat.one_pos
 | t + 1 => by
  have h1 := outv_lt h j t
  have h2 := h (8 * j + t)
  rw [outv, Nat.pow_succ]; omega
theorem outL_get (p : List Nat) (i j : Nat) (hj : j < 16) : (outL p i).getD j 0 = outv p j (min 8 (i - 8 * j)) := by simp [outL, List.getD_eq_getElem?_getD, hj]
theorem outL_at (p : List Nat) (i : Nat) (hi : i < 128) : (outL p i).getD (i / 8) 0 = outv p (i / 8) (i % 8) := by
 rw [outL_get _ _ _ (by omega)]; congr 1; omega
theorem outL_set (p : List Nat) (i : Nat) (hi : i < 128) : (outL p i).set (i / 8) (outv p (i / 8) (i % 8) * 2 + p.getD i 0) = outL p (i + 1) := by
 refine Ae.ext_get (by rw [List.length_set, outL_len, outL_len]) fun j hj => ?_
 rw [List.length_set, outL_len] at hj
 rw [getD_set _ _ _ _ (by rw [outL_len]; omega), outL_get _ _ _ hj, outL_get _ _ _ hj]
 by_cases e : j = i / 8
 ·subst e
  rw [if_pos rfl, show min 8 (i + 1 - 8 * (i / 8)) = i % 8 + 1 by omega, outv, show 8 * (i / 8) + i % 8 = i by omega]
 ·rw [if_neg e]; congr 1; omega
theorem outL_zero (p : List Nat) : outL p 0 = List.replicate 16 0 := by
 refine Ae.ext_get (by rw [outL_len]; simp) fun j hj => ?_
 rw [outL_len] at hj
 rw [outL_get _ _ _ hj, Nat.zero_sub, show min 8 0 = 0 from rfl]
 rw [List.getD_eq_getElem?_getD, List.getElem?_replicate, if_pos hj]; rfl
theorem outL_bytes {p : List Nat} (h : bl p) (i : Nat) : Ae.bytes (outL p i) := fun c hc => by
 unfold outL at hc
 obtain ⟨j, _, rfl⟩ := List.mem_map.1 hc
 exact Nat.lt_of_lt_of_le (outv_lt h j _) (Nat.pow_le_pow_right (by decide) (Nat.min_le_left _ _))
theorem outL_lb {p : List Nat} (h : bl p) (i : Nat) (hi : i < 128) : lb (outL p 128) i = p.getD i 0 := by
 unfold lb
 rw [outL_get _ _ _ (by omega), show min 8 (128 - 8 * (i / 8)) = 8 by omega]
 obtain ⟨j, hj⟩ : ∃ j, i / 8 = j := ⟨_, rfl⟩
 rw [hj]
 have h0 := h (8 * j); have h1 := h (8 * j + 1); have h2 := h (8 * j + 2); have h3 := h (8 * j + 3)
 have h4 := h (8 * j + 4); have h5 := h (8 * j + 5); have h6 := h (8 * j + 6); have h7 := h (8 * j + 7)
 simp only [outv, Nat.add_zero]
 have : i = 8 * j ∨ i = 8 * j + 1 ∨ i = 8 * j + 2 ∨ i = 8 * j + 3 ∨ i = 8 * j + 4 ∨ i = 8 * j + 5 ∨ i = 8 * j + 6 ∨ i = 8 * j + 7 := by omega
 rcases this with rfl | rfl | rfl | rfl | rfl | rfl | rfl | rfl
 ·rw [show 7 - 8 * j % 8 = 7 by omega]; simp only [Nat.reducePow]; omega
 ·rw [show 7 - (8 * j + 1) % 8 = 6 by omega]; simp only [Nat.reducePow]; omega
 ·rw [show 7 - (8 * j + 2) % 8 = 5 by omega]; simp only [Nat.reducePow]; omega
 ·rw [show 7 - (8 * j + 3) % 8 = 4 by omega]; simp only [Nat.reducePow]; omega
 ·rw [show 7 - (8 * j + 4) % 8 = 3 by omega]; simp only [Nat.reducePow]; omega
 ·rw [show 7 - (8 * j + 5) % 8 = 2 by omega]; simp only [Nat.reducePow]; omega
 ·rw [show 7 - (8 * j + 6) % 8 = 1 by omega]; simp only [Nat.reducePow]; omega
 ·rw [show 7 - (8 * j + 7) % 8 = 0 by omega]; simp only [Nat.reducePow]; omega
theorem xs_bits' (g : Nat → Bool) : ∀ n, n ≤ 128 → ∀ k, (xs (fun i => iff (g i) (mxN one i)) n).testBit k = (decide (k ≤ 127) && decide (127 - k < n) && g (127 - k))
 | 0, _, k => by simp [xs]
 | n + 1, h, k => by
  rw [xs, Nat.testBit_xor, xs_bits' g n (by omega) k, mxN_one n (by omega)]
  unfold iff
  by_cases h1 : k = 127 - n
  ·subst h1
   have h2 : ¬ 127 - (127 - n) < n := by omega
   have h3 : 127 - (127 - n) < n + 1 := by omega
   have h4 : 127 - (127 - n) = n := by omega
   cases hb : g n <;> simp [h2, h3, h4, hb, Nat.testBit_two_pow_self]
  ·have h4 : (if g n = true then 2 ^ (127 - n) else 0).testBit k = false := by
    split
    ·rw [Nat.testBit_two_pow]; simp; omega
    ·simp
   rw [h4, Bool.xor_false]
   by_cases h5 : k ≤ 127
   ·by_cases h6 : 127 - k < n
    ·have : 127 - k < n + 1 := by omega
     simp [h5, h6, this]
    ·have : ¬ 127 - k < n + 1 := by omega
     simp [h5, h6, this]
   ·simp [h5]
theorem xs_tail (f : Nat → Nat) (n : Nat) : ∀ m, (∀ i, n ≤ i → f i = 0) → xs f (n + m) = xs f n
 | 0, _ => rfl
 | m + 1, h => by rw [← Nat.add_assoc, xs, xs_tail f n m h, h (n + m) (by omega), Nat.xor_zero]
/-- The product's bytes. -/
theorem times_ref {a b : List Nat} (ha : a.length = 16) (hb : b.length = 16) (qa : Ae.bytes a) (qb : Ae.bytes b) :
  outL (red (prod (lbs a 128) (lbs b 128) 128) 127) 128 = bn (mul (nb a) (nb b)) := by
 have hy := lbs_bl b 128
 have hp := prod_bl (lbs a 128) hy 128 (Nat.le_refl _)
 have hl := prod_len (lbs a 128) (lbs b 128) 128
 have hr := red_bl hp hl 127 (Nat.le_refl _)
 have hv : pv (red (prod (lbs a 128) (lbs b 128) 128) 127) 255 = mul (nb a) (nb b) := by
  rw [red_pv hp hl 127 (Nat.le_refl _), prod_pv _ hy 128 (Nat.le_refl _), mul_all _ (nb16_lt hb qb)]
  unfold all
  refine xs_congr _ fun i hi => ?_
  rw [lbs_get _ _ _ hi, ← lb_bit ha qa i hi, iff_xs]
  refine xs_congr _ fun j hj => ?_
  rw [lbs_get _ _ _ hj, ← lb_bit hb qb j hj]
  cases bit (nb a) i <;> cases bit (nb b) j <;> rfl
 have hz := red_zero hp hl 127 (Nat.le_refl _)
 generalize red (prod (lbs a 128) (lbs b 128) 128) 127 = P at *
 have hv2 : xs (fun k => iff (P.getD k 0 == 1) (mxN one k)) 128 = mul (nb a) (nb b) := by
  rw [← hv]
  exact (xs_tail _ 128 127 fun i hi => by rw [hz i (by omega)]; rfl).symm
 have hol := outL_len P 128
 have hob := outL_bytes hr 128
 have e : nb (outL P 128) = mul (nb a) (nb b) := by
  apply Nat.eq_of_testBit_eq
  intro k
  by_cases hk : k ≤ 127
  ·have h1 := lb_bit hol hob (127 - k) (by omega)
   unfold bit at h1
   rw [show 127 - (127 - k) = k by omega, outL_lb hr _ (by omega)] at h1
   rw [h1, ← hv2, xs_bits' (fun k => P.getD k 0 == 1) 128 (Nat.le_refl _) k]
   have : 127 - k < 128 := by omega
   simp [hk, this]
  ·rw [Nat.testBit_lt_two_pow (Nat.lt_of_lt_of_le (nb16_lt hol hob) (Nat.pow_le_pow_right (by decide) (by omega))), Nat.testBit_lt_two_pow (Nat.lt_of_lt_of_le (mul_lt (nb16_lt hb qb)) (Nat.pow_le_pow_right (by decide) (by omega)))]
 rw [← e, bn_nb hol hob]
end Go.Gc
namespace Go.Proofs.YtabfcaidioohfaaDoor
open List (getElem?_toArray getElem?_cons_zero getElem?_cons_succ setIfInBounds_toArray set_cons_zero set_cons_succ)
set_option maxRecDepth 100000
open Go Go.RowKit Go.Shelf
set_option linter.unusedVariables false
set_option linter.unusedSimpArgs false
def iv (x : Nat) : Value := .int .i64 (x : Int)
theorem infoI : (Tryd.prog.info? 3).map (fun i => (i.zero, i.size, i.bytes)) = some (some (.int .i64 0), 1, 8) := by kernel_rfl
theorem own_form {w : World} {base n : Nat} {e : TypeId} {v : Value} {xs : List Value} (h : w.ownsRow base e 1 v n xs) : ∃ A c, v = .slice A n c := by
 rcases h.2 with ⟨rfl, rfl⟩ | ⟨g, cap, cur, rfl, _⟩
 ·exact ⟨_, _, rfl⟩
 ·exact ⟨_, _, rfl⟩
/-- A number that is appended to an own slice of numbers. -/
theorem wpList_appI {ops : Array Oper} {rest : List Oper} {o : Oper} {a : Act} {w : World} {Q : Exit → Act → World → Prop} (hgd : o.guard = none) (s x : Operand)
  (ho : o.op = .call { callee := .builtin .append, args := #[s, x], argTypes := #[129, 129] })
  (base : Nat) (v : Value) (n : Nat) (xs : List Value) (hs : a.eval s = v) (hown : w.ownsRow base 3 1 v n xs)
  (g z : Nat) (hx : a.eval x = .slice (some ⟨g, 0, none⟩) 1 1) (hg : Obj w g 3 #[iv z]) (hm : n + 1 ≤ 100000000) (hbase : base ≤ w.heap.size)
  (h : ∀ v' w', w'.ownsRow base 3 1 v' (n + 1) (xs ++ [iv z]) → w.grownBy w' v.ownBlock → wpList Tryd.prog ops Q rest (a.put o.dst v') w') : wpList Tryd.prog ops Q (o :: rest) a w := by
 obtain ⟨i0, hi, hz0, hz1, hz2⟩ := info_parts infoI
 refine wpList_append_own w hgd s x 129 ho base 3 i0 (.int .i64 0) 1 8 Tryd.underlying129 hi hz0 hz1 hz2 rfl (by decide) v n xs hs hown ⟨g, 0, none⟩ 1 1 [iv z] hx rfl ?_ ?_ ?_ ?_ hbase (fun v' w' h1 h2 _ => h v' w' h1 h2)
 ·intro j u hu
  have hj := (List.getElem?_eq_some_iff.1 hu).1
  obtain rfl : j = 0 := by simpa using hj
  rw [Addr.add_mid, hg.cell]
  simpa using hu
 ·intro u hu
  obtain rfl : u = iv z := by simpa using hu
  rfl
 ·unfold maxLen; omega
 ·omega
set_option maxRecDepth 100000 in
set_option maxHeartbeats 2000000 in
theorem list_any (b : List Nat) (w : World) (hl : b.length = 16) (hb : Ae.bytes b) :
  Calls Tryd.prog 90 #[.agg (cellsN b)] w fun e w' => ∃ v, e = .returned v ∧ w'.ownsRow w.heap.size 3 1 v 128 ((Gc.lbs b 128).map iv) ∧ Below w.heap.size w w' := by
 obtain ⟨B, hB⟩ : ∃ B, w.heap.size = B := ⟨_, rfl⟩
 obtain ⟨W1, hW1⟩ : ∃ W1, w.alloc (.cells (cellsN b) 26) = W1 := ⟨_, rfl⟩
 have HO : Hid (Obj W1 B 26 (cellsN b)) := hW1 ▸ hB ▸ Obj.new w _ _
 have HB : Hid (Below w.heap.size w W1) := hW1 ▸ (Below.refl _ w).alloc (Nat.le_refl _) _
 have HS : Hid (W1.heap.size = B + 1) := by unfold Hid; rw [← hW1]; simp [hB]
 have HW := Lib.hid hW1
 have HBB := Lib.hid hB
 clear hW1
 go_enter Tryd.func90, Tryd.ntmps90
 go_wp2
 rw [HW.out]
 go_loopw [3, 4] (fun v i wr => ∃ k : Nat, k ≤ 128 ∧ i = .int .i64 (k : Int) ∧ wr.ownsRow (B + 1) 3 1 v k ((Gc.lbs b k).map iv) ∧ Below (B + 1) W1 wr) (fun _ i _ => 128 - (intOf i).toNat)
 case atStart => exact ⟨0, by omega, rfl, World.ownsRow_nil _ _ _ _, Below.refl _ _⟩
 case round =>
  obtain ⟨k, hk, rfl, hown, hbel⟩ := hrel
  have HOW := Lib.hid hown
  have HBL := Lib.hid hbel
  have hOb := HO.out.below hbel (by omega)
  obtain ⟨A', c', rfl⟩ := own_form hown
  clear hown hbel
  by_cases hlt : k < 128
  ·obtain ⟨q, hq⟩ : ∃ q, k / 8 = q := ⟨_, rfl⟩
   obtain ⟨r, hr⟩ : ∃ r, k % 8 = r := ⟨_, rfl⟩
   obtain ⟨s, hs⟩ : ∃ s, 7 - r = s := ⟨_, rfl⟩
   have hqi : (k : Int) / 8 = (q : Int) := by omega
   have hri : (k : Int) % 8 = (r : Int) := by omega
   have hsi : 7 - (r : Int) = (s : Int) := by omega
   have hq16 : q < 16 := by omega
   have hq16i : (q : Int) < 16 := by omega
   have hr8 : (r : Int) < 8 := by omega
   have hk128 : (k : Int) < 128 := by omega
   have hs8 : s ≤ 7 := by omega
   obtain ⟨x, hx⟩ : ∃ x, b.getD q 0 = x := ⟨_, rfl⟩
   have hx8 : x < 256 := by rw [← hx, List.getD_eq_getElem?_getD, List.getElem?_eq_getElem (by omega)]; exact hb _ (List.getElem_mem _)
   have c0 := hOb.getN q (by rw [hl]; exact hq16)
   rw [hx] at c0
   have HLB : Hid (Gc.lb b k = x / 2 ^ s % 2) := by unfold Hid Gc.lb; rw [hq, hr, hs, hx]
   have HSS := Lib.hid hs8
   clear hOb hx hq hr hs
   go_wp2
   go_loopw [5, 6] (fun c i W => ∃ m : Nat, m ≤ s ∧ i = .int .i64 (m : Int) ∧ c = .int .i64 ((x / 2 ^ m : Nat) : Int) ∧ W = wr) (fun _ i _ => s - (intOf i).toNat)
   case atStart => exact ⟨0, by omega, rfl, by simp, rfl⟩
   case round =>
    obtain ⟨m, hm, rfl, rfl, rfl⟩ := hrel
    by_cases hms : m < s
    ·have hmsi : (m : Int) < (s : Int) := by omega
     have hy8 : x / 2 ^ m ≤ x := Nat.div_le_self _ _
     have HZ : Hid (x / 2 ^ (m + 1) = x / 2 ^ m / 2) := by unfold Hid; rw [Nat.pow_succ, Nat.div_div_eq_div_mul]
     generalize x / 2 ^ m = y at *
     obtain ⟨z, hz⟩ : ∃ z, y / 2 = z := ⟨_, rfl⟩
     have hzi : (y : Int) / 2 = (z : Int) := by omega
     have HZ2 : Hid (x / 2 ^ (m + 1) = z) := by unfold Hid; rw [HZ.out, hz]
     clear hz HZ
     go_wp2
     go_roundw
     case rel => exact ⟨m + 1, by omega, by go_num, by rw [HZ2.out], by first | rfl | trivial⟩
     case measure => simp [intOf]; omega
    ·obtain rfl : s = m := by omega
     have hy8 : x / 2 ^ s ≤ x := Nat.div_le_self _ _
     generalize x / 2 ^ s = y at *
     obtain ⟨z, hz⟩ : ∃ z, y % 2 = z := ⟨_, rfl⟩
     have hzi : (y : Int) % 2 = (z : Int) := by omega
     rw [hz] at HLB
     have hz2 : z < 2 := by omega
     clear hz
     have k1 : Below wr.heap.size wr (wr.alloc (.cells #[.int .i64 (z : Int)] 3)) := (Below.refl _ wr).alloc (Nat.le_refl _) _
     have HOW2 := Lib.hid (own_below HOW.out k1)
     have HBL2 := Lib.hid (HBL.out.trans (k1.mono (by have := HBL.out.size; have := HS.out; omega)))
     have HON : Hid (Obj (wr.alloc (.cells #[.int .i64 (z : Int)] 3)) wr.heap.size 3 #[iv z]) := Obj.new wr _ _
     have HKM : Hid (k + 1 ≤ 100000000) := by unfold Hid; omega
     have HBS : Hid (B + 1 ≤ (wr.alloc (.cells #[.int .i64 (z : Int)] 3)).heap.size) := by unfold Hid; have := HBL2.out.size; have := HS.out; omega
     clear k1
     go_wp2_with (at_builtin; refine wpList_appI rfl _ _ rfl (B + 1) _ _ _ rfl HOW2.out wr.heap.size z rfl HON.out HKM.out HBS.out ?_; intro v2 w2 hown2 hgrow2)
     have HB3 := Lib.hid (Below.grown HBL2.out hgrow2 HBS.out (fun k hk => (HOW2.out.lt k hk).1))
     have e : (Gc.lbs b k).map iv ++ [iv z] = (Gc.lbs b (k + 1)).map iv := by rw [Gc.lbs_succ, List.map_append, HLB.out]; rfl
     rw [e] at hown2
     have HO3 := Lib.hid hown2
     clear hown2 hgrow2 e
     go_wp2
     go_roundw
     case rel => exact ⟨k + 1, by omega, by go_num, HO3.out, HB3.out⟩
     case measure => simp [intOf]; omega
  ·obtain rfl : k = 128 := by omega
   go_wp2
   go_ret
   exact ⟨_, rfl, HOW.out.mono (by have := HBB.out; omega), HB.out.trans (HBL.out.mono (by have := HBB.out; omega))⟩
end Go.Proofs.YtabfcaidioohfaaDoor
namespace Go.Proofs.YtabfcaidioohfaaDoor
open List (getElem?_toArray getElem?_cons_zero getElem?_cons_succ setIfInBounds_toArray set_cons_zero set_cons_succ)
set_option maxRecDepth 100000
open Go Go.RowKit Go.Shelf
set_option linter.unusedVariables false
set_option linter.unusedSimpArgs false
/-- Numbers' cells. -/
def cellsI (l : List Nat) : Array Value := (l.map iv).toArray
theorem cellsI_get (l : List Nat) (i : Nat) (h : i < l.length) : (cellsI l)[i]? = some (.int .i64 ((l.getD i 0 : Nat) : Int)) := by
 simp [cellsI, iv, List.getD_eq_getElem?_getD, h]
theorem Obj.getI {w : World} {b : Nat} {t : TypeId} {l : List Nat} (h : Obj w b t (cellsI l)) (i : Nat) (hi : i < l.length) : w.cell? ⟨b, i, none⟩ = some (.int .i64 ((l.getD i 0 : Nat) : Int)) := by rw [h.cell i, cellsI_get l i hi]
theorem Obj.setI {w : World} {b : Nat} {t : TypeId} {l : List Nat} (h : Obj w b t (cellsI l)) (i v : Nat) : Obj (w.setCell ⟨b, i, none⟩ (.int .i64 ((v : Nat) : Int))) b t (cellsI (l.set i v)) := by
 refine (h.set i _).as ?_
 apply Array.ext'
 simp [cellsI, iv, List.map_set]
theorem made_zerosI (n : Nat) : madeCells #[Value.int .i64 0] n = cellsI (List.replicate n 0) := by
 apply Array.ext
 ·simp [cellsI, size_madeCells]
 ·intro i h1 h2
  simp [madeCells, cellsI, iv, Nat.mod_one]
theorem mkI (N : Nat) (hN : N ≤ 1000) (w : World) :
  (Instr.makeSlice 129 (.int .i64 (N : Int)) (.int .i64 (N : Int))).run Tryd.prog w = .ok (.slice (some ⟨w.heap.size, 0, none⟩) N N) (w.alloc (.cells (cellsI (List.replicate N 0)) 3)) := by
 rw [run_make_row' 129 3 (.int .i64 0) 8 Tryd.underlying129 infoI rfl .i64 .i64 N (by omega) (by omega) w, made_zerosI]
/-- A row of numbers that is read. -/
def RI (w : World) (g : Nat) (l : List Nat) : Prop := g < w.heap.size ∧ ∀ j, j < l.length → w.cell? ⟨g, j, none⟩ = some (.int .i64 ((l.getD j 0 : Nat) : Int))
theorem RI.kept {w w' : World} {g : Nat} {l : List Nat} (h : RI w g l) (hb : Below w.heap.size w w') : RI w' g l := ⟨Nat.lt_of_lt_of_le h.1 hb.size, fun j hj => (hb.cell (p := ⟨g, j, none⟩) h.1).trans (h.2 j hj)⟩
theorem RI.upd {w w' : World} {g b : Nat} {l : List Nat} (h : RI w g l) (hu : Upd b w w') (hne : g ≠ b) : RI w' g l := ⟨Nat.lt_of_lt_of_le h.1 hu.size, fun j hj => (World.cell?_of_block (a := ⟨g, j, none⟩) (hu.block g h.1 hne)).trans (h.2 j hj)⟩
theorem own_RI {w : World} {base n : Nat} {v : Value} {l : List Nat} (h : w.ownsRow base 3 1 v n (l.map iv)) (hn : 0 < n) : ∃ g c, v = .slice (some ⟨g, 0, none⟩) n c ∧ base ≤ g ∧ n ≤ c ∧ RI w g l := by
 obtain ⟨A, c, rfl⟩ := own_form h
 have h0 := h
 rcases h.2 with ⟨e, h0⟩ | ⟨g, cap, cur, e, hb, hg, hnc, _⟩
 ·omega
 ·cases e
  have hl : l.length = n := by simpa using h.1
  refine ⟨g, c, rfl, hb, hnc, ?_, fun j hj => ?_⟩
  ·exact (h.lt g rfl).2
  ·rw [h0.cellAt j (by omega)]
   simp [iv, List.getD_eq_getElem?_getD, hj]
/-- The document's product under way. -/
structure TmR (w : World) (B gx gy P : Nat) (x y p : List Nat) (V : World) : Prop where
 p : Obj V P 3 (cellsI p)
 x : RI V gx x
 y : RI V gy y
 r : Obj V (B + 1 + 1) 26 (cellsN (List.replicate 16 0))
 bel : Below w.heap.size w V
theorem TmR.drew {w V : World} {B gx gy P : Nat} {x y p : List Nat} (h : TmR w B gx gy P x y p V) : TmR w B gx gy P x y p V.drew := ⟨h.p, h.x, h.y, h.r, h.bel.drew⟩
theorem TmR.set {w V : World} {B gx gy P : Nat} {x y p : List Nat} (h : TmR w B gx gy P x y p V) (hw : w.heap.size = B) (h1 : B + 2 < P) (h2 : gx ≠ P) (h3 : gy ≠ P) (j v : Nat) : TmR w B gx gy P x y (p.set j v) (V.setCell ⟨P, j, none⟩ (.int .i64 (v : Int))) :=
 ⟨h.p.setI j v, h.x.upd ((Upd.refl P V).set j _) h2, h.y.upd ((Upd.refl P V).set j _) h3, h.r.far (by simp; omega) _, h.bel.setCell (by simp; omega) _⟩
/-- The product's bytes under way. -/
structure OuI (w : World) (B P O : Nat) (p : List Nat) (k : Nat) (V : World) : Prop where
 c : Obj V P 3 (cellsI p)
 o : Obj V O 26 (cellsN (Gc.outL p k))
 r : Obj V (B + 1 + 1) 26 (cellsN (List.replicate 16 0))
 bel : Below w.heap.size w V
set_option maxRecDepth 100000 in
set_option maxHeartbeats 8000000 in
theorem refProd_any (a b : List Nat) (w : World) (la : a.length = 16) (lb : b.length = 16) (qa : Ae.bytes a) (qb : Ae.bytes b) :
  Calls Tryd.prog 76 #[.agg (cellsN a), .agg (cellsN b)] w fun e w' => e = .returned (.agg (cellsN (Gc.bn (Gc.mul (Gc.nb a) (Gc.nb b))))) ∧ Below w.heap.size w w' := by
 obtain ⟨B, hB⟩ : ∃ B, w.heap.size = B := ⟨_, rfl⟩
 obtain ⟨W3, hW3⟩ : ∃ W3, ((w.alloc (.cells (cellsN a) 26)).alloc (.cells (cellsN b) 26)).alloc (.cells #[.int .u8 0, .int .u8 0, .int .u8 0, .int .u8 0, .int .u8 0, .int .u8 0, .int .u8 0, .int .u8 0, .int .u8 0, .int .u8 0, .int .u8 0, .int .u8 0, .int .u8 0, .int .u8 0, .int .u8 0, .int .u8 0] 26) = W3 := ⟨_, rfl⟩
 have hb3 : Below w.heap.size w W3 := hW3 ▸ (((Below.refl _ w).alloc (Nat.le_refl _) _).alloc (by simp) _).alloc (by simp; omega) _
 have s3 : W3.heap.size = B + 3 := by rw [← hW3]; simp [hB]
 have o0 : Obj W3 B 26 (cellsN a) := hW3 ▸ hB ▸ ((Obj.new w _ _).alloc _).alloc _
 have o1 : Obj W3 (B + 1) 26 (cellsN b) := by
  have := (new2 w (.cells (cellsN a) 26) 26 (cellsN b)).alloc (.cells #[.int .u8 0, .int .u8 0, .int .u8 0, .int .u8 0, .int .u8 0, .int .u8 0, .int .u8 0, .int .u8 0, .int .u8 0, .int .u8 0, .int .u8 0, .int .u8 0, .int .u8 0, .int .u8 0, .int .u8 0, .int .u8 0] 26)
  rw [hB, hW3] at this; exact this
 have o2 : Obj W3 (B + 1 + 1) 26 (cellsN (List.replicate 16 0)) := by
  have := Obj.new ((w.alloc (.cells (cellsN a) 26)).alloc (.cells (cellsN b) 26)) 26 #[.int .u8 0, .int .u8 0, .int .u8 0, .int .u8 0, .int .u8 0, .int .u8 0, .int .u8 0, .int .u8 0, .int .u8 0, .int .u8 0, .int .u8 0, .int .u8 0, .int .u8 0, .int .u8 0, .int .u8 0, .int .u8 0]
  simp only [World.size_alloc, hB] at this; rw [hW3] at this; exact this
 have HIA := Lib.hid (size16 la)
 have HIB := Lib.hid (size16 lb)
 have H1 := Lib.hid (fun w => list_any a w la qa)
 have H2 := Lib.hid (fun w => list_any b w lb qb)
 have HRES := Lib.hid (Gc.times_ref la lb qa qb)
 have hlx := Gc.lbs_len a 128
 have hly := Gc.lbs_len b 128
 have hbx := Gc.lbs_bl a 128
 have hby := Gc.lbs_bl b 128
 generalize Gc.bn (Gc.mul (Gc.nb a) (Gc.nb b)) = R at *
 generalize Gc.lbs a 128 = x at *
 generalize Gc.lbs b 128 = y at *
 have hS0 : Obj W3.drew B 26 (cellsN a) ∧ Obj W3.drew (B + 1) 26 (cellsN b) ∧ Obj W3.drew (B + 1 + 1) 26 (cellsN (List.replicate 16 0)) ∧ Below w.heap.size w W3.drew := ⟨o0.drew, o1.drew, o2.drew, hb3.drew⟩
 have HW3 := Lib.hid hW3
 have HB := Lib.hid hB
 have HS3 := Lib.hid s3
 clear hW3 o0 o1 o2 hb3 qa qb la lb
 go_enter Tryd.func76, Tryd.ntmps76
 go_wp2
 rw [HW3.out]
 clear s3
 refine wp_nopanic0 ?_
 refine wp_region_held_drew (S := (fun wq => Obj wq B 26 (cellsN a) ∧ Obj wq (B + 1) 26 (cellsN b) ∧ Obj wq (B + 1 + 1) 26 (cellsN (List.replicate 16 0)) ∧ Below w.heap.size w wq)) (by kernel_rfl) hS0 (fun hHeld => ?_)
 refine tkH 0 ?_ (hy := by
  refine yieldsIf_load_row (g := B) (t := 26) (cs := cellsN a) (ty := 26) (x := (.tmp 2)) ?_ ?_ ?_ ?_ Tryd.underlying26 rfl HIA.out
  ·rfl
  ·rfl
  ·rfl
  ·exact fun w hSw => hSw.1)
 refine tkH 2 ?_ (hy := by
  refine yieldsIf_load_row (g := (B + 1)) (t := 26) (cs := cellsN b) (ty := 26) (x := (.tmp 3)) ?_ ?_ ?_ ?_ Tryd.underlying26 rfl HIB.out
  ·rfl
  ·rfl
  ·rfl
  ·exact fun w hSw => hSw.2.1)
 refine onH 1 (fun KK hKK => ?_)
 go_simp
 refine (H1.out _).mono ?_
 rintro e y1 ⟨vx, rfl, hvx, hy1⟩
 have hS1 : Obj y1 B 26 (cellsN a) ∧ Obj y1 (B + 1) 26 (cellsN b) ∧ Obj y1 (B + 1 + 1) 26 (cellsN (List.replicate 16 0)) ∧ Below w.heap.size w y1 := ⟨hS0.1.kept hy1, hS0.2.1.kept hy1, hS0.2.2.1.kept hy1, hS0.2.2.2.trans (hy1.mono hS0.2.2.2.size)⟩
 obtain ⟨gx, cx, rfl, hgx, hcx, hrx⟩ := own_RI hvx (by decide)
 clear hy1 hvx
 try go_wp2_with fail
 refine hKK.out _ _ ?_ (fun hh1 => ?_)
 ·(try dsimp only)
  exact hS1
 clear hKK KK
 try simp only [Act.put, setIfInBounds_toArray, set_cons_zero, set_cons_succ]
 refine onH 3 (fun KK hKK => ?_)
 go_simp
 refine (H2.out _).mono ?_
 rintro e y2 ⟨vy, rfl, hvy, hy2⟩
 have hS2 : Obj y2 B 26 (cellsN a) ∧ Obj y2 (B + 1) 26 (cellsN b) ∧ Obj y2 (B + 1 + 1) 26 (cellsN (List.replicate 16 0)) ∧ Below w.heap.size w y2 := ⟨hS1.1.kept hy2, hS1.2.1.kept hy2, hS1.2.2.1.kept hy2, hS1.2.2.2.trans (hy2.mono hS1.2.2.2.size)⟩
 obtain ⟨gy, cy, rfl, hgy, hcy, hry⟩ := own_RI hvy (by decide)
 have HX := Lib.hid (hrx.kept hy2)
 have HY := Lib.hid hry
 have HT := Lib.hid hS2
 clear hy2 hvy hrx hry hgx hgy hcx hcy
 try go_wp2_with fail
 refine hKK.out _ _ ?_ (fun hh3 => ?_)
 ·(try dsimp only)
  exact HT.out
 clear hKK KK
 try simp only [Act.put, setIfInBounds_toArray, set_cons_zero, set_cons_succ]
 refine tkH 4 ?_
 refine tkH 5 ?_
 refine wpAnyH_done (by kernel_rfl) ?_ _
 have hmk : ∀ w, (Instr.makeSlice 129 (.int .i64 255) (.int .i64 255)).run Tryd.prog w = .ok (.slice (some ⟨w.heap.size, 0, none⟩) 255 255) (w.alloc (.cells (cellsI (List.replicate 255 0)) 3)) := fun w => mkI 255 (by omega) w
 obtain ⟨P, hP⟩ : ∃ P, y2.heap.size = P := ⟨_, rfl⟩
 have hxP : gx ≠ P := by have := HX.out.1; omega
 have hyP : gy ≠ P := by have := HY.out.1; omega
 have hBP : B + 2 < P := by have := HT.out.2.2.1.lt; omega
 have k1 : Below y2.heap.size y2 (y2.alloc (.cells (cellsI (List.replicate 255 0)) 3)) := (Below.refl _ y2).alloc (Nat.le_refl _) _
 have HI0 : Hid (TmR w B gx gy P x y (Gc.prod x y 0) (y2.alloc (.cells (cellsI (List.replicate 255 0)) 3))) :=
  ⟨hP ▸ Obj.new y2 _ _, HX.out.kept k1, HY.out.kept k1, HT.out.2.2.1.kept k1, HT.out.2.2.2.trans (k1.mono HT.out.2.2.2.size)⟩
 have HLX := Lib.hid hlx
 have HLY := Lib.hid hly
 clear k1 hh1 hh3 hHeld hlx hly HX HY HT
 go_wp2
 clear hmk hP
 go_loopw [8] (fun i wr => ∃ j : Nat, j ≤ 128 ∧ i = .int .i64 (j : Int) ∧ TmR w B gx gy P x y (Gc.prod x y j) wr) (fun i _ => 128 - (intOf i).toNat)
 case atStart => exact ⟨0, by omega, rfl, HI0.out⟩
 case round =>
  clear HI0
  obtain ⟨j, hj, rfl, hF⟩ := hrel
  by_cases hlt : j < 128
  ·have hji : (j : Int) < 128 := by omega
   have hpl := Gc.prod_len x y j
   have hpb := Gc.prod_bl x hby j hj
   by_cases hu : x.getD j 0 = 1
   ·have HNX : Hid (Gc.rowL (Gc.prod x y j) y j 128 = Gc.prod x y (j + 1)) := by unfold Hid; rw [Gc.prod, if_pos hu]
    have HF0 : Hid (TmR w B gx gy P x y (Gc.rowL (Gc.prod x y j) y j 0) wr) := hF
    have HU := Lib.hid hu
    have HPL := Lib.hid hpl
    have HPB := Lib.hid hpb
    clear hF hu hpl hpb
    go_wp2
    go_loopw [9] (fun k V => ∃ m : Nat, m ≤ 128 ∧ k = .int .i64 (m : Int) ∧ TmR w B gx gy P x y (Gc.rowL (Gc.prod x y j) y j m) V) (fun k _ => 128 - (intOf k).toNat)
    case atStart => exact ⟨0, by omega, rfl, HF0.out⟩
    case round =>
     clear HF0
     obtain ⟨m, hm, rfl, hG⟩ := hrel
     have c0 := hG.x.2 j (by rw [HLX.out]; exact hlt)
     rw [HU.out] at c0
     by_cases hms : m < 128
     ·have hmsi : (m : Int) < 128 := by omega
      obtain ⟨q, hq⟩ : ∃ q, j + m = q := ⟨_, rfl⟩
      have hqi : (j : Int) + (m : Int) = (q : Int) := by omega
      have hq255 : (q : Int) < 255 := by omega
      have hql : q < (Gc.rowL (Gc.prod x y j) y j m).length := by rw [Gc.rowL_len, HPL.out]; omega
      have c1 := hG.p.getI q hql
      have c2 := hG.p.free q
      have c3 := hG.y.2 m (by rw [HLY.out]; exact hms)
      have hrb := Gc.rowL_bl HPB.out hby j HPL.out hlt m hm
      have hxr := i64_xor ((Gc.rowL (Gc.prod x y j) y j m).getD q 0) (y.getD m 0) (by have := hrb q; omega) (by have := hby m; omega)
      have HN2 : Hid (TmR w B gx gy P x y (Gc.rowL (Gc.prod x y j) y j (m + 1)) (wr.drew.setCell ⟨P, q, none⟩ (.int .i64 (((Gc.rowL (Gc.prod x y j) y j m).getD q 0 ^^^ y.getD m 0 : Nat) : Int)))) := by
       have := hG.drew.set HB.out hBP hxP hyP q ((Gc.rowL (Gc.prod x y j) y j m).getD q 0 ^^^ y.getD m 0)
       rw [← hq] at this ⊢
       exact this
      generalize (Gc.rowL (Gc.prod x y j) y j m).getD q 0 = pq at *
      generalize y.getD m 0 = ym at *
      clear hG hrb hql hq
      go_wp2
      go_region
      go_wp2
      go_roundw
      case rel => exact ⟨m + 1, by omega, by go_num, HN2.out⟩
      case measure => simp [intOf]; omega
     ·obtain rfl : m = 128 := by omega
      rw [HNX.out] at hG
      have HG := Lib.hid hG
      clear hG
      go_wp2
      go_roundw
      case rel => exact ⟨j + 1, by omega, by go_num, HG.out⟩
      case measure => simp [intOf]; omega
   ·have HNX : Hid (Gc.prod x y (j + 1) = Gc.prod x y j) := by unfold Hid; rw [Gc.prod, if_neg hu]
    have c0 := hF.x.2 j (by rw [HLX.out]; exact hlt)
    obtain ⟨u, hue⟩ : ∃ u, x.getD j 0 = u := ⟨_, rfl⟩
    rw [hue] at c0 hu
    have hui : ¬ (u : Int) = 1 := by omega
    have HF := Lib.hid hF
    clear hF hue hu hpl hpb
    go_wp2
    go_loopw [9] (fun k V => k = .int .i64 0 ∧ V = wr) (fun k _ => 0)
    case atStart => exact ⟨rfl, rfl⟩
    case round =>
     obtain ⟨rfl, rfl⟩ := hrel
     go_wp2
     go_roundw
     case rel => exact ⟨j + 1, by omega, by go_num, by rw [HNX.out]; exact HF.out⟩
     case measure => simp [intOf]; omega
  ·obtain rfl : j = 128 := by omega
   have hPl := Gc.prod_len x y 128
   have hPb := Gc.prod_bl x hby 128 (Nat.le_refl _)
   generalize Gc.prod x y 128 = Q at *
   have HF0 : Hid (TmR w B gx gy P x y (Gc.red Q 0) wr) := hF
   clear hF hlt hj
   go_wp2
   go_loopw [10] (fun i V => ∃ m : Nat, m ≤ 127 ∧ i = .int .i64 (254 - (m : Int)) ∧ TmR w B gx gy P x y (Gc.red Q m) V) (fun i _ => ((intOf i) - 127).toNat)
   case atStart => exact ⟨0, by omega, rfl, HF0.out⟩
   case round =>
    clear HF0
    obtain ⟨m, hm, rfl, hG⟩ := hrel
    have hrl := Gc.red_len Q m
    rw [hPl] at hrl
    have hrb := Gc.red_bl hPb hPl m hm
    obtain ⟨q, hq⟩ : ∃ q, 254 - m = q := ⟨_, rfl⟩
    have hqi : (254 : Int) - (m : Int) = (q : Int) := by omega
    rw [hqi]
    by_cases hms : m < 127
    ·have hq128 : (128 : Int) ≤ (q : Int) := by omega
     have hq255 : (q : Int) < 255 := by omega
     have c0 := hG.p.getI q (by rw [hrl]; omega)
     have f0 := hG.p.free q
     by_cases h1 : (Gc.red Q m).getD q 0 = 1
     ·have HNX : Hid (Gc.cut5 (Gc.red Q m) q = Gc.red Q (m + 1)) := by unfold Hid; rw [Gc.red, hq, if_pos h1]
      rw [h1] at c0
      generalize Gc.red Q m = p at *
      obtain ⟨r1, hr1⟩ : ∃ r, q - 128 = r := ⟨_, rfl⟩
      obtain ⟨r2, hr2⟩ : ∃ r, q - 127 = r := ⟨_, rfl⟩
      obtain ⟨r3, hr3⟩ : ∃ r, q - 126 = r := ⟨_, rfl⟩
      obtain ⟨r4, hr4⟩ : ∃ r, q - 121 = r := ⟨_, rfl⟩
      have i1 : (q : Int) - 128 = (r1 : Int) := by omega
      have i2 : (q : Int) - 127 = (r2 : Int) := by omega
      have i3 : (q : Int) - 126 = (r3 : Int) := by omega
      have i4 : (q : Int) - 121 = (r4 : Int) := by omega
      have j1 : (r1 : Int) < 255 := by omega
      have j2 : (r2 : Int) < 255 := by omega
      have j3 : (r3 : Int) < 255 := by omega
      have j4 : (r4 : Int) < 255 := by omega
      have g1 : TmR w B gx gy P x y (Gc.cut1 p q) (wr.setCell ⟨P, q, none⟩ (.int .i64 0)) := by
       have := hG.set HB.out hBP hxP hyP q (p.getD q 0 ^^^ 1)
       rw [h1] at this
       unfold Gc.cut1; rw [h1]; exact this
      have b1 := Gc.cut1_bl hrb q (by omega)
      have l1 := Gc.cut1_len p q
      obtain ⟨p1, hp1⟩ : ∃ p1, Gc.cut1 p q = p1 := ⟨_, rfl⟩
      rw [hp1] at g1 b1 l1
      have d1 := g1.p.getI r1 (by omega)
      have e1 := g1.p.free r1
      have x1 := i64_xor (p1.getD r1 0) 1 (by have := b1 r1; omega) (by decide)
      have g2 := g1.set HB.out hBP hxP hyP r1 (p1.getD r1 0 ^^^ 1)
      have b2 := Gc.cut1_bl b1 r1 (by omega)
      have l2 := Gc.cut1_len p1 r1
      change TmR w B gx gy P x y (Gc.cut1 p1 r1) _ at g2
      obtain ⟨p2, hp2⟩ : ∃ p', Gc.cut1 p1 r1 = p' := ⟨_, rfl⟩
      rw [hp2] at g2 b2 l2
      generalize p1.getD r1 0 = a1 at *
      change bits .xor .i64 (a1 : Int) 1 = _ at x1
      have d2 := g2.p.getI r2 (by omega)
      have e2 := g2.p.free r2
      have x2 := i64_xor (p2.getD r2 0) 1 (by have := b2 r2; omega) (by decide)
      have g3 := g2.set HB.out hBP hxP hyP r2 (p2.getD r2 0 ^^^ 1)
      have b3 := Gc.cut1_bl b2 r2 (by omega)
      have l3 := Gc.cut1_len p2 r2
      change TmR w B gx gy P x y (Gc.cut1 p2 r2) _ at g3
      obtain ⟨p3, hp3⟩ : ∃ p', Gc.cut1 p2 r2 = p' := ⟨_, rfl⟩
      rw [hp3] at g3 b3 l3
      generalize p2.getD r2 0 = a2 at *
      change bits .xor .i64 (a2 : Int) 1 = _ at x2
      have d3 := g3.p.getI r3 (by omega)
      have e3 := g3.p.free r3
      have x3 := i64_xor (p3.getD r3 0) 1 (by have := b3 r3; omega) (by decide)
      have g4 := g3.set HB.out hBP hxP hyP r3 (p3.getD r3 0 ^^^ 1)
      have b4 := Gc.cut1_bl b3 r3 (by omega)
      have l4 := Gc.cut1_len p3 r3
      change TmR w B gx gy P x y (Gc.cut1 p3 r3) _ at g4
      obtain ⟨p4, hp4⟩ : ∃ p', Gc.cut1 p3 r3 = p' := ⟨_, rfl⟩
      rw [hp4] at g4 b4 l4
      generalize p3.getD r3 0 = a3 at *
      change bits .xor .i64 (a3 : Int) 1 = _ at x3
      have d4 := g4.p.getI r4 (by omega)
      have e4 := g4.p.free r4
      have x4 := i64_xor (p4.getD r4 0) 1 (by have := b4 r4; omega) (by decide)
      have g5 := g4.set HB.out hBP hxP hyP r4 (p4.getD r4 0 ^^^ 1)
      have b5 := Gc.cut1_bl b4 r4 (by omega)
      have l5 := Gc.cut1_len p4 r4
      change TmR w B gx gy P x y (Gc.cut1 p4 r4) _ at g5
      obtain ⟨p5, hp5⟩ : ∃ p', Gc.cut1 p4 r4 = p' := ⟨_, rfl⟩
      rw [hp5] at g5 b5 l5
      generalize p4.getD r4 0 = a4 at *
      change bits .xor .i64 (a4 : Int) 1 = _ at x4
      have hp5' : Gc.cut5 p q = p5 := by unfold Gc.cut5; rw [hr1, hr2, hr3, hr4, hp1, hp2, hp3, hp4, hp5]
      rw [hp5'] at HNX
      have HG5 := Lib.hid g5
      clear g1 g2 g3 g4 g5 b1 b2 b3 b4 b5 l1 l2 l3 l4 l5 hp1 hp2 hp3 hp4 hp5 hp5' hr1 hr2 hr3 hr4 hrl hrb h1 hq hG
      go_wp2
      go_roundw
      case rel => exact ⟨m + 1, by omega, by go_num, by rw [← HNX.out]; exact HG5.out⟩
      case measure => simp [intOf]; omega
     ·have HNX : Hid (Gc.red Q (m + 1) = Gc.red Q m) := by unfold Hid; rw [Gc.red, hq, if_neg h1]
      obtain ⟨u, hu⟩ : ∃ u, (Gc.red Q m).getD q 0 = u := ⟨_, rfl⟩
      rw [hu] at c0 h1
      have hui : ¬ (u : Int) = 1 := by omega
      have HG := Lib.hid hG
      clear hG hu h1 hrl hrb
      go_wp2
      go_roundw
      case rel => exact ⟨m + 1, by omega, by go_num, by rw [HNX.out]; exact HG.out⟩
      case measure => simp [intOf]; omega
    ·obtain rfl : m = 127 := by omega
     obtain rfl : 127 = q := hq
     obtain ⟨O, hO⟩ : ∃ O, wr.heap.size = O := ⟨_, rfl⟩
     have hPO : P < O := hO ▸ hG.p.lt
     have HRES2 : Hid (Gc.outL (Gc.red Q 127) 128 = R) := HRES.out
     clear HRES
     generalize Gc.red Q 127 = p at *
     have hOZ := Gc.outL_zero p
     have HF4 : Hid (OuI w B P O p 0 (wr.alloc (.cells #[.int .u8 0, .int .u8 0, .int .u8 0, .int .u8 0, .int .u8 0, .int .u8 0, .int .u8 0, .int .u8 0, .int .u8 0, .int .u8 0, .int .u8 0, .int .u8 0, .int .u8 0, .int .u8 0, .int .u8 0, .int .u8 0] 26))) := ⟨hG.p.alloc _, (hO ▸ Obj.new wr _ _ : Obj _ O _ _).as (by rw [hOZ]; rfl), hG.r.alloc _, hG.bel.alloc hG.bel.size _⟩
     have HRB := Lib.hid hrb
     have HRL := Lib.hid hrl
     clear hG hrl hrb hxP hyP hOZ
     go_wp2
     clear hO
     go_loopw [12] (fun i V => ∃ k : Nat, k ≤ 128 ∧ i = .int .i64 (k : Int) ∧ OuI w B P O p k V) (fun i _ => 128 - (intOf i).toNat)
     case atStart => exact ⟨0, by omega, rfl, HF4.out⟩
     case round =>
      clear HF4
      obtain ⟨k, hk, rfl, hI⟩ := hrel
      by_cases hkl : k < 128
      ·have hki : (k : Int) < 128 := by omega
       obtain ⟨q, hq⟩ : ∃ q, k / 8 = q := ⟨_, rfl⟩
       have hqi : (k : Int) / 8 = (q : Int) := by omega
       have hq16 : (q : Int) < 16 := by omega
       have c0 := hI.c.getI k (by rw [HRL.out]; omega)
       have c1 := hI.o.getN q (by rw [Gc.outL_len]; omega)
       have f1 := hI.o.free q
       rw [show q = k / 8 from hq.symm, Gc.outL_at p k hkl, hq] at c1
       have ho := Gc.outv_lt HRB.out q (k % 8)
       have ho2 : Gc.outv p q (k % 8) < 128 := Nat.lt_of_lt_of_le ho (Nat.le_trans (Nat.pow_le_pow_right (by decide) (show k % 8 ≤ 7 by omega)) (by decide))
       have hp2 := HRB.out k
       have HN : Hid (OuI w B P O p (k + 1) (wr.drew.setCell ⟨O, q, none⟩ (.int .u8 ((Gc.outv p q (k % 8) * 2 + p.getD k 0 : Nat) : Int)))) := by
        have h1 := Gc.outL_set p k hkl
        rw [hq] at h1
        have h2 := hI.o.drew.setN q (Gc.outv p q (k % 8) * 2 + p.getD k 0)
        rw [h1] at h2
        exact ⟨hI.c.drew.far (by simp; omega) _, h2, hI.r.drew.far (by simp; omega) _, hI.bel.drew.setCell (by have := HB.out; simp; omega) _⟩
       generalize Gc.outv p q (k % 8) = ov at *
       generalize p.getD k 0 = pk at *
       have hov : ((ov * 2 + pk : Nat) : Int) = (ov : Int) * 2 + (pk : Int) := by omega
       have hpk256 : (pk : Int) < 2 := by omega
       have hov128 : (ov : Int) < 128 := by omega
       rw [hov] at HN
       clear hI ho hq hov
       go_wp2
       go_region
       go_wp2
       go_roundw
       case rel => exact ⟨k + 1, by omega, by go_num, HN.out⟩
       case measure => simp [intOf]; omega
      ·obtain rfl : k = 128 := by omega
       have HI := Lib.hid hI
       have HSO := Lib.hid (size16 (Gc.outL_len p 128))
       have HSZ : Hid ((cellsN (List.replicate 16 0)).size = (cellsN (Gc.outL p 128)).size) := by unfold Hid; rw [cellsN_size, cellsN_size, Gc.outL_len]; rfl
       have HFI : Hid (Obj (wr.setRow (B + 1 + 1) (cellsN (Gc.outL p 128))) (B + 1 + 1) 26 (cellsN (Gc.outL p 128)) ∧ Below w.heap.size w (wr.setRow (B + 1 + 1) (cellsN (Gc.outL p 128)))) := ⟨hI.r.row _, Upd.below hI.bel (by have := HB.out; omega) ((Upd.refl _ _).row _)⟩
       clear hI
       go_wp2_with (first
        | (refine wpList_load_row rfl 26 (.tmp 11) rfl O rfl _ _ _ _ HI.out.o Tryd.underlying26 rfl HSO.out ?_)
        | (refine wpList_store_row rfl 26 (.tmp 4) (.tmp 119) rfl _ _ rfl rfl _ _ HI.out.r HSO.out HSZ.out (one_cellsN _) ?_))
       refine bodyPost_ret (v := .agg (cellsN (Gc.outL p 128))) (results_cell_row rfl _ _ _ _ _ _ _ rfl HFI.out.1 Tryd.underlying26 rfl HSO.out) rfl ⟨?_, HFI.out.2⟩
       rw [HRES2.out]
end Go.Proofs.YtabfcaidioohfaaDoor
