/- The document's Stream, walked. -/
import Derived.Test.YtnphanhoakbkpaaRows
import Derived.Test.YtnphanhoakbkpaaAid
import Derived.Test.YtnphanhoakbkpaaPlainAe
import Derived.Test.YtnphanhoakbkpaaPlainAe2
import Derived.Test.YtnphanhoakbkpaaPlainAe7
import Derived.Test.YtnphanhoakbkpaaHeldT
import Derived.Test.YtnphanhoakbkpaaAesB
import Derived.Test.YtnphanhoakbkpaaAesBox
import Derived.Test.YtnphanhoakbkpaaAesW
import Derived.Test.YtnphanhoakbkpaaAesE
import Derived.Test.YtnphanhoakbkpaaAesK
import Derived.Test.YtnphanhoakbkpaaAesS
import Derived.Test.YtnphanhoakbkpaaAesT
import Derived.Test.YtnphanhoakbkpaaBl
import Derived.Test.YtnphanhoakbkpaaAesF
import Derived.Test.YtnphanhoakbkpaaAesG
import Derived.Test.YtnphanhoakbkpaaAesH
import Derived.Test.YtnphanhoakbkpaaRfI
import Derived.WalkKit
import Derived.Laws.BitsAllLaws
import Derived.Laws.Rows
import Derived.Laws.Tables
import Derived.Laws.AppendOwn
import Derived.Lib.SliceRun
import Derived.WalkSpells
import Derived.WalkLawsBesides
import Derived.Deep.QuietTactic
import Derived.BigQuiet
import Derived.Handy
import Derived.Lib.Hide
import Derived.StillTailTactics
import Derived.Deep.RegionHeld3
import Derived.Deep.WholeRow
import Derived.IntWalk
namespace Go.Proofs.Ytnphanhoakbkpaa
open Go.RowKit
set_option linter.unusedVariables false
set_option linter.unusedSimpArgs false

/-- So many bytes of a text, enciphered. -/
def strO (S first text : List Nat) (k : Nat) : List Nat := (List.range k).map fun k => text.getD k 0 ^^^ Ae.pad S first k
theorem strO_zero (S first text : List Nat) : strO S first text 0 = [] := rfl
theorem strO_next (S first text : List Nat) (k : Nat) : strO S first text (k + 1) = strO S first text k ++ [text.getD k 0 ^^^ Ae.pad S first k] := by
  unfold strO; rw [List.range_succ, List.map_append]; rfl
theorem nextL_step (b : List Nat) (k : Nat) (h : 12 ≤ k) : Ae.nextL b (k - 11) = if (b.getD k 0 + 1) % 256 = 0 then Ae.nextL (b.set k ((b.getD k 0 + 1) % 256)) (k - 1 - 11) else b.set k ((b.getD k 0 + 1) % 256) := by
  obtain ⟨m, rfl⟩ : ∃ m, k = 12 + m := ⟨k - 12, by omega⟩
  rw [show 12 + m - 11 = m + 1 by omega, show 12 + m - 1 - 11 = m by omega, Ae.nextL, show 11 + (m + 1) = 12 + m by omega]

/-- Bytes that are appended to a slice of the call's own: one operation. -/
theorem wp_app8 {o : Oper} {a : Act} {K : Act → World → Prop} {Q : Exit → Act → World → Prop} {w : World} (s x : Operand)
    (ho : o.op = .call { callee := .builtin .append, args := #[s, x], argTypes := #[23, 23] })
    (base : Nat) (v : Value) (n : Nat) (xs : List Value) (hs : a.eval s = v) (hown : w.ownsRow base 5 1 v n xs)
    (ad : Addr) (m c : Nat) (l : List Nat) (hx : a.eval x = .slice (some ad) m c) (hl : l.length = m) (hR : Rd w (some ad) l) (hm : n + m ≤ 100000000) (hbase : base ≤ w.heap.size)
    (h : ∀ v' w', w'.ownsRow base 5 1 v' (n + m) (xs ++ l.map u8v) → w.grownBy w' v.ownBlock → K (a.put o.dst v') w') : o.wp Try.prog a w K Q := by
  obtain ⟨i0, hi, hz0, hz1, hz2⟩ := info_parts info8
  refine wp_append_own w s x 23 ho base 5 i0 (.int .u8 0) 1 1 Try.underlying23 hi hz0 hz1 hz2 rfl (by decide) v n xs hs hown ad m c (l.map u8v) hx (by simp [hl]) ?_ ?_ ?_ ?_ hbase (fun v' w' h1 h2 _ => h v' w' h1 h2)
  · intro j u hu
    rw [List.getElem?_map, Option.map_eq_some_iff] at hu
    obtain ⟨y, hy, rfl⟩ := hu
    have hj := (List.getElem?_eq_some_iff.1 hy).1
    obtain ⟨b, o, e, hlt, hc⟩ := hR (by omega)
    obtain rfl : ad = ⟨b, o, none⟩ := by cases e; rfl
    rw [Addr.add_mid, hc j hj]
    simp [u8v, List.getD_eq_getElem?_getD, hy]
  · intro u hu
    obtain ⟨x, _, rfl⟩ := List.mem_map.1 hu
    rfl
  · unfold maxLen; omega
  · omega

set_option maxRecDepth 100000 in
set_option maxHeartbeats 1000000 in
theorem refStream_any (key first : List Nat) (A : Option Addr) (c : Nat) (text : List Nat) (w : World) (hk : key.length = 16) (hf : first.length = 16) (qk : Ae.bytes key) (qf : Ae.bytes first) (ht : Rd w A text) (qt : Ae.bytes text) (hm : text.length ≤ 1000000) :
    Calls Try.prog 31 #[.agg (cellsN key), .agg (cellsN first), .slice A text.length c] w fun e w' => ∃ v, e = .returned v ∧ w'.ownsRow w.heap.size 5 1 v text.length ((Ae.stream (Ae.sched key) first text).map u8v) ∧ Below w.heap.size w w' := by
  have HK := Lib.hid hk
  have HT := Lib.hid ht
  obtain ⟨T, hT⟩ : ∃ T, (List.range 256).map Ae.box = T := ⟨_, rfl⟩
  obtain ⟨S, hS⟩ : ∃ S, Ae.sched key = S := ⟨_, rfl⟩
  have HTB := Lib.hid (fun w => table_any w)
  have HKY := Lib.hid (fun w => refKeys_any key w HK.out qk)
  have hLS : S.length = 176 := by rw [← hS]; exact Ae.sched_len key
  have qs : Ae.bytes S := by rw [← hS]; exact Ae.sched_bytes qk
  have HBL := Lib.hid (fun (i : Nat) w => refBlock_any S (Ae.ctr first i) w hLS ((Ae.ctr_len first i).trans hf) qs (Ae.ctr_bytes qf i))
  have HTL : Hid (T.length = 256) := by unfold Hid; rw [← hT]; simp
  rw [hT] at HTB HKY HBL
  rw [hS] at HKY
  have HLS := Lib.hid hLS
  have HSD : Hid (Ae.stream (Ae.sched key) first text = strO S first text text.length) := by unfold Hid; rw [hS]; rfl
  have HLC : Hid (∀ i, (Ae.ctr first i).length = 16) := fun i => (Ae.ctr_len first i).trans hf
  have HQ : Hid (∀ i, Ae.bytes (Ae.ctr first i)) := fun i => Ae.ctr_bytes qf i
  have HPD : Hid (∀ k, Ae.pad S first k = (Ae.enc S (Ae.ctr first (k / 16))).getD (k % 16) 0) := fun k => rfl
  have HCN : Hid (∀ i, Ae.ctr first (i + 1) = Ae.nextL (Ae.ctr first i) 4) := fun i => rfl
  rw [HSD.out]
  clear hT hS hLS hf hk ht
  have hz := (zero_of_info zero256).1
  have hz' := (zero_of_info zero176).1
  have HZL := Lib.hid z256_len
  have HZL' := Lib.hid z176_len
  generalize z256 = Z at *
  generalize z176 = Z' at *
  have HIK := Lib.hid (size16 HK.out)
  have HIT := Lib.hid (size256 HTL.out)
  have HIS := Lib.hid (size176 HLS.out)
  have HZT : Hid ((cellsN Z).size = (cellsN T).size) := by unfold Hid; rw [cellsN_size, cellsN_size, HZL.out, HTL.out]
  have HZS : Hid ((cellsN Z').size = (cellsN S).size) := by unfold Hid; rw [cellsN_size, cellsN_size, HZL'.out, HLS.out]
  have P0 : Hid (Obj ((w.alloc (.cells (cellsN key) 22)).alloc (.cells (cellsN first) 22)) w.heap.size 22 (cellsN key)) := (Obj.new w _ _).alloc _
  have P1 : Hid (Obj ((w.alloc (.cells (cellsN key) 22)).alloc (.cells (cellsN first) 22)) (w.heap.size + 1) 22 (cellsN first)) := new2 w _ _ _
  have PL : Hid (Below w.heap.size w ((w.alloc (.cells (cellsN key) 22)).alloc (.cells (cellsN first) 22))) := ((Below.refl _ w).alloc (Nat.le_refl _) _).alloc (by simp) _
  go_enter Try.func31, Try.ntmps31
  go_wp2_with fail
  refine (HTB.out _).mono ?_
  rintro e w1 ⟨rfl, hb1⟩
  have O0 := P0.out.kept hb1
  have O1 := P1.out.kept hb1
  have L0 := PL.out.trans (hb1.mono PL.out.size)
  have ON := Lib.hid (Obj.new w1 70 (cellsN Z))
  clear P0 P1 PL hb1
  have U2 := (Upd.refl w1.heap.size (w1.alloc (.cells (cellsN Z) 70))).row (cellsN T)
  have l2 := O1.lt
  have Q0 := (O0.alloc (.cells (cellsN Z) 70)).upd U2 (by omega)
  have Q1 := (O1.alloc (.cells (cellsN Z) 70)).upd U2 (by omega)
  have QT := ON.out.row (cellsN T)
  have QL := Upd.below (L0.alloc L0.size (.cells (cellsN Z) 70)) L0.size U2
  clear U2 O0 O1 L0
  obtain ⟨gt, hgt⟩ : ∃ g, w1.heap.size = g := ⟨_, rfl⟩
  have HGT := Lib.hid hgt
  rw [hgt] at l2 Q0 Q1 QT QL ON
  clear hgt
  go_wp2_with (first
    | (refine wpList_store_row rfl 70 (.tmp 7) (.tmp 14) rfl _ _ (by rw [← HGT.out]; rfl) rfl _ _ ON.out HIT.out HZT.out (one_cellsN _) ?_)
    | (refine wpList_load_row rfl 22 (.tmp 3) rfl _ rfl _ _ _ _ Q0 Try.underlying22 rfl HIK.out ?_)
    | (refine wpList_load_row rfl 70 (.tmp 7) rfl _ (by rw [← HGT.out]; rfl) _ _ _ _ QT Try.underlying70 rfl HIT.out ?_))
  refine (HKY.out _).mono ?_
  rintro e w3 ⟨rfl, hb3⟩
  rw [HGT.out]
  have l3 := QT.lt
  have O0 := Q0.kept hb3
  have O1 := Q1.kept hb3
  have OT := QT.kept hb3
  have L0 := QL.trans (hb3.mono QL.size)
  have ON3 := Lib.hid (Obj.new w3 67 (cellsN Z'))
  clear Q0 Q1 QT QL hb3 ON HGT l3
  have U4 := (Upd.refl w3.heap.size (w3.alloc (.cells (cellsN Z') 67))).row (cellsN S)
  have l4 := OT.lt
  have l5 := O1.lt
  have HK1 := (O0.alloc (.cells (cellsN Z') 67)).upd U4 (by omega)
  have HF1 := (O1.alloc (.cells (cellsN Z') 67)).upd U4 (by omega)
  have HT1 := (OT.alloc (.cells (cellsN Z') 67)).upd U4 (by omega)
  have HS1 := ON3.out.row (cellsN S)
  have HL1 := Upd.below (L0.alloc L0.size (.cells (cellsN Z') 67)) L0.size U4
  clear U4 O0 O1 OT L0
  go_wp2_with (refine wpList_store_row rfl 67 (.tmp 8) (.tmp 17) rfl _ _ rfl rfl _ _ ON3.out HIS.out HZS.out (one_cellsN _) ?_)
  obtain ⟨gs, hgs⟩ : ∃ g, w3.heap.size = g := ⟨_, rfl⟩
  rw [hgs] at l4 l5 HK1 HF1 HT1 HS1 HL1 ⊢
  generalize (w3.alloc (.cells (cellsN Z') 67)).setRow gs (cellsN S) = W at *
  clear hgs ON3
  obtain ⟨N, hN⟩ : ∃ N, text.length = N := ⟨_, rfl⟩
  have HN := Lib.hid hN
  rw [hN] at hm
  rw [hN]
  clear hN hz hz'
  go_wp2
  go_loopw [9, 10] (fun o p wx => ∃ (n : Nat), 16 * n < N + 16 ∧ p = .int .i64 ((16 * n : Nat) : Int) ∧ wx.ownsRow w.heap.size 5 1 o (min (16 * n) N) ((strO S first text (min (16 * n) N)).map u8v) ∧ Obj wx w.heap.size 22 (cellsN key) ∧ Obj wx (w.heap.size + 1) 22 (cellsN (Ae.ctr first n)) ∧ Obj wx gt 70 (cellsN T) ∧ Obj wx gs 67 (cellsN S) ∧ Below w.heap.size w wx) (fun _ p _ => N + 16 - (intOf p).toNat)
  case atStart => exact ⟨0, by omega, rfl, (by rw [Nat.mul_zero, Nat.zero_min, strO_zero]; exact World.ownsRow_nil _ _ _ _), HK1, HF1, HT1, HS1, HL1⟩
  case round =>
    clear HK1 HF1 HT1 HS1 HL1
    obtain ⟨n, hn, rfl, HO, HK1, HF1, HT1, HS1, HL1⟩ := hrel
    have HCT := Lib.hid (HCN.out n)
    have HLc := Lib.hid (HLC.out n)
    have qc := HQ.out n
    have HBC := Lib.hid (HBL.out n)
    have HPE : Hid (∀ m, m / 16 = n → Ae.pad S first m = (Ae.enc S (Ae.ctr first n)).getD (m % 16) 0) := fun m hm => by rw [HPD.out, hm]
    have HDN : Hid (min (16 * (n + 1)) N = min (16 * n + 16) N) := by unfold Hid; rw [Nat.mul_add]
    have HIN : Hid (16 * (n + 1) = 16 * n + 16) := by unfold Hid; omega
    obtain ⟨I, hI⟩ : ∃ I, 16 * n = I := ⟨_, rfl⟩
    have HI := Lib.hid hI
    have HNI : Hid (n = I / 16) := by unfold Hid; omega
    have HI16 : Hid (I % 16 = 0) := by unfold Hid; omega
    rw [hI] at hn HO HDN HIN ⊢
    clear hI
    by_cases hlt : I < N
    · have hlti : (I : Int) < (N : Int) := by omega
      obtain ⟨tb, off, rfl, htb, htc⟩ := HT.out (by rw [HN.out]; omega)
      have HD0 : Hid (min I N = I) := by unfold Hid; omega
      rw [HD0.out] at HO
      have HIc := Lib.hid (size16 HLc.out)
      have HLE := Lib.hid (Ae.enc_len S (Ae.ctr first n))
      have HIE := Lib.hid (size16 HLE.out)
      have qE := Ae.enc_bytes qc qs
      have HSE : Hid ((#[.int .u8 0, .int .u8 0, .int .u8 0, .int .u8 0, .int .u8 0, .int .u8 0, .int .u8 0, .int .u8 0, .int .u8 0, .int .u8 0, .int .u8 0, .int .u8 0, .int .u8 0, .int .u8 0, .int .u8 0, .int .u8 0] : Array Value).size = (cellsN (Ae.enc S (Ae.ctr first n))).size) := by unfold Hid; rw [cellsN_size, HLE.out]; rfl
      go_wp2_with (first
        | (refine wpList_load_row rfl 67 (.tmp 8) rfl _ rfl _ _ _ _ HS1 Try.underlying67 rfl HIS.out ?_)
        | (refine wpList_load_row rfl 70 (.tmp 7) rfl _ rfl _ _ _ _ HT1 Try.underlying70 rfl HIT.out ?_)
        | (refine wpList_load_row rfl 22 (.tmp 4) rfl _ rfl _ _ _ _ HF1 Try.underlying22 rfl HIc.out ?_))
      refine (HBC.out _).mono ?_
      rintro e w5 ⟨rfl, hb5⟩
      have HK5 := HK1.kept hb5
      have HF5 := HF1.kept hb5
      have HT5 := HT1.kept hb5
      have HS5 := HS1.kept hb5
      have HO5 := HO.kept (row := none) ⟨hb5.os, hb5.tape, hb5.output, hb5.size, fun k hk _ => hb5.block k hk⟩ (by rcases HO.2 with ⟨rfl, _⟩ | ⟨g, cap, cur, rfl, _⟩ <;> simp [Value.ownBlock])
      have HL5 := HL1.trans (hb5.mono HL1.size)
      clear HK1 HF1 HT1 HS1 HO HL1 hb5
      have ON := Lib.hid (Obj.new w5 22 #[.int .u8 0, .int .u8 0, .int .u8 0, .int .u8 0, .int .u8 0, .int .u8 0, .int .u8 0, .int .u8 0, .int .u8 0, .int .u8 0, .int .u8 0, .int .u8 0, .int .u8 0, .int .u8 0, .int .u8 0, .int .u8 0])
      have U7 := (Upd.refl w5.heap.size (w5.alloc (.cells #[.int .u8 0, .int .u8 0, .int .u8 0, .int .u8 0, .int .u8 0, .int .u8 0, .int .u8 0, .int .u8 0, .int .u8 0, .int .u8 0, .int .u8 0, .int .u8 0, .int .u8 0, .int .u8 0, .int .u8 0, .int .u8 0] 22))).row (cellsN (Ae.enc S (Ae.ctr first n)))
      have l1 := HK5.lt
      have l2 := HF5.lt
      have l3 := HT5.lt
      have l4 := HS5.lt
      have HK7 := (HK5.alloc (.cells #[.int .u8 0, .int .u8 0, .int .u8 0, .int .u8 0, .int .u8 0, .int .u8 0, .int .u8 0, .int .u8 0, .int .u8 0, .int .u8 0, .int .u8 0, .int .u8 0, .int .u8 0, .int .u8 0, .int .u8 0, .int .u8 0] 22)).upd U7 (by omega)
      have HF7 := (HF5.alloc (.cells #[.int .u8 0, .int .u8 0, .int .u8 0, .int .u8 0, .int .u8 0, .int .u8 0, .int .u8 0, .int .u8 0, .int .u8 0, .int .u8 0, .int .u8 0, .int .u8 0, .int .u8 0, .int .u8 0, .int .u8 0, .int .u8 0] 22)).upd U7 (by omega)
      have HT7 := (HT5.alloc (.cells #[.int .u8 0, .int .u8 0, .int .u8 0, .int .u8 0, .int .u8 0, .int .u8 0, .int .u8 0, .int .u8 0, .int .u8 0, .int .u8 0, .int .u8 0, .int .u8 0, .int .u8 0, .int .u8 0, .int .u8 0, .int .u8 0] 22)).upd U7 (by omega)
      have HS7 := (HS5.alloc (.cells #[.int .u8 0, .int .u8 0, .int .u8 0, .int .u8 0, .int .u8 0, .int .u8 0, .int .u8 0, .int .u8 0, .int .u8 0, .int .u8 0, .int .u8 0, .int .u8 0, .int .u8 0, .int .u8 0, .int .u8 0, .int .u8 0] 22)).upd U7 (by omega)
      have HO7 := (HO5.alloc (.cells #[.int .u8 0, .int .u8 0, .int .u8 0, .int .u8 0, .int .u8 0, .int .u8 0, .int .u8 0, .int .u8 0, .int .u8 0, .int .u8 0, .int .u8 0, .int .u8 0, .int .u8 0, .int .u8 0, .int .u8 0, .int .u8 0] 22)).kept (row := some w5.heap.size) ⟨U7.os, U7.tape, U7.output, U7.size, fun k hk hne => U7.block k hk (fun e => hne (by rw [e]))⟩ (.inr (fun e => by have := HO5.lt _ e; omega))
      have HE7 := ON.out.row (cellsN (Ae.enc S (Ae.ctr first n)))
      have HL7 := Upd.below (HL5.alloc HL5.size (.cells #[.int .u8 0, .int .u8 0, .int .u8 0, .int .u8 0, .int .u8 0, .int .u8 0, .int .u8 0, .int .u8 0, .int .u8 0, .int .u8 0, .int .u8 0, .int .u8 0, .int .u8 0, .int .u8 0, .int .u8 0, .int .u8 0] 22)) HL5.size U7
      clear HK5 HF5 HT5 HS5 HO5 HL5 U7
      go_wp2_with (refine wpList_store_row rfl 22 (.tmp 11) (.tmp 27) rfl _ _ rfl rfl _ _ ON.out HIE.out HSE.out (one_cellsN _) ?_)
      clear ON
      generalize (w5.alloc (.cells #[.int .u8 0, .int .u8 0, .int .u8 0, .int .u8 0, .int .u8 0, .int .u8 0, .int .u8 0, .int .u8 0, .int .u8 0, .int .u8 0, .int .u8 0, .int .u8 0, .int .u8 0, .int .u8 0, .int .u8 0, .int .u8 0] 22)).setRow w5.heap.size (cellsN (Ae.enc S (Ae.ctr first n))) = W2 at *
      generalize w5.heap.size = bb at *
      generalize Ae.enc S (Ae.ctr first n) = E at *
      generalize Ae.ctr first n = C at *
      obtain ⟨M, hM⟩ : ∃ M, min (I + 16) N = M := ⟨_, rfl⟩
      have HMD := Lib.hid hM
      have hM1 : I < M := by omega
      have hM2 : M ≤ I + 16 := by omega
      have hM3 : M ≤ N := by omega
      have hM4 : M = I + 16 ∨ M = N := by omega
      have HM4 := Lib.hid hM4
      clear hM hM4
      go_wp2
      go_loopw [9, 12] (fun o p wx => ∃ k : Nat, I ≤ k ∧ k ≤ M ∧ p = .int .i64 k ∧ wx.ownsRow w.heap.size 5 1 o k ((strO S first text k).map u8v) ∧ Obj wx w.heap.size 22 (cellsN key) ∧ Obj wx (w.heap.size + 1) 22 (cellsN C) ∧ Obj wx gt 70 (cellsN T) ∧ Obj wx gs 67 (cellsN S) ∧ Obj wx bb 22 (cellsN E) ∧ Below w.heap.size w wx) (fun _ p _ => M - (intOf p).toNat)
      case atStart => exact ⟨I, Nat.le_refl _, by omega, rfl, HO7, HK7, HF7, HT7, HS7, HE7, HL7⟩
      case round =>
        clear HO7 HK7 HF7 HT7 HS7 HE7 HL7
        obtain ⟨k, hk1, hk2, rfl, HO, HK1, HF1, HT1, HS1, HE, HL1⟩ := hrel
        by_cases hkM : k < M
        · have g1 : (k : Int) < (I : Int) + 16 := by omega
          have g2 : (k : Int) < (N : Int) := by omega
          obtain ⟨p, hp⟩ : ∃ p, k - I = p := ⟨_, rfl⟩
          have g3 : IntKind.i64.wrap ((k : Int) - (I : Int)) = (p : Int) := by rw [IntWalk.i64_in _ (by omega)]; omega
          have gp : (p : Int) < 16 := by omega
          have fx : w.cell? ⟨tb, off + k, none⟩ = some (.int .u8 ((text.getD k 0 : Nat) : Int)) := htc k (by rw [HN.out]; omega)
          have fy : ∀ w', Obj w' bb 22 (cellsN E) → w'.cell? ⟨bb, p, none⟩ = some (.int .u8 ((E.getD p 0 : Nat) : Int)) := fun w' h => h.getN p (by rw [HLE.out]; omega)
          have hx := Ae.bytes_get qt k
          have hy := Ae.bytes_get qE p
          have HV : Hid (strO S first text (k + 1) = strO S first text k ++ [text.getD k 0 ^^^ E.getD p 0]) := by
            unfold Hid
            have h16 := HI16.out
            rw [strO_next, HPE.out k (by rw [HNI.out]; omega), show k % 16 = p by omega]
          generalize text.getD k 0 = x at *
          generalize E.getD p 0 = y at *
          have HXY := Lib.hid (u8_xor_nat x y hx hy)
          have HFX := Lib.hid fx
          have HFY := Lib.hid fy
          clear hp fx fy
          have HO2 := Lib.hid HO
          clear HO
          go_wp2
          refine wp_region_held_drew (S := (fun w' => Obj w' bb 22 (cellsN E) ∧ Below w.heap.size w w')) (by kernel_rfl) ⟨HE.drew, HL1.drew⟩ (fun hHeld => ?_)
          refine wpAnyH_take (i := 0) (oi := ?_) (v := ?_) ?_ ?_ ?_ ?_ ?_ ?_ (by assumption) ?_
          rotate_left 2
          · simp only [List.getElem?_toArray, List.getElem?_cons_zero, List.getElem?_cons_succ]
            rfl
          · kernel_rfl
          · kernel_rfl
          · kernel_rfl
          · exact fun _ _ _ h => h
          · refine Or.inl ⟨by rfl, ?_⟩
            intro w hSw
            (try dsimp only at hSw)
            go_simp
            all_goals with_reducible rfl
          simp only [Act.put, List.setIfInBounds_toArray, List.set_cons_zero, List.set_cons_succ]
          refine wpAnyH_take (i := 1) (oi := ?_) (v := ?_) ?_ ?_ ?_ ?_ ?_ ?_ (by assumption) ?_
          rotate_left 2
          · simp only [List.getElem?_toArray, List.getElem?_cons_zero, List.getElem?_cons_succ]
            rfl
          · kernel_rfl
          · kernel_rfl
          · kernel_rfl
          · exact fun _ _ _ h => h
          · refine Or.inl ⟨by rfl, ?_⟩
            intro w hSw
            (try dsimp only at hSw)
            go_simp
            all_goals with_reducible rfl
          simp only [Act.put, List.setIfInBounds_toArray, List.set_cons_zero, List.set_cons_succ]
          refine wpAnyH_take (i := 2) (oi := ?_) (v := ?_) ?_ ?_ ?_ ?_ ?_ ?_ (by assumption) ?_
          rotate_left 2
          · simp only [List.getElem?_toArray, List.getElem?_cons_zero, List.getElem?_cons_succ]
            rfl
          · kernel_rfl
          · kernel_rfl
          · kernel_rfl
          · exact fun _ _ _ h => h
          · refine Or.inl ⟨by rfl, ?_⟩
            intro w hSw
            (try dsimp only at hSw)
            go_simp
            all_goals with_reducible rfl
          simp only [Act.put, List.setIfInBounds_toArray, List.set_cons_zero, List.set_cons_succ]
          refine wpAnyH_take (i := 3) (oi := ?_) (v := ?_) ?_ ?_ ?_ ?_ ?_ ?_ (by assumption) ?_
          rotate_left 2
          · simp only [List.getElem?_toArray, List.getElem?_cons_zero, List.getElem?_cons_succ]
            rfl
          · kernel_rfl
          · kernel_rfl
          · kernel_rfl
          · exact fun _ _ _ h => h
          · refine Or.inl ⟨by rfl, ?_⟩
            intro w hSw
            (try dsimp only at hSw)
            go_simp
            all_goals with_reducible rfl
          simp only [Act.put, List.setIfInBounds_toArray, List.set_cons_zero, List.set_cons_succ]
          refine wpAnyH_take (i := 4) (oi := ?_) (v := ?_) ?_ ?_ ?_ ?_ ?_ ?_ (by assumption) ?_
          rotate_left 2
          · simp only [List.getElem?_toArray, List.getElem?_cons_zero, List.getElem?_cons_succ]
            rfl
          · kernel_rfl
          · kernel_rfl
          · kernel_rfl
          · exact fun _ _ _ h => h
          · refine Or.inl ⟨by rfl, ?_⟩
            intro w' hSw
            have q := (hSw.2.cell (p := ⟨tb, off + k, none⟩) htb).trans HFX.out
            go_simp
            all_goals with_reducible rfl
          simp only [Act.put, List.setIfInBounds_toArray, List.set_cons_zero, List.set_cons_succ]
          refine wpAnyH_take (i := 5) (oi := ?_) (v := ?_) ?_ ?_ ?_ ?_ ?_ ?_ (by assumption) ?_
          rotate_left 2
          · simp only [List.getElem?_toArray, List.getElem?_cons_zero, List.getElem?_cons_succ]
            rfl
          · kernel_rfl
          · kernel_rfl
          · kernel_rfl
          · exact fun _ _ _ h => h
          · refine Or.inl ⟨by rfl, ?_⟩
            intro w hSw
            (try dsimp only at hSw)
            go_simp
            all_goals with_reducible rfl
          simp only [Act.put, List.setIfInBounds_toArray, List.set_cons_zero, List.set_cons_succ]
          refine wpAnyH_take (i := 6) (oi := ?_) (v := ?_) ?_ ?_ ?_ ?_ ?_ ?_ (by assumption) ?_
          rotate_left 2
          · simp only [List.getElem?_toArray, List.getElem?_cons_zero, List.getElem?_cons_succ]
            rfl
          · kernel_rfl
          · kernel_rfl
          · kernel_rfl
          · exact fun _ _ _ h => h
          · refine Or.inl ⟨by rfl, ?_⟩
            intro w hSw
            (try dsimp only at hSw)
            go_simp
            all_goals with_reducible rfl
          simp only [Act.put, List.setIfInBounds_toArray, List.set_cons_zero, List.set_cons_succ]
          refine wpAnyH_take (i := 7) (oi := ?_) (v := ?_) ?_ ?_ ?_ ?_ ?_ ?_ (by assumption) ?_
          rotate_left 2
          · simp only [List.getElem?_toArray, List.getElem?_cons_zero, List.getElem?_cons_succ]
            rfl
          · kernel_rfl
          · kernel_rfl
          · kernel_rfl
          · exact fun _ _ _ h => h
          · refine Or.inl ⟨by rfl, ?_⟩
            intro w hSw
            (try dsimp only at hSw)
            go_simp
            all_goals with_reducible rfl
          simp only [Act.put, List.setIfInBounds_toArray, List.set_cons_zero, List.set_cons_succ]
          refine wpAnyH_take (i := 8) (oi := ?_) (v := ?_) ?_ ?_ ?_ ?_ ?_ ?_ (by assumption) ?_
          rotate_left 2
          · simp only [List.getElem?_toArray, List.getElem?_cons_zero, List.getElem?_cons_succ]
            rfl
          · kernel_rfl
          · kernel_rfl
          · kernel_rfl
          · exact fun _ _ _ h => h
          · refine Or.inl ⟨by rfl, ?_⟩
            intro w hSw
            (try dsimp only at hSw)
            go_simp
            all_goals with_reducible rfl
          simp only [Act.put, List.setIfInBounds_toArray, List.set_cons_zero, List.set_cons_succ]
          refine wpAnyH_take (i := 9) (oi := ?_) (v := ?_) ?_ ?_ ?_ ?_ ?_ ?_ (by assumption) ?_
          rotate_left 2
          · simp only [List.getElem?_toArray, List.getElem?_cons_zero, List.getElem?_cons_succ]
            rfl
          · kernel_rfl
          · kernel_rfl
          · kernel_rfl
          · exact fun _ _ _ h => h
          · refine Or.inl ⟨by rfl, ?_⟩
            intro w' hSw
            have q := HFY.out w' hSw.1
            go_simp
            all_goals with_reducible rfl
          simp only [Act.put, List.setIfInBounds_toArray, List.set_cons_zero, List.set_cons_succ]
          refine wpAnyH_take (i := 10) (oi := ?_) (v := ?_) ?_ ?_ ?_ ?_ ?_ ?_ (by assumption) ?_
          rotate_left 2
          · simp only [List.getElem?_toArray, List.getElem?_cons_zero, List.getElem?_cons_succ]
            rfl
          · kernel_rfl
          · kernel_rfl
          · kernel_rfl
          · exact fun _ _ _ h => h
          · refine Or.inl ⟨by rfl, ?_⟩
            intro w hSw
            (try dsimp only at hSw)
            go_simp
            all_goals with_reducible rfl
          simp only [Act.put, List.setIfInBounds_toArray, List.set_cons_zero, List.set_cons_succ]
          rw [HXY.out]
          refine wpAnyH_ready (rs := [11]) (by kernel_rfl) (by simp) ?_
          refine AllReadyH.cons (o := ?_) ?_ (fun KK hKK => ?_) AllReadyH.nil
          rotate_left
          · simp only [List.getElem?_toArray, List.getElem?_cons_zero, List.getElem?_cons_succ]
            rfl
          go_simp
          refine hKK.out _ _ ?_ (fun h2 => ?_)
          · (try dsimp only)
            exact ⟨HE.drew.alloc _, HL1.drew.alloc HL1.size _⟩
          clear hKK KK
          try simp only [Act.put, List.setIfInBounds_toArray, List.set_cons_zero, List.set_cons_succ]
          have HO3 : Hid (((wr.drew).alloc (.cells #[.int .u8 ((x ^^^ y : Nat) : Int)] 5)).ownsRow w.heap.size 5 1 _ k ((strO S first text k).map u8v)) := HO2.out.alloc _
          have HR : Hid (Rd ((wr.drew).alloc (.cells #[.int .u8 ((x ^^^ y : Nat) : Int)] 5)) (some ⟨wr.heap.size, 0, none⟩) [x ^^^ y]) := Obj.rd (t := 5) (l := [x ^^^ y]) (Obj.new wr.drew 5 (cellsN [x ^^^ y]))
          have HM1 := Lib.hid (show k + 1 ≤ 100000000 by omega)
          have HBS : Hid (w.heap.size ≤ ((wr.drew).alloc (.cells #[.int .u8 ((x ^^^ y : Nat) : Int)] 5)).heap.size) := h2.2.size
          have HK6 := HK1.drew.alloc (.cells #[.int .u8 ((x ^^^ y : Nat) : Int)] 5)
          have HF6 := HF1.drew.alloc (.cells #[.int .u8 ((x ^^^ y : Nat) : Int)] 5)
          have HT6 := HT1.drew.alloc (.cells #[.int .u8 ((x ^^^ y : Nat) : Int)] 5)
          have HS6 := HS1.drew.alloc (.cells #[.int .u8 ((x ^^^ y : Nat) : Int)] 5)
          have HE6 := h2.1
          have HL6 := h2.2
          refine wpAnyH_ready (rs := [12]) (by kernel_rfl) (by simp) ?_
          refine AllReadyH.cons (o := ?_) ?_ (fun KK hKK => ?_) AllReadyH.nil
          rotate_left
          · simp only [List.getElem?_toArray, List.getElem?_cons_zero, List.getElem?_cons_succ]
            rfl
          rw [if_pos (by rfl)]
          refine wp_app8 _ _ rfl w.heap.size _ k _ rfl HO3.out ⟨wr.heap.size, 0, none⟩ 1 1 [x ^^^ y] rfl rfl HR.out HM1.out HBS.out ?_
          intro v' w7 hown hgrow
          refine hKK.out _ _ ?_ (fun h3 => ?_)
          · (try dsimp only)
            exact ⟨HE6.grown hgrow (Obj.not_row HE6 (by decide) HO3.out), Below.grown HL6 hgrow HBS.out (fun j hj => (HO3.out.lt j hj).1)⟩
          clear hKK KK
          try simp only [Act.put, List.setIfInBounds_toArray, List.set_cons_zero, List.set_cons_succ]
          refine wpAnyH_take (i := 13) (oi := ?_) (v := ?_) ?_ ?_ ?_ ?_ ?_ ?_ (by assumption) ?_
          rotate_left 2
          · simp only [List.getElem?_toArray, List.getElem?_cons_zero, List.getElem?_cons_succ]
            rfl
          · kernel_rfl
          · kernel_rfl
          · kernel_rfl
          · exact fun _ _ _ h => h
          · refine Or.inl ⟨by rfl, ?_⟩
            intro w hSw
            (try dsimp only at hSw)
            go_simp
            all_goals with_reducible rfl
          simp only [Act.put, List.setIfInBounds_toArray, List.set_cons_zero, List.set_cons_succ]
          refine wpAnyH_done (by kernel_rfl) ?_ _
          go_wp2
          go_roundw
          case rel =>
            have e : (strO S first text k).map u8v ++ [x ^^^ y].map u8v = (strO S first text (k + 1)).map u8v := by rw [HV.out, List.map_append]
            rw [e] at hown
            exact ⟨k + 1, by omega, by omega, by go_num, hown, HK6.grown hgrow (Obj.not_row HK6 (by decide) HO3.out), HF6.grown hgrow (Obj.not_row HF6 (by decide) HO3.out), HT6.grown hgrow (Obj.not_row HT6 (by decide) HO3.out), HS6.grown hgrow (Obj.not_row HS6 (by decide) HO3.out), HE6.grown hgrow (Obj.not_row HE6 (by decide) HO3.out), Below.grown HL6 hgrow HBS.out (fun j hj => (HO3.out.lt j hj).1)⟩
          case measure => simp [intOf]; omega
        · obtain rfl : k = M := by omega
          have gM : (k : Int) ≤ (N : Int) := by omega
          by_cases h1 : k < I + 16
          · have g1 : (k : Int) < (I : Int) + 16 := by omega
            have g2 : ¬ (k : Int) < (N : Int) := by have := HM4.out; omega
            clear hkM hk2 gM
            go_wp2
            go_loopw [13] (fun p wx => ∃ (j : Nat) (b : List Nat), 11 ≤ j ∧ j ≤ 15 ∧ p = .int .i64 j ∧ Hid (Ae.nextL b (j - 11) = Ae.nextL C 4) ∧ Hid (b.length = 16) ∧ Ae.bytes b ∧ wx.ownsRow w.heap.size 5 1 u9 k ((strO S first text k).map u8v) ∧ Obj wx w.heap.size 22 (cellsN key) ∧ Obj wx (w.heap.size + 1) 22 (cellsN b) ∧ Obj wx gt 70 (cellsN T) ∧ Obj wx gs 67 (cellsN S) ∧ Below w.heap.size w wx) (fun p _ => (intOf p).toNat)
            case atStart => exact ⟨15, C, by omega, by omega, rfl, rfl, HLc.out, qc, HO, HK1, HF1, HT1, HS1, HL1⟩
            case round =>
              clear HO HK1 HF1 HT1 HS1 HE HL1
              obtain ⟨j, b, hj1, hj2, rfl, HNL, HB, qb, HO, HK1, HF1, HT1, HS1, HL1⟩ := hrel
              have HO9 := Lib.hid HO
              clear HO
              by_cases h12 : 12 ≤ j
              · have g12 : (12 : Int) ≤ (j : Int) := by omega
                have gj : (j : Int) < 16 := by omega
                have f0 : wr.cell? ⟨w.heap.size + 1, j, none⟩ = some (.int .u8 ((b.getD j 0 : Nat) : Int)) := HF1.getN _ (by rw [HB.out]; omega)
                have z0 := HF1.free j
                have hx := Ae.bytes_get qb j
                have HS := Lib.hid (nextL_step b j h12)
                obtain ⟨m, hm⟩ : ∃ m, j - 1 = m := ⟨_, rfl⟩
                rw [hm] at HS
                have e1 : IntKind.i64.wrap ((j : Int) - 1) = (m : Int) := by rw [IntWalk.i64_in _ (by omega)]; omega
                generalize b.getD j 0 = x at *
                have hv : ((x : Int) + 1) % 256 = (((x + 1) % 256 : Nat) : Int) := by omega
                have HV := Lib.hid hv
                have hq := Nat.mod_lt (x + 1) (show 0 < 256 by decide)
                clear hv
                by_cases hz : (x + 1) % 256 = 0
                · have ht : ((((x : Int) + 1) % 256) != 0) = false := by rw [HV.out, hz]; rfl
                  have HS2 := Lib.hid (HS.out.trans (if_pos hz))
                  clear HS hz
                  go_wp2
                  go_roundw
                  case rel =>
                    rw [HV.out]
                    exact ⟨m, b.set j ((x + 1) % 256), by omega, by omega, rfl, HS2.out.symm.trans HNL.out, by show (b.set _ _).length = 16; rw [List.length_set]; exact HB.out, Ae.bytes_set qb _ _ hq, ownsRow_setCell_other HO9.out (fun e => Obj.not_row HF1 (by decide) HO9.out e.symm) _, HK1.far (by simp) _, HF1.setN _ _, HT1.far (by simp; omega) _, HS1.far (by simp; omega) _, HL1.setCell (by simp) _⟩
                  case measure => simp [intOf]; omega
                · have ht : ((((x : Int) + 1) % 256) != 0) = true := by rw [HV.out]; simp; omega
                  have HS2 := Lib.hid ((HS.out.trans (if_neg hz)).symm.trans HNL.out)
                  clear HS hz
                  go_wp2
                  go_roundw
                  case rel =>
                    rw [HV.out]
                    exact ⟨n + 1, by rw [HIN.out]; omega, by rw [HIN.out]; go_num, (by rw [HDN.out, HMD.out]; exact ownsRow_setCell_other HO9.out (fun e => Obj.not_row HF1 (by decide) HO9.out e.symm) _), HK1.far (by simp) _, (by rw [HCT.out, ← HS2.out]; exact HF1.setN _ _), HT1.far (by simp; omega) _, HS1.far (by simp; omega) _, HL1.setCell (by simp) _⟩
                  case measure => simp [intOf]; omega
              · obtain rfl : j = 11 := by omega
                have HF := Lib.hid (show b = Ae.nextL C 4 from HNL.out)
                rw [HF.out, ← HCT.out] at HF1
                clear hj1 hj2 h12
                go_wp2
                go_roundw
                case rel => exact ⟨n + 1, by rw [HIN.out]; omega, by rw [HIN.out]; go_num, (by rw [HDN.out, HMD.out]; exact HO9.out), HK1, HF1, HT1, HS1, HL1⟩
                case measure => simp [intOf]; omega
          · have g1 : ¬ (k : Int) < (I : Int) + 16 := by omega
            clear hkM hk2 gM
            go_wp2
            go_loopw [13] (fun p wx => ∃ (j : Nat) (b : List Nat), 11 ≤ j ∧ j ≤ 15 ∧ p = .int .i64 j ∧ Hid (Ae.nextL b (j - 11) = Ae.nextL C 4) ∧ Hid (b.length = 16) ∧ Ae.bytes b ∧ wx.ownsRow w.heap.size 5 1 u9 k ((strO S first text k).map u8v) ∧ Obj wx w.heap.size 22 (cellsN key) ∧ Obj wx (w.heap.size + 1) 22 (cellsN b) ∧ Obj wx gt 70 (cellsN T) ∧ Obj wx gs 67 (cellsN S) ∧ Below w.heap.size w wx) (fun p _ => (intOf p).toNat)
            case atStart => exact ⟨15, C, by omega, by omega, rfl, rfl, HLc.out, qc, HO, HK1, HF1, HT1, HS1, HL1⟩
            case round =>
              clear HO HK1 HF1 HT1 HS1 HE HL1
              obtain ⟨j, b, hj1, hj2, rfl, HNL, HB, qb, HO, HK1, HF1, HT1, HS1, HL1⟩ := hrel
              have HO9 := Lib.hid HO
              clear HO
              by_cases h12 : 12 ≤ j
              · have g12 : (12 : Int) ≤ (j : Int) := by omega
                have gj : (j : Int) < 16 := by omega
                have f0 : wr.cell? ⟨w.heap.size + 1, j, none⟩ = some (.int .u8 ((b.getD j 0 : Nat) : Int)) := HF1.getN _ (by rw [HB.out]; omega)
                have z0 := HF1.free j
                have hx := Ae.bytes_get qb j
                have HS := Lib.hid (nextL_step b j h12)
                obtain ⟨m, hm⟩ : ∃ m, j - 1 = m := ⟨_, rfl⟩
                rw [hm] at HS
                have e1 : IntKind.i64.wrap ((j : Int) - 1) = (m : Int) := by rw [IntWalk.i64_in _ (by omega)]; omega
                generalize b.getD j 0 = x at *
                have hv : ((x : Int) + 1) % 256 = (((x + 1) % 256 : Nat) : Int) := by omega
                have HV := Lib.hid hv
                have hq := Nat.mod_lt (x + 1) (show 0 < 256 by decide)
                clear hv
                by_cases hz : (x + 1) % 256 = 0
                · have ht : ((((x : Int) + 1) % 256) != 0) = false := by rw [HV.out, hz]; rfl
                  have HS2 := Lib.hid (HS.out.trans (if_pos hz))
                  clear HS hz
                  go_wp2
                  go_roundw
                  case rel =>
                    rw [HV.out]
                    exact ⟨m, b.set j ((x + 1) % 256), by omega, by omega, rfl, HS2.out.symm.trans HNL.out, by show (b.set _ _).length = 16; rw [List.length_set]; exact HB.out, Ae.bytes_set qb _ _ hq, ownsRow_setCell_other HO9.out (fun e => Obj.not_row HF1 (by decide) HO9.out e.symm) _, HK1.far (by simp) _, HF1.setN _ _, HT1.far (by simp; omega) _, HS1.far (by simp; omega) _, HL1.setCell (by simp) _⟩
                  case measure => simp [intOf]; omega
                · have ht : ((((x : Int) + 1) % 256) != 0) = true := by rw [HV.out]; simp; omega
                  have HS2 := Lib.hid ((HS.out.trans (if_neg hz)).symm.trans HNL.out)
                  clear HS hz
                  go_wp2
                  go_roundw
                  case rel =>
                    rw [HV.out]
                    exact ⟨n + 1, by rw [HIN.out]; omega, by rw [HIN.out]; go_num, (by rw [HDN.out, HMD.out]; exact ownsRow_setCell_other HO9.out (fun e => Obj.not_row HF1 (by decide) HO9.out e.symm) _), HK1.far (by simp) _, (by rw [HCT.out, ← HS2.out]; exact HF1.setN _ _), HT1.far (by simp; omega) _, HS1.far (by simp; omega) _, HL1.setCell (by simp) _⟩
                  case measure => simp [intOf]; omega
              · obtain rfl : j = 11 := by omega
                have HF := Lib.hid (show b = Ae.nextL C 4 from HNL.out)
                rw [HF.out, ← HCT.out] at HF1
                clear hj1 hj2 h12
                go_wp2
                go_roundw
                case rel => exact ⟨n + 1, by rw [HIN.out]; omega, by rw [HIN.out]; go_num, (by rw [HDN.out, HMD.out]; exact HO9.out), HK1, HF1, HT1, HS1, HL1⟩
                case measure => simp [intOf]; omega
    · have hlti : ¬ (I : Int) < (N : Int) := by omega
      have HD0 : Hid (min I N = N) := by unfold Hid; omega
      rw [HD0.out] at HO
      have P0 := Lib.hid HO
      have P1 := Lib.hid HL1
      clear HO HK1 HF1 HT1 HS1 HL1
      go_wp2
      go_ret
      exact ⟨_, rfl, by rw [HN.out]; exact P0.out, P1.out⟩

end Go.Proofs.Ytnphanhoakbkpaa
