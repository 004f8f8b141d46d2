/- Joined: The document's Encipher and Stream, walked. | The document's Stream, walked. | Layer 9's gcm, the document's sum. | Layer 9's gcm, the document's Seal. | Layer 9's gcm, the document's Open. -/
import Derived.Test.YtabfcaidioohfaaDoorRows
import Derived.Test.YtabfcaidioohfaaDoorZp
import Derived.Test.YtabfcaidioohfaaDoorZe
import Derived.Test.YtabfcaidioohfaaDoorZa
import Derived.WalkKit
import Derived.Laws.BitsAllLaws
import Derived.Laws.Rows
import Derived.Laws.Tables
import Derived.Laws.AppendOwn
import Derived.Lib.SliceRun
import Derived.WalkSpells
import Derived.WalkLawsBesides
import Derived.Deep.QuietTactic
import Derived.BigQuiet
import Derived.Handy
import Derived.Lib.Hide
import Derived.StillTailTactics
import Derived.Deep.RegionHeld3
import Derived.Deep.WholeRow
import Derived.IntWalk
import Derived.RangeFuncNested
import Derived.RangeFuncBound
import Derived.RangeFuncCalls
import Derived.RangeFuncLeaves
import Derived.RangeFuncBox
import Derived.Shelf.Abstract
import Derived.Shelf.RegionOpen
import Derived.OwnWalkIn
import Derived.TacticsInMore
import Derived.LoopN
import Derived.LoopNIn
import Derived.LoopIn
import Derived.Laws.EntriesVeiled
import Derived.Outline
import Derived.Test.YtabfcaidioohfaaDoorZt
import Derived.Test.YtabfcaidioohfaaDoorZg
import Derived.Test.YtabfcaidioohfaaDoorZd
import Derived.Deep.Upon
import Derived.Lib.AppendZeros
namespace Go.Proofs.YtabfcaidioohfaaDoor
open List (getElem?_toArray getElem?_cons_zero getElem?_cons_succ setIfInBounds_toArray set_cons_zero set_cons_succ)
set_option maxRecDepth 100000
open Go.RowKit
set_option linter.unusedVariables false
set_option linter.unusedSimpArgs false
theorem Obj.grown {w w' : World} {b : Nat} {t : TypeId} {cs : Array Value} {row : Option Nat} (h : Obj w b t cs) (hg : w.grownBy w' row) (hr : some b ≠ row) : Obj w' b t cs := (hg.block b h.lt hr).trans h
theorem Obj.not_row {w : World} {b : Nat} {t e : TypeId} {cs : Array Value} (h : Obj w b t cs) (hte : t ≠ e) {base size k : Nat} {v : Value} {xs : List Value} (hr : w.ownsRow base e size v k xs) : some b ≠ v.ownBlock := by
 rcases hr.2 with ⟨rfl, _⟩ | ⟨g, cap, cur, rfl, _, hgb, _⟩
 ·simp [Value.ownBlock]
 ·intro e'
  obtain rfl : b = g := by simpa [Value.ownBlock] using e'
  rw [h] at hgb
  cases hgb
  exact hte rfl
def tabN : List Nat := (List.range 256).map Ae.box
theorem tabN_len : tabN.length = 256 := by simp [tabN]
set_option maxRecDepth 100000 in
set_option maxHeartbeats 1000000 in
theorem refEncipher_any (key b : List Nat) (w : World) (hk : key.length = 16) (hb : b.length = 16) (qk : Ae.bytes key) (qb : Ae.bytes b) :
  Calls Tryd.prog 60 #[.agg (cellsN key), .agg (cellsN b)] w fun e w' => e = .returned (.agg (cellsN (Ae.enc (Ae.sched key) b))) ∧ Below w.heap.size w w' := by
 have HB := Lib.hid hb
 have HK := Lib.hid hk
 clear hb hk
 obtain ⟨T, hT⟩ : ∃ T, (List.range 256).map Ae.box = T := ⟨_, rfl⟩
 have HTB := Lib.hid (fun w => table_any w)
 have HKY := Lib.hid (fun w => refKeys_any key w HK.out qk)
 have HBL := Lib.hid (fun w => refBlock_any (Ae.sched key) b w (Ae.sched_len key) HB.out (Ae.sched_bytes qk) qb)
 have HTL : Hid (T.length = 256) := by unfold Hid; rw [← hT]; simp
 rw [hT] at HTB HKY HBL
 clear hT
 have hz := (zero_of_info zero256).1
 have HZL := Lib.hid z256_len
 generalize z256 = Z at *
 have P0 : Hid (Obj (((w.alloc (.cells (cellsN key) 26)).alloc (.cells (cellsN b) 26)).alloc (.cells #[.int .u8 0, .int .u8 0, .int .u8 0, .int .u8 0, .int .u8 0, .int .u8 0, .int .u8 0, .int .u8 0, .int .u8 0, .int .u8 0, .int .u8 0, .int .u8 0, .int .u8 0, .int .u8 0, .int .u8 0, .int .u8 0] 26)) w.heap.size 26 (cellsN key)) := ((Obj.new w _ _).alloc _).alloc _
 have P1 : Hid (Obj (((w.alloc (.cells (cellsN key) 26)).alloc (.cells (cellsN b) 26)).alloc (.cells #[.int .u8 0, .int .u8 0, .int .u8 0, .int .u8 0, .int .u8 0, .int .u8 0, .int .u8 0, .int .u8 0, .int .u8 0, .int .u8 0, .int .u8 0, .int .u8 0, .int .u8 0, .int .u8 0, .int .u8 0, .int .u8 0] 26)) (w.heap.size + 1) 26 (cellsN b)) := (new2 w _ _ _).alloc _
 have P2 : Hid (Obj (((w.alloc (.cells (cellsN key) 26)).alloc (.cells (cellsN b) 26)).alloc (.cells #[.int .u8 0, .int .u8 0, .int .u8 0, .int .u8 0, .int .u8 0, .int .u8 0, .int .u8 0, .int .u8 0, .int .u8 0, .int .u8 0, .int .u8 0, .int .u8 0, .int .u8 0, .int .u8 0, .int .u8 0, .int .u8 0] 26)) (w.heap.size + 1 + 1) 26 (cellsN (List.replicate 16 0))) := new3 w _ _ _ _
 have PL : Hid (Below w.heap.size w (((w.alloc (.cells (cellsN key) 26)).alloc (.cells (cellsN b) 26)).alloc (.cells #[.int .u8 0, .int .u8 0, .int .u8 0, .int .u8 0, .int .u8 0, .int .u8 0, .int .u8 0, .int .u8 0, .int .u8 0, .int .u8 0, .int .u8 0, .int .u8 0, .int .u8 0, .int .u8 0, .int .u8 0, .int .u8 0] 26))) := (((Below.refl _ w).alloc (Nat.le_refl _) _).alloc (by simp) _).alloc (by simp; omega) _
 have HIK := Lib.hid (size16 HK.out)
 have HIB := Lib.hid (size16 HB.out)
 have HIT := Lib.hid (size256 HTL.out)
 have HI1 := Lib.hid (size16 (Ae.enc_len (Ae.sched key) b))
 have HSZ : Hid ((cellsN (List.replicate 16 0)).size = (cellsN (Ae.enc (Ae.sched key) b)).size) := by unfold Hid; rw [cellsN_size, cellsN_size, Ae.enc_len]; simp
 have HZT : Hid ((cellsN Z).size = (cellsN T).size) := by unfold Hid; rw [cellsN_size, cellsN_size, HZL.out, HTL.out]
 go_enter Tryd.func60, Tryd.ntmps60
 go_wp2_with fail
 refine (HTB.out _).mono ?_
 rintro e w1 ⟨rfl, hb1⟩
 have O0 := P0.out.kept hb1
 have O1 := P1.out.kept hb1
 have O2 := P2.out.kept hb1
 have L0 := PL.out.trans (hb1.mono PL.out.size)
 have ON := Lib.hid (Obj.new w1 106 (cellsN Z))
 clear P0 P1 P2 PL hb1
 go_wp2_with (refine wpList_store_row rfl 106 (.tmp 5) (.tmp 6) rfl _ _ rfl rfl _ _ ON.out HIT.out HZT.out (one_cellsN _) ?_)
 have U2 := (Upd.refl w1.heap.size (w1.alloc (.cells (cellsN Z) 106))).row (cellsN T)
 have l2 := O2.lt
 have Q0 := (O0.alloc (.cells (cellsN Z) 106)).upd U2 (by omega)
 have Q1 := (O1.alloc (.cells (cellsN Z) 106)).upd U2 (by omega)
 have Q2 := (O2.alloc (.cells (cellsN Z) 106)).upd U2 (by omega)
 have QT := ON.out.row (cellsN T)
 have QL := Upd.below (L0.alloc L0.size (.cells (cellsN Z) 106)) L0.size U2
 clear ON U2 O0 O1 O2 L0
 obtain ⟨gt, hgt⟩ : ∃ g, w1.heap.size = g := ⟨_, rfl⟩
 rw [hgt] at l2 Q0 Q1 Q2 QT QL ⊢
 generalize (w1.alloc (.cells (cellsN Z) 106)).setRow gt (cellsN T) = W at *
 clear hgt
 refine wp_region_held_drew (S := (fun w' => Obj w' w.heap.size 26 (cellsN key) ∧ Obj w' (w.heap.size + 1) 26 (cellsN b) ∧ Obj w' gt 106 (cellsN T))) (by kernel_rfl) ⟨Q0.drew, Q1.drew, QT.drew⟩ (fun hHeld => ?_)
 refine tkH 0 ?_ (hy := by
  refine yieldsIf_load_row (g := w.heap.size) (t := 26) (cs := cellsN key) (ty := 26) (x := (.tmp 2)) ?_ ?_ ?_ ?_ Tryd.underlying26 rfl HIK.out
  ·rfl
  ·rfl
  ·rfl
  ·exact fun w hSw => hSw.1)
 refine tkH 1 ?_ (hy := by
  refine yieldsIf_load_row (g := gt) (t := 106) (cs := cellsN T) (ty := 106) (x := (.tmp 5)) ?_ ?_ ?_ ?_ Tryd.underlying106 rfl HIT.out
  ·rfl
  ·rfl
  ·rfl
  ·exact fun w hSw => hSw.2.2)
 refine tkH 3 ?_ (hy := by
  refine yieldsIf_load_row (g := gt) (t := 106) (cs := cellsN T) (ty := 106) (x := (.tmp 5)) ?_ ?_ ?_ ?_ Tryd.underlying106 rfl HIT.out
  ·rfl
  ·rfl
  ·rfl
  ·exact fun w hSw => hSw.2.2)
 refine tkH 4 ?_ (hy := by
  refine yieldsIf_load_row (g := (w.heap.size + 1)) (t := 26) (cs := cellsN b) (ty := 26) (x := (.tmp 3)) ?_ ?_ ?_ ?_ Tryd.underlying26 rfl HIB.out
  ·rfl
  ·rfl
  ·rfl
  ·exact fun w hSw => hSw.2.1)
 refine onH 2 (fun KK hKK => ?_)
 go_simp
 go_at_call 72; refine (HKY.out _).mono ?_; rintro e w3 ⟨rfl, hb3⟩
 try go_wp2_with fail
 refine hKK.out _ _ ?_ (fun h2 => ?_)
 ·(try dsimp only)
  exact ⟨Q0.drew.kept hb3, Q1.drew.kept hb3, QT.drew.kept hb3⟩
 clear hKK KK
 try simp only [Act.put, setIfInBounds_toArray, set_cons_zero, set_cons_succ]
 have HZ3 := Q2.drew.kept hb3
 have HL3 := QL.drew.trans (hb3.mono QL.drew.size)
 refine onH 5 (fun KK hKK => ?_)
 go_simp
 go_at_call 73; refine (HBL.out _).mono ?_; rintro e w5 ⟨rfl, hb5⟩
 try go_wp2_with fail
 refine hKK.out _ _ ?_ (fun h4 => ?_)
 ·(try dsimp only)
  exact ⟨h2.1.kept hb5, h2.2.1.kept hb5, h2.2.2.kept hb5⟩
 clear hKK KK
 try simp only [Act.put, setIfInBounds_toArray, set_cons_zero, set_cons_succ]
 have HZ5 := HZ3.kept hb5
 have HL5 := HL3.trans (hb5.mono HL3.size)
 refine onH 6 (fun KK hKK => ?_)
 rw [if_pos (by rfl)]
 refine wp_store_row 26 (.tmp 4) (.tmp 12) rfl _ _ rfl rfl _ _ HZ5 HI1.out HSZ.out (one_cellsN _) ?_
 refine hKK.out _ _ ?_ (fun h5 => ?_)
 ·(try dsimp only)
  exact ⟨Obj.upd h4.1 ((Upd.refl _ _).row _) (by omega), Obj.upd h4.2.1 ((Upd.refl _ _).row _) (by omega), Obj.upd h4.2.2 ((Upd.refl _ _).row _) (by omega)⟩
 clear hKK KK
 try simp only [Act.put, setIfInBounds_toArray, set_cons_zero, set_cons_succ]
 refine wpAnyH_done (by kernel_rfl) ?_ _
 go_wp2
 exact bodyPost_ret (v := .agg (cellsN (Ae.enc (Ae.sched key) b))) (results_cell_row rfl _ _ _ _ _ _ _ rfl (HZ5.row _) Tryd.underlying26 rfl HI1.out) rfl ⟨rfl, Upd.below HL5 (by omega) ((Upd.refl _ _).row _)⟩
end Go.Proofs.YtabfcaidioohfaaDoor
namespace Go.Proofs.YtabfcaidioohfaaDoor
open List (getElem?_toArray getElem?_cons_zero getElem?_cons_succ setIfInBounds_toArray set_cons_zero set_cons_succ)
set_option maxRecDepth 100000
open Go.RowKit
set_option linter.unusedVariables false
set_option linter.unusedSimpArgs false
def strO (S first text : List Nat) (k : Nat) : List Nat := (List.range k).map fun k => text.getD k 0 ^^^ Ae.pad S first k
theorem strO_zero (S first text : List Nat) : strO S first text 0 = [] := rfl
theorem strO_next (S first text : List Nat) (k : Nat) : strO S first text (k + 1) = strO S first text k ++ [text.getD k 0 ^^^ Ae.pad S first k] := by
 unfold strO; rw [List.range_succ, List.map_append]; rfl
theorem nextL_step (b : List Nat) (k : Nat) (h : 12 ≤ k) : Ae.nextL b (k - 11) = if (b.getD k 0 + 1) % 256 = 0 then Ae.nextL (b.set k ((b.getD k 0 + 1) % 256)) (k - 1 - 11) else b.set k ((b.getD k 0 + 1) % 256) := by
 obtain ⟨m, rfl⟩ : ∃ m, k = 12 + m := ⟨k - 12, by omega⟩
 rw [show 12 + m - 11 = m + 1 by omega, show 12 + m - 1 - 11 = m by omega, Ae.nextL, show 11 + (m + 1) = 12 + m by omega]
theorem wp_app8 {o : Oper} {a : Act} {K : Act → World → Prop} {Q : Exit → Act → World → Prop} {w : World} (s x : Operand)
  (ho : o.op = .call { callee := .builtin .append, args := #[s, x], argTypes := #[24, 24] })
  (base : Nat) (v : Value) (n : Nat) (xs : List Value) (hs : a.eval s = v) (hown : w.ownsRow base 5 1 v n xs)
  (ad : Addr) (m c : Nat) (l : List Nat) (hx : a.eval x = .slice (some ad) m c) (hl : l.length = m) (hR : Rd w (some ad) l) (hm : n + m ≤ 100000000) (hbase : base ≤ w.heap.size)
  (h : ∀ v' w', w'.ownsRow base 5 1 v' (n + m) (xs ++ l.map u8v) → w.grownBy w' v.ownBlock → K (a.put o.dst v') w') : o.wp Tryd.prog a w K Q := by
 obtain ⟨i0, hi, hz0, hz1, hz2⟩ := info_parts info8
 refine wp_append_own w s x 24 ho base 5 i0 (.int .u8 0) 1 1 Tryd.underlying24 hi hz0 hz1 hz2 rfl (by decide) v n xs hs hown ad m c (l.map u8v) hx (by simp [hl]) ?_ ?_ ?_ ?_ hbase (fun v' w' h1 h2 _ => h v' w' h1 h2)
 ·intro j u hu
  rw [List.getElem?_map, Option.map_eq_some_iff] at hu
  obtain ⟨y, hy, rfl⟩ := hu
  have hj := (List.getElem?_eq_some_iff.1 hy).1
  obtain ⟨b, o, e, hlt, hc⟩ := hR (by omega)
  obtain rfl : ad = ⟨b, o, none⟩ := by cases e; rfl
  rw [Addr.add_mid, hc j hj]
  simp [u8v, List.getD_eq_getElem?_getD, hy]
 ·intro u hu
  obtain ⟨x, _, rfl⟩ := List.mem_map.1 hu
  rfl
 ·unfold maxLen; omega
 ·omega
set_option maxRecDepth 100000 in
set_option maxHeartbeats 1000000 in
theorem refStream_any (key first : List Nat) (A : Option Addr) (c : Nat) (text : List Nat) (w : World) (hk : key.length = 16) (hf : first.length = 16) (qk : Ae.bytes key) (qf : Ae.bytes first) (ht : Rd w A text) (qt : Ae.bytes text) (hm : text.length ≤ 1000000) :
  Calls Tryd.prog 58 #[.agg (cellsN key), .agg (cellsN first), .slice A text.length c] w fun e w' => ∃ v, e = .returned v ∧ w'.ownsRow w.heap.size 5 1 v text.length ((Ae.stream (Ae.sched key) first text).map u8v) ∧ Below w.heap.size w w' := by
 have HK := Lib.hid hk
 have HT := Lib.hid ht
 obtain ⟨T, hT⟩ : ∃ T, (List.range 256).map Ae.box = T := ⟨_, rfl⟩
 obtain ⟨S, hS⟩ : ∃ S, Ae.sched key = S := ⟨_, rfl⟩
 have HTB := Lib.hid (fun w => table_any w)
 have HKY := Lib.hid (fun w => refKeys_any key w HK.out qk)
 have hLS : S.length = 176 := by rw [← hS]; exact Ae.sched_len key
 have qs : Ae.bytes S := by rw [← hS]; exact Ae.sched_bytes qk
 have HBL := Lib.hid (fun (i : Nat) w => refBlock_any S (Ae.ctr first i) w hLS ((Ae.ctr_len first i).trans hf) qs (Ae.ctr_bytes qf i))
 have HTL : Hid (T.length = 256) := by unfold Hid; rw [← hT]; simp
 rw [hT] at HTB HKY HBL
 rw [hS] at HKY
 have HLS := Lib.hid hLS
 have HSD : Hid (Ae.stream (Ae.sched key) first text = strO S first text text.length) := by unfold Hid; rw [hS]; rfl
 have HLC : Hid (∀ i, (Ae.ctr first i).length = 16) := fun i => (Ae.ctr_len first i).trans hf
 have HQ : Hid (∀ i, Ae.bytes (Ae.ctr first i)) := fun i => Ae.ctr_bytes qf i
 have HPD : Hid (∀ k, Ae.pad S first k = (Ae.enc S (Ae.ctr first (k / 16))).getD (k % 16) 0) := fun k => rfl
 have HCN : Hid (∀ i, Ae.ctr first (i + 1) = Ae.nextL (Ae.ctr first i) 4) := fun i => rfl
 rw [HSD.out]
 clear hT hS hLS hf hk ht
 have hz := (zero_of_info zero256).1
 have hz' := (zero_of_info zero176).1
 have HZL := Lib.hid z256_len
 have HZL' := Lib.hid z176_len
 generalize z256 = Z at *
 generalize z176 = Z' at *
 have HIK := Lib.hid (size16 HK.out)
 have HIT := Lib.hid (size256 HTL.out)
 have HIS := Lib.hid (size176 HLS.out)
 have HZT : Hid ((cellsN Z).size = (cellsN T).size) := by unfold Hid; rw [cellsN_size, cellsN_size, HZL.out, HTL.out]
 have HZS : Hid ((cellsN Z').size = (cellsN S).size) := by unfold Hid; rw [cellsN_size, cellsN_size, HZL'.out, HLS.out]
 have P0 : Hid (Obj ((w.alloc (.cells (cellsN key) 26)).alloc (.cells (cellsN first) 26)) w.heap.size 26 (cellsN key)) := (Obj.new w _ _).alloc _
 have P1 : Hid (Obj ((w.alloc (.cells (cellsN key) 26)).alloc (.cells (cellsN first) 26)) (w.heap.size + 1) 26 (cellsN first)) := new2 w _ _ _
 have PL : Hid (Below w.heap.size w ((w.alloc (.cells (cellsN key) 26)).alloc (.cells (cellsN first) 26))) := ((Below.refl _ w).alloc (Nat.le_refl _) _).alloc (by simp) _
 go_enter Tryd.func58, Tryd.ntmps58
 go_wp2_with fail
 refine (HTB.out _).mono ?_
 rintro e w1 ⟨rfl, hb1⟩
 have O0 := P0.out.kept hb1
 have O1 := P1.out.kept hb1
 have L0 := PL.out.trans (hb1.mono PL.out.size)
 have ON := Lib.hid (Obj.new w1 106 (cellsN Z))
 clear P0 P1 PL hb1
 have U2 := (Upd.refl w1.heap.size (w1.alloc (.cells (cellsN Z) 106))).row (cellsN T)
 have l2 := O1.lt
 have Q0 := (O0.alloc (.cells (cellsN Z) 106)).upd U2 (by omega)
 have Q1 := (O1.alloc (.cells (cellsN Z) 106)).upd U2 (by omega)
 have QT := ON.out.row (cellsN T)
 have QL := Upd.below (L0.alloc L0.size (.cells (cellsN Z) 106)) L0.size U2
 clear U2 O0 O1 L0
 obtain ⟨gt, hgt⟩ : ∃ g, w1.heap.size = g := ⟨_, rfl⟩
 have HGT := Lib.hid hgt
 rw [hgt] at l2 Q0 Q1 QT QL ON
 clear hgt
 go_wp2_with (first
  | (refine wpList_store_row rfl 106 (.tmp 7) (.tmp 14) rfl _ _ (by rw [← HGT.out]; rfl) rfl _ _ ON.out HIT.out HZT.out (one_cellsN _) ?_)
  | (refine wpList_load_row rfl 26 (.tmp 3) rfl _ rfl _ _ _ _ Q0 Tryd.underlying26 rfl HIK.out ?_)
  | (refine wpList_load_row rfl 106 (.tmp 7) rfl _ (by rw [← HGT.out]; rfl) _ _ _ _ QT Tryd.underlying106 rfl HIT.out ?_))
 refine (HKY.out _).mono ?_
 rintro e w3 ⟨rfl, hb3⟩
 rw [HGT.out]
 have l3 := QT.lt
 have O0 := Q0.kept hb3
 have O1 := Q1.kept hb3
 have OT := QT.kept hb3
 have L0 := QL.trans (hb3.mono QL.size)
 have ON3 := Lib.hid (Obj.new w3 101 (cellsN Z'))
 clear Q0 Q1 QT QL hb3 ON HGT l3
 have U4 := (Upd.refl w3.heap.size (w3.alloc (.cells (cellsN Z') 101))).row (cellsN S)
 have l4 := OT.lt
 have l5 := O1.lt
 have HK1 := (O0.alloc (.cells (cellsN Z') 101)).upd U4 (by omega)
 have HF1 := (O1.alloc (.cells (cellsN Z') 101)).upd U4 (by omega)
 have HT1 := (OT.alloc (.cells (cellsN Z') 101)).upd U4 (by omega)
 have HS1 := ON3.out.row (cellsN S)
 have HL1 := Upd.below (L0.alloc L0.size (.cells (cellsN Z') 101)) L0.size U4
 clear U4 O0 O1 OT L0
 go_wp2_with (refine wpList_store_row rfl 101 (.tmp 8) (.tmp 17) rfl _ _ rfl rfl _ _ ON3.out HIS.out HZS.out (one_cellsN _) ?_)
 obtain ⟨gs, hgs⟩ : ∃ g, w3.heap.size = g := ⟨_, rfl⟩
 rw [hgs] at l4 l5 HK1 HF1 HT1 HS1 HL1 ⊢
 generalize (w3.alloc (.cells (cellsN Z') 101)).setRow gs (cellsN S) = W at *
 clear hgs ON3
 obtain ⟨N, hN⟩ : ∃ N, text.length = N := ⟨_, rfl⟩
 have HN := Lib.hid hN
 rw [hN] at hm
 rw [hN]
 clear hN hz hz'
 go_wp2
 go_loopw [9, 10] (fun o p wx => ∃ (n : Nat), 16 * n < N + 16 ∧ p = .int .i64 ((16 * n : Nat) : Int) ∧ wx.ownsRow w.heap.size 5 1 o (min (16 * n) N) ((strO S first text (min (16 * n) N)).map u8v) ∧ Obj wx w.heap.size 26 (cellsN key) ∧ Obj wx (w.heap.size + 1) 26 (cellsN (Ae.ctr first n)) ∧ Obj wx gt 106 (cellsN T) ∧ Obj wx gs 101 (cellsN S) ∧ Below w.heap.size w wx) (fun _ p _ => N + 16 - (intOf p).toNat)
 case atStart => exact ⟨0, by omega, rfl, (by rw [Nat.mul_zero, Nat.zero_min, strO_zero]; exact World.ownsRow_nil _ _ _ _), HK1, HF1, HT1, HS1, HL1⟩
 case round =>
  clear HK1 HF1 HT1 HS1 HL1
  obtain ⟨n, hn, rfl, HO, HK1, HF1, HT1, HS1, HL1⟩ := hrel
  have HCT := Lib.hid (HCN.out n)
  have HLc := Lib.hid (HLC.out n)
  have qc := HQ.out n
  have HBC := Lib.hid (HBL.out n)
  have HPE : Hid (∀ m, m / 16 = n → Ae.pad S first m = (Ae.enc S (Ae.ctr first n)).getD (m % 16) 0) := fun m hm => by rw [HPD.out, hm]
  have HDN : Hid (min (16 * (n + 1)) N = min (16 * n + 16) N) := by unfold Hid; rw [Nat.mul_add]
  have HIN : Hid (16 * (n + 1) = 16 * n + 16) := by unfold Hid; omega
  obtain ⟨I, hI⟩ : ∃ I, 16 * n = I := ⟨_, rfl⟩
  have HI := Lib.hid hI
  have HNI : Hid (n = I / 16) := by unfold Hid; omega
  have HI16 : Hid (I % 16 = 0) := by unfold Hid; omega
  rw [hI] at hn HO HDN HIN ⊢
  clear hI
  by_cases hlt : I < N
  ·have hlti : (I : Int) < (N : Int) := by omega
   obtain ⟨tb, off, rfl, htb, htc⟩ := HT.out (by rw [HN.out]; omega)
   have HD0 : Hid (min I N = I) := by unfold Hid; omega
   rw [HD0.out] at HO
   have HIc := Lib.hid (size16 HLc.out)
   have HLE := Lib.hid (Ae.enc_len S (Ae.ctr first n))
   have HIE := Lib.hid (size16 HLE.out)
   have qE := Ae.enc_bytes qc qs
   have HSE : Hid ((#[.int .u8 0, .int .u8 0, .int .u8 0, .int .u8 0, .int .u8 0, .int .u8 0, .int .u8 0, .int .u8 0, .int .u8 0, .int .u8 0, .int .u8 0, .int .u8 0, .int .u8 0, .int .u8 0, .int .u8 0, .int .u8 0] : Array Value).size = (cellsN (Ae.enc S (Ae.ctr first n))).size) := by unfold Hid; rw [cellsN_size, HLE.out]; rfl
   go_wp2_with (first
    | (refine wpList_load_row rfl 101 (.tmp 8) rfl _ rfl _ _ _ _ HS1 Tryd.underlying101 rfl HIS.out ?_)
    | (refine wpList_load_row rfl 106 (.tmp 7) rfl _ rfl _ _ _ _ HT1 Tryd.underlying106 rfl HIT.out ?_)
    | (refine wpList_load_row rfl 26 (.tmp 4) rfl _ rfl _ _ _ _ HF1 Tryd.underlying26 rfl HIc.out ?_))
   refine (HBC.out _).mono ?_
   rintro e w5 ⟨rfl, hb5⟩
   have HK5 := HK1.kept hb5
   have HF5 := HF1.kept hb5
   have HT5 := HT1.kept hb5
   have HS5 := HS1.kept hb5
   have HO5 := HO.kept (row := none) ⟨hb5.os, hb5.tape, hb5.output, hb5.size, fun k hk _ => hb5.block k hk⟩ (by rcases HO.2 with ⟨rfl, _⟩ | ⟨g, cap, cur, rfl, _⟩ <;> simp [Value.ownBlock])
   have HL5 := HL1.trans (hb5.mono HL1.size)
   clear HK1 HF1 HT1 HS1 HO HL1 hb5
   have ON := Lib.hid (Obj.new w5 26 #[.int .u8 0, .int .u8 0, .int .u8 0, .int .u8 0, .int .u8 0, .int .u8 0, .int .u8 0, .int .u8 0, .int .u8 0, .int .u8 0, .int .u8 0, .int .u8 0, .int .u8 0, .int .u8 0, .int .u8 0, .int .u8 0])
   have U7 := (Upd.refl w5.heap.size (w5.alloc (.cells #[.int .u8 0, .int .u8 0, .int .u8 0, .int .u8 0, .int .u8 0, .int .u8 0, .int .u8 0, .int .u8 0, .int .u8 0, .int .u8 0, .int .u8 0, .int .u8 0, .int .u8 0, .int .u8 0, .int .u8 0, .int .u8 0] 26))).row (cellsN (Ae.enc S (Ae.ctr first n)))
   have l1 := HK5.lt
   have l2 := HF5.lt
   have l3 := HT5.lt
   have l4 := HS5.lt
   have HK7 := (HK5.alloc (.cells #[.int .u8 0, .int .u8 0, .int .u8 0, .int .u8 0, .int .u8 0, .int .u8 0, .int .u8 0, .int .u8 0, .int .u8 0, .int .u8 0, .int .u8 0, .int .u8 0, .int .u8 0, .int .u8 0, .int .u8 0, .int .u8 0] 26)).upd U7 (by omega)
   have HF7 := (HF5.alloc (.cells #[.int .u8 0, .int .u8 0, .int .u8 0, .int .u8 0, .int .u8 0, .int .u8 0, .int .u8 0, .int .u8 0, .int .u8 0, .int .u8 0, .int .u8 0, .int .u8 0, .int .u8 0, .int .u8 0, .int .u8 0, .int .u8 0] 26)).upd U7 (by omega)
   have HT7 := (HT5.alloc (.cells #[.int .u8 0, .int .u8 0, .int .u8 0, .int .u8 0, .int .u8 0, .int .u8 0, .int .u8 0, .int .u8 0, .int .u8 0, .int .u8 0, .int .u8 0, .int .u8 0, .int .u8 0, .int .u8 0, .int .u8 0, .int .u8 0] 26)).upd U7 (by omega)
   have HS7 := (HS5.alloc (.cells #[.int .u8 0, .int .u8 0, .int .u8 0, .int .u8 0, .int .u8 0, .int .u8 0, .int .u8 0, .int .u8 0, .int .u8 0, .int .u8 0, .int .u8 0, .int .u8 0, .int .u8 0, .int .u8 0, .int .u8 0, .int .u8 0] 26)).upd U7 (by omega)
   have HO7 := (HO5.alloc (.cells #[.int .u8 0, .int .u8 0, .int .u8 0, .int .u8 0, .int .u8 0, .int .u8 0, .int .u8 0, .int .u8 0, .int .u8 0, .int .u8 0, .int .u8 0, .int .u8 0, .int .u8 0, .int .u8 0, .int .u8 0, .int .u8 0] 26)).kept (row := some w5.heap.size) ⟨U7.os, U7.tape, U7.output, U7.size, fun k hk hne => U7.block k hk (fun e => hne (by rw [e]))⟩ (.inr (fun e => by have := HO5.lt _ e; omega))
   have HE7 := ON.out.row (cellsN (Ae.enc S (Ae.ctr first n)))
   have HL7 := Upd.below (HL5.alloc HL5.size (.cells #[.int .u8 0, .int .u8 0, .int .u8 0, .int .u8 0, .int .u8 0, .int .u8 0, .int .u8 0, .int .u8 0, .int .u8 0, .int .u8 0, .int .u8 0, .int .u8 0, .int .u8 0, .int .u8 0, .int .u8 0, .int .u8 0] 26)) HL5.size U7
   clear HK5 HF5 HT5 HS5 HO5 HL5 U7
   go_wp2_with (refine wpList_store_row rfl 26 (.tmp 11) (.tmp 27) rfl _ _ rfl rfl _ _ ON.out HIE.out HSE.out (one_cellsN _) ?_)
   clear ON
   generalize (w5.alloc (.cells #[.int .u8 0, .int .u8 0, .int .u8 0, .int .u8 0, .int .u8 0, .int .u8 0, .int .u8 0, .int .u8 0, .int .u8 0, .int .u8 0, .int .u8 0, .int .u8 0, .int .u8 0, .int .u8 0, .int .u8 0, .int .u8 0] 26)).setRow w5.heap.size (cellsN (Ae.enc S (Ae.ctr first n))) = W2 at *
   generalize w5.heap.size = bb at *
   generalize Ae.enc S (Ae.ctr first n) = E at *
   generalize Ae.ctr first n = C at *
   obtain ⟨M, hM⟩ : ∃ M, min (I + 16) N = M := ⟨_, rfl⟩
   have HMD := Lib.hid hM
   have hM1 : I < M := by omega
   have hM2 : M ≤ I + 16 := by omega
   have hM3 : M ≤ N := by omega
   have hM4 : M = I + 16 ∨ M = N := by omega
   have HM4 := Lib.hid hM4
   clear hM hM4
   go_wp2
   go_loopw [9, 12] (fun o p wx => ∃ k : Nat, I ≤ k ∧ k ≤ M ∧ p = .int .i64 k ∧ wx.ownsRow w.heap.size 5 1 o k ((strO S first text k).map u8v) ∧ Obj wx w.heap.size 26 (cellsN key) ∧ Obj wx (w.heap.size + 1) 26 (cellsN C) ∧ Obj wx gt 106 (cellsN T) ∧ Obj wx gs 101 (cellsN S) ∧ Obj wx bb 26 (cellsN E) ∧ Below w.heap.size w wx) (fun _ p _ => M - (intOf p).toNat)
   case atStart => exact ⟨I, Nat.le_refl _, by omega, rfl, HO7, HK7, HF7, HT7, HS7, HE7, HL7⟩
   case round =>
    clear HO7 HK7 HF7 HT7 HS7 HE7 HL7
    obtain ⟨k, hk1, hk2, rfl, HO, HK1, HF1, HT1, HS1, HE, HL1⟩ := hrel
    by_cases hkM : k < M
    ·have g1 : (k : Int) < (I : Int) + 16 := by omega
     have g2 : (k : Int) < (N : Int) := by omega
     obtain ⟨p, hp⟩ : ∃ p, k - I = p := ⟨_, rfl⟩
     have g3 : IntKind.i64.wrap ((k : Int) - (I : Int)) = (p : Int) := by rw [IntWalk.i64_in _ (by omega)]; omega
     have gp : (p : Int) < 16 := by omega
     have fx : w.cell? ⟨tb, off + k, none⟩ = some (.int .u8 ((text.getD k 0 : Nat) : Int)) := htc k (by rw [HN.out]; omega)
     have fy : ∀ w', Obj w' bb 26 (cellsN E) → w'.cell? ⟨bb, p, none⟩ = some (.int .u8 ((E.getD p 0 : Nat) : Int)) := fun w' h => h.getN p (by rw [HLE.out]; omega)
     have hx := Ae.bytes_get qt k
     have hy := Ae.bytes_get qE p
     have HV : Hid (strO S first text (k + 1) = strO S first text k ++ [text.getD k 0 ^^^ E.getD p 0]) := by
      unfold Hid
      have h16 := HI16.out
      rw [strO_next, HPE.out k (by rw [HNI.out]; omega), show k % 16 = p by omega]
     generalize text.getD k 0 = x at *
     generalize E.getD p 0 = y at *
     have HXY := Lib.hid (u8_xor_nat x y hx hy)
     have HFX := Lib.hid fx
     have HFY := Lib.hid fy
     clear hp fx fy
     have HO2 := Lib.hid HO
     clear HO
     go_wp2
     refine wp_region_held_drew (S := (fun w' => Obj w' bb 26 (cellsN E) ∧ Below w.heap.size w w')) (by kernel_rfl) ⟨HE.drew, HL1.drew⟩ (fun hHeld => ?_)
     refine tkH 0 ?_
     refine tkH 1 ?_
     refine tkH 2 ?_
     refine tkH 3 ?_
     refine tkH 4 ?_ (hy := by
      refine Or.inl ⟨by rfl, ?_⟩
      intro w' hSw
      have q := (hSw.2.cell (p := ⟨tb, off + k, none⟩) htb).trans HFX.out
      go_simp
      all_goals with_reducible rfl)
     refine tkH 5 ?_
     refine tkH 6 ?_
     refine tkH 7 ?_
     refine tkH 8 ?_
     refine tkH 9 ?_ (hy := by
      refine Or.inl ⟨by rfl, ?_⟩
      intro w' hSw
      have q := HFY.out w' hSw.1
      go_simp
      all_goals with_reducible rfl)
     refine tkH 10 ?_
     rw [HXY.out]
     refine onH 11 (fun KK hKK => ?_)
     go_simp
     refine hKK.out _ _ ?_ (fun h2 => ?_)
     ·(try dsimp only)
      exact ⟨HE.drew.alloc _, HL1.drew.alloc HL1.size _⟩
     clear hKK KK
     try simp only [Act.put, setIfInBounds_toArray, set_cons_zero, set_cons_succ]
     have HO3 : Hid (((wr.drew).alloc (.cells #[.int .u8 ((x ^^^ y : Nat) : Int)] 5)).ownsRow w.heap.size 5 1 _ k ((strO S first text k).map u8v)) := HO2.out.alloc _
     have HR : Hid (Rd ((wr.drew).alloc (.cells #[.int .u8 ((x ^^^ y : Nat) : Int)] 5)) (some ⟨wr.heap.size, 0, none⟩) [x ^^^ y]) := Obj.rd (t := 5) (l := [x ^^^ y]) (Obj.new wr.drew 5 (cellsN [x ^^^ y]))
     have HM1 := Lib.hid (show k + 1 ≤ 100000000 by omega)
     have HBS : Hid (w.heap.size ≤ ((wr.drew).alloc (.cells #[.int .u8 ((x ^^^ y : Nat) : Int)] 5)).heap.size) := h2.2.size
     have HK6 := HK1.drew.alloc (.cells #[.int .u8 ((x ^^^ y : Nat) : Int)] 5)
     have HF6 := HF1.drew.alloc (.cells #[.int .u8 ((x ^^^ y : Nat) : Int)] 5)
     have HT6 := HT1.drew.alloc (.cells #[.int .u8 ((x ^^^ y : Nat) : Int)] 5)
     have HS6 := HS1.drew.alloc (.cells #[.int .u8 ((x ^^^ y : Nat) : Int)] 5)
     have HE6 := h2.1
     have HL6 := h2.2
     refine onH 12 (fun KK hKK => ?_)
     rw [if_pos (by rfl)]
     refine wp_app8 _ _ rfl w.heap.size _ k _ rfl HO3.out ⟨wr.heap.size, 0, none⟩ 1 1 [x ^^^ y] rfl rfl HR.out HM1.out HBS.out ?_
     intro v' w7 hown hgrow
     refine hKK.out _ _ ?_ (fun h3 => ?_)
     ·(try dsimp only)
      exact ⟨HE6.grown hgrow (Obj.not_row HE6 (by decide) HO3.out), Below.grown HL6 hgrow HBS.out (fun j hj => (HO3.out.lt j hj).1)⟩
     clear hKK KK
     try simp only [Act.put, setIfInBounds_toArray, set_cons_zero, set_cons_succ]
     refine tkH 13 ?_
     refine wpAnyH_done (by kernel_rfl) ?_ _
     go_wp2
     go_roundw
     case rel =>
      have e : (strO S first text k).map u8v ++ [x ^^^ y].map u8v = (strO S first text (k + 1)).map u8v := by rw [HV.out, List.map_append]
      rw [e] at hown
      exact ⟨k + 1, by omega, by omega, by go_num, hown, HK6.grown hgrow (Obj.not_row HK6 (by decide) HO3.out), HF6.grown hgrow (Obj.not_row HF6 (by decide) HO3.out), HT6.grown hgrow (Obj.not_row HT6 (by decide) HO3.out), HS6.grown hgrow (Obj.not_row HS6 (by decide) HO3.out), HE6.grown hgrow (Obj.not_row HE6 (by decide) HO3.out), Below.grown HL6 hgrow HBS.out (fun j hj => (HO3.out.lt j hj).1)⟩
     case measure => simp [intOf]; omega
    ·obtain rfl : k = M := by omega
     have gM : (k : Int) ≤ (N : Int) := by omega
     by_cases h1 : k < I + 16
     ·have g1 : (k : Int) < (I : Int) + 16 := by omega
      have g2 : ¬ (k : Int) < (N : Int) := by have := HM4.out; omega
      clear hkM hk2 gM
      go_wp2
      go_loopw [13] (fun p wx => ∃ (j : Nat) (b : List Nat), 11 ≤ j ∧ j ≤ 15 ∧ p = .int .i64 j ∧ Hid (Ae.nextL b (j - 11) = Ae.nextL C 4) ∧ Hid (b.length = 16) ∧ Ae.bytes b ∧ wx.ownsRow w.heap.size 5 1 u9 k ((strO S first text k).map u8v) ∧ Obj wx w.heap.size 26 (cellsN key) ∧ Obj wx (w.heap.size + 1) 26 (cellsN b) ∧ Obj wx gt 106 (cellsN T) ∧ Obj wx gs 101 (cellsN S) ∧ Below w.heap.size w wx) (fun p _ => (intOf p).toNat)
      case atStart => exact ⟨15, C, by omega, by omega, rfl, rfl, HLc.out, qc, HO, HK1, HF1, HT1, HS1, HL1⟩
      case round =>
       clear HO HK1 HF1 HT1 HS1 HE HL1
       obtain ⟨j, b, hj1, hj2, rfl, HNL, HB, qb, HO, HK1, HF1, HT1, HS1, HL1⟩ := hrel
       have HO9 := Lib.hid HO
       clear HO
       by_cases h12 : 12 ≤ j
       ·have g12 : (12 : Int) ≤ (j : Int) := by omega
        have gj : (j : Int) < 16 := by omega
        have f0 : wr.cell? ⟨w.heap.size + 1, j, none⟩ = some (.int .u8 ((b.getD j 0 : Nat) : Int)) := HF1.getN _ (by rw [HB.out]; omega)
        have z0 := HF1.free j
        have hx := Ae.bytes_get qb j
        have HS := Lib.hid (nextL_step b j h12)
        obtain ⟨m, hm⟩ : ∃ m, j - 1 = m := ⟨_, rfl⟩
        rw [hm] at HS
        have e1 : IntKind.i64.wrap ((j : Int) - 1) = (m : Int) := by rw [IntWalk.i64_in _ (by omega)]; omega
        generalize b.getD j 0 = x at *
        have hv : ((x : Int) + 1) % 256 = (((x + 1) % 256 : Nat) : Int) := by omega
        have HV := Lib.hid hv
        have hq := Nat.mod_lt (x + 1) (show 0 < 256 by decide)
        clear hv
        by_cases hz : (x + 1) % 256 = 0
        ·have ht : ((((x : Int) + 1) % 256) != 0) = false := by rw [HV.out, hz]; rfl
         have HS2 := Lib.hid (HS.out.trans (if_pos hz))
         clear HS hz
         go_wp2
         go_roundw
         case rel =>
          rw [HV.out]
          exact ⟨m, b.set j ((x + 1) % 256), by omega, by omega, rfl, HS2.out.symm.trans HNL.out, by show (b.set _ _).length = 16; rw [List.length_set]; exact HB.out, Ae.bytes_set qb _ _ hq, ownsRow_setCell_other HO9.out (fun e => Obj.not_row HF1 (by decide) HO9.out e.symm) _, HK1.far (by simp) _, HF1.setN _ _, HT1.far (by simp; omega) _, HS1.far (by simp; omega) _, HL1.setCell (by simp) _⟩
         case measure => simp [intOf]; omega
        ·have ht : ((((x : Int) + 1) % 256) != 0) = true := by rw [HV.out]; simp; omega
         have HS2 := Lib.hid ((HS.out.trans (if_neg hz)).symm.trans HNL.out)
         clear HS hz
         go_wp2
         go_roundw
         case rel =>
          rw [HV.out]
          exact ⟨n + 1, by rw [HIN.out]; omega, by rw [HIN.out]; go_num, (by rw [HDN.out, HMD.out]; exact ownsRow_setCell_other HO9.out (fun e => Obj.not_row HF1 (by decide) HO9.out e.symm) _), HK1.far (by simp) _, (by rw [HCT.out, ← HS2.out]; exact HF1.setN _ _), HT1.far (by simp; omega) _, HS1.far (by simp; omega) _, HL1.setCell (by simp) _⟩
         case measure => simp [intOf]; omega
       ·obtain rfl : j = 11 := by omega
        have HF := Lib.hid (show b = Ae.nextL C 4 from HNL.out)
        rw [HF.out, ← HCT.out] at HF1
        clear hj1 hj2 h12
        go_wp2
        go_roundw
        case rel => exact ⟨n + 1, by rw [HIN.out]; omega, by rw [HIN.out]; go_num, (by rw [HDN.out, HMD.out]; exact HO9.out), HK1, HF1, HT1, HS1, HL1⟩
        case measure => simp [intOf]; omega
     ·have g1 : ¬ (k : Int) < (I : Int) + 16 := by omega
      clear hkM hk2 gM
      go_wp2
      go_loopw [13] (fun p wx => ∃ (j : Nat) (b : List Nat), 11 ≤ j ∧ j ≤ 15 ∧ p = .int .i64 j ∧ Hid (Ae.nextL b (j - 11) = Ae.nextL C 4) ∧ Hid (b.length = 16) ∧ Ae.bytes b ∧ wx.ownsRow w.heap.size 5 1 u9 k ((strO S first text k).map u8v) ∧ Obj wx w.heap.size 26 (cellsN key) ∧ Obj wx (w.heap.size + 1) 26 (cellsN b) ∧ Obj wx gt 106 (cellsN T) ∧ Obj wx gs 101 (cellsN S) ∧ Below w.heap.size w wx) (fun p _ => (intOf p).toNat)
      case atStart => exact ⟨15, C, by omega, by omega, rfl, rfl, HLc.out, qc, HO, HK1, HF1, HT1, HS1, HL1⟩
      case round =>
       clear HO HK1 HF1 HT1 HS1 HE HL1
       obtain ⟨j, b, hj1, hj2, rfl, HNL, HB, qb, HO, HK1, HF1, HT1, HS1, HL1⟩ := hrel
       have HO9 := Lib.hid HO
       clear HO
       by_cases h12 : 12 ≤ j
       ·have g12 : (12 : Int) ≤ (j : Int) := by omega
        have gj : (j : Int) < 16 := by omega
        have f0 : wr.cell? ⟨w.heap.size + 1, j, none⟩ = some (.int .u8 ((b.getD j 0 : Nat) : Int)) := HF1.getN _ (by rw [HB.out]; omega)
        have z0 := HF1.free j
        have hx := Ae.bytes_get qb j
        have HS := Lib.hid (nextL_step b j h12)
        obtain ⟨m, hm⟩ : ∃ m, j - 1 = m := ⟨_, rfl⟩
        rw [hm] at HS
        have e1 : IntKind.i64.wrap ((j : Int) - 1) = (m : Int) := by rw [IntWalk.i64_in _ (by omega)]; omega
        generalize b.getD j 0 = x at *
        have hv : ((x : Int) + 1) % 256 = (((x + 1) % 256 : Nat) : Int) := by omega
        have HV := Lib.hid hv
        have hq := Nat.mod_lt (x + 1) (show 0 < 256 by decide)
        clear hv
        by_cases hz : (x + 1) % 256 = 0
        ·have ht : ((((x : Int) + 1) % 256) != 0) = false := by rw [HV.out, hz]; rfl
         have HS2 := Lib.hid (HS.out.trans (if_pos hz))
         clear HS hz
         go_wp2
         go_roundw
         case rel =>
          rw [HV.out]
          exact ⟨m, b.set j ((x + 1) % 256), by omega, by omega, rfl, HS2.out.symm.trans HNL.out, by show (b.set _ _).length = 16; rw [List.length_set]; exact HB.out, Ae.bytes_set qb _ _ hq, ownsRow_setCell_other HO9.out (fun e => Obj.not_row HF1 (by decide) HO9.out e.symm) _, HK1.far (by simp) _, HF1.setN _ _, HT1.far (by simp; omega) _, HS1.far (by simp; omega) _, HL1.setCell (by simp) _⟩
         case measure => simp [intOf]; omega
        ·have ht : ((((x : Int) + 1) % 256) != 0) = true := by rw [HV.out]; simp; omega
         have HS2 := Lib.hid ((HS.out.trans (if_neg hz)).symm.trans HNL.out)
         clear HS hz
         go_wp2
         go_roundw
         case rel =>
          rw [HV.out]
          exact ⟨n + 1, by rw [HIN.out]; omega, by rw [HIN.out]; go_num, (by rw [HDN.out, HMD.out]; exact ownsRow_setCell_other HO9.out (fun e => Obj.not_row HF1 (by decide) HO9.out e.symm) _), HK1.far (by simp) _, (by rw [HCT.out, ← HS2.out]; exact HF1.setN _ _), HT1.far (by simp; omega) _, HS1.far (by simp; omega) _, HL1.setCell (by simp) _⟩
         case measure => simp [intOf]; omega
       ·obtain rfl : j = 11 := by omega
        have HF := Lib.hid (show b = Ae.nextL C 4 from HNL.out)
        rw [HF.out, ← HCT.out] at HF1
        clear hj1 hj2 h12
        go_wp2
        go_roundw
        case rel => exact ⟨n + 1, by rw [HIN.out]; omega, by rw [HIN.out]; go_num, (by rw [HDN.out, HMD.out]; exact HO9.out), HK1, HF1, HT1, HS1, HL1⟩
        case measure => simp [intOf]; omega
  ·have hlti : ¬ (I : Int) < (N : Int) := by omega
   have HD0 : Hid (min I N = N) := by unfold Hid; omega
   rw [HD0.out] at HO
   have P0 := Lib.hid HO
   have P1 := Lib.hid HL1
   clear HO HK1 HF1 HT1 HS1 HL1
   go_wp2
   go_ret
   exact ⟨_, rfl, by rw [HN.out]; exact P0.out, P1.out⟩
end Go.Proofs.YtabfcaidioohfaaDoor
namespace Go.Proofs.YtabfcaidioohfaaDoor
open List (getElem?_toArray getElem?_cons_zero getElem?_cons_succ setIfInBounds_toArray set_cons_zero set_cons_succ)
set_option maxRecDepth 100000
open Go Go.RowKit Go.Shelf
set_option linter.unusedVariables false
set_option linter.unusedSimpArgs false
theorem wpList_app8o {ops : Array Oper} {rest : List Oper} {o : Oper} {a : Act} {w : World} {Q : Exit → Act → World → Prop} (hgd : o.guard = none) (s x : Operand)
  (ho : o.op = .call { callee := .builtin .append, args := #[s, x], argTypes := #[24, 24] })
  (base : Nat) (v : Value) (n : Nat) (xs : List Value) (hs : a.eval s = v) (hown : w.ownsRow base 5 1 v n xs)
  (A : Option Addr) (m c : Nat) (l : List Nat) (hx : a.eval x = .slice A m c) (hl : l.length = m) (hR : Rd w A l) (hm : n + m ≤ 100000000) (hbase : base ≤ w.heap.size)
  (h : ∀ v' w', w'.ownsRow base 5 1 v' (n + m) (xs ++ l.map u8v) → w.grownBy w' v.ownBlock → wpList Tryd.prog ops Q rest (a.put o.dst v') w') : wpList Tryd.prog ops Q (o :: rest) a w := by
 by_cases h0 : m = 0
 ·subst h0
  obtain rfl : l = [] := List.eq_nil_of_length_eq_zero hl
  obtain ⟨F, d, rfl⟩ := (show ∃ F d, v = .slice F n d by
   rcases hown.2 with ⟨rfl, rfl⟩ | ⟨g, cap, cur, rfl, _⟩
   ·exact ⟨_, _, rfl⟩
   ·exact ⟨_, _, rfl⟩)
  have hnd : n ≤ d := by
   rcases hown.2 with ⟨e, rfl⟩ | ⟨g, cap, cur, e, _, _, hn, _⟩
   ·cases e; omega
   ·cases e; exact hn
  obtain ⟨i0, hi, hz0, hz1, hz2⟩ := info_parts info8
  have hsrc : Src Tryd.prog i0.size 24 (.slice A 0 c) 0 [] w := ⟨.inl ⟨_, Tryd.underlying24⟩, fun w' => by cases A <;> simp [Builtin.lenOf], by cases A <;> simp [Builtin.firstCells, loadCells, loadCellsFrom], by cases A <;> simp [Builtin.firstCells, loadCells, loadCellsFrom], by simp, fun u hu => by simp at hu⟩
  refine Lib.wpList_append_run w hgd s x 24 24 ho (.slice F n d) (.slice A 0 c) hs hx (.slice F n d) w (run_append_nothing w 24 24 o.type 5 i0 Tryd.underlying24 hi F n d hnd _ hsrc) (h _ w ?_ ⟨rfl, rfl, rfl, Nat.le_refl _, fun _ _ _ => rfl⟩)
  rw [Nat.add_zero, List.map_nil, List.append_nil]; exact hown
 ·obtain ⟨b, off, rfl, _⟩ := hR (by omega)
  exact wpList_app8 hgd s x ho base v n xs hs hown ⟨b, off, none⟩ m c l hx hl hR hm hbase h
theorem chunk_get {l : List Nat} {k i : Nat} (hi : i < 16) : (Gc.chunk l k).getD i 0 = l.getD (16 * k + i) 0 := by
 unfold Gc.chunk
 rw [List.getD_eq_getElem?_getD, List.getElem?_take_of_lt hi, List.getElem?_drop, List.getD_eq_getElem?_getD]
theorem chunk_full {l : List Nat} {k : Nat} (h : 16 * k + 16 ≤ l.length) : (Gc.chunk l k).length = 16 := by
 unfold Gc.chunk; rw [List.length_take, List.length_drop]; omega
theorem pad_full {c : List Nat} (h : c.length = 16) : Gc.pad c = c := by unfold Gc.pad; rw [h]; simp
theorem upto_xl {Y l : List Nat} {k q : Nat} (hY : Y.length = 16) (hq : 16 * k = q) : Ae.upto (fun i => Y.getD i 0 ^^^ l.getD (q + i) 0) Y 16 = Gc.xl Y (Gc.chunk l k) := by
 rw [Ae.upto_full _ _ _ (by omega), hY]
 unfold Gc.xl
 refine List.map_congr_left fun i hi => ?_
 rw [chunk_get (List.mem_range.1 hi), hq]
theorem absb_step {h k : Nat} {l : List Nat} (hl : 16 * k + 16 ≤ l.length) (hb : Ae.bytes l) (hh : h < 2 ^ 128) : Gc.mul (Gc.nb (Gc.xl (Gc.bn (Gc.absb h 0 l k)) (Gc.chunk l k))) h = Gc.absb h 0 l (k + 1) := by
 rw [Gc.nb_xl (Gc.bn_len _) (chunk_full hl) (Gc.bn_bytes _) (Gc.chunk_bytes hb k), Gc.nb_bn (Gc.absb_lt hh (by decide) k)]
 rw [Gc.absb]; unfold Gc.step; rw [pad_full (chunk_full hl)]
structure SrU (w : World) (B g Y : Nat) (hl all : List Nat) (tail : List Value) (yl : List Nat) (V : World) : Prop where
 o : Obj V g 5 (rowT all tail)
 h : Obj V B 26 (cellsN hl)
 r : Obj V (B + 1) 26 (cellsN (List.replicate 16 0))
 y : Obj V Y 26 (cellsN yl)
 bel : Below w.heap.size w V
theorem SrU.drew {w V : World} {B g Y : Nat} {hl all yl : List Nat} {tail : List Value} (h : SrU w B g Y hl all tail yl V) : SrU w B g Y hl all tail yl V.drew := ⟨h.o, h.h, h.r, h.y, h.bel.drew⟩
theorem SrU.set {w V : World} {B g Y : Nat} {hl all yl : List Nat} {tail : List Value} (h : SrU w B g Y hl all tail yl V) (hw : w.heap.size = B) (hg : B + 2 ≤ g) (hY : g < Y) (j v : Nat) : SrU w B g Y hl all tail (yl.set j v) (V.setCell ⟨Y, j, none⟩ (.int .u8 (v : Int))) :=
 ⟨h.o.far (by simp; omega) _, h.h.far (by simp; omega) _, h.r.far (by simp; omega) _, h.y.setN j v, h.bel.setCell (by simp; omega) _⟩
theorem SrU.kept {w V V' : World} {B g Y : Nat} {hl all yl : List Nat} {tail : List Value} (h : SrU w B g Y hl all tail yl V) (hb : Below V.heap.size V V') : SrU w B g Y hl all tail yl V' :=
 ⟨h.o.kept hb, h.h.kept hb, h.r.kept hb, h.y.kept hb, h.bel.trans (hb.mono h.bel.size)⟩
theorem SrU.row {w V : World} {B g Y : Nat} {hl all yl : List Nat} {tail : List Value} (h : SrU w B g Y hl all tail yl V) (hw : w.heap.size = B) (hg : B + 2 ≤ g) (hY : g < Y) (zl : List Nat) : SrU w B g Y hl all tail zl (V.setRow Y (cellsN zl)) :=
 have u : Upd Y V (V.setRow Y (cellsN zl)) := (Upd.refl Y V).row _
 ⟨h.o.upd u (by omega), h.h.upd u (by omega), h.r.upd u (by omega), h.y.row _, Upd.below h.bel (by omega) u⟩
set_option maxRecDepth 100000 in
set_option maxHeartbeats 8000000 in
theorem refSum_any (hl : List Nat) (A1 : Option Addr) (n1 c1 : Nat) (more : List Nat) (A2 : Option Addr) (n2 c2 : Nat) (text : List Nat) (w : World) (l1 : hl.length = 16) (q1 : Ae.bytes hl) (r1 : Rd w A1 more) (m1 : more.length = n1) (b1 : Ae.bytes more) (k1 : n1 ≤ 100000) (r2 : Rd w A2 text) (m2 : text.length = n2) (b2 : Ae.bytes text) (k2 : n2 ≤ 100000) :
  Calls Tryd.prog 59 #[.agg (cellsN hl), .slice A1 n1 c1, .slice A2 n2 c2] w fun e w' => e = .returned (.agg (cellsN (Gc.bn (Gc.gsum (Gc.nb hl) more text)))) ∧ Below w.heap.size w w' := by
 obtain ⟨B, hB⟩ : ∃ B, w.heap.size = B := ⟨_, rfl⟩
 obtain ⟨W2, hW2⟩ : ∃ W2, (w.alloc (.cells (cellsN hl) 26)).alloc (.cells #[.int .u8 0, .int .u8 0, .int .u8 0, .int .u8 0, .int .u8 0, .int .u8 0, .int .u8 0, .int .u8 0, .int .u8 0, .int .u8 0, .int .u8 0, .int .u8 0, .int .u8 0, .int .u8 0, .int .u8 0, .int .u8 0] 26) = W2 := ⟨_, rfl⟩
 have hb2 : Below w.heap.size w W2 := hW2 ▸ ((Below.refl _ w).alloc (Nat.le_refl _) _).alloc (by simp) _
 have s2 : W2.heap.size = B + 2 := by rw [← hW2]; simp [hB]
 have o0 : Obj W2 B 26 (cellsN hl) := hW2 ▸ hB ▸ (Obj.new w _ _).alloc _
 have o1 : Obj W2 (B + 1) 26 (cellsN (List.replicate 16 0)) := by
  have := Obj.new (w.alloc (.cells (cellsN hl) 26)) 26 #[.int .u8 0, .int .u8 0, .int .u8 0, .int .u8 0, .int .u8 0, .int .u8 0, .int .u8 0, .int .u8 0, .int .u8 0, .int .u8 0, .int .u8 0, .int .u8 0, .int .u8 0, .int .u8 0, .int .u8 0, .int .u8 0]
  rw [World.size_alloc, hB, hW2] at this; exact this
 have HF1 : Hid (∀ W, Below w.heap.size w W → Calls Tryd.prog 74 #[.slice A1 n1 c1] W fun e w' => ∃ v, e = .returned v ∧ w'.ownsRow W.heap.size 5 1 v (Gc.up n1) ((Gc.fullL more).map u8v) ∧ Below W.heap.size W w') := fun W hb => full_any A1 n1 c1 more W (r1.below hb) m1 (by omega)
 have HF2 : Hid (∀ W, Below w.heap.size w W → Calls Tryd.prog 74 #[.slice A2 n2 c2] W fun e w' => ∃ v, e = .returned v ∧ w'.ownsRow W.heap.size 5 1 v (Gc.up n2) ((Gc.fullL text).map u8v) ∧ Below W.heap.size W w') := fun W hb => full_any A2 n2 c2 text W (r2.below hb) m2 (by omega)
 have HN1 : Hid (∀ W, Calls Tryd.prog 75 #[.int .i64 (8 * (n1 : Int))] W fun e w' => e = .returned (.slice (some ⟨W.heap.size, 0, none⟩) 8 8) ∧ Rd w' (some ⟨W.heap.size, 0, none⟩) (Gc.by8 (8 * n1)) ∧ Below W.heap.size W w') := fun W => by
  have := number_any (8 * n1) W (by omega)
  rwa [Int.natCast_mul] at this
 have HN2 : Hid (∀ W, Calls Tryd.prog 75 #[.int .i64 (8 * (n2 : Int))] W fun e w' => e = .returned (.slice (some ⟨W.heap.size, 0, none⟩) 8 8) ∧ Rd w' (some ⟨W.heap.size, 0, none⟩) (Gc.by8 (8 * n2)) ∧ Below W.heap.size W w') := fun W => by
  have := number_any (8 * n2) W (by omega)
  rwa [Int.natCast_mul] at this
 have HFL2 : Hid ((Gc.fullL text).length = Gc.up n2) := by unfold Hid; rw [Gc.fullL_len, m2]
 have u1 : Gc.up n1 ≤ 100015 := by unfold Gc.up; omega
 have u2 : Gc.up n2 ≤ 100015 := by unfold Gc.up; omega
 have HW2 := Lib.hid hW2
 have HB := Lib.hid hB
 have HO0 := Lib.hid o0
 have HO1 := Lib.hid o1
 have HB2 := Lib.hid hb2
 have HS2 := Lib.hid s2
 have HM1 := Lib.hid m1
 have HM2 := Lib.hid m2
 have HQ1 := Lib.hid b1
 have HQ2 := Lib.hid b2
 clear hW2 o0 o1 hb2 s2 r1 r2 m1 m2 b1 b2 hB
 go_enter Tryd.func59, Tryd.ntmps59
 go_wp2_with fail
 rw [HW2.out]
 refine (HF1.out _ HB2.out).mono ?_
 rintro e w3 ⟨v3, rfl, ho3, hb3⟩
 have HB3 := Lib.hid (HB2.out.trans (hb3.mono HB2.out.size))
 have HX3 := Lib.hid (HO0.out.kept hb3)
 have HY3 := Lib.hid (HO1.out.kept hb3)
 have HV3 : Hid (w3.ownsRow (B + 2) 5 1 v3 (Gc.up n1) ((Gc.fullL more).map u8v)) := HS2.out ▸ ho3
 clear hb3 ho3
 go_wp2_with fail
 refine (HF2.out _ HB3.out).mono ?_
 rintro e w4 ⟨v4, rfl, ho4, hb4⟩
 have HB4 := Lib.hid (HB3.out.trans (hb4.mono HB3.out.size))
 have HX4 := Lib.hid (HX3.out.kept hb4)
 have HY4 := Lib.hid (HY3.out.kept hb4)
 have HV4 := Lib.hid (own_below HV3.out hb4)
 have HBS : Hid (B + 2 ≤ w4.heap.size) := by
  have h3 := HY4.out.lt
  unfold Hid
  omega
 obtain ⟨F4, d4, rfl, hfl, _, _, hr4⟩ := own_cap ho4
 have HR4 := Lib.hid hr4
 clear hb4 ho4 hr4
 go_wp2_with (at_builtin; refine wpList_app8o rfl _ _ rfl (B + 2) _ _ _ rfl HV4.out F4 (Gc.up n2) d4 (Gc.fullL text) rfl HFL2.out HR4.out (by omega) HBS.out ?_; intro v5 w5 hown5 hgrow5)
 have hbx5 : Below (B + 2) w4 w5 := Below.grown (Below.refl _ _) hgrow5 HBS.out (fun k hk => (HV4.out.lt k hk).1)
 have HX5 := Lib.hid (HX4.out.below hbx5 (by omega))
 have HY5 := Lib.hid (HY4.out.below hbx5 (by omega))
 have HB5 := Lib.hid (HB4.out.trans (hbx5.mono (by have := HB.out; omega)))
 have HBS5 : Hid (B + 2 ≤ w5.heap.size) := Nat.le_trans HBS.out hbx5.size
 have HV5 := Lib.hid hown5
 clear hgrow5 hown5 hbx5
 refine (HN1.out _).mono ?_
 rintro e w6 ⟨rfl, hr6, hb6⟩
 have HX6 := Lib.hid (HX5.out.kept hb6)
 have HY6 := Lib.hid (HY5.out.kept hb6)
 have HB6 := Lib.hid (HB5.out.trans (hb6.mono HB5.out.size))
 have HBS6 : Hid (B + 2 ≤ w6.heap.size) := Nat.le_trans HBS5.out hb6.size
 have HV6 := Lib.hid (own_below HV5.out hb6)
 have HR6 := Lib.hid hr6
 clear hb6 hr6
 go_wp2_with (at_builtin; refine wpList_app8 rfl _ _ rfl (B + 2) _ _ _ rfl HV6.out ⟨w5.heap.size, 0, none⟩ 8 8 (Gc.by8 (8 * n1)) rfl (Gc.by8_len _) HR6.out (by omega) HBS6.out ?_; intro v7 w7 hown7 hgrow7)
 have hbx7 : Below (B + 2) w6 w7 := Below.grown (Below.refl _ _) hgrow7 HBS6.out (fun k hk => (HV6.out.lt k hk).1)
 have HX7 := Lib.hid (HX6.out.below hbx7 (by omega))
 have HY7 := Lib.hid (HY6.out.below hbx7 (by omega))
 have HB7 := Lib.hid (HB6.out.trans (hbx7.mono (by have := HB.out; omega)))
 have HBS7 : Hid (B + 2 ≤ w7.heap.size) := Nat.le_trans HBS6.out hbx7.size
 have HV7 := Lib.hid hown7
 clear hgrow7 hown7 hbx7
 refine (HN2.out _).mono ?_
 rintro e w8 ⟨rfl, hr8, hb8⟩
 have HX8 := Lib.hid (HX7.out.kept hb8)
 have HY8 := Lib.hid (HY7.out.kept hb8)
 have HB8 := Lib.hid (HB7.out.trans (hb8.mono HB7.out.size))
 have HBS8 : Hid (B + 2 ≤ w8.heap.size) := Nat.le_trans HBS7.out hb8.size
 have HV8 := Lib.hid (own_below HV7.out hb8)
 have HR8 := Lib.hid hr8
 clear hb8 hr8
 go_wp2_with (at_builtin; refine wpList_app8 rfl _ _ rfl (B + 2) _ _ _ rfl HV8.out ⟨w7.heap.size, 0, none⟩ 8 8 (Gc.by8 (8 * n2)) rfl (Gc.by8_len _) HR8.out (by omega) HBS8.out ?_; intro v9 w9 hown9 hgrow9)
 have hbx9 : Below (B + 2) w8 w9 := Below.grown (Below.refl _ _) hgrow9 HBS8.out (fun k hk => (HV8.out.lt k hk).1)
 have HX9 := Lib.hid (HX8.out.below hbx9 (by omega))
 have HY9 := Lib.hid (HY8.out.below hbx9 (by omega))
 have HB9 := Lib.hid (HB8.out.trans (hbx9.mono (by have := HB.out; omega)))
 have HV9 := Lib.hid hown9
 clear hgrow9 hown9 hbx9
 have hall : Gc.fullL more ++ Gc.fullL text ++ Gc.by8 (8 * n1) ++ Gc.by8 (8 * n2) = Gc.allL more text := by
  have h1 : more.length ≤ 1000000 := by rw [HM1.out]; omega
  have h2 : text.length ≤ 1000000 := by rw [HM2.out]; omega
  obtain ⟨_, e1, e2⟩ := Gc.ends_lt h1 h2
  unfold Gc.allL Gc.bn
  rw [e1, e2, HM1.out, HM2.out, Nat.mul_comm n1, Nat.mul_comm n2]
  simp only [List.append_assoc]
 have hN := Gc.allL_len more text
 have hcount : Gc.up n1 + Gc.up n2 + 8 + 8 = (Gc.allL more text).length := by
  rw [← hall, List.length_append, List.length_append, List.length_append, Gc.fullL_len, Gc.fullL_len, Gc.by8_len, Gc.by8_len, HM1.out, HM2.out]
 have hv9 := HV9.out
 rw [← List.map_append, ← List.map_append, ← List.map_append, hall, hcount] at hv9
 obtain ⟨g, cap, tail, rfl, hg, hcap, hog, hmax, _⟩ := own_row hv9 (by rw [hN]; omega)
 obtain ⟨Y, hY⟩ : ∃ Y, w9.heap.size = Y := ⟨_, rfl⟩
 have hgY : g < Y := hY ▸ hog.lt
 have hBg : B + 2 ≤ g := hg
 have HI0 : Hid (SrU w B g Y hl (Gc.allL more text) tail (Gc.bn (Gc.absb (Gc.nb hl) 0 (Gc.allL more text) 0)) (w9.alloc (.cells #[.int .u8 0, .int .u8 0, .int .u8 0, .int .u8 0, .int .u8 0, .int .u8 0, .int .u8 0, .int .u8 0, .int .u8 0, .int .u8 0, .int .u8 0, .int .u8 0, .int .u8 0, .int .u8 0, .int .u8 0, .int .u8 0] 26))) :=
  ⟨hog.alloc _, HX9.out.alloc _, HY9.out.alloc _, (hY ▸ Obj.new w9 _ _ : Obj _ Y _ _).as (by show _ = cellsN (Gc.bn 0); rw [Gc.bn_zero]; rfl), HB9.out.alloc HB9.out.size _⟩
 have hB' := HB.out
 subst hB'
 obtain ⟨N, hNN⟩ : ∃ N, Gc.nch more + (Gc.nch text + 1) = N := ⟨_, rfl⟩
 have HGS : Hid (Gc.absb (Gc.nb hl) 0 (Gc.allL more text) N = Gc.gsum (Gc.nb hl) more text) := by
  unfold Hid; rw [← hNN]; exact Gc.gsum_ref _ (by rw [HM1.out]; omega) (by rw [HM2.out]; omega)
 rw [hNN] at hN
 have hNb : N ≤ 20000 := by omega
 have HAB : Hid (Ae.bytes (Gc.allL more text)) := by
  unfold Hid Gc.allL Gc.fullL
  exact Ae.bytes_append (Ae.bytes_append HQ1.out (Gc.zeros_bytes _)) (Ae.bytes_append (Ae.bytes_append HQ2.out (Gc.zeros_bytes _)) (Gc.bn_bytes _))
 have hlt := Gc.nb16_lt l1 q1
 have HLT := Lib.hid hlt
 have HL1 := Lib.hid l1
 have HQL := Lib.hid q1
 have HIH := Lib.hid (size16 l1)
 generalize Gc.allL more text = all at *
 rw [hN]
 obtain ⟨G, hG⟩ : ∃ G, Gc.gsum (Gc.nb hl) more text = G := ⟨_, rfl⟩
 rw [hG] at HGS
 have HGE := Lib.hid hG
 clear hG
 have HLEN := Lib.hid hN
 try rw [hY]
 clear hog hv9 hcap hmax hall hcount HV9 HX9 HY9 HB9 hN hNN hY HF1 HF2 HN1 HN2 l1 q1 hlt
 go_loopw [9] (fun i V => ∃ k : Nat, k ≤ N ∧ i = .int .i64 ((16 * k : Nat) : Int) ∧ SrU w w.heap.size g Y hl all tail (Gc.bn (Gc.absb (Gc.nb hl) 0 all k)) V) (fun i _ => 16 * N - (intOf i).toNat)
 case atStart => exact ⟨0, by omega, rfl, HI0.out⟩
 case round =>
  clear HI0
  obtain ⟨k, hk, rfl, hI⟩ := hrel
  have HI := Lib.hid hI
  obtain ⟨q, hq⟩ : ∃ q, 16 * k = q := ⟨_, rfl⟩
  rw [hq]
  by_cases hkl : k < N
  ·have hql : (q : Int) < 16 * (N : Int) := by omega
   have h16 : 16 * k + 16 ≤ all.length := by rw [HLEN.out]; omega
   obtain ⟨Yl, hYl⟩ : ∃ Yl, Gc.bn (Gc.absb (Gc.nb hl) 0 all k) = Yl := ⟨_, rfl⟩
   have lY : Yl.length = 16 := hYl ▸ Gc.bn_len _
   have qY : Ae.bytes Yl := hYl ▸ Gc.bn_bytes _
   obtain ⟨C, hC⟩ : ∃ C, Gc.xl Yl (Gc.chunk all k) = C := ⟨_, rfl⟩
   have lC : C.length = 16 := hC ▸ Gc.xl_len _ _
   have qC : Ae.bytes C := hC ▸ Gc.xl_bytes lY (chunk_full h16) qY (Gc.chunk_bytes HAB.out k)
   have HUC : Hid (Ae.upto (fun i => Yl.getD i 0 ^^^ all.getD (q + i) 0) Yl 16 = C) := (upto_xl lY hq).trans hC
   obtain ⟨D, hD⟩ : ∃ D, Gc.bn (Gc.absb (Gc.nb hl) 0 all (k + 1)) = D := ⟨_, rfl⟩
   have HTM : Hid (∀ W, Calls Tryd.prog 76 #[.agg (cellsN C), .agg (cellsN hl)] W fun e w' => e = .returned (.agg (cellsN D)) ∧ Below W.heap.size W w') := fun W => by
    have := refProd_any C hl W lC HL1.out qC HQL.out
    rwa [← hC, ← hYl, absb_step h16 HAB.out HLT.out, hYl, hC, hD] at this
   have HYL := Lib.hid hYl
   rw [hYl] at HI
   have HDD := Lib.hid hD
   have HLC := Lib.hid lC
   have HQY := Lib.hid qY
   have HLY := Lib.hid lY
   have HLD : Hid (D.length = 16) := by unfold Hid; rw [← hD]; exact Gc.bn_len _
   have HQN : Hid (16 * (k + 1) = q + 16) := by unfold Hid; omega
   have HH16 : Hid (q + 16 ≤ all.length) := by unfold Hid; omega
   have hqb : q + 16 ≤ 320000 := by omega
   have hj0 : q + 16 ≤ 16 * N := by omega
   have HK := Lib.hid hkl
   clear hI hYl hC hD lC lY qY qC h16 hkl hk hq
   go_wp2
   go_loopw [10] (fun i V => ∃ j : Nat, j ≤ 16 ∧ i = .int .i64 j ∧ SrU w w.heap.size g Y hl all tail (Ae.upto (fun i => Yl.getD i 0 ^^^ all.getD (q + i) 0) Yl j) V) (fun i _ => 16 - (intOf i).toNat)
   case atStart => exact ⟨0, by omega, rfl, by rw [Ae.upto_zero]; exact HI.out⟩
   case round =>
    clear HI
    obtain ⟨j, hj, rfl, hJ⟩ := hrel
    by_cases hlt : j < 16
    ·have hji : (j : Int) < 16 := by omega
     obtain ⟨p, hp⟩ : ∃ p, q + j = p := ⟨_, rfl⟩
     have e1 : IntKind.i64.wrap ((q : Int) + (j : Int)) = (p : Int) := by rw [IntWalk.i64_in _ (by omega)]; omega
     have hpn : p < 16 * N := by omega
     have hpi : (p : Int) < 16 * (N : Int) := by omega
     have g0 : wr.cell? ⟨Y, j, none⟩ = some (.int .u8 ((Yl.getD j 0 : Nat) : Int)) := by
      have := hJ.y.getN j (by rw [Ae.upto_len, HLY.out]; exact hlt)
      rwa [Ae.upto_get _ _ _ _ (by rw [HLY.out]; exact hlt), if_neg (Nat.lt_irrefl j)] at this
     have g1 := hJ.o.getT p (by rw [HLEN.out]; exact hpn)
     have g2 := hJ.y.free j
     have hxr := u8_xor_nat (Yl.getD j 0) (all.getD p 0) (Ae.bytes_get HQY.out j) (Ae.bytes_get HAB.out p)
     have HNX : Hid (SrU w w.heap.size g Y hl all tail (Ae.upto (fun i => Yl.getD i 0 ^^^ all.getD (q + i) 0) Yl (j + 1)) (wr.drew.setCell ⟨Y, j, none⟩ (.int .u8 ((Yl.getD j 0 ^^^ all.getD p 0 : Nat) : Int)))) := by
      have := hJ.drew.set rfl hBg hgY j (Yl.getD j 0 ^^^ all.getD (q + j) 0)
      rwa [Ae.upto_set (fun i => Yl.getD i 0 ^^^ all.getD (q + i) 0) Yl j (by rw [HLY.out]; exact hlt), hp] at this
     clear hJ hp
     generalize Yl.getD j 0 = xx at *
     generalize all.getD p 0 = yy at *
     go_wp2
     go_region
     go_wp2
     go_roundw
     case rel => exact ⟨j + 1, by omega, by go_num, HNX.out⟩
     case measure => simp [intOf]; omega
    ·obtain rfl : j = 16 := by omega
     rw [HUC.out] at hJ
     have HJ := Lib.hid hJ
     clear hJ hj hlt
     have HIC := Lib.hid (size16 HLC.out)
     have HID := Lib.hid (size16 HLD.out)
     have HSC : Hid ((cellsN C).size = (cellsN D).size) := by unfold Hid; rw [cellsN_size, cellsN_size, HLC.out, HLD.out]
     go_wp2_with (first
      | (refine wpList_load_row rfl 26 (.tmp 8) rfl Y rfl _ _ _ _ HJ.out.y Tryd.underlying26 rfl HIC.out ?_)
      | (refine wpList_load_row rfl 26 (.tmp 3) rfl w.heap.size rfl _ _ _ _ HJ.out.h Tryd.underlying26 rfl HIH.out ?_))
     refine (HTM.out _).mono ?_
     rintro e wz ⟨rfl, hz⟩
     have HZ := Lib.hid (HJ.out.kept hz)
     clear hz HJ
     have HZR : Hid (SrU w w.heap.size g Y hl all tail (Gc.bn (Gc.absb (Gc.nb hl) 0 all (k + 1))) (wz.setRow Y (cellsN D))) := by
      unfold Hid; rw [HDD.out]; exact HZ.out.row rfl hBg hgY D
     have e2 : IntKind.i64.wrap ((q : Int) + 16) = ((q + 16 : Nat) : Int) := by rw [IntWalk.i64_in _ (by omega)]; omega
     go_wp2_with (refine wpList_store_row rfl 26 (.tmp 8) (.tmp 51) rfl _ _ rfl rfl _ _ HZ.out.y HID.out HSC.out (one_cellsN _) ?_)
     go_roundw
     case rel => exact ⟨k + 1, HK.out, by rw [HQN.out]; go_num, HZR.out⟩
     case measure => simp [intOf]; omega
  ·obtain rfl : k = N := by omega
   have hql : ¬ (q : Int) < 16 * (k : Int) := by omega
   clear hI
   rw [HGS.out] at HI
   have HIR := Lib.hid (size16 (Gc.bn_len G))
   have HSR : Hid ((cellsN (List.replicate 16 0)).size = (cellsN (Gc.bn G)).size) := by unfold Hid; rw [cellsN_size, cellsN_size, Gc.bn_len]; rfl
   have HFI : Hid (Obj (wr.setRow (w.heap.size + 1) (cellsN (Gc.bn G))) (w.heap.size + 1) 26 (cellsN (Gc.bn G)) ∧ Below w.heap.size w (wr.setRow (w.heap.size + 1) (cellsN (Gc.bn G)))) := ⟨HI.out.r.row _, Upd.below HI.out.bel (by omega) ((Upd.refl _ _).row _)⟩
   go_wp2_with (first
    | (refine wpList_load_row rfl 26 (.tmp 8) rfl Y rfl _ _ _ _ HI.out.y Tryd.underlying26 rfl HIR.out ?_)
    | (refine wpList_store_row rfl 26 (.tmp 6) (.tmp 52) rfl _ _ rfl rfl _ _ HI.out.r HIR.out HSR.out (one_cellsN _) ?_))
   exact bodyPost_ret (v := .agg (cellsN (Gc.bn G))) (results_cell_row rfl _ _ _ _ _ _ _ rfl HFI.out.1 Tryd.underlying26 rfl HIR.out) rfl ⟨by rw [HGE.out], HFI.out.2⟩
end Go.Proofs.YtabfcaidioohfaaDoor
namespace Go.Gc
open List (getElem?_toArray getElem?_cons_zero getElem?_cons_succ setIfInBounds_toArray set_cons_zero set_cons_succ)
set_option maxRecDepth 100000
open Go.Proofs.YtabfcaidioohfaaDoor
theorem tag_xl (key first more c : List Nat) : tag key first more c = xl (bn (gsum (hkey key) more c)) (Ae.enc (Ae.sched key) first) := by
 unfold tag Ae.stream xl
 rw [bn_len]
 refine List.map_congr_left fun k hk => ?_
 have h := List.mem_range.1 hk
 unfold Ae.pad
 rw [Nat.div_eq_of_lt h, Nat.mod_eq_of_lt h]
 rfl
theorem xl_take (a b : List Nat) {k : Nat} (h : k < 16) : (xl a b).take (k + 1) = (xl a b).take k ++ [a.getD k 0 ^^^ b.getD k 0] := by
 rw [List.take_add_one]
 have e : (xl a b)[k]? = some (a.getD k 0 ^^^ b.getD k 0) := by unfold xl; simp [h]
 rw [e]; rfl
theorem pad12 {n : List Nat} (h : n.length = 12) : Ae.upto (fun i => n.getD i 0) (List.replicate 16 0) 12 = pad n := by
 refine Ae.ext_get (by rw [Ae.upto_len, pad_len (by omega)]; simp) fun i hi => ?_
 rw [Ae.upto_len] at hi
 rw [Ae.upto_get _ _ _ _ hi]
 rw [List.length_replicate] at hi
 unfold pad
 rw [h]
 by_cases h2 : i < 12
 ·rw [if_pos h2, List.getD_eq_getElem?_getD, List.getD_eq_getElem?_getD, List.getElem?_append_left (by omega)]
 ·rw [if_neg h2, List.getD_eq_getElem?_getD, List.getD_eq_getElem?_getD, List.getElem?_append_right (by omega), List.getElem?_replicate, List.getElem?_replicate, if_pos (by omega), if_pos (by omega)]
theorem b2_pad {n : List Nat} (h : n.length = 12) : (pad n).set 15 2 = b2 n := by
 unfold pad b2
 rw [h, List.set_append_right _ _ (by omega), h]
 rfl
theorem b1_b2 {n : List Nat} (h : n.length = 12) : (b2 n).set 15 1 = b1 n := by
 unfold b1 b2
 rw [List.set_append_right _ _ (by omega), h]
 rfl
end Go.Gc
namespace Go.Proofs.YtabfcaidioohfaaDoor
open List (getElem?_toArray getElem?_cons_zero getElem?_cons_succ setIfInBounds_toArray set_cons_zero set_cons_succ)
set_option maxRecDepth 100000
open Go Go.RowKit Go.Shelf
set_option linter.unusedVariables false
set_option linter.unusedSimpArgs false
structure RsS (w : World) (B : Nat) (key nonce jl : List Nat) (V : World) : Prop where
 k : Obj V B 26 (cellsN key)
 n : Obj V (B + 1) 27 (cellsN nonce)
 j : Obj V (B + 1 + 1) 26 (cellsN jl)
 z : Obj V (B + 1 + 1 + 1) 26 (cellsN (List.replicate 16 0))
 bel : Below w.heap.size w V
theorem RsS.drew {w V : World} {B : Nat} {key nonce jl : List Nat} (h : RsS w B key nonce jl V) : RsS w B key nonce jl V.drew := ⟨h.k, h.n, h.j, h.z, h.bel.drew⟩
theorem RsS.set {w V : World} {B : Nat} {key nonce jl : List Nat} (h : RsS w B key nonce jl V) (hw : w.heap.size = B) (i v : Nat) : RsS w B key nonce (jl.set i v) (V.setCell ⟨B + 1 + 1, i, none⟩ (.int .u8 (v : Int))) :=
 ⟨h.k.far (by simp <;> omega) _, h.n.far (by simp <;> omega) _, h.j.setN i v, h.z.far (by simp <;> omega) _, h.bel.setCell (by simp; omega) _⟩
theorem RsS.kept {w V V' : World} {B : Nat} {key nonce jl : List Nat} (h : RsS w B key nonce jl V) (hb : Below V.heap.size V V') : RsS w B key nonce jl V' :=
 ⟨h.k.kept hb, h.n.kept hb, h.j.kept hb, h.z.kept hb, h.bel.trans (hb.mono h.bel.size)⟩
theorem RsS.upd {w V V' : World} {B g : Nat} {key nonce jl : List Nat} (h : RsS w B key nonce jl V) (hw : w.heap.size = B) (hg : B + 3 < g) (hb : Upd g V V') : RsS w B key nonce jl V' :=
 ⟨h.k.upd hb (by omega), h.n.upd hb (by omega), h.j.upd hb (by omega), h.z.upd hb (by omega), Upd.below h.bel (by omega) hb⟩
structure RsQ (w : World) (S E : Nat) (sl el : List Nat) (V : World) : Prop where
 s : Obj V S 26 (cellsN sl)
 e : Obj V E 26 (cellsN el)
 bel : Below w.heap.size w V
theorem RsQ.drew {w V : World} {S E : Nat} {sl el : List Nat} (h : RsQ w S E sl el V) : RsQ w S E sl el V.drew := ⟨h.s, h.e, h.bel.drew⟩
theorem RsQ.alloc {w V : World} {S E : Nat} {sl el : List Nat} (h : RsQ w S E sl el V) (o : _root_.Go.Obj) : RsQ w S E sl el (V.alloc o) := ⟨h.s.alloc _, h.e.alloc _, h.bel.alloc h.bel.size _⟩
theorem own_upd {w w' : World} {base n g : Nat} {e : TypeId} {v : Value} {xs : List Value} (h : w.ownsRow base e 1 v n xs) (hb : Upd g w w') (hg : some g ≠ v.ownBlock) : w'.ownsRow base e 1 v n xs :=
 h.kept (row := some g) ⟨hb.os, hb.tape, hb.output, hb.size, fun k hk hne => hb.block k hk (fun e => hne (by rw [e]))⟩ (.inr fun e => hg e.symm)
set_option maxRecDepth 100000 in
set_option maxHeartbeats 4000000 in
theorem refSeal_any (key nonce : List Nat) (A1 : Option Addr) (n1 c1 : Nat) (more : List Nat) (A2 : Option Addr) (n2 c2 : Nat) (text : List Nat) (w : World) (l1 : key.length = 16) (q1 : Ae.bytes key) (l2 : nonce.length = 12) (q2 : Ae.bytes nonce) (r1 : Rd w A1 more) (m1 : more.length = n1) (b1 : Ae.bytes more) (k1 : n1 ≤ 100000) (r2 : Rd w A2 text) (m2 : text.length = n2) (b2 : Ae.bytes text) (k2 : n2 ≤ 100000) :
  Calls Tryd.prog 45 #[.agg (cellsN key), .agg (cellsN nonce), .slice A1 n1 c1, .slice A2 n2 c2] w fun e w' => ∃ v, e = .returned v ∧ w'.ownsRow w.heap.size 5 1 v (n2 + 16) ((Gc.sealT key nonce more text).map u8v) ∧ Below w.heap.size w w' := by
 obtain ⟨B, hB⟩ : ∃ B, w.heap.size = B := ⟨_, rfl⟩
 obtain ⟨W4, hW4⟩ : ∃ W4, (((w.alloc (.cells (cellsN key) 26)).alloc (.cells (cellsN nonce) 27)).alloc (.cells #[.int .u8 0, .int .u8 0, .int .u8 0, .int .u8 0, .int .u8 0, .int .u8 0, .int .u8 0, .int .u8 0, .int .u8 0, .int .u8 0, .int .u8 0, .int .u8 0, .int .u8 0, .int .u8 0, .int .u8 0, .int .u8 0] 26)).alloc (.cells #[.int .u8 0, .int .u8 0, .int .u8 0, .int .u8 0, .int .u8 0, .int .u8 0, .int .u8 0, .int .u8 0, .int .u8 0, .int .u8 0, .int .u8 0, .int .u8 0, .int .u8 0, .int .u8 0, .int .u8 0, .int .u8 0] 26) = W4 := ⟨_, rfl⟩
 have hb4 : Below w.heap.size w W4 := hW4 ▸ ((((Below.refl _ w).alloc (Nat.le_refl _) _).alloc (by simp) _).alloc (by simp; omega) _).alloc (by simp; omega) _
 have s4 : W4.heap.size = B + 4 := by rw [← hW4]; simp [hB]
 have HI0 : Hid (RsS w B key nonce (List.replicate 16 0) W4) := by
  refine ⟨?_, ?_, ?_, ?_, hb4⟩
  ·exact hW4 ▸ hB ▸ (((Obj.new w _ _).alloc _).alloc _).alloc _
  ·have := ((new2 w (.cells (cellsN key) 26) 27 (cellsN nonce)).alloc (.cells #[.int .u8 0, .int .u8 0, .int .u8 0, .int .u8 0, .int .u8 0, .int .u8 0, .int .u8 0, .int .u8 0, .int .u8 0, .int .u8 0, .int .u8 0, .int .u8 0, .int .u8 0, .int .u8 0, .int .u8 0, .int .u8 0] 26)).alloc (.cells #[.int .u8 0, .int .u8 0, .int .u8 0, .int .u8 0, .int .u8 0, .int .u8 0, .int .u8 0, .int .u8 0, .int .u8 0, .int .u8 0, .int .u8 0, .int .u8 0, .int .u8 0, .int .u8 0, .int .u8 0, .int .u8 0] 26)
   rw [hB, hW4] at this; exact this
  ·have := (Obj.new ((w.alloc (.cells (cellsN key) 26)).alloc (.cells (cellsN nonce) 27)) 26 #[.int .u8 0, .int .u8 0, .int .u8 0, .int .u8 0, .int .u8 0, .int .u8 0, .int .u8 0, .int .u8 0, .int .u8 0, .int .u8 0, .int .u8 0, .int .u8 0, .int .u8 0, .int .u8 0, .int .u8 0, .int .u8 0]).alloc (.cells #[.int .u8 0, .int .u8 0, .int .u8 0, .int .u8 0, .int .u8 0, .int .u8 0, .int .u8 0, .int .u8 0, .int .u8 0, .int .u8 0, .int .u8 0, .int .u8 0, .int .u8 0, .int .u8 0, .int .u8 0, .int .u8 0] 26)
   simp only [World.size_alloc, hB] at this; rw [hW4] at this; exact this
  ·have := Obj.new (((w.alloc (.cells (cellsN key) 26)).alloc (.cells (cellsN nonce) 27)).alloc (.cells #[.int .u8 0, .int .u8 0, .int .u8 0, .int .u8 0, .int .u8 0, .int .u8 0, .int .u8 0, .int .u8 0, .int .u8 0, .int .u8 0, .int .u8 0, .int .u8 0, .int .u8 0, .int .u8 0, .int .u8 0, .int .u8 0] 26)) 26 #[.int .u8 0, .int .u8 0, .int .u8 0, .int .u8 0, .int .u8 0, .int .u8 0, .int .u8 0, .int .u8 0, .int .u8 0, .int .u8 0, .int .u8 0, .int .u8 0, .int .u8 0, .int .u8 0, .int .u8 0, .int .u8 0]
   simp only [World.size_alloc, hB] at this; rw [hW4] at this; exact this
 obtain ⟨C, hC⟩ : ∃ C, Gc.ciph key nonce text = C := ⟨_, rfl⟩
 have lC : C.length = n2 := by rw [← hC, Gc.ciph_len, m2]
 have qC : Ae.bytes C := hC ▸ Gc.ciph_bytes q1 q2 b2
 obtain ⟨H, hH⟩ : ∃ H, Ae.enc (Ae.sched key) (List.replicate 16 0) = H := ⟨_, rfl⟩
 have lH : H.length = 16 := hH ▸ Ae.enc_len _ _
 have qH : Ae.bytes H := hH ▸ Ae.enc_bytes (Gc.zeros_bytes 16) (Ae.sched_bytes q1)
 obtain ⟨sl, hsl⟩ : ∃ sl, Gc.bn (Gc.gsum (Gc.nb H) more C) = sl := ⟨_, rfl⟩
 have ls : sl.length = 16 := hsl ▸ Gc.bn_len _
 have qs : Ae.bytes sl := hsl ▸ Gc.bn_bytes _
 obtain ⟨el, hel⟩ : ∃ el, Ae.enc (Ae.sched key) (Gc.b1 nonce) = el := ⟨_, rfl⟩
 have le : el.length = 16 := hel ▸ Ae.enc_len _ _
 have qe : Ae.bytes el := hel ▸ Ae.enc_bytes (Gc.b1_bytes q2) (Ae.sched_bytes q1)
 have HSEAL : Hid (Gc.sealT key nonce more text = C ++ Gc.xl sl el) := by
  unfold Hid Gc.sealT; rw [Gc.tag_xl]; unfold Gc.hkey; rw [hC, hH, hsl, hel]
 have HST : Hid (∀ W, Below w.heap.size w W → Calls Tryd.prog 58 #[.agg (cellsN key), .agg (cellsN (Gc.b2 nonce)), .slice A2 n2 c2] W fun e w' => ∃ v, e = .returned v ∧ w'.ownsRow W.heap.size 5 1 v n2 (C.map u8v) ∧ Below W.heap.size W w') := fun W hb => by
  have := refStream_any key (Gc.b2 nonce) A2 c2 text W l1 (b2_len l2) q1 (Gc.b2_bytes q2) (r2.below hb) b2 (by omega)
  rw [m2] at this
  rw [← hC]; exact this
 have HEZ : Hid (∀ W, Calls Tryd.prog 60 #[.agg (cellsN key), .agg (cellsN (List.replicate 16 0))] W fun e w' => e = .returned (.agg (cellsN H)) ∧ Below W.heap.size W w') := fun W => by
  rw [← hH]; exact refEncipher_any key _ W l1 rfl q1 (Gc.zeros_bytes 16)
 have HEJ : Hid (∀ W, Calls Tryd.prog 60 #[.agg (cellsN key), .agg (cellsN (Gc.b1 nonce))] W fun e w' => e = .returned (.agg (cellsN el)) ∧ Below W.heap.size W w') := fun W => by
  rw [← hel]; exact refEncipher_any key _ W l1 (b1_len l2) q1 (Gc.b1_bytes q2)
 have HSM : Hid (∀ W F d, Below w.heap.size w W → Rd W F C → Calls Tryd.prog 59 #[.agg (cellsN H), .slice A1 n1 c1, .slice F n2 d] W fun e w' => e = .returned (.agg (cellsN sl)) ∧ Below W.heap.size W w') := fun W F d hb hr => by
  rw [← hsl]; exact refSum_any H A1 n1 c1 more F n2 d C W lH qH (r1.below hb) m1 b1 k1 hr lC qC k2
 have HLC := Lib.hid lC
 have HPD := Lib.hid (Gc.pad12 l2)
 have HB2 := Lib.hid (Gc.b2_pad l2)
 have HB1 := Lib.hid (Gc.b1_b2 l2)
 have HIK := Lib.hid (size16 l1)
 have HIN := Lib.hid (size12 l2)
 have HI2 := Lib.hid (size16 (b2_len l2))
 have HI1 := Lib.hid (size16 (b1_len l2))
 have HIZ := Lib.hid (size16 (l := List.replicate 16 0) rfl)
 have HIS := Lib.hid (size16 ls)
 have HIE := Lib.hid (size16 le)
 have HZS : Hid ((#[.int .u8 0, .int .u8 0, .int .u8 0, .int .u8 0, .int .u8 0, .int .u8 0, .int .u8 0, .int .u8 0, .int .u8 0, .int .u8 0, .int .u8 0, .int .u8 0, .int .u8 0, .int .u8 0, .int .u8 0, .int .u8 0] : Array Value).size = (cellsN sl).size) := by unfold Hid; rw [cellsN_size, ls]; rfl
 have HZE : Hid ((#[.int .u8 0, .int .u8 0, .int .u8 0, .int .u8 0, .int .u8 0, .int .u8 0, .int .u8 0, .int .u8 0, .int .u8 0, .int .u8 0, .int .u8 0, .int .u8 0, .int .u8 0, .int .u8 0, .int .u8 0, .int .u8 0] : Array Value).size = (cellsN el).size) := by unfold Hid; rw [cellsN_size, le]; rfl
 have HLN := Lib.hid l2
 have HLS := Lib.hid ls
 have HLE := Lib.hid le
 have HQS := Lib.hid qs
 have HQE := Lib.hid qe
 have HW4 := Lib.hid hW4
 have HS4 := Lib.hid s4
 have HQN := Lib.hid q2
 have HB := Lib.hid hB
 rw [HSEAL.out]
 clear hb4 s4 hW4 lC qC lH qH ls qs le qe hC hH hsl hel r1 m1 b1 k1 r2 m2 b2 l1 l2 q1 q2
 go_enter Tryd.func45, Tryd.ntmps45
 go_wp2
 rw [HW4.out]
 clear hB
 go_loopw [11] (fun p V => ∃ i : Nat, i ≤ 12 ∧ p = .int .i64 i ∧ RsS w B key nonce (Ae.upto (fun i => nonce.getD i 0) (List.replicate 16 0) i) V) (fun p _ => 12 - (intOf p).toNat)
 case atStart => exact ⟨0, by omega, rfl, by rw [Ae.upto_zero]; exact HI0.out⟩
 case round =>
  clear HI0
  obtain ⟨i, hi, rfl, hI⟩ := hrel
  by_cases hlt : i < 12
  ·have hji : (i : Int) < 12 := by omega
   have hj16 : (i : Int) < 16 := by omega
   have g0 := hI.n.getN i (by rw [HLN.out]; exact hlt)
   have g2 := hI.j.free i
   obtain ⟨v2, g3⟩ : ∃ v, wr.cell? ⟨B + 1 + 1, i, none⟩ = some v := ⟨_, hI.j.getN i (by rw [Ae.upto_len]; simp; omega)⟩
   have HNX : Hid (RsS w B key nonce (Ae.upto (fun i => nonce.getD i 0) (List.replicate 16 0) (i + 1)) (wr.setCell ⟨B + 1 + 1, i, none⟩ (.int .u8 ((nonce.getD i 0 : Nat) : Int)))) := by
    have := hI.set HB.out i (nonce.getD i 0)
    rwa [Ae.upto_set (fun i => nonce.getD i 0) (List.replicate 16 0) i (by simp; omega)] at this
   clear hI
   generalize nonce.getD i 0 = xx at *
   go_wp2
   go_roundw
   case rel => exact ⟨i + 1, by omega, by go_num, HNX.out⟩
   case measure => simp [intOf]; omega
  ·obtain rfl : i = 12 := by omega
   rw [HPD.out] at hI
   have HJ2 : Hid (RsS w B key nonce (Gc.b2 nonce) (wr.setCell ⟨B + 1 + 1, 15, none⟩ (.int .u8 2))) := by
    have := hI.set HB.out 15 2
    rwa [HB2.out] at this
   have g2 := hI.j.free 15
   obtain ⟨v2, g3⟩ : ∃ v, wr.cell? ⟨B + 1 + 1, 15, none⟩ = some v := ⟨_, hI.j.getN 15 (by rw [← HPD.out, Ae.upto_len]; decide)⟩
   clear hI hi hlt
   obtain ⟨wj, hwj⟩ : ∃ wj, wr.setCell ⟨B + 1 + 1, 15, none⟩ (.int .u8 2) = wj := ⟨_, rfl⟩
   rw [hwj] at HJ2
   have HWJ := Lib.hid hwj
   clear hwj
   go_wp2_with (first
    | (rw [HWJ.out]; refine wpList_load_row rfl 26 (.tmp 4) rfl B rfl _ _ _ _ HJ2.out.k Tryd.underlying26 rfl HIK.out ?_)
    | (refine wpList_load_row rfl 26 (.tmp 9) rfl (B + 1 + 1) rfl _ _ _ _ HJ2.out.j Tryd.underlying26 rfl HI2.out ?_))
   refine (HST.out _ HJ2.out.bel).mono ?_
   rintro e w5 ⟨v5, rfl, ho5, hb5⟩
   have hs5 : B + 4 ≤ wj.heap.size := by have := HJ2.out.z.lt; omega
   have hv5 := own_base ho5 hs5
   have HJ5 := Lib.hid (HJ2.out.kept hb5)
   obtain ⟨F5, d5, rfl, _, hnd5, hd5, hr5⟩ := own_cap ho5
   have HJ6 : Hid (RsS w B key nonce (Gc.b1 nonce) (w5.setCell ⟨B + 1 + 1, 15, none⟩ (.int .u8 1))) := by
    have := HJ5.out.set HB.out 15 1
    rwa [HB1.out] at this
   have HV6 : Hid ((w5.setCell ⟨B + 1 + 1, 15, none⟩ (.int .u8 1)).ownsRow (B + 4) 5 1 (.slice F5 n2 d5) n2 (C.map u8v)) := ownsRow_setCell_other hv5 (fun e => Obj.not_row HJ5.out.j (by decide) hv5 e.symm) _
   have f2 := HJ5.out.j.free 15
   obtain ⟨v2', f3⟩ : ∃ v, w5.cell? ⟨B + 1 + 1, 15, none⟩ = some v := ⟨_, HJ5.out.j.getN 15 (by rw [← HB2.out, List.length_set, ← HPD.out, Ae.upto_len]; decide)⟩
   clear ho5 hv5 hb5 hs5 hr5 HJ5 HJ2 g2 g3
   obtain ⟨w6, hw6⟩ : ∃ w6, w5.setCell ⟨B + 1 + 1, 15, none⟩ (.int .u8 1) = w6 := ⟨_, rfl⟩
   rw [hw6] at HJ6 HV6
   have HW6 := Lib.hid hw6
   clear hw6
   go_wp2_with (first
    | (rw [HW6.out]; refine wpList_load_row rfl 26 (.tmp 4) rfl B rfl _ _ _ _ HJ6.out.k Tryd.underlying26 rfl HIK.out ?_)
    | (refine wpList_load_row rfl 26 (.tmp 10) rfl (B + 1 + 1 + 1) rfl _ _ _ _ HJ6.out.z Tryd.underlying26 rfl HIZ.out ?_))
   refine (HEZ.out _).mono ?_
   rintro e w7 ⟨rfl, hb7⟩
   have HJ7 := Lib.hid (HJ6.out.kept hb7)
   have HV7 := Lib.hid (own_below HV6.out hb7)
   clear hb7 HJ6 HV6 f2 f3 HW6
   go_wp2_with fail
   obtain ⟨F7, d7, e7, _, _, _, hr7⟩ := own_cap HV7.out
   cases e7
   refine (HSM.out _ _ _ HJ7.out.bel hr7).mono ?_
   rintro e w8 ⟨rfl, hb8⟩
   have HJ8 := Lib.hid (HJ7.out.kept hb8)
   have HV8 := Lib.hid (own_below HV7.out hb8)
   clear hb8 hr7 HJ7 HV7
   obtain ⟨S, hS⟩ : ∃ S, w8.heap.size = S := ⟨_, rfl⟩
   have hBS : B + 4 ≤ S := by have := HJ8.out.z.lt; omega
   have hON : Obj (w8.alloc (.cells #[.int .u8 0, .int .u8 0, .int .u8 0, .int .u8 0, .int .u8 0, .int .u8 0, .int .u8 0, .int .u8 0, .int .u8 0, .int .u8 0, .int .u8 0, .int .u8 0, .int .u8 0, .int .u8 0, .int .u8 0, .int .u8 0] 26)) S 26 #[.int .u8 0, .int .u8 0, .int .u8 0, .int .u8 0, .int .u8 0, .int .u8 0, .int .u8 0, .int .u8 0, .int .u8 0, .int .u8 0, .int .u8 0, .int .u8 0, .int .u8 0, .int .u8 0, .int .u8 0, .int .u8 0] := hS ▸ Obj.new w8 _ _
   have U9 := (Upd.refl S (w8.alloc (.cells #[.int .u8 0, .int .u8 0, .int .u8 0, .int .u8 0, .int .u8 0, .int .u8 0, .int .u8 0, .int .u8 0, .int .u8 0, .int .u8 0, .int .u8 0, .int .u8 0, .int .u8 0, .int .u8 0, .int .u8 0, .int .u8 0] 26))).row (cellsN sl)
   obtain ⟨w9, hw9⟩ : ∃ w9, (w8.alloc (.cells #[.int .u8 0, .int .u8 0, .int .u8 0, .int .u8 0, .int .u8 0, .int .u8 0, .int .u8 0, .int .u8 0, .int .u8 0, .int .u8 0, .int .u8 0, .int .u8 0, .int .u8 0, .int .u8 0, .int .u8 0, .int .u8 0] 26)).setRow S (cellsN sl) = w9 := ⟨_, rfl⟩
   have HS9 : Hid (Obj w9 S 26 (cellsN sl)) := hw9 ▸ hON.row _
   have HJ9 : Hid (RsS w B key nonce (Gc.b1 nonce) w9) := hw9 ▸ (HJ8.out.kept ((Below.refl _ _).alloc (Nat.le_refl _) _)).upd HB.out (by omega) U9
   have HV9 : Hid (w9.ownsRow (B + 4) 5 1 (.slice F5 n2 d5) n2 (C.map u8v)) := hw9 ▸ own_upd (HV8.out.alloc _) U9 (Obj.not_row hON (by decide) (HV8.out.alloc _))
   have HON := Lib.hid hON
   have HW9 := Lib.hid hw9
   have HS := Lib.hid hS
   clear hON U9 hw9 hS HJ8 HV8
   go_wp2_with (first
    | (refine wpList_store_row rfl 26 (.tmp 13) (.tmp 36) rfl S _ (by rw [← HS.out]; rfl) rfl _ _ HON.out HIS.out HZS.out (one_cellsN _) ?_; rw [HW9.out])
    | (refine wpList_load_row rfl 26 (.tmp 4) rfl B rfl _ _ _ _ HJ9.out.k Tryd.underlying26 rfl HIK.out ?_)
    | (refine wpList_load_row rfl 26 (.tmp 9) rfl (B + 1 + 1) rfl _ _ _ _ HJ9.out.j Tryd.underlying26 rfl HI1.out ?_))
   refine (HEJ.out _).mono ?_
   rintro e w10 ⟨rfl, hb10⟩
   have HS10 := Lib.hid (HS9.out.kept hb10)
   have HL10 := Lib.hid (HJ9.out.bel.trans (hb10.mono HJ9.out.bel.size))
   have HV10 := Lib.hid (own_below HV9.out hb10)
   clear hb10 HJ9 HV9 HON HW9
   rw [HS.out]
   clear HS HS9
   obtain ⟨E, hE⟩ : ∃ E, w10.heap.size = E := ⟨_, rfl⟩
   have hSE : S < E := by have := HS10.out.lt; omega
   have hON : Obj (w10.alloc (.cells #[.int .u8 0, .int .u8 0, .int .u8 0, .int .u8 0, .int .u8 0, .int .u8 0, .int .u8 0, .int .u8 0, .int .u8 0, .int .u8 0, .int .u8 0, .int .u8 0, .int .u8 0, .int .u8 0, .int .u8 0, .int .u8 0] 26)) E 26 #[.int .u8 0, .int .u8 0, .int .u8 0, .int .u8 0, .int .u8 0, .int .u8 0, .int .u8 0, .int .u8 0, .int .u8 0, .int .u8 0, .int .u8 0, .int .u8 0, .int .u8 0, .int .u8 0, .int .u8 0, .int .u8 0] := hE ▸ Obj.new w10 _ _
   have U11 := (Upd.refl E (w10.alloc (.cells #[.int .u8 0, .int .u8 0, .int .u8 0, .int .u8 0, .int .u8 0, .int .u8 0, .int .u8 0, .int .u8 0, .int .u8 0, .int .u8 0, .int .u8 0, .int .u8 0, .int .u8 0, .int .u8 0, .int .u8 0, .int .u8 0] 26))).row (cellsN el)
   obtain ⟨w11, hw11⟩ : ∃ w11, (w10.alloc (.cells #[.int .u8 0, .int .u8 0, .int .u8 0, .int .u8 0, .int .u8 0, .int .u8 0, .int .u8 0, .int .u8 0, .int .u8 0, .int .u8 0, .int .u8 0, .int .u8 0, .int .u8 0, .int .u8 0, .int .u8 0, .int .u8 0] 26)).setRow E (cellsN el) = w11 := ⟨_, rfl⟩
   have HQ0 : Hid (RsQ w S E sl el w11) := ⟨hw11 ▸ (HS10.out.alloc _).upd U11 (by omega), hw11 ▸ hON.row _, hw11 ▸ Upd.below (HL10.out.alloc HL10.out.size _) (by have := HB.out; omega) U11⟩
   have HV0 : Hid (w11.ownsRow (B + 4) 5 1 (.slice F5 n2 d5) n2 (C.map u8v)) := hw11 ▸ own_upd (HV10.out.alloc _) U11 (Obj.not_row hON (by decide) (HV10.out.alloc _))
   have HON := Lib.hid hON
   have HW11 := Lib.hid hw11
   have HE := Lib.hid hE
   clear hON U11 hw11 hE HL10 HV10 HS10
   go_wp2_with (refine wpList_store_row rfl 26 (.tmp 14) (.tmp 39) rfl E _ (by rw [← HE.out]; rfl) rfl _ _ HON.out HIE.out HZE.out (one_cellsN _) ?_; rw [HW11.out])
   rw [HE.out]
   clear HE HON HW11
   go_loopw [12, 15] (fun o p V => ∃ k : Nat, k ≤ 16 ∧ p = .int .i64 k ∧ V.ownsRow (B + 4) 5 1 o (n2 + k) ((C ++ (Gc.xl sl el).take k).map u8v) ∧ RsQ w S E sl el V) (fun _ p _ => 16 - (intOf p).toNat)
   case atStart => exact ⟨0, by omega, rfl, by rw [List.take_zero, List.append_nil]; exact HV0.out, HQ0.out⟩
   case round =>
    clear HQ0 HV0
    obtain ⟨k, hk, rfl, ho, hq⟩ := hrel
    have HO2 := Lib.hid ho
    have HQ2 := Lib.hid hq
    clear ho hq
    by_cases hlt : k < 16
    ·have hji : (k : Int) < 16 := by omega
     have HV : Hid ((C ++ (Gc.xl sl el).take k) ++ [sl.getD k 0 ^^^ el.getD k 0] = C ++ (Gc.xl sl el).take (k + 1)) := by
      unfold Hid; rw [Gc.xl_take sl el hlt, List.append_assoc]
     have hx := Ae.bytes_get HQS.out k
     have hy := Ae.bytes_get HQE.out k
     have fx : ∀ w', RsQ w S E sl el w' → w'.cell? ⟨S, k, none⟩ = some (.int .u8 ((sl.getD k 0 : Nat) : Int)) := fun w' h => h.s.getN k (by rw [HLS.out]; exact hlt)
     have fy : ∀ w', RsQ w S E sl el w' → w'.cell? ⟨E, k, none⟩ = some (.int .u8 ((el.getD k 0 : Nat) : Int)) := fun w' h => h.e.getN k (by rw [HLE.out]; exact hlt)
     generalize sl.getD k 0 = x at *
     generalize el.getD k 0 = y at *
     have HXY := Lib.hid (u8_xor_nat x y hx hy)
     have HFX := Lib.hid fx
     have HFY := Lib.hid fy
     clear fx fy
     go_wp2
     refine wp_region_held_drew (S := (fun w' => RsQ w S E sl el w')) (by kernel_rfl) HQ2.out.drew (fun hHeld => ?_)
     refine tkH 0 ?_
     refine tkH 1 ?_
     refine tkH 2 ?_
     refine tkH 3 ?_ (hy := by
      refine Or.inl ⟨by rfl, ?_⟩
      intro w' hSw
      have q := HFX.out w' hSw
      go_simp
      all_goals with_reducible rfl)
     refine tkH 4 ?_
     refine tkH 5 ?_
     refine tkH 6 ?_ (hy := by
      refine Or.inl ⟨by rfl, ?_⟩
      intro w' hSw
      have q := HFY.out w' hSw
      go_simp
      all_goals with_reducible rfl)
     refine tkH 7 ?_
     rw [HXY.out]
     refine onH 8 (fun KK hKK => ?_)
     go_simp
     refine hKK.out _ _ ?_ (fun h2 => ?_)
     ·(try dsimp only)
      exact HQ2.out.drew.alloc _
     clear hKK KK
     try simp only [Act.put, setIfInBounds_toArray, set_cons_zero, set_cons_succ]
     have HO3 : Hid (((wr.drew).alloc (.cells #[.int .u8 ((x ^^^ y : Nat) : Int)] 5)).ownsRow (B + 4) 5 1 _ (n2 + k) ((C ++ (Gc.xl sl el).take k).map u8v)) := HO2.out.alloc _
     have HR : Hid (Rd ((wr.drew).alloc (.cells #[.int .u8 ((x ^^^ y : Nat) : Int)] 5)) (some ⟨wr.heap.size, 0, none⟩) [x ^^^ y]) := Obj.rd (t := 5) (l := [x ^^^ y]) (Obj.new wr.drew 5 (cellsN [x ^^^ y]))
     have HM1 := Lib.hid (show n2 + k + 1 ≤ 100000000 by omega)
     have HBS : Hid (B + 4 ≤ ((wr.drew).alloc (.cells #[.int .u8 ((x ^^^ y : Nat) : Int)] 5)).heap.size) := Nat.le_of_lt (Nat.lt_of_le_of_lt hBS h2.s.lt)
     refine onH 9 (fun KK hKK => ?_)
     rw [if_pos (by rfl)]
     refine wp_app8 _ _ rfl (B + 4) _ (n2 + k) _ rfl HO3.out ⟨wr.heap.size, 0, none⟩ 1 1 [x ^^^ y] rfl rfl HR.out HM1.out HBS.out ?_
     intro v' w7 hown hgrow
     refine hKK.out _ _ ?_ (fun h3 => ?_)
     ·(try dsimp only)
      exact ⟨h2.s.grown hgrow (Obj.not_row h2.s (by decide) HO3.out), h2.e.grown hgrow (Obj.not_row h2.e (by decide) HO3.out), Below.grown h2.bel hgrow (Nat.le_trans (show w.heap.size ≤ B + 4 by have := HB.out; omega) HBS.out) (fun j hj => by have := (HO3.out.lt j hj).1; have := HB.out; omega)⟩
     clear hKK KK
     try simp only [Act.put, setIfInBounds_toArray, set_cons_zero, set_cons_succ]
     refine tkH 10 ?_
     refine wpAnyH_done (by kernel_rfl) ?_ _
     go_wp2
     go_roundw
     case rel =>
      have e : (C ++ (Gc.xl sl el).take k).map u8v ++ [x ^^^ y].map u8v = (C ++ (Gc.xl sl el).take (k + 1)).map u8v := by rw [← List.map_append, HV.out]
      rw [e] at hown
      exact ⟨k + 1, by omega, by go_num, hown, h3⟩
     case measure => simp [intOf]; omega
    ·obtain rfl : k = 16 := by omega
     have HFIN : Hid (wr.ownsRow w.heap.size 5 1 u12 (n2 + 16) ((C ++ Gc.xl sl el).map u8v) ∧ Below w.heap.size w wr) := by
      have h1 := own_base HO2.out (show w.heap.size ≤ B + 4 by rw [HB.out]; omega)
      rw [List.take_of_length_le (by rw [Gc.xl_len]; omega)] at h1
      exact ⟨h1, HQ2.out.bel⟩
     clear HO2 HQ2
     go_wp2
     go_ret
     exact ⟨_, rfl, HFIN.out.1, HFIN.out.2⟩
end Go.Proofs.YtabfcaidioohfaaDoor
namespace Go.Gc
open List (getElem?_toArray getElem?_cons_zero getElem?_cons_succ setIfInBounds_toArray set_cons_zero set_cons_succ)
set_option maxRecDepth 100000
open Go.Proofs.YtabfcaidioohfaaDoor
theorem seal_again (key nonce more s : List Nat) (h : 16 ≤ s.length) : sealT key nonce more (ciph key nonce (s.take (s.length - 16))) = s ↔ tag key (b1 nonce) more (s.take (s.length - 16)) = s.drop (s.length - 16) := by
 unfold sealT
 rw [ciph_twice]
 constructor
 ·intro e
  have h2 := congrArg (List.drop (s.length - 16)) e
  rwa [List.drop_left' (by rw [List.length_take]; omega)] at h2
 ·intro e
  rw [e, List.take_append_drop]
theorem openC_again (key nonce more s : List Nat) (h : 16 ≤ s.length) : openC key nonce more s = if sealT key nonce more (ciph key nonce (s.take (s.length - 16))) = s then (0, ciph key nonce (s.take (s.length - 16))) else (7, []) := by
 unfold openC openT
 rw [if_neg (by omega)]
 by_cases e : tag key (b1 nonce) more (s.take (s.length - 16)) = s.drop (s.length - 16)
 ·rw [if_pos e, if_pos ((seal_again key nonce more s h).2 e)]
 ·rw [if_neg e, if_neg (fun e2 => e ((seal_again key nonce more s h).1 e2))]
end Go.Gc
namespace Go.Proofs.YtabfcaidioohfaaDoor
open List (getElem?_toArray getElem?_cons_zero getElem?_cons_succ setIfInBounds_toArray set_cons_zero set_cons_succ)
set_option maxRecDepth 100000
open Go Go.RowKit Go.Shelf
set_option linter.unusedVariables false
set_option linter.unusedSimpArgs false
structure RsO (w : World) (B : Nat) (key nonce jl : List Nat) (V : World) : Prop where
 k : Obj V B 26 (cellsN key)
 n : Obj V (B + 1) 27 (cellsN nonce)
 j : Obj V (B + 1 + 1) 26 (cellsN jl)
 bel : Below w.heap.size w V
theorem RsO.drew {w V : World} {B : Nat} {key nonce jl : List Nat} (h : RsO w B key nonce jl V) : RsO w B key nonce jl V.drew := ⟨h.k, h.n, h.j, h.bel.drew⟩
theorem RsO.set {w V : World} {B : Nat} {key nonce jl : List Nat} (h : RsO w B key nonce jl V) (hw : w.heap.size = B) (i v : Nat) : RsO w B key nonce (jl.set i v) (V.setCell ⟨B + 1 + 1, i, none⟩ (.int .u8 (v : Int))) :=
 ⟨h.k.far (by simp <;> omega) _, h.n.far (by simp <;> omega) _, h.j.setN i v, h.bel.setCell (by simp; omega) _⟩
theorem RsO.kept {w V V' : World} {B : Nat} {key nonce jl : List Nat} (h : RsO w B key nonce jl V) (hb : Below V.heap.size V V') : RsO w B key nonce jl V' :=
 ⟨h.k.kept hb, h.n.kept hb, h.j.kept hb, h.bel.trans (hb.mono h.bel.size)⟩
set_option maxRecDepth 100000 in
set_option maxHeartbeats 4000000 in
theorem refOpen_any (key nonce : List Nat) (A1 : Option Addr) (n1 c1 : Nat) (more : List Nat) (A2 : Option Addr) (n2 c2 : Nat) (text : List Nat) (w : World) (l1 : key.length = 16) (q1 : Ae.bytes key) (l2 : nonce.length = 12) (q2 : Ae.bytes nonce) (r1 : Rd w A1 more) (m1 : more.length = n1) (b1 : Ae.bytes more) (k1 : n1 ≤ 100000) (r2 : Rd w A2 text) (m2 : text.length = n2) (b2 : Ae.bytes text) (k2 : n2 ≤ 100000 ∧ n2 ≤ c2 ∧ c2 ≤ 9223372036854775807) :
  Calls Tryd.prog 42 #[.agg (cellsN key), .agg (cellsN nonce), .slice A1 n1 c1, .slice A2 n2 c2] w fun e w' => ∃ A n c, e = .returned (.tuple #[.slice A n c, .int .i64 ((Gc.openC key nonce more text).1 : Int)]) ∧ Rd w' A (Gc.openC key nonce more text).2 ∧ (Gc.openC key nonce more text).2.length = n ∧ n ≤ c ∧ Below w.heap.size w w' ∧ Fr w.heap.size A := by
 obtain ⟨B, hB⟩ : ∃ B, w.heap.size = B := ⟨_, rfl⟩
 obtain ⟨W2, hW2⟩ : ∃ W2, (w.alloc (.cells (cellsN key) 26)).alloc (.cells (cellsN nonce) 27) = W2 := ⟨_, rfl⟩
 have hb2 : Below w.heap.size w W2 := hW2 ▸ ((Below.refl _ w).alloc (Nat.le_refl _) _).alloc (by simp) _
 by_cases hs : n2 < 16
 ·have hsi : (n2 : Int) < 16 := by omega
  have HE : Hid (Gc.openC key nonce more text = (2, [])) := by unfold Hid Gc.openC; rw [if_pos (by rw [m2]; exact hs)]
  rw [HE.out]
  have HB2 := Lib.hid hb2
  have HW2 := Lib.hid hW2
  clear hb2 hW2 r1 r2 m1 m2 hB
  go_enter Tryd.func42, Tryd.ntmps42
  go_wp2
  rw [HW2.out]
  refine bodyPost_ret (results_tmp2 rfl _ _ _) rfl ?_
  exact ⟨none, 0, 0, rfl, Rd.nil _ _, rfl, Nat.le_refl _, HB2.out, .inl rfl⟩
 have hsi : ¬ (n2 : Int) < 16 := by omega
 obtain ⟨K, hK⟩ : ∃ K, n2 - 16 = K := ⟨_, rfl⟩
 obtain ⟨W3, hW3⟩ : ∃ W3, ((w.alloc (.cells (cellsN key) 26)).alloc (.cells (cellsN nonce) 27)).alloc (.cells #[.int .u8 0, .int .u8 0, .int .u8 0, .int .u8 0, .int .u8 0, .int .u8 0, .int .u8 0, .int .u8 0, .int .u8 0, .int .u8 0, .int .u8 0, .int .u8 0, .int .u8 0, .int .u8 0, .int .u8 0, .int .u8 0] 26) = W3 := ⟨_, rfl⟩
 have hb3 : Below w.heap.size w W3 := hW3 ▸ (((Below.refl _ w).alloc (Nat.le_refl _) _).alloc (by simp) _).alloc (by simp; omega) _
 have HI0 : Hid (RsO w B key nonce (List.replicate 16 0) W3) := by
  refine ⟨?_, ?_, ?_, hb3⟩
  ·exact hW3 ▸ hB ▸ ((Obj.new w _ _).alloc _).alloc _
  ·have := (new2 w (.cells (cellsN key) 26) 27 (cellsN nonce)).alloc (.cells #[.int .u8 0, .int .u8 0, .int .u8 0, .int .u8 0, .int .u8 0, .int .u8 0, .int .u8 0, .int .u8 0, .int .u8 0, .int .u8 0, .int .u8 0, .int .u8 0, .int .u8 0, .int .u8 0, .int .u8 0, .int .u8 0] 26)
   rw [hB, hW3] at this; exact this
  ·have := Obj.new ((w.alloc (.cells (cellsN key) 26)).alloc (.cells (cellsN nonce) 27)) 26 #[.int .u8 0, .int .u8 0, .int .u8 0, .int .u8 0, .int .u8 0, .int .u8 0, .int .u8 0, .int .u8 0, .int .u8 0, .int .u8 0, .int .u8 0, .int .u8 0, .int .u8 0, .int .u8 0, .int .u8 0, .int .u8 0]
   simp only [World.size_alloc, hB] at this; rw [hW3] at this; exact this
 obtain ⟨C, hC⟩ : ∃ C, Gc.ciph key nonce (text.take K) = C := ⟨_, rfl⟩
 have lT : (text.take K).length = K := by rw [List.length_take]; omega
 have lC : C.length = K := by rw [← hC, Gc.ciph_len, lT]
 have qC : Ae.bytes C := hC ▸ Gc.ciph_bytes q1 q2 (bytes_take b2 K)
 obtain ⟨Z, hZ⟩ : ∃ Z, Gc.sealT key nonce more C = Z := ⟨_, rfl⟩
 have HOP : Hid (Gc.openC key nonce more text = if Z = text then (0, C) else (7, [])) := by
  unfold Hid; rw [Gc.openC_again key nonce more text (by omega), m2, hK, hC, hZ]
 have HST : Hid (∀ W, Below w.heap.size w W → Calls Tryd.prog 58 #[.agg (cellsN key), .agg (cellsN (Gc.b2 nonce)), .slice A2 K c2] W fun e w' => ∃ v, e = .returned v ∧ w'.ownsRow W.heap.size 5 1 v K (C.map u8v) ∧ Below W.heap.size W w') := fun W hb => by
  have := refStream_any key (Gc.b2 nonce) A2 c2 (text.take K) W l1 (b2_len l2) q1 (Gc.b2_bytes q2) ((r2.take K (by omega)).below hb) (bytes_take b2 K) (by omega)
  rw [lT] at this
  rw [← hC]; exact this
 have HSL : Hid (∀ W F d, Below w.heap.size w W → Rd W F C → Calls Tryd.prog 45 #[.agg (cellsN key), .agg (cellsN nonce), .slice A1 n1 c1, .slice F K d] W fun e w' => ∃ v, e = .returned v ∧ w'.ownsRow W.heap.size 5 1 v (K + 16) (Z.map u8v) ∧ Below W.heap.size W w') := fun W F d hb hr => by
  rw [← hZ]; exact refSeal_any key nonce A1 n1 c1 more F K d C W l1 q1 l2 q2 (r1.below hb) m1 b1 k1 hr lC qC (by omega)
 have HSA : Hid (∀ W F d, Below w.heap.size w W → Rd W F Z → Calls Tryd.prog 13 #[.slice F (K + 16) d, .slice A2 n2 c2] W fun e w' => e = .returned (.bool (decide (Z = text))) ∧ ∃ q, w' = W.drewN q) := fun W F d hb hr =>
  same_any F A2 d c2 (K + 16) n2 Z text W hr (r2.below hb) (by rw [← hZ, Gc.sealT_len, lC]) m2 (by omega)
 have HLC := Lib.hid lC
 have HPD := Lib.hid (Gc.pad12 l2)
 have HB2 := Lib.hid (Gc.b2_pad l2)
 have HIK := Lib.hid (size16 l1)
 have HIN := Lib.hid (size12 l2)
 have HI2 := Lib.hid (size16 (b2_len l2))
 have HLN := Lib.hid l2
 have HW3 := Lib.hid hW3
 have HB := Lib.hid hB
 have hKc : K ≤ c2 := by omega
 have hKi : IntKind.i64.wrap ((n2 : Int) - 16) = (K : Int) := by rw [IntWalk.i64_in _ (by omega)]; omega
 have hKn : n2 = K + 16 := by omega
 have HKN := Lib.hid hKn
 clear hb2 hW2 hb3 hW3 lC qC lT hC hZ r1 m1 b1 k1 r2 m2 b2 l1 l2 q1 q2 hKn hK hs
 go_enter Tryd.func42, Tryd.ntmps42
 go_wp2
 rw [HW3.out]
 clear hB
 go_loopw [11] (fun p V => ∃ i : Nat, i ≤ 12 ∧ p = .int .i64 i ∧ RsO w B key nonce (Ae.upto (fun i => nonce.getD i 0) (List.replicate 16 0) i) V) (fun p _ => 12 - (intOf p).toNat)
 case atStart => exact ⟨0, by omega, rfl, by rw [Ae.upto_zero]; exact HI0.out⟩
 case round =>
  clear HI0
  obtain ⟨i, hi, rfl, hI⟩ := hrel
  by_cases hlt : i < 12
  ·have hji : (i : Int) < 12 := by omega
   have hj16 : (i : Int) < 16 := by omega
   have g0 := hI.n.getN i (by rw [HLN.out]; exact hlt)
   have g2 := hI.j.free i
   obtain ⟨v2, g3⟩ : ∃ v, wr.cell? ⟨B + 1 + 1, i, none⟩ = some v := ⟨_, hI.j.getN i (by rw [Ae.upto_len]; simp; omega)⟩
   have HNX : Hid (RsO w B key nonce (Ae.upto (fun i => nonce.getD i 0) (List.replicate 16 0) (i + 1)) (wr.setCell ⟨B + 1 + 1, i, none⟩ (.int .u8 ((nonce.getD i 0 : Nat) : Int)))) := by
    have := hI.set HB.out i (nonce.getD i 0)
    rwa [Ae.upto_set (fun i => nonce.getD i 0) (List.replicate 16 0) i (by simp; omega)] at this
   clear hI
   generalize nonce.getD i 0 = xx at *
   go_wp2
   go_roundw
   case rel => exact ⟨i + 1, by omega, by go_num, HNX.out⟩
   case measure => simp [intOf]; omega
  ·obtain rfl : i = 12 := by omega
   rw [HPD.out] at hI
   have HJ2 : Hid (RsO w B key nonce (Gc.b2 nonce) (wr.setCell ⟨B + 1 + 1, 15, none⟩ (.int .u8 2))) := by
    have := hI.set HB.out 15 2
    rwa [HB2.out] at this
   have g2 := hI.j.free 15
   obtain ⟨v2, g3⟩ : ∃ v, wr.cell? ⟨B + 1 + 1, 15, none⟩ = some v := ⟨_, hI.j.getN 15 (by rw [← HPD.out, Ae.upto_len]; decide)⟩
   clear hI hi hlt
   go_wp2
   obtain ⟨wj, hwj⟩ : ∃ wj, (wr.setCell ⟨B + 1 + 1, 15, none⟩ (.int .u8 2)).drew = wj := ⟨_, rfl⟩
   have HJ3 : Hid (RsO w B key nonce (Gc.b2 nonce) wj) := hwj ▸ HJ2.out.drew
   have HSTj := Lib.hid (HST.out _ HJ3.out.bel)
   clear HJ2 g2 g3 HPD HB2
   refine wp_region_held_drew (S := (fun w' => RsO w B key nonce (Gc.b2 nonce) w')) (by kernel_rfl) (hwj ▸ HJ3.out) (fun hHeld => ?_)
   rw [hwj]
   refine tkH 0 ?_ (hy := by
    refine yieldsIf_load_row (g := B) (t := 26) (cs := cellsN key) (ty := 26) (x := (.tmp 4)) ?_ ?_ ?_ ?_ Tryd.underlying26 rfl HIK.out
    ·rfl
    ·rfl
    ·rfl
    ·exact fun w hSw => hSw.k)
   refine tkH 1 ?_ (hy := by
    refine yieldsIf_load_row (g := (B + 1 + 1)) (t := 26) (cs := cellsN (Gc.b2 nonce)) (ty := 26) (x := (.tmp 10)) ?_ ?_ ?_ ?_ Tryd.underlying26 rfl HI2.out
    ·rfl
    ·rfl
    ·rfl
    ·exact fun w hSw => hSw.j)
   refine tkH 2 ?_
   refine tkH 3 ?_
   refine tkH 4 ?_
   refine tkH 5 ?_
   refine tkH 6 ?_
   refine onH 7 (fun KK hKK => ?_)
   go_simp
   refine HSTj.out.mono ?_
   rintro e w5 ⟨v5, rfl, ho5, hb5⟩
   have HJ5 := Lib.hid (HJ3.out.kept hb5)
   have HV5 := Lib.hid ho5
   clear hb5 ho5
   try go_wp2_with fail
   refine hKK.out _ _ ?_ (fun hh => ?_)
   ·(try dsimp only)
    exact HJ5.out
   clear hKK KK
   try simp only [Act.put, setIfInBounds_toArray, set_cons_zero, set_cons_succ]
   refine tkH 8 ?_
   refine wpAnyH_done (by kernel_rfl) ?_ _
   go_wp2_with (first
    | (refine wpList_load_row rfl 26 (.tmp 4) rfl B rfl _ _ _ _ HJ5.out.k Tryd.underlying26 rfl HIK.out ?_)
    | (refine wpList_load_row rfl 27 (.tmp 5) rfl (B + 1) rfl _ _ _ _ HJ5.out.n Tryd.underlying27 rfl HIN.out ?_))
   obtain ⟨F5, d5, e5, hl5, hd5, hD5, hr5⟩ := own_cap HV5.out
   cases e5
   have HFR : Hid (Fr w.heap.size F5) := by
    rcases HV5.out.2 with ⟨e, _⟩ | ⟨g, _, _, e, hbg, _⟩
    ·cases e; exact .inl rfl
    ·cases e; exact .inr ⟨g, rfl, Nat.le_trans HJ3.out.bel.size hbg⟩
   refine (HSL.out _ _ _ HJ5.out.bel hr5).mono ?_
   rintro e w6 ⟨v6, rfl, ho6, hb6⟩
   have HL6 := Lib.hid (HJ5.out.bel.trans (hb6.mono HJ5.out.bel.size))
   have HR6 := Lib.hid (hr5.below hb6)
   obtain ⟨F6, d6, rfl, _, _, _, hr6⟩ := own_cap ho6
   clear ho6 hb6 hr5 HV5 HJ5 HJ3 HSTj hwj
   go_wp2_with fail
   refine (HSA.out _ _ _ HL6.out hr6).mono ?_
   rintro e w7 ⟨rfl, q, hq⟩
   have hb7 := below_drewN' hq
   have HL7 := Lib.hid (HL6.out.trans (hb7.mono HL6.out.size))
   have HR7 := Lib.hid (HR6.out.below hb7)
   clear hq hb7 hr6 HL6 HR6
   obtain ⟨b, hb⟩ : ∃ b, decide (Z = text) = b := ⟨_, rfl⟩
   rw [hb]
   have HD := Lib.hid hb
   cases b
   ·have hz : ¬ Z = text := by have := HD.out; simpa using this
    have HZ := Lib.hid (HOP.out.trans (if_neg hz))
    clear hz hb
    go_wp2
    refine bodyPost_ret (results_tmp2 rfl _ _ _) rfl ?_
    rw [HZ.out]
    exact ⟨none, 0, 0, rfl, Rd.nil _ _, rfl, Nat.le_refl _, HL7.out, .inl rfl⟩
   ·have hz : Z = text := by have := HD.out; simpa using this
    have HZ := Lib.hid (HOP.out.trans (if_pos hz))
    clear hz hb
    go_wp2
    refine bodyPost_ret (results_tmp2 rfl _ _ _) rfl ?_
    rw [HZ.out]
    exact ⟨F5, K, d5, rfl, HR7.out, HLC.out, hd5, HL7.out, HFR.out⟩
end Go.Proofs.YtabfcaidioohfaaDoor
