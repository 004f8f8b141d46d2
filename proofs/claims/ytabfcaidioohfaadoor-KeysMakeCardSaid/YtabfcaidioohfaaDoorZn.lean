/- Joined: Layer 10: secrets compared, and KeysTurns, walked. | Layer 10: KeysTurns, walked. -/
import Derived.Test.YtabfcaidioohfaaDoorRows
import Derived.Test.YtabfcaidioohfaaDoorZp
import Derived.Test.YtabfcaidioohfaaDoorZa
import Derived.Test.YtabfcaidioohfaaDoorZs
import Derived.Test.YtabfcaidioohfaaDoorZu
import Derived.Test.YtabfcaidioohfaaDoorZk
import Derived.WalkKit
import Derived.Great.Walk
import Derived.OwnWalkIn
import Derived.LoopN
import Derived.LoopIn
import Derived.WalkSpells
import Derived.WalkLawsBesides
import Derived.Laws.Rows
import Derived.Laws.CopyOwn
import Derived.Handy
import Derived.BigQuiet
import Derived.Deep.QuietTactic
import Derived.Deep.MidRow
import Derived.Deep.RegionHeld3
import Derived.IntWalk
import Derived.Lib.Hide
import Derived.Test.YtabfcaidioohfaaDoorZl
import Derived.Test.YtabfcaidioohfaaDoorZh
import Derived.Laws.StructEq
import Derived.Stop.BytesEq
namespace Go.Ky
open List (getElem?_toArray getElem?_cons_zero getElem?_cons_succ setIfInBounds_toArray set_cons_zero set_cons_succ)
open Go.Proofs.YtabfcaidioohfaaDoor Go.RowKit Go
def Sec.eqb (s t : Sec) : Bool := decide (s.k = t.k) && (decide (s.iv = t.iv) && (decide (s.nx = t.nx) && (s.ph == t.ph)))
theorem Sec.eqb_self (s : Sec) : s.eqb s = true := by unfold Sec.eqb; simp
/-- Keys, updated so often. -/
def upds (s : Sec) : Nat → Sec
 | 0 => s
 | k + 1 => upd (upds s k)
theorem upds_ok {s : Sec} (h : s.Ok) : ∀ k, (upds s k).Ok
 | 0 => h
 | _ + 1 => Ky.make_ok _ _
theorem upds_ph (h : List Nat) : ∀ k, (upds (make h false) k).ph = decide (k % 2 = 1)
 | 0 => rfl
 | k + 1 => by
  show (!(upds (make h false) k).ph) = _
  rw [upds_ph h k]
  by_cases h2 : k % 2 = 1
  ·rw [decide_eq_true h2, decide_eq_false (by omega)]; rfl
  ·rw [decide_eq_false h2, decide_eq_true (by omega)]; rfl
end Go.Ky
namespace Go.Proofs.YtabfcaidioohfaaDoor
open List (getElem?_toArray getElem?_cons_zero getElem?_cons_succ setIfInBounds_toArray set_cons_zero set_cons_succ)
open Go Go.RowKit Go.Shelf
set_option linter.unusedVariables false
set_option linter.unusedSimpArgs false
set_option maxRecDepth 100000
theorem eqInA (d : Nat) (t : TypeId) (n : Nat) (ht : Tryd.prog.underlying t = some (.array n 5)) {x y : List Nat} (hx : x.length = n) (hy : y.length = n) (qx : Ae.bytes x) (qy : Ae.bytes y) (w : World) :
  (Op.equalIn (d + 2) t (.agg (cellsN x)) (.agg (cellsN y))).run Tryd.prog w = .ok (decide (x = y)) w := by
 rw [cellsN_u8 qx, cellsN_u8 qy, run_equalIn_bytes w d t 5 n ht Tryd.underlying5 (fun w => by kernel_rfl) _ _ (by simpa using hx) (by simpa using hy), u8_inj qx qy]
theorem part_rows {x l y : List Nat} {tail : List Value} {o n : Nat} (ho : x.length = o) (hn : l.length = n) : (rowT (x ++ (l ++ y)) tail).extract o (o + n) = cellsN l := by
 subst ho; subst hn
 unfold rowT cellsN
 rw [List.extract_toArray]
 congr 1
 simp [List.extract_eq_take_drop, List.map_append, List.append_assoc]
 exact fun a _ => rfl
theorem run_partA (t : TypeId) (n : Nat) {e k : Nat} (hu : Tryd.prog.underlying t = some (.array k e)) (hz : ∀ w, (sizeOf t).run Tryd.prog w = .ok n w) (cs : Array Value) (o : Nat) (w : World) :
  (part t cs o).run Tryd.prog w = .ok (.agg (cs.extract o (o + n))) w := by
 simp [part, isAgg, run_underlying hu, hz]
theorem run_partB (cs : Array Value) (o : Nat) (b : Bool) (h : cs[o]? = some (.bool b)) (w : World) :
  (part 4 cs o).run Tryd.prog w = .ok (.bool b) w := by
 simp [part, isAgg, run_underlying Tryd.underlying4, h]
theorem eqFields_cons {d : Nat} {xs ys : Array Value} {f : Field} {fs : List Field} {a c : Value} {r q : Bool} {w : World} (hn : f.name ≠ "_") (h1 : (part f.type xs f.offset).run Tryd.prog w = .ok a w) (h2 : (part f.type ys f.offset).run Tryd.prog w = .ok c w)
  (he : (Op.equalIn d f.type a c).run Tryd.prog w = .ok r w) (hr : (Op.eqFields d xs ys fs).run Tryd.prog w = .ok q w) : (Op.eqFields d xs ys (f :: fs)).run Tryd.prog w = .ok (r && q) w := by
 rw [Op.eqFields, if_pos hn]
 simp only [Sem.run_bind, h1, h2, he, Result.andThen_ok]
 cases r
 ·simp
 ·simpa using hr
theorem secV_k (s : Ky.Sec) (h : s.Ok) : (secV s).extract 0 (0 + 16) = cellsN s.k := part_rows (x := []) rfl h.lk
theorem secV_i (s : Ky.Sec) (h : s.Ok) : (secV s).extract 16 (16 + 12) = cellsN s.iv := part_rows (x := s.k) h.lk h.li
theorem secV_n (s : Ky.Sec) (h : s.Ok) : (secV s).extract 28 (28 + 32) = cellsN s.nx := by
 have := part_rows (x := s.k ++ s.iv) (l := s.nx) (y := []) (tail := [.bool s.ph]) (o := 28) (n := 32) (by rw [List.length_append, h.lk, h.li]) h.ln
 rw [List.append_nil, List.append_assoc] at this
 exact this
theorem secV_p (s : Ky.Sec) (h : s.Ok) : (secV s)[60]? = some (.bool s.ph) := by
 unfold secV rowT
 rw [getElem?_toArray, List.getElem?_append_right (by rw [List.length_map, h.len]; omega), List.length_map, h.len]
 rfl
/-- Two secrets with their keys, compared. -/
theorem eqInSec (d : Nat) {s t : Ky.Sec} (hs : s.Ok) (ht : t.Ok) (w : World) :
  (Op.equalIn (d + 3) 29 (.agg (secV s)) (.agg (secV t))).run Tryd.prog w = .ok (s.eqb t) w := by
 have hf : (Tryd.prog.fieldsOf 29).toList = [(Tryd.prog.fieldsOf 29)[0]!, (Tryd.prog.fieldsOf 29)[1]!, (Tryd.prog.fieldsOf 29)[2]!, (Tryd.prog.fieldsOf 29)[3]!] := by kernel_rfl
 rw [run_equalIn_struct w (d + 2) 29 _ _ (by kernel_rfl) (by kernel_rfl), hf]
 have z16 : ∀ w, (sizeOf 26).run Tryd.prog w = .ok 16 w := fun w => by kernel_rfl
 have z12 : ∀ w, (sizeOf 27).run Tryd.prog w = .ok 12 w := fun w => by kernel_rfl
 have z32 : ∀ w, (sizeOf 23).run Tryd.prog w = .ok 32 w := fun w => by kernel_rfl
 have f0 : ((Tryd.prog.fieldsOf 29)[0]!).type = 26 := by kernel_rfl
 have f1 : ((Tryd.prog.fieldsOf 29)[1]!).type = 27 := by kernel_rfl
 have f2 : ((Tryd.prog.fieldsOf 29)[2]!).type = 23 := by kernel_rfl
 have f3 : ((Tryd.prog.fieldsOf 29)[3]!).type = 4 := by kernel_rfl
 have o0 : ((Tryd.prog.fieldsOf 29)[0]!).offset = 0 := by kernel_rfl
 have o1 : ((Tryd.prog.fieldsOf 29)[1]!).offset = 16 := by kernel_rfl
 have o2 : ((Tryd.prog.fieldsOf 29)[2]!).offset = 28 := by kernel_rfl
 have o3 : ((Tryd.prog.fieldsOf 29)[3]!).offset = 60 := by kernel_rfl
 have p0 : ∀ {u : Ky.Sec}, u.Ok → (part 26 (secV u) 0).run Tryd.prog w = .ok (.agg (cellsN u.k)) w := fun {u} hu => by rw [run_partA 26 16 Tryd.underlying26 z16, secV_k u hu]
 have p1 : ∀ {u : Ky.Sec}, u.Ok → (part 27 (secV u) 16).run Tryd.prog w = .ok (.agg (cellsN u.iv)) w := fun {u} hu => by rw [run_partA 27 12 Tryd.underlying27 z12, secV_i u hu]
 have p2 : ∀ {u : Ky.Sec}, u.Ok → (part 23 (secV u) 28).run Tryd.prog w = .ok (.agg (cellsN u.nx)) w := fun {u} hu => by rw [run_partA 23 32 Tryd.underlying23 z32, secV_n u hu]
 have p3 : ∀ {u : Ky.Sec}, u.Ok → (part 4 (secV u) 60).run Tryd.prog w = .ok (.bool u.ph) w := fun {u} hu => run_partB _ _ _ (secV_p u hu) w
 have e3 : (Op.equalIn (d + 2) 4 (.bool s.ph) (.bool t.ph)).run Tryd.prog w = .ok (s.ph == t.ph) w := run_equalIn_bool' w (d + 1) 4 _ _ Tryd.underlying4
 have hlast : (Op.eqFields (d + 2) (secV s) (secV t) []).run Tryd.prog w = .ok true w := rfl
 have := eqFields_cons (f := (Tryd.prog.fieldsOf 29)[0]!) (by decide +kernel) (by rw [f0, o0]; exact p0 hs) (by rw [f0, o0]; exact p0 ht) (by rw [f0]; exact eqInA d 26 16 Tryd.underlying26 hs.lk ht.lk hs.qk ht.qk w)
  (eqFields_cons (f := (Tryd.prog.fieldsOf 29)[1]!) (by decide +kernel) (by rw [f1, o1]; exact p1 hs) (by rw [f1, o1]; exact p1 ht) (by rw [f1]; exact eqInA d 27 12 Tryd.underlying27 hs.li ht.li hs.qi ht.qi w)
  (eqFields_cons (f := (Tryd.prog.fieldsOf 29)[2]!) (by decide +kernel) (by rw [f2, o2]; exact p2 hs) (by rw [f2, o2]; exact p2 ht) (by rw [f2]; exact eqInA d 23 32 Tryd.underlying23 hs.ln ht.ln hs.qn ht.qn w)
  (eqFields_cons (f := (Tryd.prog.fieldsOf 29)[3]!) (by decide +kernel) (by rw [f3, o3]; exact p3 hs) (by rw [f3, o3]; exact p3 ht) (by rw [f3]; exact e3) hlast)))
 rw [this, Bool.and_true]; rfl
theorem eqgS : Tryd.prog.eqGuardType Tryd.prog.depth 29 = false := by kernel_rfl
theorem eqlSec {s t : Ky.Sec} (hs : s.Ok) (ht : t.Ok) (w : World) : (binOp .eql 29 (.agg (secV s)) (.agg (secV t))).run Tryd.prog w = .ok (.bool (s.eqb t)) w := by
 rw [run_eql_struct, eqInSec 9997 hs ht w]; rfl
theorem neqSec {s t : Ky.Sec} (hs : s.Ok) (ht : t.Ok) (w : World) : (binOp .neq 29 (.agg (secV s)) (.agg (secV t))).run Tryd.prog w = .ok (.bool (!s.eqb t)) w := by
 rw [run_neq_struct, eqInSec 9997 hs ht w]; rfl
end Go.Proofs.YtabfcaidioohfaaDoor
namespace Go.Proofs.YtabfcaidioohfaaDoor
open List (getElem?_toArray getElem?_cons_zero getElem?_cons_succ setIfInBounds_toArray set_cons_zero set_cons_succ)
open Go Go.RowKit Go.Shelf
set_option linter.unusedVariables false
set_option linter.unusedSimpArgs false
set_option maxRecDepth 100000
set_option maxHeartbeats 4000000 in
theorem keysTurns_small (h : List Nat) (n : Nat) (w : World) (ht : KTab w) (lh : h.length = 32) (qh : Ae.bytes h) (hn : n < 256) :
  Calls Tryd.prog 4 #[.agg (cellsN h), .int .u8 (n : Int)] w fun e w' => e = .returned (.bool true) ∧ Below w.heap.size w w' := by
 obtain ⟨s, hs⟩ : ∃ s, Ky.make h false = s := ⟨_, rfl⟩
 have ok : s.Ok := hs ▸ Ky.make_ok _ _
 have hph : ∀ k, (Ky.upds s k).ph = decide (k % 2 = 1) := fun k => by rw [← hs]; exact Ky.upds_ph h k
 obtain ⟨m, hm⟩ : ∃ m, n % 6 = m := ⟨_, rfl⟩
 have e1 : (n : Int) % 6 = (m : Int) := by omega
 have hm6 : m < 6 := by omega
 have hnb : (n : Int) < 256 := by omega
 have HMK : Hid (∀ W, Below w.heap.size w W → Calls Tryd.prog 10 #[.agg (cellsN h), .bool false] W fun e w' => e = .returned (.agg (secV s)) ∧ Below W.heap.size W w') := fun W hb => hs ▸ make_any h false W (ht.below hb) lh qh
 have HUP : Hid (∀ W (a : Ky.Sec), a.Ok → Below w.heap.size w W → Calls Tryd.prog 16 #[.agg (secV a)] W fun e w' => e = .returned (.agg (secV (Ky.upd a))) ∧ Below W.heap.size W w') := fun W a ha hb => update_any a W (ht.below hb) ha
 have HMA : Hid (∀ W (a : Ky.Sec), a.Ok → Below w.heap.size w W → Calls Tryd.prog 10 #[.agg (cellsN a.nx), .bool (!a.ph)] W fun e w' => e = .returned (.agg (secV (Ky.upd a))) ∧ Below W.heap.size W w') := fun W a ha hb => make_any a.nx (!a.ph) W (ht.below hb) ha.ln ha.qn
 have HAL := Lib.hid (fun W (hb : Below w.heap.size w W) => alive_true W (ht.below hb))
 obtain ⟨W1, hW1⟩ : ∃ W1, w.alloc (.cells (cellsN h) 23) = W1 := ⟨_, rfl⟩
 have HB1 : Hid (Below w.heap.size w W1) := hW1 ▸ (Below.refl _ w).alloc (Nat.le_refl _) _
 have HO1 : Hid (Obj W1 w.heap.size 23 (cellsN h)) := hW1 ▸ Obj.new w _ _
 have HIH := Lib.hid (sizeH32 lh)
 have HIS : Hid (∀ {a : Ky.Sec}, a.Ok → (Tryd.prog.info? 29).map (·.size) = some (secV a).size) := fun ha => sizeSec ha
 have HSZ : Hid (∀ {a : Ky.Sec}, a.Ok → zSec.size = (secV a).size) := fun ha => by unfold zSec; rw [pSec_size, secV_size ha]
 have HUO : Hid (∀ k, (Ky.upds s k).Ok) := fun k => Ky.upds_ok ok k
 have HOK := Lib.hid ok
 have HIS0 := Lib.hid (HIS.out ok)
 have HSZ0 := Lib.hid (HSZ.out ok)
 have HPH := Lib.hid hph
 have HW1 := Lib.hid hW1
 clear hW1 hs ok lh qh ht hph
 go_enter Tryd.func4, Tryd.ntmps4
 go_wp2_with fail
 rw [HW1.out]
 refine (HAL.out _ HB1.out).mono ?_
 rintro e w2 ⟨rfl, hb2⟩
 have HB2 := Lib.hid (HB1.out.trans (hb2.mono HB1.out.size))
 have HO2 := Lib.hid (HO1.out.kept hb2)
 clear hb2 HO1 HB1 HW1
 go_wp2_with (first
  | (refine wpList_load_row rfl 23 (.tmp 2) rfl w.heap.size rfl _ _ _ _ HO2.out Tryd.underlying23 rfl HIH.out ?_))
 refine (HMK.out _ HB2.out).mono ?_
 rintro e w3 ⟨rfl, hb3⟩
 have hB3 := HB2.out.trans (hb3.mono HB2.out.size)
 obtain ⟨T, hT⟩ : ∃ T, w3.heap.size = T := ⟨_, rfl⟩
 have hON : Obj (w3.alloc (.cells zSec 29)) T 29 zSec := hT ▸ Obj.new w3 _ _
 have U4 := (Upd.refl T (w3.alloc (.cells zSec 29))).row (secV s)
 obtain ⟨w4, hw4⟩ : ∃ w4, (w3.alloc (.cells zSec 29)).setRow T (secV s) = w4 := ⟨_, rfl⟩
 have HZ4 : Hid (SzI w T s w4) := ⟨hw4 ▸ hON.row _, hw4 ▸ Upd.below (hB3.alloc hB3.size _) (hT ▸ hB3.size) U4⟩
 have HTW : Hid (w.heap.size ≤ T) := hT ▸ hB3.size
 have HON := Lib.hid hON
 have HW4 := Lib.hid hw4
 clear hON U4 hw4 hb3 hB3 HO2 HB2
 go_wp2_with (first
  | (refine wpList_allocS rfl rfl ?_)
  | (refine wpList_store_row rfl 29 (.tmp 5) (.tmp 11) rfl T _ (by simp [Act.eval, Act.put, hT]) rfl _ _ HON.out HIS0.out HSZ0.out (one_rowT _ _) ?_; rw [HW4.out]))
 try rw [hT]
 clear hT HON HW4
 go_loopw [6] (fun i V => ∃ k : Nat, k ≤ m ∧ i = .int .i64 (k : Int) ∧ SzI w T (Ky.upds s k) V) (fun i _ => 6 - (intOf i).toNat)
 case atStart => exact ⟨0, Nat.zero_le _, rfl, HZ4.out⟩
 case round =>
  clear HZ4
  obtain ⟨k, hk, rfl, hI⟩ := hrel
  by_cases hlt : k < m
  ·have hki : (k : Int) < (m : Int) := by omega
   have hk6 : (k : Int) < 6 := by omega
   obtain ⟨a, ha⟩ : ∃ a, Ky.upds s k = a := ⟨_, rfl⟩
   have hoa : a.Ok := ha ▸ HUO.out k
   obtain ⟨c, hc⟩ : ∃ c, Ky.upd a = c := ⟨_, rfl⟩
   have hoc : c.Ok := hc ▸ Ky.make_ok _ _
   rw [ha] at hI
   have HOA := Lib.hid hoa
   have HOC := Lib.hid hoc
   have HIA := Lib.hid (HIS.out hoa)
   have HIU := Lib.hid (HIS.out hoc)
   have HSU := Lib.hid (HSZ.out hoc)
   have HSA : Hid ((secV a).size = (secV c).size) := by unfold Hid; rw [secV_size hoa, secV_size hoc]
   have HI32 : Hid ((Tryd.prog.info? 23).map (·.size) = some (a.nx.map u8v).length) := by unfold Hid; rw [List.length_map, hoa.ln]; exact infoH'
   have HI := Lib.hid hI
   have hpc : c.ph = !a.ph := hc ▸ rfl
   obtain ⟨p, hp⟩ : ∃ p, a.ph = p := ⟨_, rfl⟩
   have HMK2 : Hid (∀ W, Below w.heap.size w W → Calls Tryd.prog 10 #[.agg (cellsN a.nx), .bool (!p)] W fun e w' => e = .returned (.agg (secV c)) ∧ Below W.heap.size W w') := fun W hb => hc ▸ hp ▸ HMA.out W a hoa hb
   have HAU : Hid (Ky.upds s (k + 1) = c) := by unfold Hid; rw [← hc, ← ha]; rfl
   have HUA : Hid (∀ W, Below w.heap.size w W → Calls Tryd.prog 16 #[.agg (secV a)] W fun e w' => e = .returned (.agg (secV c)) ∧ Below W.heap.size W w') := fun W hb => hc ▸ HUP.out W a hoa hb
   have HEB := Ky.Sec.eqb_self c
   clear hoa hoc hI ha hc
   go_wp2_with (first
    | (refine wpList_load_row rfl 29 (.tmp 5) rfl T rfl _ _ _ _ HI.out.o Tryd.underlying29 rfl HIA.out ?_))
   refine (HUA.out _ HI.out.bel).mono ?_
   rintro e w3 ⟨rfl, hb3⟩
   have hI3 := HI.out.kept hb3
   have hB3 := hI3.bel
   obtain ⟨U, hU⟩ : ∃ U, w3.heap.size = U := ⟨_, rfl⟩
   have hTU : T ≠ U := by have := hI3.o.lt; omega
   have hON : Obj (w3.alloc (.cells zSec 29)) U 29 zSec := hU ▸ Obj.new w3 _ _
   have U4 := (Upd.refl U (w3.alloc (.cells zSec 29))).row (secV c)
   obtain ⟨w5, hw5⟩ : ∃ w5, (w3.alloc (.cells zSec 29)).setRow U (secV c) = w5 := ⟨_, rfl⟩
   have HX5 : Hid (Obj w5.drew T 29 (secV a) ∧ Obj w5.drew U 29 (secV c) ∧ Below w.heap.size w w5.drew) := ⟨(hw5 ▸ (hI3.o.alloc _).upd U4 hTU : Obj w5 T _ _).drew, (hw5 ▸ hON.row _ : Obj w5 U _ _).drew, (hw5 ▸ Upd.below (hB3.alloc hB3.size _) (hU ▸ hB3.size) U4 : Below w.heap.size w w5).drew⟩
   have HON := Lib.hid hON
   have HW5 := Lib.hid hw5
   clear hON U4 hw5 hb3 hB3 hI3 HI
   go_wp2_with (first
    | (refine wpList_allocS rfl rfl ?_)
    | (refine wpList_store_row rfl 29 (.tmp 7) (.tmp 20) rfl U _ (by simp [Act.eval, Act.put, hU]) rfl _ _ HON.out HIU.out HSU.out (one_rowT _ _) ?_; rw [HW5.out]))
   try rw [hU]
   clear hU HON HW5
   refine wp_region_held_drew (S := (fun wq => Obj wq T 29 (secV a) ∧ Obj wq U 29 (secV c) ∧ Below w.heap.size w wq)) (by kernel_rfl) HX5.out (fun hHeld => ?_)
   refine tkH 0 ?_
   refine tkH 1 ?_ (hy := by
    refine Or.inl ⟨by rfl, ?_⟩
    intro wq hSw
    have hq := Obj.secP hSw.2.1 HOC.out
    go_simp
    all_goals with_reducible rfl)
   refine tkH 2 ?_
   refine tkH 3 ?_ (hy := by
    refine Or.inl ⟨by rfl, ?_⟩
    intro wq hSw
    have hq := Obj.secP hSw.1 HOA.out
    go_simp
    all_goals with_reducible rfl)
   refine tkH 4 ?_
   refine tkH 5 ?_
   refine tkH 6 ?_ (hy := by
    refine yieldsIf_load_row (g := U) (t := 29) (cs := secV c) (ty := 29) (x := (.tmp 7)) ?_ ?_ ?_ ?_ Tryd.underlying29 rfl HIU.out
    ·rfl
    ·rfl
    ·rfl
    ·exact fun w hSw => hSw.2.1)
   refine tkH 7 ?_
   refine tkH 8 (v := .agg (cellsN a.nx)) ?_ (hy := by
    refine yieldsIf_load_mid ?_ 23 (.tmp 28) ?_ T 28 ?_ (a.nx.map u8v) _ ?_ Tryd.underlying23 rfl HI32.out
    ·rfl
    ·rfl
    ·rfl
    ·exact fun w hSw => hSw.1.secN HOA.out)
   refine tkH 9 ?_
   refine tkH 10 ?_ (hy := by
    refine Or.inl ⟨by rfl, ?_⟩
    intro wq hSw
    have hq := Obj.secP hSw.1 HOA.out
    go_simp
    all_goals with_reducible rfl)
   refine tkH 11 ?_
   refine onH 12 (fun KK hKK => ?_)
   go_simp
   refine (HMK2.out _ HX5.out.2.2).mono ?_
   rintro e w6 ⟨rfl, hb6⟩
   have HX6 : Hid (Obj w6 T 29 (secV a) ∧ Obj w6 U 29 (secV c) ∧ Below w.heap.size w w6) := ⟨HX5.out.1.kept hb6, HX5.out.2.1.kept hb6, HX5.out.2.2.trans (hb6.mono HX5.out.2.2.size)⟩
   try go_wp2_with fail
   refine hKK.out _ _ ?_ (fun hh => ?_)
   ·(try dsimp only)
    exact HX6.out
   clear hKK KK
   try simp only [Act.put, setIfInBounds_toArray, set_cons_zero, set_cons_succ]
   refine tkH 13 (v := .bool (!c.eqb c)) ?_ (hy := by
    refine Or.inl ⟨by rfl, ?_⟩
    intro wq hSw
    have eqg := eqgS
    have hne := neqSec HOC.out HOC.out
    go_simp)
   refine tkH 14 ?_
   refine wpAnyH_done (by kernel_rfl) ?_ _
   go_wp2_with (first
    | (refine wpList_load_row rfl 29 (.tmp 7) rfl U rfl _ _ _ _ HX6.out.2.1 Tryd.underlying29 rfl HIU.out ?_)
    | (refine wpList_store_row rfl 29 (.tmp 5) (.tmp 36) rfl T _ rfl rfl _ _ HX6.out.1 HIU.out HSA.out (one_rowT _ _) ?_))
   go_roundw
   case rel => exact ⟨k + 1, by omega, by go_num, by rw [HAU.out]; exact ⟨HX6.out.1.row _, Upd.below HX6.out.2.2 HTW.out ((Upd.refl T _).row _)⟩⟩
   case measure => simp [intOf]; omega
  ·obtain rfl : k = m := by omega
   have hph := HPH.out k
   have hcell := hI.o.secP (HUO.out k)
   have hnm : (n : Int) % 6 % 2 = ((k % 2 : Nat) : Int) := by omega
   have HB := Lib.hid hI.bel
   clear hI
   go_wp2
   go_ret
   have hx : ((k : Int) % 2 == 1) = decide (k % 2 = 1) := by
    rw [Bool.eq_iff_iff]; simp only [beq_iff_eq, decide_eq_true_eq]; omega
   refine ⟨?_, HB.out⟩
   show Ending.returned (.bool (decide (k % 2 = 1) == ((k : Int) % 2 == 1))) = _
   rw [hx, beq_self_eq_true]
set_option maxHeartbeats 4000000 in
theorem keysTurns_walk (h : List Nat) (a2 : Int) (w : World) (lh : h.length = 32) (qh : ∀ c ∈ h, c < 256) (w2 : (Lit.int .u8 a2).wf = true) (ht : KTab w) :
  Calls Tryd.prog 4 #[.agg (cellsK .u8 h), .int .u8 a2] w fun e w' => e = .returned (.bool true) ∧ Below w.heap.size w w' := by
 have hb2 := bounds_u8 w2
 obtain ⟨m, rfl⟩ := Int.eq_ofNat_of_zero_le hb2.1
 exact keysTurns_small h m w ht lh qh (by omega)
end Go.Proofs.YtabfcaidioohfaaDoor
