/- Joined: Layer 10's keys, plain: what keys of a secret are, and a packet's nonce. | Layer 10's keys, walked: Make. | Layer 10's keys, walked: a packet's nonce, Seal, Open, Update. | Layer 10's keys, walked: Seal, Open and Update. | Layer 10's keys, walked: the secrets of ids and handshakes. | Layer 10's ring, plain; at, Has, Live, Phase, Drop, walked. | Layer 10's ring, walked: Drop, Phase, Live. | Layer 10's ring, walked: Live. -/
import Derived.Test.YtabfcaidioohfaaDoorRows
import Derived.Test.YtabfcaidioohfaaDoorZp
import Derived.Test.YtabfcaidioohfaaDoorZa
import Derived.Test.YtabfcaidioohfaaDoorZg
import Derived.Test.YtabfcaidioohfaaDoorZu
import Derived.Test.YtabfcaidioohfaaDoorZt
import Derived.Deep.MidRow
import Derived.Test.YtabfcaidioohfaaDoorZs
import Derived.WalkKit
import Derived.Great.Walk
import Derived.OwnWalkIn
import Derived.LoopN
import Derived.LoopIn
import Derived.WalkSpells
import Derived.WalkLawsBesides
import Derived.Laws.Rows
import Derived.Laws.CopyOwn
import Derived.Handy
import Derived.BigQuiet
import Derived.Deep.QuietTactic
import Derived.Deep.RegionHeld3
import Derived.IntWalk
import Derived.Lib.Hide
namespace Go.Proofs.YtabfcaidioohfaaDoor
open List (getElem?_toArray getElem?_cons_zero getElem?_cons_succ setIfInBounds_toArray set_cons_zero set_cons_succ)
open Go Go.RowKit Go.Shelf
set_option linter.unusedVariables false
set_option linter.unusedSimpArgs false
set_option maxRecDepth 100000
theorem cellsK_N (l : List Nat) : cellsK .u8 l = cellsN l := rfl
theorem rb_rd {w : World} {A : Option Addr} {l : List Nat} : Rb w A l ↔ Rd w A l := Iff.rfl
end Go.Proofs.YtabfcaidioohfaaDoor
namespace Go.Ky
open List (getElem?_toArray getElem?_cons_zero getElem?_cons_succ setIfInBounds_toArray set_cons_zero set_cons_succ)
open Go.Proofs.YtabfcaidioohfaaDoor Go.RowKit Go
set_option linter.unusedVariables false
/-- Keys: a block's key, a packet's nonce, the next secret, the phase. -/
structure Sec where
 k : List Nat
 iv : List Nat
 nx : List Nat
 ph : Bool
/-- Their bytes. -/
def Sec.l (s : Sec) : List Nat := s.k ++ (s.iv ++ s.nx)
structure Sec.Ok (s : Sec) : Prop where
 lk : s.k.length = 16
 li : s.iv.length = 12
 ln : s.nx.length = 32
 qk : Ae.bytes s.k
 qi : Ae.bytes s.iv
 qn : Ae.bytes s.nx
theorem Sec.Ok.len {s : Sec} (h : s.Ok) : s.l.length = 60 := by unfold Sec.l; rw [List.length_append, List.length_append, h.lk, h.li, h.ln]
def keyB : ByteArray := ⟨#[113, 117, 105, 99, 32, 107, 101, 121]⟩
def ivB : ByteArray := ⟨#[113, 117, 105, 99, 32, 105, 118]⟩
def kuB : ByteArray := ⟨#[113, 117, 105, 99, 32, 107, 117]⟩
def labB : Nat → ByteArray
 | 0 => keyB
 | 1 => ivB
 | _ => kuB
/-- What a secret is expanded to by a label. -/
def lab (s : List Nat) (b : ByteArray) (n : Nat) : List Nat := Sh.expand s (infoL (bl b) 0 n) n
theorem lab_len (s : List Nat) (b : ByteArray) (n : Nat) : (lab s b n).length = n := Sh.expand_len _ _ _ (exK_len _ _)
theorem lab_bytes (s : List Nat) (b : ByteArray) (n : Nat) : Ae.bytes (lab s b n) := fun x hx => by
 unfold lab Sh.expand at hx
 exact (exK_lt s _ _).2 x (List.mem_of_mem_take hx)
theorem labS_lab (s : List Nat) (b : ByteArray) (n : Nat) (hb : b.size ≤ 60) (hn : n ≤ 255) : labS s b (n : Int) = lab s b n := by
 unfold labS exS lab
 rw [if_neg (by omega), if_neg (by omega)]
 rw [show ((n : Int) / 256 % 256).toNat = 0 by omega, show ((n : Int) % 256).toNat = n by omega, Int.toNat_natCast]
theorem exS_lab (s : List Nat) (b : ByteArray) (n : Nat) (hn : n ≤ 255) : exS s (infoL (bl b) 0 n) (n : Int) = lab s b n := by
 unfold exS lab
 rw [if_neg (by omega), Int.toNat_natCast]
/-- Keys of a secret. -/
def make (s : List Nat) (ph : Bool) : Sec := ⟨lab s keyB 16, lab s ivB 12, lab s kuB 32, ph⟩
theorem make_ok (s : List Nat) (ph : Bool) : (make s ph).Ok := ⟨lab_len _ _ _, lab_len _ _ _, lab_len _ _ _, lab_bytes _ _ _, lab_bytes _ _ _, lab_bytes _ _ _⟩
/-- Updated. -/
def upd (s : Sec) : Sec := make s.nx (!s.ph)
/-- So much of the keys is there. -/
def mk (s : List Nat) : Nat → List Nat
 | 0 => List.replicate 60 0
 | 1 => lab s keyB 16 ++ List.replicate 44 0
 | 2 => lab s keyB 16 ++ (lab s ivB 12 ++ List.replicate 32 0)
 | _ => lab s keyB 16 ++ (lab s ivB 12 ++ lab s kuB 32)
theorem mk_len (s : List Nat) : ∀ i, (mk s i).length = 60
 | 0 => by simp [mk]
 | 1 => by simp [mk, lab_len]
 | 2 => by simp [mk, lab_len]
 | _ + 3 => by simp [mk, lab_len]
def offK : Nat → Nat
 | 0 => 0
 | 1 => 16
 | _ => 28
def lenK : Nat → Nat
 | 0 => 16
 | 1 => 12
 | _ => 32
/-- A packet's nonce, so many bytes of it from the last one on. -/
def nonceK (iv : List Nat) (u i : Nat) : List Nat := (List.range 12).map fun j => if 12 - i ≤ j then iv.getD j 0 ^^^ (u / 256 ^ (11 - j) % 256) else iv.getD j 0
theorem nonceK_len (iv : List Nat) (u i : Nat) : (nonceK iv u i).length = 12 := by simp [nonceK]
theorem nonceK_get (iv : List Nat) (u i j : Nat) (h : j < 12) : (nonceK iv u i).getD j 0 = if 12 - i ≤ j then iv.getD j 0 ^^^ (u / 256 ^ (11 - j) % 256) else iv.getD j 0 := by
 unfold nonceK; rw [List.getD_eq_getElem?_getD, List.getElem?_map, List.getElem?_range h]; rfl
theorem nonceK_zero {iv : List Nat} (u : Nat) (h : iv.length = 12) : nonceK iv u 0 = iv := by
 refine Ae.ext_get (by rw [nonceK_len, h]) fun j hj => ?_
 rw [nonceK_len] at hj
 rw [nonceK_get _ _ _ _ hj, if_neg (by omega)]
theorem nonceK_set (iv : List Nat) (u i : Nat) (h : i < 12) : (nonceK iv u i).set (11 - i) (iv.getD (11 - i) 0 ^^^ (u / 256 ^ i % 256)) = nonceK iv u (i + 1) := by
 refine Ae.ext_get (by rw [List.length_set, nonceK_len, nonceK_len]) fun j hj => ?_
 rw [List.length_set, nonceK_len] at hj
 rw [nonceK_get _ _ _ _ hj, List.getD_eq_getElem?_getD, List.getElem?_set]
 by_cases e : 11 - i = j
 ·rw [if_pos e, if_pos (by rw [nonceK_len]; omega), if_pos (by omega), ← e, show 11 - (11 - i) = i by omega]; rfl
 ·rw [if_neg e, ← List.getD_eq_getElem?_getD, nonceK_get _ _ _ _ hj]
  by_cases e2 : 12 - i ≤ j
  ·rw [if_pos e2, if_pos (by omega)]
  ·rw [if_neg e2, if_neg (by omega)]
theorem nonceK_bytes {iv : List Nat} (u i : Nat) (h : Ae.bytes iv) : Ae.bytes (nonceK iv u i) := fun x hx => by
 obtain ⟨j, _, rfl⟩ := List.mem_map.1 hx
 split
 ·exact Nat.xor_lt_two_pow (n := 8) (Ae.bytes_get h j) (Nat.mod_lt _ (by decide))
 ·exact Ae.bytes_get h j
/-- A packet's nonce. -/
def nonce (s : Sec) (u : Nat) : List Nat := nonceK s.iv u 8
theorem nonce_len (s : Sec) (u : Nat) : (nonce s u).length = 12 := nonceK_len _ _ _
theorem nonce_bytes {s : Sec} (u : Nat) (h : s.Ok) : Ae.bytes (nonce s u) := nonceK_bytes _ _ h.qi
/-- A packet, sealed; opened: the error's number, and the text. -/
def sealW (s : Sec) (u : Nat) (more text : List Nat) : List Nat := Gc.sealT s.k (nonce s u) more text
def open' (s : Sec) (u : Nat) (more b : List Nat) : Nat × List Nat := Gc.openC s.k (nonce s u) more b
/-- The first secrets of an id, and the later ones of a handshake. -/
def salt : List Nat := [100, 111, 111, 114, 119, 97, 114, 100, 32, 102, 105, 114, 115, 116, 32, 115, 97, 108, 116, 46, 46]
def cinB : ByteArray := ⟨#[99, 108, 105, 101, 110, 116, 32, 105, 110]⟩
def sinB : ByteArray := ⟨#[115, 101, 114, 118, 101, 114, 32, 105, 110]⟩
def capB : ByteArray := ⟨#[99, 32, 97, 112, 32, 116, 114, 97, 102, 102, 105, 99]⟩
def sapB : ByteArray := ⟨#[115, 32, 97, 112, 32, 116, 114, 97, 102, 102, 105, 99]⟩
def first1 (cid : List Nat) : List Nat := lab (Sh.tag salt cid) cinB 32
def first2 (cid : List Nat) : List Nat := lab (Sh.tag salt cid) sinB 32
def later1 (c s : List Nat) : List Nat := lab (Sh.tag c s) capB 32
def later2 (c s : List Nat) : List Nat := lab (Sh.tag c s) sapB 32
end Go.Ky
namespace Go.Proofs.YtabfcaidioohfaaDoor
open List (getElem?_toArray getElem?_cons_zero getElem?_cons_succ setIfInBounds_toArray set_cons_zero set_cons_succ)
open Go Go.RowKit Go.Shelf
/-- Keys, as cells. -/
def secV (s : Ky.Sec) : Array Value := rowT s.l [.bool s.ph]
theorem rowT_size (l : List Nat) (t : List Value) : (rowT l t).size = l.length + t.length := by simp [rowT]
theorem secV_size {s : Ky.Sec} (h : s.Ok) : (secV s).size = 61 := by unfold secV; rw [rowT_size, h.len]; rfl
theorem infoSec : (Tryd.prog.info? 29).map (·.size) = some 61 := by kernel_rfl
theorem info12' : (Tryd.prog.info? 27).map (·.size) = some 12 := by kernel_rfl
theorem infoH' : (Tryd.prog.info? 23).map (·.size) = some 32 := by kernel_rfl
theorem sizeSec {s : Ky.Sec} (h : s.Ok) : (Tryd.prog.info? 29).map (·.size) = some (secV s).size := by rw [secV_size h]; exact infoSec
theorem sizeT {l : List Nat} (h : l.length = 60) (p : Bool) : (Tryd.prog.info? 29).map (·.size) = some (rowT l [.bool p]).size := by rw [rowT_size, h]; exact infoSec
theorem one_rowT (l : List Nat) (p : Bool) : (rowT l [.bool p]).all (·.oneCell') = true := by
 unfold rowT
 rw [Array.all_eq_true_iff_forall_mem]
 intro v hv
 simp only [List.mem_toArray, List.mem_append, List.mem_map, List.mem_singleton] at hv
 rcases hv with ⟨x, _, rfl⟩ | rfl <;> rfl
/-- A part of a row's bytes lies in it. -/
theorem Obj.part {w : World} {b : Nat} {t : TypeId} {x l y : List Nat} {tail : List Value} (h : Obj w b t (rowT (x ++ (l ++ y)) tail)) {o : Nat} (ho : x.length = o) : w.rangeAt b o (l.map u8v) := fun j v hv => by
 rw [List.getElem?_map, Option.map_eq_some_iff] at hv
 obtain ⟨c, hc, rfl⟩ := hv
 have hj := (List.getElem?_eq_some_iff.1 hc).1
 rw [h.getT (o + j) (by rw [List.length_append, List.length_append]; omega)]
 rw [List.getD_eq_getElem?_getD, List.getElem?_append_right (by omega), List.getElem?_append_left (by omega), show o + j - x.length = j by omega, hc]
 rfl
theorem Obj.partR {w : World} {b : Nat} {t : TypeId} {x l y : List Nat} {tail : List Value} (h : Obj w b t (rowT (x ++ (l ++ y)) tail)) {o : Nat} (ho : x.length = o) : Rd w (some ⟨b, o, none⟩) l := fun _ =>
 ⟨b, o, rfl, h.lt, fun j hj => by
  rw [h.getT (o + j) (by rw [List.length_append, List.length_append]; omega)]
  rw [List.getD_eq_getElem?_getD, List.getElem?_append_right (by omega), List.getElem?_append_left (by omega), show o + j - x.length = j by omega, ← List.getD_eq_getElem?_getD]⟩
theorem Obj.secK {w : World} {b : Nat} {t : TypeId} {s : Ky.Sec} (h : Obj w b t (secV s)) : w.rangeAt b 0 (s.k.map u8v) := Obj.part (x := []) (y := s.iv ++ s.nx) (tail := [.bool s.ph]) h rfl
theorem Obj.secI {w : World} {b : Nat} {t : TypeId} {s : Ky.Sec} (h : Obj w b t (secV s)) (hs : s.Ok) : w.rangeAt b 16 (s.iv.map u8v) := Obj.part (x := s.k) (y := s.nx) (tail := [.bool s.ph]) h hs.lk
theorem Obj.secN {w : World} {b : Nat} {t : TypeId} {s : Ky.Sec} (h : Obj w b t (secV s)) (hs : s.Ok) : w.rangeAt b 28 (s.nx.map u8v) :=
 Obj.part (x := s.k ++ s.iv) (y := []) (tail := [.bool s.ph]) (h.as (by unfold secV Ky.Sec.l; rw [List.append_nil, List.append_assoc])) (by rw [List.length_append, hs.lk, hs.li])
theorem Obj.secP {w : World} {b : Nat} {t : TypeId} {s : Ky.Sec} (h : Obj w b t (secV s)) (hs : s.Ok) : w.cell? ⟨b, 60, none⟩ = some (.bool s.ph) := by
 rw [h.cell 60]
 unfold secV rowT
 rw [getElem?_toArray, List.getElem?_append_right (by rw [List.length_map, hs.len]; omega), List.length_map, hs.len]
 rfl
theorem cellsN_arr (l : List Nat) : (l.map u8v).toArray = cellsN l := rfl
end Go.Proofs.YtabfcaidioohfaaDoor
namespace Go.Proofs.YtabfcaidioohfaaDoor
open List (getElem?_toArray getElem?_cons_zero getElem?_cons_succ setIfInBounds_toArray set_cons_zero set_cons_succ)
open Go Go.RowKit Go.Shelf
set_option linter.unusedVariables false
set_option linter.unusedSimpArgs false
set_option maxRecDepth 100000
/-- The tables that lie there: layer 7's, and the labels of keys. -/
structure KTab (w : World) : Prop where
 t : Tabs w
 sz : 0 < w.heap.size
 l : ∀ i, i < 3 → w.cell? ⟨0, i, none⟩ = some (.string (Ky.labB i))
theorem KTab.below {w w' : World} (h : KTab w) (hb : Below w.heap.size w w') : KTab w' :=
 ⟨h.t.below hb, Nat.lt_of_lt_of_le h.sz hb.size, fun i hi => (hb.cell (p := ⟨_, i, none⟩) h.sz).trans (h.l i hi)⟩
/-- Label, as layer 10 uses it. -/
theorem label_ky (s : List Nat) (b : ByteArray) (n : Nat) (w : World) (ht : Tabs w) (hs : s.length = 32) (qs : Ae.bytes s) (hb : b.size ≤ 60) (hn : n ≤ 255) :
  Calls Tryd.prog 39 #[.agg (cellsN s), .string b, .int .i64 (n : Int)] w fun e w' => ∃ A c, e = .returned (.slice A n c) ∧ Rd w' A (Ky.lab s b n) ∧ Below w.heap.size w w' :=
 (label_all s b n w ht hs qs (by unfold maxLen; omega)).mono fun e w' ⟨v, h1, ⟨A, c, h2, h3, _⟩, h4⟩ => by
  rw [Ky.labS_lab s b n hb hn] at h2 h3
  rw [Ky.lab_len] at h2
  exact ⟨A, c, by rw [h1, h2], h3, h4⟩
/-- Label hands back a block of its own. -/
theorem label_fr (s : List Nat) (b : ByteArray) (n : Nat) (w : World) (ht : Tabs w) (hs : s.length = 32) (qs : Ae.bytes s) (hb : b.size ≤ 60) (hn : n ≤ 255) (h0 : 0 < n) :
  Calls Tryd.prog 39 #[.agg (cellsN s), .string b, .int .i64 (n : Int)] w fun e w' => ∃ g c, e = .returned (.slice (some ⟨g, 0, none⟩) n c) ∧ w.heap.size ≤ g ∧ Rd w' (some ⟨g, 0, none⟩) (Ky.lab s b n) ∧ Below w.heap.size w w' :=
 (label_any s b n w ht hs qs hb).mono fun e w' ⟨v, h1, h2, h4⟩ => by
  rcases h2 with ⟨h, _⟩ | ⟨k, hk, hk2, A, rfl, h3, h5⟩
  ·omega
  ·obtain rfl : n = k := by omega
   rw [show ((n : Int) / 256 % 256).toNat = 0 by omega, show ((n : Int) % 256).toNat = n by omega] at h3
   obtain ⟨g, o, rfl, _, _⟩ := h3 (by rw [show (Sh.expand s (infoL (bl b) 0 n) n).length = n from Ky.lab_len s b n]; exact h0)
   rcases h5 with h5 | ⟨g', h5, h6⟩
   ·cases h5
   ·cases h5
    exact ⟨_, _, h1, h6, h3, h4⟩
/-- A Secret's zero value. -/
def pSec (p : Bool) : Array Value := rowT (List.replicate 60 0) [.bool p]
def zSec : Array Value := pSec false
theorem pSec_size (p : Bool) : (pSec p).size = 61 := by unfold pSec; rw [rowT_size]; rfl
theorem one_pSec (p : Bool) : (pSec p).all (·.oneCell') = true := one_rowT _ _
theorem zeroS : (Tryd.prog.info? 29).map (fun i => (i.zero, i.size)) = some (some (.agg zSec), 61) := by kernel_rfl
theorem run_allocS (w : World) : (Instr.alloc 29 true (.tuple #[])).run Tryd.prog w = .ok (.pointer (some ⟨w.heap.size, 0, none⟩)) (w.alloc (.cells zSec 29)) := by
 have hz := (zero_of_info zeroS).1
 simp only [Instr.alloc, Sem.run_bind, hz, Result.andThen_ok]
 rfl
theorem wp_allocS {o : Oper} {a : Act} {w : World} {K : Act → World → Prop} {Q : Exit → Act → World → Prop} (ho : o.op = .alloc 29)
  (h : K (a.put o.dst (.pointer (some ⟨w.heap.size, 0, none⟩))) (w.alloc (.cells zSec 29))) : o.wp Tryd.prog a w K Q := by
 unfold Oper.wp execOp
 simp only [ho, Sem.run_bind, run_allocS, Result.andThen_ok, Sem.run_pure]
 exact h
theorem wpList_allocS {ops : Array Oper} {rest : List Oper} {o : Oper} {a : Act} {w : World} {Q : Exit → Act → World → Prop} (hgd : o.guard = none) (ho : o.op = .alloc 29)
  (h : wpList Tryd.prog ops Q rest (a.put o.dst (.pointer (some ⟨w.heap.size, 0, none⟩))) (w.alloc (.cells zSec 29))) : wpList Tryd.prog ops Q (o :: rest) a w :=
 wpList_plain hgd fun _ hK => wp_allocS ho (hK _ _ h)
theorem built_S (b : Bool) : Tryd.prog.built 29 [(3, .bool b)] = some (pSec b) := by cases b <;> kernel_rfl
theorem sl16 (g o : Nat) (w : World) : (Instr.sliceAt 26 (.pointer (some ⟨g, o, none⟩)) none none none).run Tryd.prog w = .ok (.slice (some ⟨g, o, none⟩) 16 16) w := by kernel_rfl
theorem sl12 (g o : Nat) (w : World) : (Instr.sliceAt 27 (.pointer (some ⟨g, o, none⟩)) none none none).run Tryd.prog w = .ok (.slice (some ⟨g, o, none⟩) 12 12) w := by kernel_rfl
theorem sl32 (g o : Nat) (w : World) : (Instr.sliceAt 23 (.pointer (some ⟨g, o, none⟩)) none none none).run Tryd.prog w = .ok (.slice (some ⟨g, o, none⟩) 32 32) w := by kernel_rfl
def sl3 (a b c : Value) : Nat → Value
 | 0 => a
 | 1 => b
 | _ => c
theorem idx3 (a b c : Value) (i : Nat) (hi : i < 3) (w : World) : (Instr.index 70 (.agg #[a, b, c]) (.int .i64 (i : Int))).run Tryd.prog w = .ok (sl3 a b c i) w := by
 obtain rfl | rfl | rfl : i = 0 ∨ i = 1 ∨ i = 2 := by omega
 all_goals kernel_rfl
theorem splice_mid (a z r c : List Value) (h : z.length = c.length) {o : Nat} (ho : a.length = o) : splice (a ++ (z ++ r)) o c = a ++ (c ++ r) := by
 subst ho
 unfold splice
 rw [List.take_left, ← h, List.drop_append, List.drop_eq_nil_of_le (by omega), List.nil_append, Nat.add_sub_cancel_left, List.drop_left]
theorem mk_splice0 (s : List Nat) (x : Value) : splice ((Ky.mk s 0).map u8v ++ [x]) 0 ((Ky.lab s (Ky.labB 0) 16).map u8v) = (Ky.mk s 1).map u8v ++ [x] := by
 have e : (Ky.mk s 0).map u8v ++ [x] = [] ++ ((List.replicate 16 0).map u8v ++ ((List.replicate 44 0).map u8v ++ [x])) := rfl
 rw [e, splice_mid [] _ _ _ (by rw [List.length_map, List.length_map, Ky.lab_len]; rfl) (o := 0) List.length_nil]
 show _ = (Ky.lab s Ky.keyB 16 ++ List.replicate 44 0).map u8v ++ [x]
 rw [List.nil_append, List.map_append, List.append_assoc]
 rfl
theorem mk_splice1 (s : List Nat) (x : Value) : splice ((Ky.mk s 1).map u8v ++ [x]) 16 ((Ky.lab s (Ky.labB 1) 12).map u8v) = (Ky.mk s 2).map u8v ++ [x] := by
 have e : (Ky.mk s 1).map u8v ++ [x] = (Ky.lab s Ky.keyB 16).map u8v ++ ((List.replicate 12 0).map u8v ++ ((List.replicate 32 0).map u8v ++ [x])) := by
  show (Ky.lab s Ky.keyB 16 ++ List.replicate 44 0).map u8v ++ [x] = _
  rw [List.map_append, List.append_assoc]; rfl
 rw [e, splice_mid _ _ _ _ (by rw [List.length_map, List.length_map, Ky.lab_len]; rfl) (by rw [List.length_map, Ky.lab_len])]
 show _ = (Ky.lab s Ky.keyB 16 ++ (Ky.lab s Ky.ivB 12 ++ List.replicate 32 0)).map u8v ++ [x]
 rw [List.map_append, List.map_append, List.append_assoc, List.append_assoc]
 rfl
theorem mk_splice2 (s : List Nat) (x : Value) : splice ((Ky.mk s 2).map u8v ++ [x]) 28 ((Ky.lab s (Ky.labB 2) 32).map u8v) = (Ky.mk s 3).map u8v ++ [x] := by
 have e : (Ky.mk s 2).map u8v ++ [x] = ((Ky.lab s Ky.keyB 16).map u8v ++ (Ky.lab s Ky.ivB 12).map u8v) ++ ((List.replicate 32 0).map u8v ++ [x]) := by
  show (Ky.lab s Ky.keyB 16 ++ (Ky.lab s Ky.ivB 12 ++ List.replicate 32 0)).map u8v ++ [x] = _
  rw [List.map_append, List.map_append, List.append_assoc, List.append_assoc, List.append_assoc]
 rw [e, splice_mid _ _ _ _ (by rw [List.length_map, List.length_map, Ky.lab_len]; rfl) (by rw [List.length_append, List.length_map, List.length_map, Ky.lab_len, Ky.lab_len])]
 show _ = (Ky.lab s Ky.keyB 16 ++ (Ky.lab s Ky.ivB 12 ++ Ky.lab s Ky.kuB 32)).map u8v ++ [x]
 rw [List.map_append, List.map_append, List.append_assoc, List.append_assoc, List.append_assoc]
 rfl
/-- Make under way. -/
structure MkI (w : World) (B : Nat) (s : List Nat) (ph : Bool) (i : Nat) (V : World) : Prop where
 h : Obj V B 23 (cellsN s)
 r : Obj V (B + 1) 29 zSec
 o : Obj V (B + 1 + 1) 29 (rowT (Ky.mk s i) [.bool ph])
 bel : Below w.heap.size w V
theorem MkI.drew {w V : World} {B i : Nat} {s : List Nat} {ph : Bool} (h : MkI w B s ph i V) : MkI w B s ph i V.drew := ⟨h.h, h.r, h.o, h.bel.drew⟩
theorem MkI.kept {w V V' : World} {B i : Nat} {s : List Nat} {ph : Bool} (h : MkI w B s ph i V) (hb : Below V.heap.size V V') : MkI w B s ph i V' :=
 ⟨h.h.kept hb, h.r.kept hb, h.o.kept hb, h.bel.trans (hb.mono h.bel.size)⟩
theorem MkI.next {w V V' : World} {B i : Nat} {s : List Nat} {ph : Bool} (h : MkI w B s ph i V) (hw : w.heap.size = B) (hb : Below (B + 1 + 1) V V') (ho : Obj V' (B + 1 + 1) 29 (rowT (Ky.mk s (i + 1)) [.bool ph])) : MkI w B s ph (i + 1) V' :=
 ⟨h.h.below hb (by omega), h.r.below hb (by omega), ho, h.bel.trans (hb.mono (by omega))⟩
set_option maxHeartbeats 4000000 in
theorem make_any (s : List Nat) (ph : Bool) (w : World) (ht : KTab w) (hs : s.length = 32) (qs : Ae.bytes s) :
  Calls Tryd.prog 10 #[.agg (cellsN s), .bool ph] w fun e w' => e = .returned (.agg (secV (Ky.make s ph))) ∧ Below w.heap.size w w' := by
 obtain ⟨B, hB⟩ : ∃ B, w.heap.size = B := ⟨_, rfl⟩
 obtain ⟨W2, hW2⟩ : ∃ W2, (w.alloc (.cells (cellsN s) 23)).alloc (.cells zSec 29) = W2 := ⟨_, rfl⟩
 have hb2 : Below w.heap.size w W2 := hW2 ▸ ((Below.refl _ w).alloc (Nat.le_refl _) _).alloc (by simp) _
 have s2 : W2.heap.size = B + 1 + 1 := by rw [← hW2]; simp [hB]
 have o0 : Obj W2 B 23 (cellsN s) := hW2 ▸ hB ▸ (Obj.new w _ _).alloc _
 have o1 : Obj W2 (B + 1) 29 zSec := by
  have := new2 w (.cells (cellsN s) 23) 29 zSec
  rw [hB, hW2] at this; exact this
 have hON : Obj (W2.alloc (.cells zSec 29)) (B + 1 + 1) 29 zSec := s2 ▸ Obj.new W2 _ _
 have U3 := (Upd.refl (B + 1 + 1) (W2.alloc (.cells zSec 29))).row (pSec ph)
 obtain ⟨W3, hW3⟩ : ∃ W3, (W2.alloc (.cells zSec 29)).setRow (B + 1 + 1) (pSec ph) = W3 := ⟨_, rfl⟩
 have HI0 : Hid (MkI w B s ph 0 W3) :=
  ⟨hW3 ▸ (o0.alloc _).upd U3 (by omega), hW3 ▸ (o1.alloc _).upd U3 (by omega), hW3 ▸ hON.row _, hW3 ▸ Upd.below (hb2.alloc hb2.size _) (by omega) U3⟩
 have HST : Hid ((Tryd.prog.info? 29).map (·.size) = some (pSec ph).size) := by unfold Hid; rw [pSec_size]; exact infoSec
 have HSZ : Hid (zSec.size = (pSec ph).size) := by unfold Hid zSec; rw [pSec_size, pSec_size]
 have HON := Lib.hid hON
 have HW2 := Lib.hid hW2
 have HW3 := Lib.hid hW3
 have HB := Lib.hid hB
 have HS2 := Lib.hid s2
 have HT := Lib.hid ht
 have HS := Lib.hid hs
 have HQ := Lib.hid qs
 have HIH : Hid ((Tryd.prog.info? 23).map (·.size) = some (cellsN s).size) := by unfold Hid; rw [cellsN_size, hs]; exact infoH'
 clear hW2 hW3 hb2 s2 o0 o1 hON U3 ht hs qs
 go_enter Tryd.func10, Tryd.ntmps10
 go_wp2_with (first
  | (refine wpList_allocS rfl rfl ?_)
  | (refine Great.wpList_buildTo rfl 29 _ rfl _ rfl (pSec ph) (by simpa [Act.eval, Act.put] using built_S ph) ?_)
  | (refine wpList_store_row rfl 29 (.tmp 5) (.tmp 9) rfl (B + 1 + 1) (pSec ph) (by simp [Act.eval, Act.put, hB]) rfl 29 zSec (by rw [HW2.out]; exact HON.out) HST.out HSZ.out (one_pSec _) ?_; rw [HW2.out, HS2.out, HW3.out]))
 clear HW2 HW3 HON HST HSZ HS2
 have k16 := sl16 (B + 1 + 1) 0
 have k12 := sl12 (B + 1 + 1) 16
 have k32 := sl32 (B + 1 + 1) 28
 try simp only [Act.put, setIfInBounds_toArray, set_cons_zero, set_cons_succ]
 rw [show (Value.agg #[.int .u8 0, .int .u8 0, .int .u8 0, .int .u8 0, .int .u8 0, .int .u8 0, .int .u8 0, .int .u8 0, .int .u8 0, .int .u8 0, .int .u8 0, .int .u8 0, .int .u8 0, .int .u8 0, .int .u8 0, .int .u8 0, .int .u8 0, .int .u8 0, .int .u8 0, .int .u8 0, .int .u8 0, .int .u8 0, .int .u8 0, .int .u8 0, .int .u8 0, .int .u8 0, .int .u8 0, .int .u8 0, .int .u8 0, .int .u8 0, .int .u8 0, .int .u8 0, .int .u8 0, .int .u8 0, .int .u8 0, .int .u8 0, .int .u8 0, .int .u8 0, .int .u8 0, .int .u8 0, .int .u8 0, .int .u8 0, .int .u8 0, .int .u8 0, .int .u8 0, .int .u8 0, .int .u8 0, .int .u8 0, .int .u8 0, .int .u8 0, .int .u8 0, .int .u8 0, .int .u8 0, .int .u8 0, .int .u8 0, .int .u8 0, .int .u8 0, .int .u8 0, .int .u8 0, .int .u8 0, .bool ph]) = Value.agg (pSec ph) from rfl]
 go_region
 go_wp2
 go_loopw [6, 7, 17] (fun _ _ i V => ∃ k : Nat, k ≤ 3 ∧ i = .int .i64 (k : Int) ∧ MkI w B s ph k V) (fun _ _ i _ => 3 - (intOf i).toNat)
 case atStart => exact ⟨0, Nat.zero_le _, rfl, HI0.out.drew⟩
 case round =>
  clear HI0
  obtain ⟨k, hk, rfl, hI⟩ := hrel
  by_cases hlt : k < 3
  ·have HI := Lib.hid hI
   clear hI
   obtain rfl | rfl | rfl : k = 0 ∨ k = 1 ∨ k = 2 := by omega
   ·have hix : ∀ W, (Instr.index 70 (.agg #[.slice (some ⟨B + 1 + 1, 0, none⟩) 16 16, .slice (some ⟨B + 1 + 1, 16, none⟩) 12 12, .slice (some ⟨B + 1 + 1, 28, none⟩) 32 32]) (.int .i64 0)).run Tryd.prog W = .ok (.slice (some ⟨B + 1 + 1, 0, none⟩) 16 16) W := fun W => idx3 _ _ _ 0 (by decide) W
    go_wp2
    have HLB : Hid (∀ W, Below w.heap.size w W → Calls Tryd.prog 39 #[.agg (cellsN s), .string (Ky.labB 0), .int .i64 16] W fun e w' => ∃ A c, e = .returned (.slice A 16 c) ∧ Rd w' A (Ky.lab s (Ky.labB 0) 16) ∧ Below W.heap.size W w') := fun W hb => label_ky s (Ky.labB 0) 16 W (HT.out.below hb).t HS.out HQ.out (by decide) (by decide)
    refine wp_region_held_drew (S := (fun wq => Obj wq B 23 (cellsN s) ∧ Below w.heap.size w wq)) (by kernel_rfl) ⟨HI.out.drew.h, HI.out.drew.bel⟩ (fun hHeld => ?_)
    refine tkH 0 ?_
    refine tkH 1 ?_ (hy := by
     refine yieldsIf_load_row (g := B) (t := 23) (cs := cellsN s) (ty := 23) (x := (.tmp 2)) ?_ ?_ ?_ ?_ Tryd.underlying23 rfl HIH.out
     ·rfl
     ·rfl
     ·rfl
     ·exact fun w hSw => hSw.1)
    refine tkH 2 ?_
    refine tkH 3 ?_
    refine tkH 4 (v := .string (Ky.labB 0)) ?_ (hy := by
     refine Or.inl ⟨by rfl, ?_⟩
     intro wq hSw
     have q := (hSw.2.cell (p := ⟨0, 0, none⟩) HT.out.sz).trans (HT.out.l 0 (by decide))
     go_simp
     all_goals with_reducible rfl)
    refine tkH 5 ?_
    refine tkH 6 ?_
    refine onH 7 (fun KK hKK => ?_)
    go_simp
    refine (HLB.out _ HI.out.drew.bel).mono ?_
    rintro e w5 ⟨A5, c5, rfl, hr5, hb5⟩
    have HI5 := Lib.hid (HI.out.drew.kept hb5)
    have HR5 := Lib.hid hr5
    clear hb5 hr5
    try go_wp2_with fail
    refine hKK.out _ _ ?_ (fun hh7 => ?_)
    ·(try dsimp only)
     exact ⟨HI5.out.h, HI5.out.bel⟩
    clear hKK KK
    try simp only [Act.put, setIfInBounds_toArray, set_cons_zero, set_cons_succ]
    refine onH 8 (fun KK hKK => ?_)
    refine step_copy_splice rfl (.tmp 21) (.tmp 28) 24 24 rfl 5 Tryd.underlying24 hsz8 _ _ _ _ _ _ rfl rfl (B + 1 + 1) 0 ((Ky.mk s 0).map u8v ++ [Value.bool ph]) 29 HI5.out.o ((Ky.lab s (Ky.labB 0) 16).map u8v) ?_ (fun _ => ⟨rfl, rd_src HR5.out (by rw [Ky.lab_len]; decide)⟩) ?_ ?_ (B + 1 + 1) _ (Below.refl _ _) (Nat.le_refl _) ?_
    ·rw [List.length_map, Ky.lab_len]; rfl
    ·rw [List.length_map, List.length_append, List.length_map, Ky.mk_len, Ky.lab_len]; show _ + _ ≤ 60 + 1; decide
    ·intro v hv
     obtain ⟨c, _, rfl⟩ := List.mem_map.1 hv
     rfl
    intro w6 hg6 hb6
    have HN : Hid (MkI w B s ph (0 + 1) w6) := HI5.out.next HB.out hb6 (by have h := hg6.out; rw [show splice _ _ _ = _ from mk_splice0 s (Value.bool ph)] at h; exact h)
    clear hg6 hb6
    refine hKK.out _ _ ?_ (fun hh8 => ?_)
    ·(try dsimp only)
     exact ⟨HN.out.h, HN.out.bel⟩
    clear hKK KK
    try simp only [Act.put, setIfInBounds_toArray, set_cons_zero, set_cons_succ]
    refine wpAnyH_done (by kernel_rfl) ?_ _
    go_wp2
    go_roundw
    case rel => exact ⟨0 + 1, by omega, by go_num, HN.out⟩
    case measure => simp [intOf]
   ·have hix : ∀ W, (Instr.index 70 (.agg #[.slice (some ⟨B + 1 + 1, 0, none⟩) 16 16, .slice (some ⟨B + 1 + 1, 16, none⟩) 12 12, .slice (some ⟨B + 1 + 1, 28, none⟩) 32 32]) (.int .i64 1)).run Tryd.prog W = .ok (.slice (some ⟨B + 1 + 1, 16, none⟩) 12 12) W := fun W => idx3 _ _ _ 1 (by decide) W
    go_wp2
    have HLB : Hid (∀ W, Below w.heap.size w W → Calls Tryd.prog 39 #[.agg (cellsN s), .string (Ky.labB 1), .int .i64 12] W fun e w' => ∃ A c, e = .returned (.slice A 12 c) ∧ Rd w' A (Ky.lab s (Ky.labB 1) 12) ∧ Below W.heap.size W w') := fun W hb => label_ky s (Ky.labB 1) 12 W (HT.out.below hb).t HS.out HQ.out (by decide) (by decide)
    refine wp_region_held_drew (S := (fun wq => Obj wq B 23 (cellsN s) ∧ Below w.heap.size w wq)) (by kernel_rfl) ⟨HI.out.drew.h, HI.out.drew.bel⟩ (fun hHeld => ?_)
    refine tkH 0 ?_
    refine tkH 1 ?_ (hy := by
     refine yieldsIf_load_row (g := B) (t := 23) (cs := cellsN s) (ty := 23) (x := (.tmp 2)) ?_ ?_ ?_ ?_ Tryd.underlying23 rfl HIH.out
     ·rfl
     ·rfl
     ·rfl
     ·exact fun w hSw => hSw.1)
    refine tkH 2 ?_
    refine tkH 3 ?_
    refine tkH 4 (v := .string (Ky.labB 1)) ?_ (hy := by
     refine Or.inl ⟨by rfl, ?_⟩
     intro wq hSw
     have q := (hSw.2.cell (p := ⟨0, 1, none⟩) HT.out.sz).trans (HT.out.l 1 (by decide))
     go_simp
     all_goals with_reducible rfl)
    refine tkH 5 ?_
    refine tkH 6 ?_
    refine onH 7 (fun KK hKK => ?_)
    go_simp
    refine (HLB.out _ HI.out.drew.bel).mono ?_
    rintro e w5 ⟨A5, c5, rfl, hr5, hb5⟩
    have HI5 := Lib.hid (HI.out.drew.kept hb5)
    have HR5 := Lib.hid hr5
    clear hb5 hr5
    try go_wp2_with fail
    refine hKK.out _ _ ?_ (fun hh7 => ?_)
    ·(try dsimp only)
     exact ⟨HI5.out.h, HI5.out.bel⟩
    clear hKK KK
    try simp only [Act.put, setIfInBounds_toArray, set_cons_zero, set_cons_succ]
    refine onH 8 (fun KK hKK => ?_)
    refine step_copy_splice rfl (.tmp 21) (.tmp 28) 24 24 rfl 5 Tryd.underlying24 hsz8 _ _ _ _ _ _ rfl rfl (B + 1 + 1) 16 ((Ky.mk s 1).map u8v ++ [Value.bool ph]) 29 HI5.out.o ((Ky.lab s (Ky.labB 1) 12).map u8v) ?_ (fun _ => ⟨rfl, rd_src HR5.out (by rw [Ky.lab_len]; decide)⟩) ?_ ?_ (B + 1 + 1) _ (Below.refl _ _) (Nat.le_refl _) ?_
    ·rw [List.length_map, Ky.lab_len]; rfl
    ·rw [List.length_map, List.length_append, List.length_map, Ky.mk_len, Ky.lab_len]; show _ + _ ≤ 60 + 1; decide
    ·intro v hv
     obtain ⟨c, _, rfl⟩ := List.mem_map.1 hv
     rfl
    intro w6 hg6 hb6
    have HN : Hid (MkI w B s ph (1 + 1) w6) := HI5.out.next HB.out hb6 (by have h := hg6.out; rw [show splice _ _ _ = _ from mk_splice1 s (Value.bool ph)] at h; exact h)
    clear hg6 hb6
    refine hKK.out _ _ ?_ (fun hh8 => ?_)
    ·(try dsimp only)
     exact ⟨HN.out.h, HN.out.bel⟩
    clear hKK KK
    try simp only [Act.put, setIfInBounds_toArray, set_cons_zero, set_cons_succ]
    refine wpAnyH_done (by kernel_rfl) ?_ _
    go_wp2
    go_roundw
    case rel => exact ⟨1 + 1, by omega, by go_num, HN.out⟩
    case measure => simp [intOf]
   ·have hix : ∀ W, (Instr.index 70 (.agg #[.slice (some ⟨B + 1 + 1, 0, none⟩) 16 16, .slice (some ⟨B + 1 + 1, 16, none⟩) 12 12, .slice (some ⟨B + 1 + 1, 28, none⟩) 32 32]) (.int .i64 2)).run Tryd.prog W = .ok (.slice (some ⟨B + 1 + 1, 28, none⟩) 32 32) W := fun W => idx3 _ _ _ 2 (by decide) W
    go_wp2
    have HLB : Hid (∀ W, Below w.heap.size w W → Calls Tryd.prog 39 #[.agg (cellsN s), .string (Ky.labB 2), .int .i64 32] W fun e w' => ∃ A c, e = .returned (.slice A 32 c) ∧ Rd w' A (Ky.lab s (Ky.labB 2) 32) ∧ Below W.heap.size W w') := fun W hb => label_ky s (Ky.labB 2) 32 W (HT.out.below hb).t HS.out HQ.out (by decide) (by decide)
    refine wp_region_held_drew (S := (fun wq => Obj wq B 23 (cellsN s) ∧ Below w.heap.size w wq)) (by kernel_rfl) ⟨HI.out.drew.h, HI.out.drew.bel⟩ (fun hHeld => ?_)
    refine tkH 0 ?_
    refine tkH 1 ?_ (hy := by
     refine yieldsIf_load_row (g := B) (t := 23) (cs := cellsN s) (ty := 23) (x := (.tmp 2)) ?_ ?_ ?_ ?_ Tryd.underlying23 rfl HIH.out
     ·rfl
     ·rfl
     ·rfl
     ·exact fun w hSw => hSw.1)
    refine tkH 2 ?_
    refine tkH 3 ?_
    refine tkH 4 (v := .string (Ky.labB 2)) ?_ (hy := by
     refine Or.inl ⟨by rfl, ?_⟩
     intro wq hSw
     have q := (hSw.2.cell (p := ⟨0, 2, none⟩) HT.out.sz).trans (HT.out.l 2 (by decide))
     go_simp
     all_goals with_reducible rfl)
    refine tkH 5 ?_
    refine tkH 6 ?_
    refine onH 7 (fun KK hKK => ?_)
    go_simp
    refine (HLB.out _ HI.out.drew.bel).mono ?_
    rintro e w5 ⟨A5, c5, rfl, hr5, hb5⟩
    have HI5 := Lib.hid (HI.out.drew.kept hb5)
    have HR5 := Lib.hid hr5
    clear hb5 hr5
    try go_wp2_with fail
    refine hKK.out _ _ ?_ (fun hh7 => ?_)
    ·(try dsimp only)
     exact ⟨HI5.out.h, HI5.out.bel⟩
    clear hKK KK
    try simp only [Act.put, setIfInBounds_toArray, set_cons_zero, set_cons_succ]
    refine onH 8 (fun KK hKK => ?_)
    refine step_copy_splice rfl (.tmp 21) (.tmp 28) 24 24 rfl 5 Tryd.underlying24 hsz8 _ _ _ _ _ _ rfl rfl (B + 1 + 1) 28 ((Ky.mk s 2).map u8v ++ [Value.bool ph]) 29 HI5.out.o ((Ky.lab s (Ky.labB 2) 32).map u8v) ?_ (fun _ => ⟨rfl, rd_src HR5.out (by rw [Ky.lab_len]; decide)⟩) ?_ ?_ (B + 1 + 1) _ (Below.refl _ _) (Nat.le_refl _) ?_
    ·rw [List.length_map, Ky.lab_len]; rfl
    ·rw [List.length_map, List.length_append, List.length_map, Ky.mk_len, Ky.lab_len]; show _ + _ ≤ 60 + 1; decide
    ·intro v hv
     obtain ⟨c, _, rfl⟩ := List.mem_map.1 hv
     rfl
    intro w6 hg6 hb6
    have HN : Hid (MkI w B s ph (2 + 1) w6) := HI5.out.next HB.out hb6 (by have h := hg6.out; rw [show splice _ _ _ = _ from mk_splice2 s (Value.bool ph)] at h; exact h)
    clear hg6 hb6
    refine hKK.out _ _ ?_ (fun hh8 => ?_)
    ·(try dsimp only)
     exact ⟨HN.out.h, HN.out.bel⟩
    clear hKK KK
    try simp only [Act.put, setIfInBounds_toArray, set_cons_zero, set_cons_succ]
    refine wpAnyH_done (by kernel_rfl) ?_ _
    go_wp2
    go_roundw
    case rel => exact ⟨2 + 1, by omega, by go_num, HN.out⟩
    case measure => simp [intOf]
  ·obtain rfl : k = 3 := by omega
   have HJ := Lib.hid hI
   have HOK := Lib.hid (Ky.make_ok s ph)
   have HIS := Lib.hid (sizeSec HOK.out)
   have HSN : Hid (zSec.size = (secV (Ky.make s ph)).size) := by unfold Hid zSec; rw [pSec_size, secV_size HOK.out]
   have hO : Obj wr (B + 1 + 1) 29 (secV (Ky.make s ph)) := hI.o
   have hFB : Below w.heap.size w (wr.setRow (B + 1) (secV (Ky.make s ph))) := Upd.below hI.bel (by have := HB.out; omega) ((Upd.refl _ _).row _)
   have HO := Lib.hid hO
   have HFB := Lib.hid hFB
   clear hI hFB hO
   go_wp2_with (first
    | (refine wpList_load_row rfl 29 (.tmp 5) rfl _ rfl _ _ _ _ HO.out Tryd.underlying29 rfl HIS.out ?_)
    | (refine wpList_store_row rfl 29 (.tmp 4) (.tmp 31) rfl _ _ rfl rfl _ _ HJ.out.r HIS.out HSN.out (one_rowT _ _) ?_))
   exact bodyPost_ret (v := .agg (secV (Ky.make s ph))) (results_cell_row rfl _ _ _ _ _ _ _ rfl (HJ.out.r.row _) Tryd.underlying29 rfl HIS.out) rfl ⟨rfl, HFB.out⟩
end Go.Proofs.YtabfcaidioohfaaDoor
namespace Go.Proofs.YtabfcaidioohfaaDoor
open List (getElem?_toArray getElem?_cons_zero getElem?_cons_succ setIfInBounds_toArray set_cons_zero set_cons_succ)
open Go Go.RowKit Go.Shelf
set_option linter.unusedVariables false
set_option linter.unusedSimpArgs false
set_option maxRecDepth 100000
/-- nonce under way. -/
structure NoI (w : World) (B : Nat) (s : Ky.Sec) (u i : Nat) (V : World) : Prop where
 o : Obj V B 29 (secV s)
 r : Obj V (B + 1) 27 (cellsN (List.replicate 12 0))
 b : Obj V (B + 1 + 1) 27 (cellsN (Ky.nonceK s.iv u i))
 bel : Below w.heap.size w V
theorem NoI.drew {w V : World} {B u i : Nat} {s : Ky.Sec} (h : NoI w B s u i V) : NoI w B s u i V.drew := ⟨h.o, h.r, h.b, h.bel.drew⟩
theorem NoI.set {w V : World} {B u i a : Nat} {s : Ky.Sec} (h : NoI w B s u i V) (hw : w.heap.size = B) (hi : i < 12) (ha : 11 - i = a) : NoI w B s u (i + 1) (V.setCell ⟨B + 1 + 1, a, none⟩ (.int .u8 ((s.iv.getD a 0 ^^^ (u / 256 ^ i % 256) : Nat) : Int))) := by
 refine ⟨h.o.far (by simp <;> omega) _, h.r.far (by simp <;> omega) _, ?_, h.bel.setCell (by simp; omega) _⟩
 have := h.b.setN a (s.iv.getD a 0 ^^^ (u / 256 ^ i % 256))
 rwa [← ha, Ky.nonceK_set _ _ _ hi, ha] at this
set_option maxHeartbeats 4000000 in
theorem nonce_any (s : Ky.Sec) (n : Int) (u : Nat) (w : World) (hs : s.Ok) (hu : IntKind.u64.wrap n = (u : Int)) (hu2 : u < 18446744073709551616) :
  Calls Tryd.prog 41 #[.agg (secV s), .int .i64 n] w fun e w' => e = .returned (.agg (cellsN (Ky.nonce s u))) ∧ Below w.heap.size w w' := by
 obtain ⟨B, hB⟩ : ∃ B, w.heap.size = B := ⟨_, rfl⟩
 obtain ⟨W2, hW2⟩ : ∃ W2, (w.alloc (.cells (secV s) 29)).alloc (.cells #[.int .u8 0, .int .u8 0, .int .u8 0, .int .u8 0, .int .u8 0, .int .u8 0, .int .u8 0, .int .u8 0, .int .u8 0, .int .u8 0, .int .u8 0, .int .u8 0] 27) = W2 := ⟨_, rfl⟩
 have hb2 : Below w.heap.size w W2 := hW2 ▸ ((Below.refl _ w).alloc (Nat.le_refl _) _).alloc (by simp) _
 have s2 : W2.heap.size = B + 1 + 1 := by rw [← hW2]; simp [hB]
 have o0 : Obj W2 B 29 (secV s) := hW2 ▸ hB ▸ (Obj.new w _ _).alloc _
 have o1 : Obj W2 (B + 1) 27 (cellsN (List.replicate 12 0)) := by
  have := new2 w (.cells (secV s) 29) 27 #[.int .u8 0, .int .u8 0, .int .u8 0, .int .u8 0, .int .u8 0, .int .u8 0, .int .u8 0, .int .u8 0, .int .u8 0, .int .u8 0, .int .u8 0, .int .u8 0]
  rw [hB, hW2] at this; exact this
 have HRI := Lib.hid (o0.secI hs)
 have HI12 : Hid ((Tryd.prog.info? 27).map (·.size) = some (s.iv.map u8v).length) := by unfold Hid; rw [List.length_map, hs.li]; exact info12'
 have HI12N : Hid ((Tryd.prog.info? 27).map (·.size) = some (cellsN s.iv).size) := size12 hs.li
 have hON : Obj (W2.alloc (.cells #[.int .u8 0, .int .u8 0, .int .u8 0, .int .u8 0, .int .u8 0, .int .u8 0, .int .u8 0, .int .u8 0, .int .u8 0, .int .u8 0, .int .u8 0, .int .u8 0] 27)) (B + 1 + 1) 27 #[.int .u8 0, .int .u8 0, .int .u8 0, .int .u8 0, .int .u8 0, .int .u8 0, .int .u8 0, .int .u8 0, .int .u8 0, .int .u8 0, .int .u8 0, .int .u8 0] := s2 ▸ Obj.new W2 _ _
 have U3 := (Upd.refl (B + 1 + 1) (W2.alloc (.cells #[.int .u8 0, .int .u8 0, .int .u8 0, .int .u8 0, .int .u8 0, .int .u8 0, .int .u8 0, .int .u8 0, .int .u8 0, .int .u8 0, .int .u8 0, .int .u8 0] 27))).row (cellsN s.iv)
 obtain ⟨W3, hW3⟩ : ∃ W3, (W2.alloc (.cells #[.int .u8 0, .int .u8 0, .int .u8 0, .int .u8 0, .int .u8 0, .int .u8 0, .int .u8 0, .int .u8 0, .int .u8 0, .int .u8 0, .int .u8 0, .int .u8 0] 27)).setRow (B + 1 + 1) (cellsN s.iv) = W3 := ⟨_, rfl⟩
 have HI0 : Hid (NoI w B s u 0 W3) := by
  refine ⟨hW3 ▸ (o0.alloc _).upd U3 (by omega), hW3 ▸ (o1.alloc _).upd U3 (by omega), ?_, hW3 ▸ Upd.below (hb2.alloc hb2.size _) (by omega) U3⟩
  rw [Ky.nonceK_zero u hs.li]; exact hW3 ▸ hON.row _
 have HSZ : Hid ((#[.int .u8 0, .int .u8 0, .int .u8 0, .int .u8 0, .int .u8 0, .int .u8 0, .int .u8 0, .int .u8 0, .int .u8 0, .int .u8 0, .int .u8 0, .int .u8 0] : Array Value).size = (cellsN s.iv).size) := by unfold Hid; rw [cellsN_size, hs.li]; rfl
 have HON := Lib.hid hON
 have HW2 := Lib.hid hW2
 have HW3 := Lib.hid hW3
 have HLI := Lib.hid hs.li
 have HQI := Lib.hid hs.qi
 have HB := Lib.hid hB
 have HS2 := Lib.hid s2
 clear hW2 hW3 hb2 s2 o0 o1 hON U3 hs
 go_enter Tryd.func41, Tryd.ntmps41
 go_wp2_with (first
  | (rw [HW2.out]; refine wpList_load_mid rfl 27 (.tmp 7) rfl B 16 rfl _ _ HRI.out Tryd.underlying27 rfl HI12.out ?_; rw [cellsN_arr])
  | (refine wpList_store_row rfl 27 (.tmp 5) (.tmp 8) rfl (B + 1 + 1) _ (by rw [← HS2.out]; rfl) rfl _ _ HON.out HI12N.out HSZ.out (one_cellsN _) ?_; rw [HW3.out]))
 rw [HS2.out]
 go_loopw [6, 9] (fun _ i V => ∃ k : Nat, k ≤ 8 ∧ i = .int .i64 (k : Int) ∧ NoI w B s u k V) (fun _ i _ => 8 - (intOf i).toNat)
 case atStart => exact ⟨0, Nat.zero_le _, rfl, HI0.out⟩
 case round =>
  clear HI0 HON HW2 HW3 HS2 HRI
  obtain ⟨k, hk, rfl, hI⟩ := hrel
  by_cases hlt : k < 8
  ·have hki : (k : Int) < 8 := by omega
   obtain ⟨a, ha⟩ : ∃ a, 11 - k = a := ⟨_, rfl⟩
   obtain ⟨q, hq⟩ : ∃ q, 8 * k = q := ⟨_, rfl⟩
   have e1 : 11 - (k : Int) = (a : Int) := by omega
   have e3 : 8 * (k : Int) = (q : Int) := by omega
   have r0 : wr.cell? ⟨B + 1 + 1, a, none⟩ = some (.int .u8 ((s.iv.getD a 0 : Nat) : Int)) := by
    have := hI.b.getN a (by rw [Ky.nonceK_len]; omega)
    rwa [Ky.nonceK_get _ _ _ _ (by omega), if_neg (by omega)] at this
   have z0 := hI.b.free a
   have hu3 : n % 18446744073709551616 = (u : Int) := by rw [← hu, IntKind.wrap_u64]
   have hp : (256 : Nat) ^ k = 2 ^ q := by rw [← hq]; exact Gc.pow256 k
   have v0 : (u : Int) / 2 ^ q % 256 = ((u / 256 ^ k % 256 : Nat) : Int) := by rw [hp]; simp
   have hxr := u8_xor_nat (s.iv.getD a 0) (u / 256 ^ k % 256) (Ae.bytes_get HQI.out a) (Nat.mod_lt _ (by decide))
   have HNX : Hid (NoI w B s u (k + 1) (wr.setCell ⟨B + 1 + 1, a, none⟩ (.int .u8 ((s.iv.getD a 0 ^^^ (u / 256 ^ k % 256) : Nat) : Int))).drew) := (hI.set HB.out (by omega) ha).drew
   clear hI ha hq hp
   generalize u / 256 ^ k % 256 = y at *
   generalize s.iv.getD a 0 = x at *
   go_wp2
   go_region
   go_wp2
   go_roundw
   case rel => exact ⟨k + 1, by omega, by go_num, HNX.out⟩
   case measure => simp [intOf]; omega
  ·obtain rfl : k = 8 := by omega
   have HJ := Lib.hid hI
   have HIN := Lib.hid (size12 (Ky.nonceK_len s.iv u 8))
   have HSN : Hid ((cellsN (List.replicate 12 0)).size = (cellsN (Ky.nonceK s.iv u 8)).size) := by unfold Hid; rw [cellsN_size, cellsN_size, Ky.nonceK_len]; rfl
   have hFB : Below w.heap.size w (wr.setRow (B + 1) (cellsN (Ky.nonceK s.iv u 8))) := Upd.below hI.bel (by have := HB.out; omega) ((Upd.refl _ _).row _)
   have HFB := Lib.hid hFB
   clear hI hFB
   go_wp2_with (first
    | (refine wpList_load_row rfl 27 (.tmp 5) rfl _ rfl _ _ _ _ HJ.out.b Tryd.underlying27 rfl HIN.out ?_)
    | (refine wpList_store_row rfl 27 (.tmp 4) (.tmp 25) rfl _ _ rfl rfl _ _ HJ.out.r HIN.out HSN.out (one_cellsN _) ?_))
   exact bodyPost_ret (v := .agg (cellsN (Ky.nonceK s.iv u 8))) (results_cell_row rfl _ _ _ _ _ _ _ rfl (HJ.out.r.row _) Tryd.underlying27 rfl HIN.out) rfl ⟨rfl, HFB.out⟩
end Go.Proofs.YtabfcaidioohfaaDoor
namespace Go.Proofs.YtabfcaidioohfaaDoor
open List (getElem?_toArray getElem?_cons_zero getElem?_cons_succ setIfInBounds_toArray set_cons_zero set_cons_succ)
open Go Go.RowKit Go.Shelf
set_option linter.unusedVariables false
set_option linter.unusedSimpArgs false
set_option maxRecDepth 100000
set_option maxHeartbeats 4000000 in
theorem kseal_any (s : Ky.Sec) (n : Int) (u : Nat) (A1 : Option Addr) (n1 c1 : Nat) (more : List Nat) (A2 : Option Addr) (n2 c2 : Nat) (text : List Nat) (w : World) (hs : s.Ok) (hu : IntKind.u64.wrap n = (u : Int)) (hu2 : u < 18446744073709551616) (r1 : Rd w A1 more) (m1 : more.length = n1) (b1 : Ae.bytes more) (k1 : n1 ≤ 100000 ∧ n1 ≤ c1 ∧ c1 ≤ 9223372036854775807) (r2 : Rd w A2 text) (m2 : text.length = n2) (b2 : Ae.bytes text) (k2 : n2 ≤ 100000 ∧ n2 ≤ c2 ∧ c2 ≤ 9223372036854775807) :
  Calls Tryd.prog 14 #[.agg (secV s), .int .i64 n, .slice A1 n1 c1, .slice A2 n2 c2] w fun e w' => ∃ v, e = .returned v ∧ w'.ownsRow w.heap.size 5 1 v (n2 + 16) ((Ky.sealW s u more text).map u8v) ∧ Below w.heap.size w w' := by
 have HNO : Hid (∀ W, Calls Tryd.prog 41 #[.agg (secV s), .int .i64 n] W fun e w' => e = .returned (.agg (cellsN (Ky.nonce s u))) ∧ Below W.heap.size W w') := fun W => nonce_any s n u W hs hu hu2
 have HSE : Hid (∀ W, Below w.heap.size w W → Calls Tryd.prog 44 #[.agg (cellsN s.k), .agg (cellsN (Ky.nonce s u)), .slice A1 n1 c1, .slice A2 n2 c2] W fun e w' => ∃ v, e = .returned v ∧ w'.ownsRow w.heap.size 5 1 v (n2 + 16) ((Ky.sealW s u more text).map u8v) ∧ Below W.heap.size W w') := fun W hb =>
  (Seal_any s.k (Ky.nonce s u) A1 n1 c1 more A2 n2 c2 text W hs.lk hs.qk (Ky.nonce_len s u) (Ky.nonce_bytes u hs) (r1.below hb) m1 b1 ⟨by omega, k1.2⟩ (r2.below hb) m2 b2 (by omega)).mono fun e w' ⟨v, h1, h2, h3⟩ => ⟨v, h1, own_base h2 hb.size, h3⟩
 obtain ⟨W1, hW1⟩ : ∃ W1, w.alloc (.cells (secV s) 29) = W1 := ⟨_, rfl⟩
 have hb1 : Below w.heap.size w W1 := hW1 ▸ (Below.refl _ w).alloc (Nat.le_refl _) _
 have h01 : Obj W1 w.heap.size 29 (secV s) := hW1 ▸ Obj.new w _ _
 have H1 : Hid (Obj W1.drew w.heap.size 29 (secV s) ∧ Below w.heap.size w W1.drew) := ⟨h01.drew, hb1.drew⟩
 have HI16 : Hid ((Tryd.prog.info? 26).map (·.size) = some (s.k.map u8v).length) := by unfold Hid; rw [List.length_map, hs.lk]; exact info16
 have HIS := Lib.hid (sizeSec hs)
 have HW1 := Lib.hid hW1
 clear hW1 hb1 h01 hs
 clear r1 m1 b1 k1 r2 m2 b2 k2 hu hu2
 go_enter Tryd.func14, Tryd.ntmps14
 go_wp2
 refine wp_region_held_drew (S := (fun wq => Obj wq w.heap.size 29 (secV s) ∧ Below w.heap.size w wq)) (by kernel_rfl) (by rw [HW1.out]; exact H1.out) (fun hHeld => ?_)
 rw [HW1.out]
 refine tkH 0 ?_
 refine tkH 1 (v := .agg (cellsN s.k)) ?_ (hy := by
  refine yieldsIf_load_mid ?_ 26 (.tmp 9) ?_ w.heap.size 0 ?_ (s.k.map u8v) _ ?_ Tryd.underlying26 rfl HI16.out
  ·rfl
  ·rfl
  ·rfl
  ·exact fun w hSw => hSw.1.secK)
 refine tkH 2 ?_ (hy := by
  refine yieldsIf_load_row (g := w.heap.size) (t := 29) (cs := secV s) (ty := 29) (x := (.tmp 4)) ?_ ?_ ?_ ?_ Tryd.underlying29 rfl HIS.out
  ·rfl
  ·rfl
  ·rfl
  ·exact fun w hSw => hSw.1)
 refine tkH 3 ?_
 refine tkH 5 ?_
 refine tkH 6 ?_
 refine onH 4 (fun KK hKK => ?_)
 go_simp
 refine (HNO.out _).mono ?_
 rintro e w2 ⟨rfl, hb2⟩
 have H2 : Hid (Obj w2 w.heap.size 29 (secV s) ∧ Below w.heap.size w w2) := ⟨H1.out.1.kept hb2, H1.out.2.trans (hb2.mono H1.out.2.size)⟩
 clear hb2
 try go_wp2_with fail
 refine hKK.out _ _ ?_ (fun hh4 => ?_)
 ·(try dsimp only)
  exact H2.out
 clear hKK KK
 try simp only [Act.put, setIfInBounds_toArray, set_cons_zero, set_cons_succ]
 refine onH 7 (fun KK hKK => ?_)
 go_simp
 refine (HSE.out _ H2.out.2).mono ?_
 rintro e w3 ⟨v3, rfl, ho3, hb3⟩
 have H3 : Hid (Obj w3 w.heap.size 29 (secV s) ∧ Below w.heap.size w w3) := ⟨H2.out.1.kept hb3, H2.out.2.trans (hb3.mono H2.out.2.size)⟩
 have HO := Lib.hid ho3
 clear hb3 ho3
 try go_wp2_with fail
 refine hKK.out _ _ ?_ (fun hh7 => ?_)
 ·(try dsimp only)
  exact H3.out
 clear hKK KK
 try simp only [Act.put, setIfInBounds_toArray, set_cons_zero, set_cons_succ]
 refine tkH 8 ?_
 refine wpAnyH_done (by kernel_rfl) ?_ _
 go_wp2
 go_ret
 exact ⟨_, rfl, HO.out, H3.out.2⟩
set_option maxHeartbeats 4000000 in
theorem kopen_fr (s : Ky.Sec) (n : Int) (u : Nat) (A1 : Option Addr) (n1 c1 : Nat) (more : List Nat) (A2 : Option Addr) (n2 c2 : Nat) (text : List Nat) (w : World) (hs : s.Ok) (hu : IntKind.u64.wrap n = (u : Int)) (hu2 : u < 18446744073709551616) (r1 : Rd w A1 more) (m1 : more.length = n1) (b1 : Ae.bytes more) (k1 : n1 ≤ 100000 ∧ n1 ≤ c1 ∧ c1 ≤ 9223372036854775807) (r2 : Rd w A2 text) (m2 : text.length = n2) (b2 : Ae.bytes text) (k2 : n2 ≤ 100000 ∧ n2 ≤ c2 ∧ c2 ≤ 9223372036854775807) :
  Calls Tryd.prog 11 #[.agg (secV s), .int .i64 n, .slice A1 n1 c1, .slice A2 n2 c2] w fun e w' => ∃ A n c, e = .returned (.tuple #[.slice A n c, .int .i64 ((Ky.open' s u more text).1 : Int)]) ∧ Rd w' A (Ky.open' s u more text).2 ∧ (Ky.open' s u more text).2.length = n ∧ n ≤ c ∧ Below w.heap.size w w' ∧ Fr w.heap.size A := by
 have HNO : Hid (∀ W, Calls Tryd.prog 41 #[.agg (secV s), .int .i64 n] W fun e w' => e = .returned (.agg (cellsN (Ky.nonce s u))) ∧ Below W.heap.size W w') := fun W => nonce_any s n u W hs hu hu2
 obtain ⟨E, hE⟩ : ∃ E, (Ky.open' s u more text).1 = E := ⟨_, rfl⟩
 obtain ⟨t, ht⟩ : ∃ t, (Ky.open' s u more text).2 = t := ⟨_, rfl⟩
 have HSE : Hid (∀ W, Below w.heap.size w W → Calls Tryd.prog 40 #[.agg (cellsN s.k), .agg (cellsN (Ky.nonce s u)), .slice A1 n1 c1, .slice A2 n2 c2] W fun e w' => ∃ A n c, e = .returned (.tuple #[.slice A n c, .int .i64 (E : Int)]) ∧ Rd w' A t ∧ t.length = n ∧ n ≤ c ∧ Below W.heap.size W w' ∧ Fr W.heap.size A) := fun W hb => by
  rw [← hE, ← ht]
  exact Open_fr s.k (Ky.nonce s u) A1 n1 c1 more A2 n2 c2 text W hs.lk hs.qk (Ky.nonce_len s u) (Ky.nonce_bytes u hs) (r1.below hb) m1 b1 ⟨by omega, k1.2⟩ (r2.below hb) m2 b2 ⟨by omega, k2.2⟩
 rw [hE, ht]
 clear hE ht
 obtain ⟨W1, hW1⟩ : ∃ W1, w.alloc (.cells (secV s) 29) = W1 := ⟨_, rfl⟩
 have hb1 : Below w.heap.size w W1 := hW1 ▸ (Below.refl _ w).alloc (Nat.le_refl _) _
 have h01 : Obj W1 w.heap.size 29 (secV s) := hW1 ▸ Obj.new w _ _
 have H1 : Hid (Obj W1.drew w.heap.size 29 (secV s) ∧ Below w.heap.size w W1.drew) := ⟨h01.drew, hb1.drew⟩
 have HI16 : Hid ((Tryd.prog.info? 26).map (·.size) = some (s.k.map u8v).length) := by unfold Hid; rw [List.length_map, hs.lk]; exact info16
 have HIS := Lib.hid (sizeSec hs)
 have HW1 := Lib.hid hW1
 clear hW1 hb1 h01 hs
 clear r1 m1 b1 k1 r2 m2 b2 k2 hu hu2
 go_enter Tryd.func11, Tryd.ntmps11
 go_wp2
 refine wp_region_held_drew (S := (fun wq => Obj wq w.heap.size 29 (secV s) ∧ Below w.heap.size w wq)) (by kernel_rfl) (by rw [HW1.out]; exact H1.out) (fun hHeld => ?_)
 rw [HW1.out]
 refine tkH 0 ?_
 refine tkH 1 (v := .agg (cellsN s.k)) ?_ (hy := by
  refine yieldsIf_load_mid ?_ 26 (.tmp 10) ?_ w.heap.size 0 ?_ (s.k.map u8v) _ ?_ Tryd.underlying26 rfl HI16.out
  ·rfl
  ·rfl
  ·rfl
  ·exact fun w hSw => hSw.1.secK)
 refine tkH 2 ?_ (hy := by
  refine yieldsIf_load_row (g := w.heap.size) (t := 29) (cs := secV s) (ty := 29) (x := (.tmp 4)) ?_ ?_ ?_ ?_ Tryd.underlying29 rfl HIS.out
  ·rfl
  ·rfl
  ·rfl
  ·exact fun w hSw => hSw.1)
 refine tkH 3 ?_
 refine tkH 5 ?_
 refine tkH 6 ?_
 refine onH 4 (fun KK hKK => ?_)
 go_simp
 refine (HNO.out _).mono ?_
 rintro e w2 ⟨rfl, hb2⟩
 have H2 : Hid (Obj w2 w.heap.size 29 (secV s) ∧ Below w.heap.size w w2) := ⟨H1.out.1.kept hb2, H1.out.2.trans (hb2.mono H1.out.2.size)⟩
 clear hb2
 try go_wp2_with fail
 refine hKK.out _ _ ?_ (fun hh4 => ?_)
 ·(try dsimp only)
  exact H2.out
 clear hKK KK
 try simp only [Act.put, setIfInBounds_toArray, set_cons_zero, set_cons_succ]
 refine onH 7 (fun KK hKK => ?_)
 go_simp
 refine (HSE.out _ H2.out.2).mono ?_
 rintro e w3 ⟨A3, n3, c3, rfl, hr3, hl3, hc3, hb3, hf3⟩
 have HFR := Lib.hid (hf3.mono H2.out.2.size)
 clear hf3
 have H3 : Hid (Obj w3 w.heap.size 29 (secV s) ∧ Below w.heap.size w w3) := ⟨H2.out.1.kept hb3, H2.out.2.trans (hb3.mono H2.out.2.size)⟩
 have HO := Lib.hid hr3
 have HL := Lib.hid hl3
 clear hb3 hr3 hl3
 try go_wp2_with fail
 refine hKK.out _ _ ?_ (fun hh7 => ?_)
 ·(try dsimp only)
  exact H3.out
 clear hKK KK
 try simp only [Act.put, setIfInBounds_toArray, set_cons_zero, set_cons_succ]
 refine tkH 8 ?_
 refine tkH 9 ?_
 refine tkH 10 ?_
 refine tkH 11 ?_
 refine wpAnyH_done (by kernel_rfl) ?_ _
 go_wp2
 refine bodyPost_ret (results_tmp2 rfl _ _ _) rfl ?_
 exact ⟨_, _, _, rfl, HO.out, HL.out, hc3, H3.out.2, HFR.out⟩
theorem kopen_any (s : Ky.Sec) (n : Int) (u : Nat) (A1 : Option Addr) (n1 c1 : Nat) (more : List Nat) (A2 : Option Addr) (n2 c2 : Nat) (text : List Nat) (w : World) (hs : s.Ok) (hu : IntKind.u64.wrap n = (u : Int)) (hu2 : u < 18446744073709551616) (r1 : Rd w A1 more) (m1 : more.length = n1) (b1 : Ae.bytes more) (k1 : n1 ≤ 100000 ∧ n1 ≤ c1 ∧ c1 ≤ 9223372036854775807) (r2 : Rd w A2 text) (m2 : text.length = n2) (b2 : Ae.bytes text) (k2 : n2 ≤ 100000 ∧ n2 ≤ c2 ∧ c2 ≤ 9223372036854775807) :
  Calls Tryd.prog 11 #[.agg (secV s), .int .i64 n, .slice A1 n1 c1, .slice A2 n2 c2] w fun e w' => ∃ A n c, e = .returned (.tuple #[.slice A n c, .int .i64 ((Ky.open' s u more text).1 : Int)]) ∧ Rd w' A (Ky.open' s u more text).2 ∧ (Ky.open' s u more text).2.length = n ∧ n ≤ c ∧ Below w.heap.size w w' :=
 (kopen_fr s n u A1 n1 c1 more A2 n2 c2 text w hs hu hu2 r1 m1 b1 k1 r2 m2 b2 k2).mono fun e w' ⟨A, n, c, h1, h2, h3, h4, h5, _⟩ => ⟨A, n, c, h1, h2, h3, h4, h5⟩
set_option maxHeartbeats 4000000 in
theorem update_any (s : Ky.Sec) (w : World) (ht : KTab w) (hs : s.Ok) :
  Calls Tryd.prog 16 #[.agg (secV s)] w fun e w' => e = .returned (.agg (secV (Ky.upd s))) ∧ Below w.heap.size w w' := by
 obtain ⟨B, hB⟩ : ∃ B, w.heap.size = B := ⟨_, rfl⟩
 obtain ⟨W2, hW2⟩ : ∃ W2, (w.alloc (.cells (secV s) 29)).alloc (.cells zSec 29) = W2 := ⟨_, rfl⟩
 have hb2 : Below w.heap.size w W2 := hW2 ▸ ((Below.refl _ w).alloc (Nat.le_refl _) _).alloc (by simp) _
 have o0 : Obj W2 B 29 (secV s) := hW2 ▸ hB ▸ (Obj.new w _ _).alloc _
 have o1 : Obj W2 (B + 1) 29 zSec := by
  have := new2 w (.cells (secV s) 29) 29 zSec
  rw [hB, hW2] at this; exact this
 have HRN := Lib.hid (o0.secN hs)
 have hph := o0.secP hs
 have HI32 : Hid ((Tryd.prog.info? 23).map (·.size) = some (s.nx.map u8v).length) := by unfold Hid; rw [List.length_map, hs.ln]; exact infoH'
 have HMK : Hid (∀ W, Below w.heap.size w W → Calls Tryd.prog 10 #[.agg (cellsN s.nx), .bool (!s.ph)] W fun e w' => e = .returned (.agg (secV (Ky.upd s))) ∧ Below W.heap.size W w') := fun W hb => make_any s.nx (!s.ph) W (ht.below hb) hs.ln hs.qn
 have HOK := Lib.hid (Ky.make_ok s.nx (!s.ph))
 have HIS : Hid ((Tryd.prog.info? 29).map (·.size) = some (secV (Ky.upd s)).size) := sizeSec HOK.out
 have HSN : Hid (zSec.size = (secV (Ky.upd s)).size) := by unfold Hid zSec Ky.upd; rw [pSec_size, secV_size HOK.out]
 have HO1 := Lib.hid o1
 have HB2 := Lib.hid hb2
 have HW2 := Lib.hid hW2
 have HB := Lib.hid hB
 clear hW2 hb2 o0 o1 ht hs
 go_enter Tryd.func16, Tryd.ntmps16
 go_wp2_with (first
  | (refine wpList_allocS rfl rfl ?_)
  | (rw [HW2.out]; refine wpList_load_mid rfl 23 (.tmp 3) rfl B 28 rfl _ _ HRN.out Tryd.underlying23 rfl HI32.out ?_; rw [cellsN_arr]))
 refine (HMK.out _ HB2.out).mono ?_
 rintro e w3 ⟨rfl, hb3⟩
 have HO3 := Lib.hid (HO1.out.kept hb3)
 have hb4 := HB2.out.trans (hb3.mono HB2.out.size)
 have hFB : Below w.heap.size w (w3.setRow (B + 1) (secV (Ky.upd s))) := Upd.below hb4 (by have := HB.out; omega) ((Upd.refl _ _).row _)
 have HFB := Lib.hid hFB
 clear hb3 hb4 hFB hph
 go_wp2_with (first
  | (refine wpList_store_row rfl 29 (.tmp 2) (.tmp 8) rfl (B + 1) _ rfl rfl _ _ HO3.out HIS.out HSN.out (one_rowT _ _) ?_))
 exact bodyPost_ret (v := .agg (secV (Ky.upd s))) (results_cell_row rfl _ _ _ _ _ _ _ rfl (HO3.out.row _) Tryd.underlying29 rfl HIS.out) rfl ⟨rfl, HFB.out⟩
end Go.Proofs.YtabfcaidioohfaaDoor
namespace Go.Proofs.YtabfcaidioohfaaDoor
open List (getElem?_toArray getElem?_cons_zero getElem?_cons_succ setIfInBounds_toArray set_cons_zero set_cons_succ)
open Go Go.RowKit Go.Shelf
set_option linter.unusedVariables false
set_option linter.unusedSimpArgs false
set_option maxRecDepth 100000
theorem rd_upd {w w' : World} {b o g : Nat} {l : List Nat} (h : Rd w (some ⟨b, o, none⟩) l) (hu : Upd g w w') (hne : b ≠ g) : Rd w' (some ⟨b, o, none⟩) l := fun hp => by
 obtain ⟨b', o', e, h1, h2⟩ := h hp
 cases e
 exact ⟨_, _, rfl, Nat.lt_of_lt_of_le h1 hu.size, fun j hj => (World.cell?_of_block (a := ⟨b, o + j, none⟩) (hu.block b h1 hne)).trans (h2 j hj)⟩
/-- What a region is held under may be made more on the way. -/
theorem wpAnyH_more {P : Program} {md : Region.Mode} {ops : Array Oper} {Q : Exit → Act → World → Prop} {S S' : World → Prop} (h : ∀ w, S' w → S w) : ∀ (fuel : Nat) (listed : Array Bool) (a : Act) (w : World), wpAnyH P md ops Q S' fuel listed a w → wpAnyH P md ops Q S fuel listed a w
 | 0, _, _, _, H => H
 | fuel + 1, listed, a, w, H => ⟨H.1, fun i hi => wpOp_mono (fun a' w' h' => ⟨h w' h'.1, wpAnyH_more h fuel _ a' w' h'.2⟩) (H.2 i hi)⟩
theorem sizeH32 {l : List Nat} (h : l.length = 32) : (Tryd.prog.info? 23).map (·.size) = some (cellsN l).size := by rw [cellsN_size, h]; exact infoH'
theorem sizeH32' {l : List Nat} (h : l.length = 32) : (Tryd.prog.info? 23).map (·.size) = some (l.map u8v).length := by rw [List.length_map, h]; exact infoH'
theorem rd_rangeAt {w : World} {b o : Nat} {l : List Nat} (h : Rd w (some ⟨b, o, none⟩) l) : w.rangeAt b o (l.map u8v) := fun j v hv => by
 rw [List.getElem?_map, Option.map_eq_some_iff] at hv
 obtain ⟨y, hy, rfl⟩ := hv
 have hj := (List.getElem?_eq_some_iff.1 hy).1
 obtain ⟨b', o', e, h1, h2⟩ := h (by omega)
 cases e
 rw [h2 j hj]
 simp [u8v, List.getD_eq_getElem?_getD, hy]
theorem rangeAt_upd {w w' : World} {b g o : Nat} {cs : List Value} (h : w.rangeAt b o cs) (hb : b < w.heap.size) (hne : b ≠ g) (h2 : Upd g w w') : w'.rangeAt b o cs := fun j v hv => (World.cell?_of_block (a := ⟨b, o + j, none⟩) (h2.block b hb hne)).trans (h j v hv)
theorem rangeAt_below {w w' : World} {b o : Nat} {cs : List Value} (h : w.rangeAt b o cs) (hb : b < w.heap.size) (h2 : Below w.heap.size w w') : w'.rangeAt b o cs := fun j v hv => (h2.cell (p := ⟨b, o + j, none⟩) hb).trans (h j v hv)
/-- Two secrets under way. -/
structure TwI (w : World) (B : Nat) (s l1 l2 : List Nat) (V : World) : Prop where
 h : Obj V B 23 (cellsN s)
 r1 : Obj V (B + 1) 23 (cellsN l1)
 r2 : Obj V (B + 1 + 1) 23 (cellsN l2)
 bel : Below w.heap.size w V
theorem TwI.drew {w V : World} {B : Nat} {s l1 l2 : List Nat} (h : TwI w B s l1 l2 V) : TwI w B s l1 l2 V.drew := ⟨h.h, h.r1, h.r2, h.bel.drew⟩
theorem TwI.kept {w V V' : World} {B : Nat} {s l1 l2 : List Nat} (h : TwI w B s l1 l2 V) (hb : Below V.heap.size V V') : TwI w B s l1 l2 V' :=
 ⟨h.h.kept hb, h.r1.kept hb, h.r2.kept hb, h.bel.trans (hb.mono h.bel.size)⟩
theorem TwI.set1 {w V : World} {B : Nat} {s l1 l2 : List Nat} (h : TwI w B s l1 l2 V) (hw : w.heap.size = B) (l : List Nat) : TwI w B s l l2 (V.setRow (B + 1) (cellsN l)) :=
 have u : Upd (B + 1) V (V.setRow (B + 1) (cellsN l)) := (Upd.refl _ V).row _
 ⟨h.h.upd u (by omega), h.r1.row _, h.r2.upd u (by omega), Upd.below h.bel (by omega) u⟩
theorem TwI.set2 {w V : World} {B : Nat} {s l1 l2 : List Nat} (h : TwI w B s l1 l2 V) (hw : w.heap.size = B) (l : List Nat) : TwI w B s l1 l (V.setRow (B + 1 + 1) (cellsN l)) :=
 have u : Upd (B + 1 + 1) V (V.setRow (B + 1 + 1) (cellsN l)) := (Upd.refl _ V).row _
 ⟨h.h.upd u (by omega), h.r1.upd u (by omega), h.r2.row _, Upd.below h.bel (by omega) u⟩
theorem toArr (b o c : Nat) (w : World) : (Instr.arrayAt 23 (.slice (some ⟨b, o, none⟩) 32 c)).run Tryd.prog w = .ok (.pointer (some ⟨b, o, none⟩)) w := by kernel_rfl
set_option maxHeartbeats 4000000 in
theorem two_any (s : List Nat) (a b : ByteArray) (w : World) (ht : KTab w) (hs : s.length = 32) (qs : Ae.bytes s) (ha : a.size ≤ 60) (hb : b.size ≤ 60) :
  Calls Tryd.prog 50 #[.agg (cellsN s), .string a, .string b] w fun e w' => e = .returned (.tuple #[.agg (cellsN (Ky.lab s a 32)), .agg (cellsN (Ky.lab s b 32))]) ∧ Below w.heap.size w w' := by
 obtain ⟨B, hB⟩ : ∃ B, w.heap.size = B := ⟨_, rfl⟩
 obtain ⟨L1, hL1⟩ : ∃ L, Ky.lab s a 32 = L := ⟨_, rfl⟩
 obtain ⟨L2, hL2⟩ : ∃ L, Ky.lab s b 32 = L := ⟨_, rfl⟩
 have l1 : L1.length = 32 := hL1 ▸ Ky.lab_len _ _ _
 have l2 : L2.length = 32 := hL2 ▸ Ky.lab_len _ _ _
 obtain ⟨W3, hW3⟩ : ∃ W3, ((w.alloc (.cells (cellsN s) 23)).alloc (.cells Z32 23)).alloc (.cells Z32 23) = W3 := ⟨_, rfl⟩
 have hb3 : Below w.heap.size w W3 := hW3 ▸ (((Below.refl _ w).alloc (Nat.le_refl _) _).alloc (by simp) _).alloc (by simp; omega) _
 have H0 : Hid (TwI w B s (List.replicate 32 0) (List.replicate 32 0) W3.drew) := by
  refine TwI.drew ⟨?_, ?_, ?_, hb3⟩
  ·exact hW3 ▸ hB ▸ ((Obj.new w _ _).alloc _).alloc _
  ·have := (new2 w (.cells (cellsN s) 23) 23 Z32).alloc (.cells Z32 23)
   rw [hB, hW3] at this; exact this
  ·have := Obj.new ((w.alloc (.cells (cellsN s) 23)).alloc (.cells Z32 23)) 23 Z32
   simp only [World.size_alloc, hB] at this; rw [hW3] at this; exact this
 have HL1 : Hid (∀ W, Below w.heap.size w W → Calls Tryd.prog 39 #[.agg (cellsN s), .string a, .int .i64 32] W fun e w' => ∃ g c, e = .returned (.slice (some ⟨g, 0, none⟩) 32 c) ∧ W.heap.size ≤ g ∧ g < w'.heap.size ∧ w'.rangeAt g 0 (L1.map u8v) ∧ Below W.heap.size W w') := fun W hw =>
  (label_fr s a 32 W (ht.below hw).t hs qs ha (by decide) (by decide)).mono fun e w' ⟨g, c, h1, hg, h2, h3⟩ => by
   rw [hL1] at h2
   obtain ⟨bb, oo, e4, hlt, _⟩ := h2 (by omega)
   cases e4
   exact ⟨_, c, h1, hg, hlt, rd_rangeAt h2, h3⟩
 have HL2 : Hid (∀ W, Below w.heap.size w W → Calls Tryd.prog 39 #[.agg (cellsN s), .string b, .int .i64 32] W fun e w' => ∃ g c, e = .returned (.slice (some ⟨g, 0, none⟩) 32 c) ∧ W.heap.size ≤ g ∧ g < w'.heap.size ∧ w'.rangeAt g 0 (L2.map u8v) ∧ Below W.heap.size W w') := fun W hw =>
  (label_fr s b 32 W (ht.below hw).t hs qs hb (by decide) (by decide)).mono fun e w' ⟨g, c, h1, hg, h2, h3⟩ => by
   rw [hL2] at h2
   obtain ⟨bb, oo, e4, hlt, _⟩ := h2 (by omega)
   cases e4
   exact ⟨_, c, h1, hg, hlt, rd_rangeAt h2, h3⟩
 have HIS := Lib.hid (sizeH32 hs)
 have HI1 := Lib.hid (sizeH32 l1)
 have HI2 := Lib.hid (sizeH32 l2)
 have HJ1 := Lib.hid (sizeH32' l1)
 have HJ2 := Lib.hid (sizeH32' l2)
 have HS1 : Hid ((cellsN (List.replicate 32 0)).size = (cellsN L1).size) := by unfold Hid; rw [cellsN_size, cellsN_size, l1]; rfl
 have HS2 : Hid ((cellsN (List.replicate 32 0)).size = (cellsN L2).size) := by unfold Hid; rw [cellsN_size, cellsN_size, l2]; rfl
 have HW3 := Lib.hid hW3
 have HB := Lib.hid hB
 rw [hL1, hL2]
 clear hb3 hW3 hL1 hL2 l1 l2 ht hs qs ha hb
 go_enter Tryd.func50, Tryd.ntmps50
 go_wp2
 rw [HW3.out]
 refine wp_region_held_drew (S := (fun wq => Obj wq B 23 (cellsN s) ∧ Below w.heap.size w wq)) (by kernel_rfl) ⟨H0.out.h, H0.out.bel⟩ (fun hHeld => ?_)
 refine tkH 0 ?_ (hy := by
  refine yieldsIf_load_row (g := B) (t := 23) (cs := cellsN s) (ty := 23) (x := (.tmp 3)) ?_ ?_ ?_ ?_ Tryd.underlying23 rfl HIS.out
  ·rfl
  ·rfl
  ·rfl
  ·exact fun w hSw => hSw.1)
 refine tkH 1 ?_
 refine tkH 5 ?_ (hy := by
  refine yieldsIf_load_row (g := B) (t := 23) (cs := cellsN s) (ty := 23) (x := (.tmp 3)) ?_ ?_ ?_ ?_ Tryd.underlying23 rfl HIS.out
  ·rfl
  ·rfl
  ·rfl
  ·exact fun w hSw => hSw.1)
 refine tkH 6 ?_
 refine onH 2 (fun KK hKK => ?_)
 go_simp
 refine (HL1.out _ H0.out.bel).mono ?_
 rintro e w2 ⟨b1, c1, rfl, hg1, hlt1, hr1, hb2⟩
 have H2 := Lib.hid (H0.out.kept hb2)
 have HR1 := Lib.hid hr1
 have hb1B : B + 1 + 1 < b1 := by have := H0.out.r2.lt; omega
 clear hb2 hr1 hg1
 try go_wp2_with fail
 refine hKK.out _ _ ?_ (fun hh2 => ?_)
 ·(try dsimp only)
  exact ⟨H2.out.h, H2.out.bel⟩
 clear hKK KK
 try simp only [Act.put, setIfInBounds_toArray, set_cons_zero, set_cons_succ]
 refine wpAnyH_more (S' := fun wq => (fun wq => Obj wq B 23 (cellsN s) ∧ Below w.heap.size w wq) wq ∧ wq.rangeAt b1 0 (L1.map u8v)) (fun _ h => h.1) _ _ _ _ ?_
 have hS1 : (fun wq => (fun wq => Obj wq B 23 (cellsN s) ∧ Below w.heap.size w wq) wq ∧ wq.rangeAt b1 0 (L1.map u8v)) _ := ⟨⟨H2.out.h, H2.out.bel⟩, HR1.out⟩
 refine tkH 3 ?_ (hy := by
  refine Or.inl ⟨by rfl, ?_⟩
  intro w hSw
  have q := toArr b1 0 c1 w
  (try dsimp only at hSw)
  go_simp
  all_goals with_reducible rfl)
 refine tkH 4 (v := .agg (cellsN L1)) ?_ (hy := by
  refine yieldsIf_load_mid ?_ 23 (.tmp 11) ?_ b1 0 ?_ (L1.map u8v) _ ?_ Tryd.underlying23 rfl HJ1.out
  ·rfl
  ·rfl
  ·rfl
  ·exact fun w hSw => hSw.2)
 refine onH 7 (fun KK hKK => ?_)
 go_simp
 refine (HL2.out _ H2.out.bel).mono ?_
 rintro e w3 ⟨b2, c2, rfl, hg2, hlt2, hr2, hb3⟩
 have H3 := Lib.hid (H2.out.kept hb3)
 have HR2 := Lib.hid hr2
 have HR1' : Hid (w3.rangeAt b1 0 (L1.map u8v)) := rangeAt_below HR1.out hlt1 hb3
 have hsz3 := hb3.size
 have hb2B : B + 1 + 1 < b2 := by have := H2.out.r2.lt; omega
 clear hb3 hr2 hg2
 try go_wp2_with fail
 refine hKK.out _ _ ?_ (fun hh7 => ?_)
 ·(try dsimp only)
  exact ⟨⟨H3.out.h, H3.out.bel⟩, HR1'.out⟩
 clear hKK KK
 try simp only [Act.put, setIfInBounds_toArray, set_cons_zero, set_cons_succ]
 refine wpAnyH_more (S' := fun wq => (fun wq => (fun wq => Obj wq B 23 (cellsN s) ∧ Below w.heap.size w wq) wq ∧ wq.rangeAt b1 0 (L1.map u8v)) wq ∧ wq.rangeAt b2 0 (L2.map u8v)) (fun _ h => h.1) _ _ _ _ ?_
 have hS2 : (fun wq => (fun wq => (fun wq => Obj wq B 23 (cellsN s) ∧ Below w.heap.size w wq) wq ∧ wq.rangeAt b1 0 (L1.map u8v)) wq ∧ wq.rangeAt b2 0 (L2.map u8v)) _ := ⟨⟨⟨H3.out.h, H3.out.bel⟩, HR1'.out⟩, HR2.out⟩
 refine tkH 8 ?_ (hy := by
  refine Or.inl ⟨by rfl, ?_⟩
  intro w hSw
  have q := toArr b2 0 c2 w
  (try dsimp only at hSw)
  go_simp
  all_goals with_reducible rfl)
 refine tkH 9 (v := .agg (cellsN L2)) ?_ (hy := by
  refine yieldsIf_load_mid ?_ 23 (.tmp 16) ?_ b2 0 ?_ (L2.map u8v) _ ?_ Tryd.underlying23 rfl HJ2.out
  ·rfl
  ·rfl
  ·rfl
  ·exact fun w hSw => hSw.2)
 refine onH 10 (fun KK hKK => ?_)
 rw [if_pos (by rfl)]
 refine wp_store_row 23 (.tmp 6) (.tmp 12) rfl (B + 1) (cellsN L1) rfl rfl 23 _ H3.out.r1 HI1.out HS1.out (one_cellsN _) ?_
 have H4 := Lib.hid (H3.out.set1 HB.out L1)
 have U4 : Upd (B + 1) w3 (w3.setRow (B + 1) (cellsN L1)) := (Upd.refl _ w3).row _
 have HR1'' := rangeAt_upd HR1'.out (Nat.lt_of_lt_of_le hlt1 hsz3) (by omega) U4
 have HR2'' := rangeAt_upd HR2.out hlt2 (by omega) U4
 refine hKK.out _ _ ?_ (fun hh10 => ?_)
 ·(try dsimp only)
  exact ⟨⟨⟨H4.out.h, H4.out.bel⟩, HR1''⟩, HR2''⟩
 clear hKK KK
 try simp only [Act.put, setIfInBounds_toArray, set_cons_zero, set_cons_succ]
 refine onH 11 (fun KK hKK => ?_)
 rw [if_pos (by rfl)]
 refine wp_store_row 23 (.tmp 7) (.tmp 17) rfl (B + 1 + 1) (cellsN L2) rfl rfl 23 _ H4.out.r2 HI2.out HS2.out (one_cellsN _) ?_
 have H5 := Lib.hid (H4.out.set2 HB.out L2)
 have U5 : Upd (B + 1 + 1) (w3.setRow (B + 1) (cellsN L1)) ((w3.setRow (B + 1) (cellsN L1)).setRow (B + 1 + 1) (cellsN L2)) := (Upd.refl _ _).row _
 refine hKK.out _ _ ?_ (fun hh11 => ?_)
 ·(try dsimp only)
  exact ⟨⟨⟨H5.out.h, H5.out.bel⟩, rangeAt_upd HR1'' (Nat.lt_of_lt_of_le hlt1 (Nat.le_trans hsz3 U4.size)) (by omega) U5⟩, rangeAt_upd HR2'' (Nat.lt_of_lt_of_le hlt2 U4.size) (by omega) U5⟩
 clear hKK KK
 try simp only [Act.put, setIfInBounds_toArray, set_cons_zero, set_cons_succ]
 refine wpAnyH_done (by kernel_rfl) ?_ _
 go_wp2
 exact bodyPost_ret (v := .tuple #[.agg (cellsN L1), .agg (cellsN L2)]) (two_cells rfl _ _ _ _ _ _ _ _ _ rfl rfl H5.out.r1 H5.out.r2 Tryd.underlying23 rfl HI1.out HI2.out) rfl ⟨rfl, HB.out ▸ H5.out.bel⟩
set_option maxHeartbeats 4000000 in
theorem first_any (A : Option Addr) (n c : Nat) (cid : List Nat) (w : World) (ht : KTab w) (hr : Rd w A cid) (hl : cid.length = n) (qb : Ae.bytes cid) (hn : n ≤ 90000) :
  Calls Tryd.prog 36 #[.slice A n c] w fun e w' => e = .returned (.tuple #[.agg (cellsN (Ky.first1 cid)), .agg (cellsN (Ky.first2 cid))]) ∧ Below w.heap.size w w' := by
 obtain ⟨B, hB⟩ : ∃ B, w.heap.size = B := ⟨_, rfl⟩
 obtain ⟨T, hT⟩ : ∃ T, Sh.tag Ky.salt cid = T := ⟨_, rfl⟩
 have lT : T.length = 32 := hT ▸ tag_len _ _
 have qT : Ae.bytes T := hT ▸ tag_lt _ _
 obtain ⟨L1, hL1⟩ : ∃ L, Ky.lab T Ky.cinB 32 = L := ⟨_, rfl⟩
 obtain ⟨L2, hL2⟩ : ∃ L, Ky.lab T Ky.sinB 32 = L := ⟨_, rfl⟩
 have l1 : L1.length = 32 := hL1 ▸ Ky.lab_len _ _ _
 have l2 : L2.length = 32 := hL2 ▸ Ky.lab_len _ _ _
 have HV1 : Hid (Ky.first1 cid = L1) := by show Ky.lab (Sh.tag Ky.salt cid) Ky.cinB 32 = L1; rw [hT, hL1]
 have HV2 : Hid (Ky.first2 cid = L2) := by show Ky.lab (Sh.tag Ky.salt cid) Ky.sinB 32 = L2; rw [hT, hL2]
 have hb0 : Below w.heap.size w ((w.alloc (.cells Z32 23)).alloc (.cells Z32 23)) := ((Below.refl _ w).alloc (Nat.le_refl _) _).alloc (by simp) _
 have kcA := fun (C : Array Value) (n c : Nat) => conv_at ((w.alloc (.cells Z32 23)).alloc (.cells Z32 23)) C n c (B + 1 + 1) (by simp [hB])
 obtain ⟨W2, hW2⟩ : ∃ W2, ((w.alloc (.cells Z32 23)).alloc (.cells Z32 23)).alloc (.cells #[.int .u8 100, .int .u8 111, .int .u8 111, .int .u8 114, .int .u8 119, .int .u8 97, .int .u8 114, .int .u8 100, .int .u8 32, .int .u8 102, .int .u8 105, .int .u8 114, .int .u8 115, .int .u8 116, .int .u8 32, .int .u8 115, .int .u8 97, .int .u8 108, .int .u8 116, .int .u8 46, .int .u8 46] 5 (21, 22)) = W2 := ⟨_, rfl⟩
 have hb2 : Below w.heap.size w W2 := hW2 ▸ hb0.alloc hb0.size _
 have m2 : Rd W2 (some ⟨B + 1 + 1, 0, none⟩) Ky.salt := hW2 ▸ lit_rd' ((w.alloc (.cells Z32 23)).alloc (.cells Z32 23)) Ky.salt (21, 22) (by simp [hB])
 have o0 : Obj W2 B 23 (cellsN (List.replicate 32 0)) := hW2 ▸ hB ▸ ((Obj.new w _ _).alloc _).alloc _
 have o1 : Obj W2 (B + 1) 23 (cellsN (List.replicate 32 0)) := by
  have := (new2 w (.cells Z32 23) 23 Z32).alloc (.cells #[.int .u8 100, .int .u8 111, .int .u8 111, .int .u8 114, .int .u8 119, .int .u8 97, .int .u8 114, .int .u8 100, .int .u8 32, .int .u8 102, .int .u8 105, .int .u8 114, .int .u8 115, .int .u8 116, .int .u8 32, .int .u8 115, .int .u8 97, .int .u8 108, .int .u8 116, .int .u8 46, .int .u8 46] 5 (21, 22))
  rw [hB, hW2] at this; exact this
 have HEX : Hid (∀ W, Below w.heap.size w W → Rd W (some ⟨B + 1 + 1, 0, none⟩) Ky.salt → Calls Tryd.prog 51 #[.slice (some ⟨B + 1 + 1, 0, none⟩) 21 21, .slice A n c] W fun e w' => e = .returned (.agg (cellsN T)) ∧ Below W.heap.size W w') := fun W hb hm => by
  rw [← hT]
  exact extract_any _ A 21 21 n c Ky.salt cid W (ht.below hb).t hm rfl (by unfold Ky.salt; decide) (by decide) ⟨Nat.le_refl _, by decide⟩ (hr.below hb) hl qb hn
 have HTW : Hid (∀ W, Below w.heap.size w W → Calls Tryd.prog 50 #[.agg (cellsN T), .string Ky.cinB, .string Ky.sinB] W fun e w' => e = .returned (.tuple #[.agg (cellsN L1), .agg (cellsN L2)]) ∧ Below W.heap.size W w') := fun W hb => by
  rw [← hL1, ← hL2]
  exact two_any T Ky.cinB Ky.sinB W (ht.below hb) lT qT (by decide) (by decide)
 have HI1 := Lib.hid (sizeH32 l1)
 have HI2 := Lib.hid (sizeH32 l2)
 have HS1 : Hid ((cellsN (List.replicate 32 0)).size = (cellsN L1).size) := by unfold Hid; rw [cellsN_size, cellsN_size, l1]; rfl
 have HS2 : Hid ((cellsN (List.replicate 32 0)).size = (cellsN L2).size) := by unfold Hid; rw [cellsN_size, cellsN_size, l2]; rfl
 have HW2 := Lib.hid hW2
 have HB := Lib.hid hB
 have HP2 := Lib.hid (And.intro hb2 (And.intro o0 o1))
 have HM2 := Lib.hid m2
 rw [HV1.out, HV2.out]
 clear hb0 hW2 hT hL1 hL2 l1 l2 lT qT ht hb2 o0 o1 m2 hr hl qb hn
 go_enter Tryd.func36, Tryd.ntmps36
 go_wp2_with fail
 rw [HW2.out]
 refine (HEX.out _ HP2.out.1 HM2.out).mono ?_
 rintro e w3 ⟨rfl, hb3⟩
 have HP3 := Lib.hid (And.intro (HP2.out.1.trans (hb3.mono HP2.out.1.size)) (And.intro (HP2.out.2.1.kept hb3) (HP2.out.2.2.kept hb3)))
 clear hb3 HP2 HM2
 go_wp2_with fail
 refine (HTW.out _ HP3.out.1).mono ?_
 rintro e w4 ⟨rfl, hb4⟩
 have HP4 := Lib.hid (And.intro (HP3.out.1.trans (hb4.mono HP3.out.1.size)) (And.intro (HP3.out.2.1.kept hb4) (HP3.out.2.2.kept hb4)))
 clear hb4 HP3
 have u5 : Upd B w4 (w4.setRow B (cellsN L1)) := (Upd.refl _ w4).row _
 have o5 : Obj (w4.setRow B (cellsN L1)) (B + 1) 23 (cellsN (List.replicate 32 0)) := HP4.out.2.2.upd u5 (by omega)
 have p5 : Obj (w4.setRow B (cellsN L1)) B 23 (cellsN L1) := HP4.out.2.1.row _
 have b5 : Below w.heap.size w (w4.setRow B (cellsN L1)) := Upd.below HP4.out.1 (by have := HB.out; omega) u5
 have u6 : Upd (B + 1) (w4.setRow B (cellsN L1)) ((w4.setRow B (cellsN L1)).setRow (B + 1) (cellsN L2)) := (Upd.refl _ _).row _
 have HO5 := Lib.hid o5
 have HF1 := Lib.hid (p5.upd u6 (by omega))
 have HF2 := Lib.hid (o5.row (cellsN L2))
 have HFB := Lib.hid (Upd.below b5 (by have := HB.out; omega) u6)
 clear u5 o5 p5 b5 u6
 go_wp2_with (first
  | (refine wpList_store_row rfl 23 (.tmp 2) (.tmp 9) rfl B _ rfl rfl _ _ HP4.out.2.1 HI1.out HS1.out (one_cellsN _) ?_)
  | (refine wpList_store_row rfl 23 (.tmp 3) (.tmp 10) rfl (B + 1) _ rfl rfl _ _ HO5.out HI2.out HS2.out (one_cellsN _) ?_))
 exact bodyPost_ret (v := .tuple #[.agg (cellsN L1), .agg (cellsN L2)]) (two_cells rfl _ _ _ _ _ _ _ _ _ rfl rfl HF1.out HF2.out Tryd.underlying23 rfl HI1.out HI2.out) rfl ⟨rfl, HFB.out⟩
set_option maxHeartbeats 4000000 in
theorem later_any (A1 : Option Addr) (n1 c1 : Nat) (k : List Nat) (A2 : Option Addr) (n2 c2 : Nat) (t : List Nat) (w : World) (ht : KTab w) (r1 : Rd w A1 k) (m1 : k.length = n1) (q1 : Ae.bytes k) (k1 : n1 ≤ 90000 ∧ n1 ≤ c1 ∧ c1 ≤ maxLen) (r2 : Rd w A2 t) (m2 : t.length = n2) (q2 : Ae.bytes t) (k2 : n2 ≤ 90000) :
  Calls Tryd.prog 37 #[.slice A1 n1 c1, .slice A2 n2 c2] w fun e w' => e = .returned (.tuple #[.agg (cellsN (Ky.later1 k t)), .agg (cellsN (Ky.later2 k t))]) ∧ Below w.heap.size w w' := by
 obtain ⟨B, hB⟩ : ∃ B, w.heap.size = B := ⟨_, rfl⟩
 obtain ⟨T, hT⟩ : ∃ T, Sh.tag k t = T := ⟨_, rfl⟩
 have lT : T.length = 32 := hT ▸ tag_len _ _
 have qT : Ae.bytes T := hT ▸ tag_lt _ _
 obtain ⟨L1, hL1⟩ : ∃ L, Ky.lab T Ky.capB 32 = L := ⟨_, rfl⟩
 obtain ⟨L2, hL2⟩ : ∃ L, Ky.lab T Ky.sapB 32 = L := ⟨_, rfl⟩
 have l1 : L1.length = 32 := hL1 ▸ Ky.lab_len _ _ _
 have l2 : L2.length = 32 := hL2 ▸ Ky.lab_len _ _ _
 have HV1 : Hid (Ky.later1 k t = L1) := by show Ky.lab (Sh.tag k t) Ky.capB 32 = L1; rw [hT, hL1]
 have HV2 : Hid (Ky.later2 k t = L2) := by show Ky.lab (Sh.tag k t) Ky.sapB 32 = L2; rw [hT, hL2]
 have hb0 : Below w.heap.size w ((w.alloc (.cells Z32 23)).alloc (.cells Z32 23)) := ((Below.refl _ w).alloc (Nat.le_refl _) _).alloc (by simp) _
 obtain ⟨W2, hW2⟩ : ∃ W2, (w.alloc (.cells Z32 23)).alloc (.cells Z32 23) = W2 := ⟨_, rfl⟩
 have hb2 : Below w.heap.size w W2 := hW2 ▸ hb0
 have o0 : Obj W2 B 23 (cellsN (List.replicate 32 0)) := hW2 ▸ hB ▸ (Obj.new w _ _).alloc _
 have o1 : Obj W2 (B + 1) 23 (cellsN (List.replicate 32 0)) := by
  have := new2 w (.cells Z32 23) 23 Z32
  rw [hB, hW2] at this; exact this
 have HEX : Hid (∀ W, Below w.heap.size w W → Calls Tryd.prog 51 #[.slice A1 n1 c1, .slice A2 n2 c2] W fun e w' => e = .returned (.agg (cellsN T)) ∧ Below W.heap.size W w') := fun W hb => by
  rw [← hT]
  exact extract_any A1 A2 n1 c1 n2 c2 k t W (ht.below hb).t (r1.below hb) m1 q1 k1.1 k1.2 (r2.below hb) m2 q2 k2
 have HTW : Hid (∀ W, Below w.heap.size w W → Calls Tryd.prog 50 #[.agg (cellsN T), .string Ky.capB, .string Ky.sapB] W fun e w' => e = .returned (.tuple #[.agg (cellsN L1), .agg (cellsN L2)]) ∧ Below W.heap.size W w') := fun W hb => by
  rw [← hL1, ← hL2]
  exact two_any T Ky.capB Ky.sapB W (ht.below hb) lT qT (by decide) (by decide)
 have HI1 := Lib.hid (sizeH32 l1)
 have HI2 := Lib.hid (sizeH32 l2)
 have HS1 : Hid ((cellsN (List.replicate 32 0)).size = (cellsN L1).size) := by unfold Hid; rw [cellsN_size, cellsN_size, l1]; rfl
 have HS2 : Hid ((cellsN (List.replicate 32 0)).size = (cellsN L2).size) := by unfold Hid; rw [cellsN_size, cellsN_size, l2]; rfl
 have HW2 := Lib.hid hW2
 have HB := Lib.hid hB
 have HP2 := Lib.hid (And.intro hb2 (And.intro o0 o1))
 rw [HV1.out, HV2.out]
 clear hb0 hW2 hT hL1 hL2 l1 l2 lT qT ht hb2 o0 o1 r1 m1 q1 k1 r2 m2 q2 k2
 go_enter Tryd.func37, Tryd.ntmps37
 go_wp2_with fail
 rw [HW2.out]
 refine (HEX.out _ HP2.out.1).mono ?_
 rintro e w3 ⟨rfl, hb3⟩
 have HP3 := Lib.hid (And.intro (HP2.out.1.trans (hb3.mono HP2.out.1.size)) (And.intro (HP2.out.2.1.kept hb3) (HP2.out.2.2.kept hb3)))
 clear hb3 HP2
 go_wp2_with fail
 refine (HTW.out _ HP3.out.1).mono ?_
 rintro e w4 ⟨rfl, hb4⟩
 have HP4 := Lib.hid (And.intro (HP3.out.1.trans (hb4.mono HP3.out.1.size)) (And.intro (HP3.out.2.1.kept hb4) (HP3.out.2.2.kept hb4)))
 clear hb4 HP3
 have u5 : Upd B w4 (w4.setRow B (cellsN L1)) := (Upd.refl _ w4).row _
 have o5 : Obj (w4.setRow B (cellsN L1)) (B + 1) 23 (cellsN (List.replicate 32 0)) := HP4.out.2.2.upd u5 (by omega)
 have p5 : Obj (w4.setRow B (cellsN L1)) B 23 (cellsN L1) := HP4.out.2.1.row _
 have b5 : Below w.heap.size w (w4.setRow B (cellsN L1)) := Upd.below HP4.out.1 (by have := HB.out; omega) u5
 have u6 : Upd (B + 1) (w4.setRow B (cellsN L1)) ((w4.setRow B (cellsN L1)).setRow (B + 1) (cellsN L2)) := (Upd.refl _ _).row _
 have HO5 := Lib.hid o5
 have HF1 := Lib.hid (p5.upd u6 (by omega))
 have HF2 := Lib.hid (o5.row (cellsN L2))
 have HFB := Lib.hid (Upd.below b5 (by have := HB.out; omega) u6)
 clear u5 o5 p5 b5 u6
 go_wp2_with (first
  | (refine wpList_store_row rfl 23 (.tmp 4) (.tmp 10) rfl B _ rfl rfl _ _ HP4.out.2.1 HI1.out HS1.out (one_cellsN _) ?_)
  | (refine wpList_store_row rfl 23 (.tmp 5) (.tmp 11) rfl (B + 1) _ rfl rfl _ _ HO5.out HI2.out HS2.out (one_cellsN _) ?_))
 exact bodyPost_ret (v := .tuple #[.agg (cellsN L1), .agg (cellsN L2)]) (two_cells rfl _ _ _ _ _ _ _ _ _ rfl rfl HF1.out HF2.out Tryd.underlying23 rfl HI1.out HI2.out) rfl ⟨rfl, HFB.out⟩
end Go.Proofs.YtabfcaidioohfaaDoor
namespace Go.Ky
open List (getElem?_toArray getElem?_cons_zero getElem?_cons_succ setIfInBounds_toArray set_cons_zero set_cons_succ)
open Go.Proofs.YtabfcaidioohfaaDoor Go.RowKit Go
/-- A ring: of each level 0 no keys yet, 1 keys, 2 none any more; its keys, the peer's, the peer's ahead. -/
structure Rg where
 s0 : Nat
 s1 : Nat
 o0 : Sec
 p0 : Sec
 o1 : Sec
 p1 : Sec
 q : Sec
 ho : Bool
/-- Has a level keys? -/
def Rg.has (r : Rg) (n : Int) : Bool := if n = 0 then r.s0 == 1 else if n = 1 then r.s1 == 1 else false
/-- Does a level still have none? -/
def Rg.fresh (r : Rg) (n : Int) : Bool := if n = 0 then r.s0 == 0 else if n = 1 then r.s1 == 0 else false
def Rg.live (r : Rg) : Nat := (if r.s0 == 1 then 2 else 0) + (if r.s1 == 1 then 2 else 0) + (if r.ho then 1 else 0)
def Rg.phase (r : Rg) : Bool := r.s1 == 1 && r.o1.ph
def Rg.set (r : Rg) (n : Int) (own peer : List Nat) : Rg :=
 if n = 0 then { r with s0 := 1, o0 := make own false, p0 := make peer false } else { r with s1 := 1, o1 := make own false, p1 := make peer false }
def Rg.drop (r : Rg) (n : Int) : Rg := if n = 0 then { r with s0 := 2 } else { r with s1 := 2, ho := false }
def Rg.turn (r : Rg) : Rg := { r with o1 := upd r.o1, p1 := upd r.p1, q := r.p1, ho := true }
structure Rg.Ok (r : Rg) : Prop where
 o0 : r.o0.Ok
 p0 : r.p0.Ok
 o1 : r.o1.Ok
 p1 : r.p1.Ok
 q : r.q.Ok
theorem upd_ok (s : Sec) : (upd s).Ok := make_ok _ _
theorem Rg.Ok.set {r : Rg} (h : r.Ok) (n : Int) (own peer : List Nat) : (r.set n own peer).Ok := by
 unfold Rg.set; split
 ·exact ⟨make_ok _ _, make_ok _ _, h.o1, h.p1, h.q⟩
 ·exact ⟨h.o0, h.p0, make_ok _ _, make_ok _ _, h.q⟩
theorem Rg.Ok.drop {r : Rg} (h : r.Ok) (n : Int) : (r.drop n).Ok := by
 unfold Rg.drop; split
 ·exact ⟨h.o0, h.p0, h.o1, h.p1, h.q⟩
 ·exact ⟨h.o0, h.p0, h.o1, h.p1, h.q⟩
theorem Rg.Ok.turn {r : Rg} (h : r.Ok) : (r.turn).Ok := ⟨h.o0, h.p0, upd_ok _, upd_ok _, h.p1⟩
end Go.Ky
namespace Go.Proofs.YtabfcaidioohfaaDoor
open List (getElem?_toArray getElem?_cons_zero getElem?_cons_succ setIfInBounds_toArray set_cons_zero set_cons_succ)
open Go Go.RowKit Go.Shelf
set_option linter.unusedVariables false
set_option linter.unusedSimpArgs false
set_option maxRecDepth 100000
/-- A pointer to a block, or none. -/
def pv (b : Bool) (a : Nat) : Value := if b then .pointer (some ⟨a, 0, none⟩) else .pointer none
/-- A ring's row, and the keys that it points to. -/
structure RP (R : Nat) (r : Ky.Rg) (a0 b0 a1 b1 c1 : Nat) (V : World) : Prop where
 o : Obj V R 85 #[pv (r.s0 == 1) a0, pv (r.s0 == 1) b0, .pointer none, .bool (r.s0 != 0), pv (r.s1 == 1) a1, pv (r.s1 == 1) b1, pv r.ho c1, .bool (r.s1 != 0)]
 ka0 : r.s0 = 1 → Obj V a0 29 (secV r.o0)
 kb0 : r.s0 = 1 → Obj V b0 29 (secV r.p0)
 ka1 : r.s1 = 1 → Obj V a1 29 (secV r.o1)
 kb1 : r.s1 = 1 → Obj V b1 29 (secV r.p1)
 kc1 : r.ho = true → Obj V c1 29 (secV r.q)
def RgP (R : Nat) (r : Ky.Rg) (V : World) : Prop := r.Ok ∧ ∃ a0 b0 a1 b1 c1, RP R r a0 b0 a1 b1 c1 V
theorem RP.kept {R : Nat} {r : Ky.Rg} {a0 b0 a1 b1 c1 : Nat} {V V' : World} (h : RP R r a0 b0 a1 b1 c1 V) (hb : Below V.heap.size V V') : RP R r a0 b0 a1 b1 c1 V' :=
 ⟨h.o.kept hb, fun e => (h.ka0 e).kept hb, fun e => (h.kb0 e).kept hb, fun e => (h.ka1 e).kept hb, fun e => (h.kb1 e).kept hb, fun e => (h.kc1 e).kept hb⟩
theorem RgP.kept {R : Nat} {r : Ky.Rg} {V V' : World} (h : RgP R r V) (hb : Below V.heap.size V V') : RgP R r V' :=
 ⟨h.1, by obtain ⟨a0, b0, a1, b1, c1, h⟩ := h.2; exact ⟨a0, b0, a1, b1, c1, h.kept hb⟩⟩
theorem Obj.ne_type {V : World} {a b : Nat} {t u : TypeId} {cs ds : Array Value} (h : Obj V a t cs) (k : Obj V b u ds) (hne : t ≠ u) : a ≠ b := by
 rintro rfl
 have := h.symm.trans k
 cases this; exact hne rfl
/-- Another block of another type turns: the ring stays. -/
theorem RgP.upd {R g : Nat} {r : Ky.Rg} {V V' : World} {u : TypeId} {ds : Array Value} (h : RgP R r V) (hu : Upd g V V') (hg : Obj V g u ds) (h1 : R ≠ g) (h2 : 29 ≠ u) : RgP R r V' :=
 ⟨h.1, by
  obtain ⟨a0, b0, a1, b1, c1, h⟩ := h.2
  exact ⟨a0, b0, a1, b1, c1, h.o.upd hu h1, fun e => (h.ka0 e).upd hu ((h.ka0 e).ne_type hg h2), fun e => (h.kb0 e).upd hu ((h.kb0 e).ne_type hg h2), fun e => (h.ka1 e).upd hu ((h.ka1 e).ne_type hg h2), fun e => (h.kb1 e).upd hu ((h.kb1 e).ne_type hg h2), fun e => (h.kc1 e).upd hu ((h.kc1 e).ne_type hg h2)⟩⟩
theorem RgP.obj {R : Nat} {r : Ky.Rg} {V : World} (h : RgP R r V) : ∃ cs, Obj V R 85 cs := by
 obtain ⟨_, _, _, _, _, h⟩ := h.2
 exact ⟨_, h.o⟩
/-- Where a level lies. -/
def atV (R : Nat) (n : Int) : Value := if n = 0 then .pointer (some ⟨R, 0, none⟩) else if n = 1 then .pointer (some ⟨R, 4, none⟩) else .pointer none
theorem atV_0 (R : Nat) : atV R 0 = .pointer (some ⟨R, 0, none⟩) := rfl
theorem atV_1 (R : Nat) : atV R 1 = .pointer (some ⟨R, 4, none⟩) := rfl
theorem atV_no (R : Nat) {n : Int} (h0 : n ≠ 0) (h1 : n ≠ 1) : atV R n = .pointer none := by unfold atV; rw [if_neg h0, if_neg h1]
theorem at_any (R : Nat) (n : Int) (w : World) : Calls Tryd.prog 46 #[.pointer (some ⟨R, 0, none⟩), .int .i64 n] w fun e w' => e = .returned (atV R n) ∧ w = w' := by
 by_cases h0 : n < 0
 ·rw [atV_no R (by omega) (by omega)]
  go_enter Tryd.func46, Tryd.ntmps46
  go_wp2
  go_ret
  exact ⟨rfl, rfl⟩
 by_cases h2 : 2 ≤ n
 ·have h2' : n ≥ 2 := h2
  rw [atV_no R (by omega) (by omega)]
  go_enter Tryd.func46, Tryd.ntmps46
  go_wp2
  go_ret
  exact ⟨rfl, rfl⟩
 obtain rfl | rfl : n = 0 ∨ n = 1 := by omega
 ·clear h0 h2
  go_enter Tryd.func46, Tryd.ntmps46
  go_wp2
  go_ret
  exact ⟨rfl, rfl⟩
 ·clear h0 h2
  go_enter Tryd.func46, Tryd.ntmps46
  go_wp2
  go_ret
  exact ⟨rfl, rfl⟩
theorem at_nil (n : Int) (w : World) : Calls Tryd.prog 46 #[.pointer none, .int .i64 n] w fun e w' => e = .returned (.pointer none) ∧ w = w' := by
 go_enter Tryd.func46, Tryd.ntmps46
 go_wp2
 go_ret
 exact ⟨rfl, rfl⟩
theorem has_nil (n : Int) (w : World) : Calls Tryd.prog 18 #[.pointer none, .int .i64 n] w fun e w' => e = .returned (.bool false) ∧ w = w' := by
 have H := Lib.hid (at_nil n w)
 go_enter Tryd.func18, Tryd.ntmps18
 go_wp2_with fail
 refine H.out.mono ?_
 rintro e w' ⟨rfl, rfl⟩
 go_wp2
 go_ret
 exact ⟨rfl, rfl⟩
theorem has_any (R : Nat) (r : Ky.Rg) (n : Int) (w : World) (h : RgP R r w) : Calls Tryd.prog 18 #[.pointer (some ⟨R, 0, none⟩), .int .i64 n] w fun e w' => e = .returned (.bool (r.has n)) ∧ w = w' := by
 have H := Lib.hid (at_any R n w)
 obtain ⟨_, a0, b0, a1, b1, c1, hp⟩ := h
 have f0 : w.cell? ⟨R, 0, none⟩ = some (pv (r.s0 == 1) a0) := hp.o.cell 0
 have f4 : w.cell? ⟨R, 4, none⟩ = some (pv (r.s1 == 1) a1) := hp.o.cell 4
 clear hp
 by_cases h0 : n = 0
 ·subst h0
  rw [atV_0] at H
  have HH : Hid (r.has 0 = (r.s0 == 1)) := rfl
  generalize (r.s0 == 1) = b at *
  rw [HH.out]
  cases b
  ·unfold pv at f0
   rw [if_neg (by decide)] at f0
   go_enter Tryd.func18, Tryd.ntmps18
   go_wp2_with fail
   refine H.out.mono ?_
   rintro e w' ⟨rfl, rfl⟩
   go_wp2
   go_ret
   exact ⟨rfl, rfl⟩
  ·unfold pv at f0
   rw [if_pos rfl] at f0
   go_enter Tryd.func18, Tryd.ntmps18
   go_wp2_with fail
   refine H.out.mono ?_
   rintro e w' ⟨rfl, rfl⟩
   go_wp2
   go_ret
   exact ⟨rfl, rfl⟩
 by_cases h1 : n = 1
 ·subst h1
  rw [atV_1] at H
  have HH : Hid (r.has 1 = (r.s1 == 1)) := rfl
  generalize (r.s1 == 1) = b at *
  rw [HH.out]
  cases b
  ·unfold pv at f4
   rw [if_neg (by decide)] at f4
   go_enter Tryd.func18, Tryd.ntmps18
   go_wp2_with fail
   refine H.out.mono ?_
   rintro e w' ⟨rfl, rfl⟩
   go_wp2
   go_ret
   exact ⟨rfl, rfl⟩
  ·unfold pv at f4
   rw [if_pos rfl] at f4
   go_enter Tryd.func18, Tryd.ntmps18
   go_wp2_with fail
   refine H.out.mono ?_
   rintro e w' ⟨rfl, rfl⟩
   go_wp2
   go_ret
   exact ⟨rfl, rfl⟩
 rw [atV_no R h0 h1] at H
 have HH : Hid (r.has n = false) := by unfold Hid Ky.Rg.has; rw [if_neg h0, if_neg h1]
 rw [HH.out]
 clear h0 h1 f0 f4
 go_enter Tryd.func18, Tryd.ntmps18
 go_wp2_with fail
 refine H.out.mono ?_
 rintro e w' ⟨rfl, rfl⟩
 go_wp2
 go_ret
 exact ⟨rfl, rfl⟩
end Go.Proofs.YtabfcaidioohfaaDoor
namespace Go.Proofs.YtabfcaidioohfaaDoor
open List (getElem?_toArray getElem?_cons_zero getElem?_cons_succ setIfInBounds_toArray set_cons_zero set_cons_succ)
open Go Go.RowKit Go.Shelf
set_option linter.unusedVariables false
set_option linter.unusedSimpArgs false
set_option maxRecDepth 100000
theorem has_cases {r : Ky.Rg} {n : Int} (h : r.has n = true) : (n = 0 ∧ r.s0 = 1) ∨ (n = 1 ∧ r.s1 = 1) := by
 unfold Ky.Rg.has at h
 by_cases h0 : n = 0
 ·rw [if_pos h0] at h; exact .inl ⟨h0, by simpa using h⟩
 ·rw [if_neg h0] at h
  by_cases h1 : n = 1
  ·rw [if_pos h1] at h; exact .inr ⟨h1, by simpa using h⟩
  ·rw [if_neg h1] at h; cases h
theorem has_0 {r : Ky.Rg} (h : r.s0 = 1) : r.has 0 = true := by show (r.s0 == 1) = true; rw [h]; rfl
theorem has_1 {r : Ky.Rg} (h : r.s1 = 1) : r.has 1 = true := by show (r.s1 == 1) = true; rw [h]; rfl
set_option maxHeartbeats 4000000 in
theorem drop_any (R : Nat) (r : Ky.Rg) (n : Int) (w : World) (h : RgP R r w) : Calls Tryd.prog 22 #[.pointer (some ⟨R, 0, none⟩), .int .i64 n] w fun e w' => e = .returned (.bool (r.has n)) ∧ RgP R (if r.has n = true then r.drop n else r) w' ∧ Upd R w w' := by
 have HH := Lib.hid (has_any R r n w h)
 by_cases hn : r.has n = true
 ·rcases has_cases hn with ⟨rfl, hs⟩ | ⟨rfl, hs⟩
  ·have HA := Lib.hid (at_any R 0 w)
   rw [atV_0] at HA
   rw [hn] at HH ⊢
   rw [if_pos rfl]
   obtain ⟨ok, a0, b0, a1, b1, c1, hp⟩ := h
   have z := hp.o.free
   have z0 := z 0
   have z1 := z 1
   have z2 := z 2
   have z3 := z 3
   have y0 : w.cell? ⟨R, 0, none⟩ = some (pv (r.s0 == 1) a0) := hp.o.cell 0
   have y1 : w.cell? ⟨R, 1, none⟩ = some (pv (r.s0 == 1) b0) := hp.o.cell 1
   have y2 : w.cell? ⟨R, 2, none⟩ = some (.pointer none) := hp.o.cell 2
   have y3 : w.cell? ⟨R, 3, none⟩ = some (.bool (r.s0 != 0)) := hp.o.cell 3
   have HF : Hid (RgP R (r.drop 0) ((((w.setCell ⟨R, 0, none⟩ (.pointer none)).setCell ⟨R, 1, none⟩ (.pointer none)).setCell ⟨R, 2, none⟩ (.pointer none)).setCell ⟨R, 3, none⟩ (.bool true)) ∧ Upd R w ((((w.setCell ⟨R, 0, none⟩ (.pointer none)).setCell ⟨R, 1, none⟩ (.pointer none)).setCell ⟨R, 2, none⟩ (.pointer none)).setCell ⟨R, 3, none⟩ (.bool true))) := by
    have hu : Upd R w ((((w.setCell ⟨R, 0, none⟩ (.pointer none)).setCell ⟨R, 1, none⟩ (.pointer none)).setCell ⟨R, 2, none⟩ (.pointer none)).setCell ⟨R, 3, none⟩ (.bool true)) := ((((Upd.refl R w).set 0 _).set 1 _).set 2 _).set 3 _
    refine ⟨⟨ok.drop 0, a0, b0, a1, b1, c1, (((hp.o.set 0 _).set 1 _).set 2 _).set 3 _, (fun e => absurd (show (2 : Nat) = 1 from e) (by decide)), (fun e => absurd (show (2 : Nat) = 1 from e) (by decide)), fun e => (hp.ka1 e).upd hu ((hp.ka1 e).ne_type hp.o (by decide)), fun e => (hp.kb1 e).upd hu ((hp.kb1 e).ne_type hp.o (by decide)), fun e => (hp.kc1 e).upd hu ((hp.kc1 e).ne_type hp.o (by decide))⟩, hu⟩
   clear hp z ok hs hn
   go_enter Tryd.func22, Tryd.ntmps22
   go_wp2_with fail
   refine HH.out.mono ?_
   rintro e w' ⟨rfl, rfl⟩
   go_wp2_with fail
   refine HA.out.mono ?_
   rintro e w' ⟨rfl, rfl⟩
   go_wp2
   go_ret
   exact ⟨rfl, HF.out⟩
  ·have HA := Lib.hid (at_any R 1 w)
   rw [atV_1] at HA
   rw [hn] at HH ⊢
   rw [if_pos rfl]
   obtain ⟨ok, a0, b0, a1, b1, c1, hp⟩ := h
   have z := hp.o.free
   have z0 := z 4
   have z1 := z 5
   have z2 := z 6
   have z3 := z 7
   have y0 : w.cell? ⟨R, 4, none⟩ = some (pv (r.s1 == 1) a1) := hp.o.cell 4
   have y1 : w.cell? ⟨R, 5, none⟩ = some (pv (r.s1 == 1) b1) := hp.o.cell 5
   have y2 : w.cell? ⟨R, 6, none⟩ = some (pv r.ho c1) := hp.o.cell 6
   have y3 : w.cell? ⟨R, 7, none⟩ = some (.bool (r.s1 != 0)) := hp.o.cell 7
   have HF : Hid (RgP R (r.drop 1) ((((w.setCell ⟨R, 4, none⟩ (.pointer none)).setCell ⟨R, 5, none⟩ (.pointer none)).setCell ⟨R, 6, none⟩ (.pointer none)).setCell ⟨R, 7, none⟩ (.bool true)) ∧ Upd R w ((((w.setCell ⟨R, 4, none⟩ (.pointer none)).setCell ⟨R, 5, none⟩ (.pointer none)).setCell ⟨R, 6, none⟩ (.pointer none)).setCell ⟨R, 7, none⟩ (.bool true))) := by
    have hu : Upd R w ((((w.setCell ⟨R, 4, none⟩ (.pointer none)).setCell ⟨R, 5, none⟩ (.pointer none)).setCell ⟨R, 6, none⟩ (.pointer none)).setCell ⟨R, 7, none⟩ (.bool true)) := ((((Upd.refl R w).set 4 _).set 5 _).set 6 _).set 7 _
    refine ⟨⟨ok.drop 1, a0, b0, a1, b1, c1, (((hp.o.set 4 _).set 5 _).set 6 _).set 7 _, fun e => (hp.ka0 e).upd hu ((hp.ka0 e).ne_type hp.o (by decide)), fun e => (hp.kb0 e).upd hu ((hp.kb0 e).ne_type hp.o (by decide)), (fun e => absurd (show (2 : Nat) = 1 from e) (by decide)), (fun e => absurd (show (2 : Nat) = 1 from e) (by decide)), fun e => absurd (show false = true from e) (by decide)⟩, hu⟩
   clear hp z ok hs hn
   go_enter Tryd.func22, Tryd.ntmps22
   go_wp2_with fail
   refine HH.out.mono ?_
   rintro e w' ⟨rfl, rfl⟩
   go_wp2_with fail
   refine HA.out.mono ?_
   rintro e w' ⟨rfl, rfl⟩
   go_wp2
   go_ret
   exact ⟨rfl, HF.out⟩
 ·rw [if_neg hn]
  have hn' : r.has n = false := by simpa using hn
  rw [hn'] at HH ⊢
  have HR := Lib.hid h
  clear h hn hn'
  go_enter Tryd.func22, Tryd.ntmps22
  go_wp2_with fail
  refine HH.out.mono ?_
  rintro e w' ⟨rfl, rfl⟩
  go_wp2
  go_ret
  exact ⟨rfl, HR.out, Upd.refl _ _⟩
theorem drop_nil (n : Int) (w : World) : Calls Tryd.prog 22 #[.pointer none, .int .i64 n] w fun e w' => e = .returned (.bool false) ∧ w = w' := by
 have HH := Lib.hid (has_nil n w)
 go_enter Tryd.func22, Tryd.ntmps22
 go_wp2_with fail
 refine HH.out.mono ?_
 rintro e w' ⟨rfl, rfl⟩
 go_wp2
 go_ret
 exact ⟨rfl, rfl⟩
theorem phase_any (R : Nat) (r : Ky.Rg) (w : World) (h : RgP R r w) : Calls Tryd.prog 20 #[.pointer (some ⟨R, 0, none⟩)] w fun e w' => e = .returned (.bool r.phase) ∧ w = w' := by
 have HH := Lib.hid (has_any R r 1 w h)
 by_cases hs : r.s1 = 1
 ·have HA := Lib.hid (at_any R 1 w)
  rw [atV_1] at HA
  rw [has_1 hs] at HH
  have HP : Hid (r.phase = r.o1.ph) := by unfold Hid Ky.Rg.phase; rw [hs]; rfl
  obtain ⟨ok, a0, b0, a1, b1, c1, hp⟩ := h
  have y0 : w.cell? ⟨R, 4, none⟩ = some (.pointer (some ⟨a1, 0, none⟩)) := by rw [hp.o.cell 4]; show some (pv (r.s1 == 1) a1) = _; rw [hs]; rfl
  have y1 := (hp.ka1 hs).secP ok.o1
  rw [HP.out]
  clear hp ok hs
  generalize r.o1.ph = b at *
  go_enter Tryd.func20, Tryd.ntmps20
  go_wp2_with fail
  refine HH.out.mono ?_
  rintro e w' ⟨rfl, rfl⟩
  go_wp2_with fail
  refine HA.out.mono ?_
  rintro e w' ⟨rfl, rfl⟩
  go_wp2
  go_ret
  exact ⟨rfl, rfl⟩
 ·have hh : r.has 1 = false := by show (r.s1 == 1) = false; simpa using hs
  have HP : Hid (r.phase = false) := by unfold Hid Ky.Rg.phase; rw [show (r.s1 == 1) = false from hh]; rfl
  rw [hh] at HH
  rw [HP.out]
  clear h hs hh
  go_enter Tryd.func20, Tryd.ntmps20
  go_wp2_with fail
  refine HH.out.mono ?_
  rintro e w' ⟨rfl, rfl⟩
  go_wp2
  go_ret
  exact ⟨rfl, rfl⟩
theorem phase_nil (w : World) : Calls Tryd.prog 20 #[.pointer none] w fun e w' => e = .returned (.bool false) ∧ w = w' := by
 have HH := Lib.hid (has_nil 1 w)
 go_enter Tryd.func20, Tryd.ntmps20
 go_wp2_with fail
 refine HH.out.mono ?_
 rintro e w' ⟨rfl, rfl⟩
 go_wp2
 go_ret
 exact ⟨rfl, rfl⟩
end Go.Proofs.YtabfcaidioohfaaDoor
namespace Go.Proofs.YtabfcaidioohfaaDoor
open List (getElem?_toArray getElem?_cons_zero getElem?_cons_succ setIfInBounds_toArray set_cons_zero set_cons_succ)
open Go Go.RowKit Go.Shelf
set_option linter.unusedVariables false
set_option linter.unusedSimpArgs false
set_option maxRecDepth 100000
/-- Which of a level's three pointers are some. -/
def lvb (r : Ky.Rg) : Nat → Nat → Bool
 | 0, 0 => r.s0 == 1
 | 0, 1 => r.s0 == 1
 | 0, _ => false
 | _, 0 => r.s1 == 1
 | _, 1 => r.s1 == 1
 | _, _ => r.ho
def lva (a0 b0 a1 b1 c1 : Nat) : Nat → Nat → Nat
 | 0, 0 => a0
 | 0, 1 => b0
 | 0, _ => 0
 | _, 0 => a1
 | _, 1 => b1
 | _, _ => c1
def lvv (r : Ky.Rg) (a0 b0 a1 b1 c1 k j : Nat) : Value := pv (lvb r k j) (lva a0 b0 a1 b1 c1 k j)
end Go.Proofs.YtabfcaidioohfaaDoor
namespace Go.Ky.Rg
open Go.Proofs.YtabfcaidioohfaaDoor
def cn (r : Ky.Rg) (k : Nat) : Nat → Nat
 | 0 => 0
 | j + 1 => cn r k j + if lvb r k j then 1 else 0
theorem cn_le (r : Ky.Rg) (k : Nat) : ∀ j, r.cn k j ≤ j
 | 0 => Nat.le_refl _
 | j + 1 => by
  have := cn_le r k j
  show Ky.Rg.cn r k j + _ ≤ j + 1
  split <;> omega
def ln (r : Ky.Rg) : Nat → Nat
 | 0 => 0
 | k + 1 => ln r k + r.cn k 3
theorem ln_le (r : Ky.Rg) : ∀ k, r.ln k ≤ 3 * k
 | 0 => Nat.le_refl _
 | k + 1 => by
  have := ln_le r k
  have h2 := r.cn_le k 3
  show Ky.Rg.ln r k + _ ≤ 3 * (k + 1)
  omega
end Go.Ky.Rg
namespace Go.Proofs.YtabfcaidioohfaaDoor
open List (getElem?_toArray getElem?_cons_zero getElem?_cons_succ setIfInBounds_toArray set_cons_zero set_cons_succ)
open Go Go.RowKit Go.Shelf
set_option linter.unusedVariables false
set_option linter.unusedSimpArgs false
set_option maxRecDepth 100000
theorem live_ln (r : Ky.Rg) : r.ln 2 = r.live := by
 show 0 + (0 + (if (r.s0 == 1) = true then 1 else 0) + (if (r.s0 == 1) = true then 1 else 0) + (if false = true then 1 else 0)) + (0 + (if (r.s1 == 1) = true then 1 else 0) + (if (r.s1 == 1) = true then 1 else 0) + (if r.ho = true then 1 else 0)) = r.live
 unfold Ky.Rg.live
 generalize (r.s0 == 1) = a
 generalize (r.s1 == 1) = b
 generalize r.ho = c
 cases a <;> cases b <;> cases c <;> rfl
theorem lvv_ptr (r : Ky.Rg) (a0 b0 a1 b1 c1 k j : Nat) : ∃ p, lvv r a0 b0 a1 b1 c1 k j = .pointer p := by
 unfold lvv pv
 split
 ·exact ⟨_, rfl⟩
 ·exact ⟨_, rfl⟩
def rgRow (r : Ky.Rg) (a0 b0 a1 b1 c1 : Nat) : Array Value := #[pv (r.s0 == 1) a0, pv (r.s0 == 1) b0, .pointer none, .bool (r.s0 != 0), pv (r.s1 == 1) a1, pv (r.s1 == 1) b1, pv r.ho c1, .bool (r.s1 != 0)]
theorem idx3p (a b c : Value) (i : Nat) (hi : i < 3) (w : World) : (Instr.index 82 (.agg #[a, b, c]) (.int .i64 (i : Int))).run Tryd.prog w = .ok (sl3 a b c i) w := by
 obtain rfl | rfl | rfl : i = 0 ∨ i = 1 ∨ i = 2 := by omega
 all_goals kernel_rfl
set_option maxHeartbeats 4000000 in
theorem live_any (R : Nat) (r : Ky.Rg) (w : World) (h : RgP R r w) : Calls Tryd.prog 19 #[.pointer (some ⟨R, 0, none⟩)] w fun e w' => e = .returned (.int .i64 (r.live : Int)) ∧ Below w.heap.size w w' := by
 have HA0 := Lib.hid (fun w => at_any R 0 w)
 have HA1 := Lib.hid (fun w => at_any R 1 w)
 obtain ⟨_, a0, b0, a1, b1, c1, hp⟩ := h
 have HO : Hid (Obj w R 85 (rgRow r a0 b0 a1 b1 c1)) := hp.o
 have HL := Lib.hid (live_ln r)
 clear hp
 rw [← HL.out]
 go_enter Tryd.func19, Tryd.ntmps19
 go_wp2
 go_loopw [3, 8] (fun n i V => ∃ k : Nat, k ≤ 2 ∧ i = .int .i64 (k : Int) ∧ n = .int .i64 ((r.ln k : Nat) : Int) ∧ Below w.heap.size w V ∧ Obj V R 85 (rgRow r a0 b0 a1 b1 c1)) (fun _ i _ => 2 - (intOf i).toNat)
 case atStart => exact ⟨0, by omega, rfl, rfl, Below.refl _ _, HO.out⟩
 case round =>
  clear HO
  obtain ⟨k, hk, rfl, rfl, hB, hO⟩ := hrel
  by_cases hlt : k < 2
  ·obtain rfl | rfl : k = 0 ∨ k = 1 := by omega
   ·rw [atV_0] at HA0
    have y0 : wr.cell? ⟨R, 0, none⟩ = some (lvv r a0 b0 a1 b1 c1 0 0) := hO.cell 0
    have y1 : wr.cell? ⟨R, 1, none⟩ = some (lvv r a0 b0 a1 b1 c1 0 1) := hO.cell 1
    have y2 : wr.cell? ⟨R, 2, none⟩ = some (lvv r a0 b0 a1 b1 c1 0 2) := hO.cell 2
    have hx : ∀ j, j < 3 → sl3 (lvv r a0 b0 a1 b1 c1 0 0) (lvv r a0 b0 a1 b1 c1 0 1) (lvv r a0 b0 a1 b1 c1 0 2) j = lvv r a0 b0 a1 b1 c1 0 j := fun j hj => by
     obtain rfl | rfl | rfl : j = 0 ∨ j = 1 ∨ j = 2 := by omega
     all_goals rfl
    have HX := Lib.hid hx
    have HLN : Hid (r.ln (0 + 1) = r.ln 0 + r.cn 0 3) := rfl
    have HLB : r.ln 0 ≤ 3 * 0 := r.ln_le 0
    have HCB := Lib.hid (fun j => r.cn_le 0 j)
    have HCN : Hid (∀ j, r.cn 0 (j + 1) = r.cn 0 j + if lvb r 0 j then 1 else 0) := fun j => rfl
    have HLV : Hid (∀ j, lvv r a0 b0 a1 b1 c1 0 j = pv (lvb r 0 j) (lva a0 b0 a1 b1 c1 0 j)) := fun j => rfl
    have HBD : Hid (Below w.heap.size w wr.drew) := hB.drew
    have HOD : Hid (Obj wr.drew R 85 (rgRow r a0 b0 a1 b1 c1)) := hO.drew
    clear hO hB hx hlt hk
    obtain ⟨v0, hv0⟩ := lvv_ptr r a0 b0 a1 b1 c1 0 0
    obtain ⟨v1, hv1⟩ := lvv_ptr r a0 b0 a1 b1 c1 0 1
    obtain ⟨v2, hv2⟩ := lvv_ptr r a0 b0 a1 b1 c1 0 2
    rw [hv0, hv1, hv2] at HX
    rw [hv0] at y0
    rw [hv1] at y1
    rw [hv2] at y2
    clear hv0 hv1 hv2
    go_wp2_with fail
    refine (HA0.out wr).mono ?_
    rintro e w' ⟨rfl, rfl⟩
    go_wp2
    go_region
    go_wp2
    go_loopw [3, 29] (fun n i V => ∃ j : Nat, j ≤ 3 ∧ i = .int .i64 (j : Int) ∧ n = .int .i64 ((r.ln 0 + r.cn 0 j : Nat) : Int) ∧ Below w.heap.size w V ∧ Obj V R 85 (rgRow r a0 b0 a1 b1 c1)) (fun _ i _ => 3 - (intOf i).toNat)
    case atStart => exact ⟨0, by omega, rfl, by rfl, HBD.out, HOD.out⟩
    case round =>
     clear HBD HOD
     obtain ⟨j, hj, rfl, rfl, hB, hO⟩ := hrel
     have HB2 := Lib.hid hB
     have HO2 := Lib.hid hO
     clear hB hO
     by_cases hjl : j < 3
     ·have hji : (j : Int) < 3 := by omega
      have hix : ∀ W, (Instr.index 82 (.agg #[.pointer v0, .pointer v1, .pointer v2]) (.int .i64 (j : Int))).run Tryd.prog W = .ok (pv (lvb r 0 j) (lva a0 b0 a1 b1 c1 0 j)) W := fun W => by
       rw [← HLV.out, ← HX.out j hjl]; exact idx3p _ _ _ j hjl W
      have HC1 := Lib.hid (HCN.out j)
      have hcb := HCB.out j
      obtain ⟨m, hm⟩ : ∃ m, r.ln 0 + r.cn 0 j = m := ⟨_, rfl⟩
      have HM : Hid (r.ln 0 + r.cn 0 (j + 1) = m + if lvb r 0 j then 1 else 0) := by unfold Hid; rw [HC1.out, ← hm]; omega
      have hmb : m ≤ 100 := by omega
      rw [hm]
      clear hm hcb HC1
      generalize lvb r 0 j = b at *
      cases b
      ·have HM2 : Hid (r.ln 0 + r.cn 0 (j + 1) = m) := HM.out
       clear HM
       have hpv : ∀ a, pv false a = .pointer none := fun a => rfl
       go_wp2
       go_roundw
       case rel => exact ⟨j + 1, by omega, by go_num, by rw [HM2.out], HB2.out, HO2.out⟩
       case measure => simp [intOf]; omega
      ·have HM2 : Hid (r.ln 0 + r.cn 0 (j + 1) = m + 1) := HM.out
       clear HM
       have hpv : ∀ a, pv true a = .pointer (some ⟨a, 0, none⟩) := fun a => rfl
       go_wp2
       go_roundw
       case rel => exact ⟨j + 1, by omega, by go_num, by rw [HM2.out]; go_num, HB2.out, HO2.out⟩
       case measure => simp [intOf]; omega
     ·obtain rfl : j = 3 := by omega
      clear hjl hj
      rw [← HLN.out]
      go_wp2
      go_roundw
      case rel => exact ⟨0 + 1, by omega, by go_num, rfl, HB2.out, HO2.out⟩
      case measure => simp [intOf]
   ·rw [atV_1] at HA1
    have y0 : wr.cell? ⟨R, 4, none⟩ = some (lvv r a0 b0 a1 b1 c1 1 0) := hO.cell 4
    have y1 : wr.cell? ⟨R, 5, none⟩ = some (lvv r a0 b0 a1 b1 c1 1 1) := hO.cell 5
    have y2 : wr.cell? ⟨R, 6, none⟩ = some (lvv r a0 b0 a1 b1 c1 1 2) := hO.cell 6
    have hx : ∀ j, j < 3 → sl3 (lvv r a0 b0 a1 b1 c1 1 0) (lvv r a0 b0 a1 b1 c1 1 1) (lvv r a0 b0 a1 b1 c1 1 2) j = lvv r a0 b0 a1 b1 c1 1 j := fun j hj => by
     obtain rfl | rfl | rfl : j = 0 ∨ j = 1 ∨ j = 2 := by omega
     all_goals rfl
    have HX := Lib.hid hx
    have HLN : Hid (r.ln (1 + 1) = r.ln 1 + r.cn 1 3) := rfl
    have HLB : r.ln 1 ≤ 3 * 1 := r.ln_le 1
    have HCB := Lib.hid (fun j => r.cn_le 1 j)
    have HCN : Hid (∀ j, r.cn 1 (j + 1) = r.cn 1 j + if lvb r 1 j then 1 else 0) := fun j => rfl
    have HLV : Hid (∀ j, lvv r a0 b0 a1 b1 c1 1 j = pv (lvb r 1 j) (lva a0 b0 a1 b1 c1 1 j)) := fun j => rfl
    have HBD : Hid (Below w.heap.size w wr.drew) := hB.drew
    have HOD : Hid (Obj wr.drew R 85 (rgRow r a0 b0 a1 b1 c1)) := hO.drew
    clear hO hB hx hlt hk
    obtain ⟨v0, hv0⟩ := lvv_ptr r a0 b0 a1 b1 c1 1 0
    obtain ⟨v1, hv1⟩ := lvv_ptr r a0 b0 a1 b1 c1 1 1
    obtain ⟨v2, hv2⟩ := lvv_ptr r a0 b0 a1 b1 c1 1 2
    rw [hv0, hv1, hv2] at HX
    rw [hv0] at y0
    rw [hv1] at y1
    rw [hv2] at y2
    clear hv0 hv1 hv2
    go_wp2_with fail
    refine (HA1.out wr).mono ?_
    rintro e w' ⟨rfl, rfl⟩
    go_wp2
    go_region
    go_wp2
    go_loopw [3, 29] (fun n i V => ∃ j : Nat, j ≤ 3 ∧ i = .int .i64 (j : Int) ∧ n = .int .i64 ((r.ln 1 + r.cn 1 j : Nat) : Int) ∧ Below w.heap.size w V ∧ Obj V R 85 (rgRow r a0 b0 a1 b1 c1)) (fun _ i _ => 3 - (intOf i).toNat)
    case atStart => exact ⟨0, by omega, rfl, by rfl, HBD.out, HOD.out⟩
    case round =>
     clear HBD HOD
     obtain ⟨j, hj, rfl, rfl, hB, hO⟩ := hrel
     have HB2 := Lib.hid hB
     have HO2 := Lib.hid hO
     clear hB hO
     by_cases hjl : j < 3
     ·have hji : (j : Int) < 3 := by omega
      have hix : ∀ W, (Instr.index 82 (.agg #[.pointer v0, .pointer v1, .pointer v2]) (.int .i64 (j : Int))).run Tryd.prog W = .ok (pv (lvb r 1 j) (lva a0 b0 a1 b1 c1 1 j)) W := fun W => by
       rw [← HLV.out, ← HX.out j hjl]; exact idx3p _ _ _ j hjl W
      have HC1 := Lib.hid (HCN.out j)
      have hcb := HCB.out j
      obtain ⟨m, hm⟩ : ∃ m, r.ln 1 + r.cn 1 j = m := ⟨_, rfl⟩
      have HM : Hid (r.ln 1 + r.cn 1 (j + 1) = m + if lvb r 1 j then 1 else 0) := by unfold Hid; rw [HC1.out, ← hm]; omega
      have hmb : m ≤ 100 := by omega
      rw [hm]
      clear hm hcb HC1
      generalize lvb r 1 j = b at *
      cases b
      ·have HM2 : Hid (r.ln 1 + r.cn 1 (j + 1) = m) := HM.out
       clear HM
       have hpv : ∀ a, pv false a = .pointer none := fun a => rfl
       go_wp2
       go_roundw
       case rel => exact ⟨j + 1, by omega, by go_num, by rw [HM2.out], HB2.out, HO2.out⟩
       case measure => simp [intOf]; omega
      ·have HM2 : Hid (r.ln 1 + r.cn 1 (j + 1) = m + 1) := HM.out
       clear HM
       have hpv : ∀ a, pv true a = .pointer (some ⟨a, 0, none⟩) := fun a => rfl
       go_wp2
       go_roundw
       case rel => exact ⟨j + 1, by omega, by go_num, by rw [HM2.out]; go_num, HB2.out, HO2.out⟩
       case measure => simp [intOf]; omega
     ·obtain rfl : j = 3 := by omega
      clear hjl hj
      rw [← HLN.out]
      go_wp2
      go_roundw
      case rel => exact ⟨1 + 1, by omega, by go_num, rfl, HB2.out, HO2.out⟩
      case measure => simp [intOf]
  ·obtain rfl : k = 2 := by omega
   have HB2 := Lib.hid hB
   clear hB hO hlt hk HA0 HA1
   go_wp2
   go_ret
   exact ⟨rfl, HB2.out⟩
theorem live_nil (w : World) : Calls Tryd.prog 19 #[.pointer none] w fun e w' => e = .returned (.int .i64 0) ∧ Below w.heap.size w w' := by
 have HA := Lib.hid (fun n w => at_nil n w)
 go_enter Tryd.func19, Tryd.ntmps19
 go_wp2
 go_loopw [3, 8] (fun n i V => ∃ k : Nat, k ≤ 2 ∧ i = .int .i64 (k : Int) ∧ n = .int .i64 0 ∧ Below w.heap.size w V) (fun _ i _ => 2 - (intOf i).toNat)
 case atStart => exact ⟨0, by omega, rfl, rfl, Below.refl _ _⟩
 case round =>
  obtain ⟨k, hk, rfl, rfl, hB⟩ := hrel
  have HB := Lib.hid hB
  clear hB
  by_cases hlt : k < 2
  ·have hki : (k : Int) < 2 := by omega
   go_wp2_with fail
   refine (HA.out _ wr).mono ?_
   rintro e w' ⟨rfl, rfl⟩
   go_wp2
   go_roundw
   case rel => exact ⟨k + 1, by omega, by go_num, rfl, HB.out⟩
   case measure => simp [intOf]; omega
  ·obtain rfl : k = 2 := by omega
   go_wp2
   go_ret
   exact ⟨rfl, HB.out⟩
end Go.Proofs.YtabfcaidioohfaaDoor
