/- Layer 7's round, walked. -/
import Derived.Test.YtanigdadhldceaaDoorRows
import Derived.Test.YtanigdadhldceaaDoorAid
import Derived.Test.YtanigdadhldceaaDoorPlainSh
import Derived.Test.YtanigdadhldceaaDoorBy
import Derived.Test.YtanigdadhldceaaDoorShA
import Derived.Test.YtanigdadhldceaaDoorShB
import Derived.Test.YtanigdadhldceaaDoorShW
import Derived.Test.YtanigdadhldceaaDoorHeldT
import Derived.WalkKit
import Derived.OwnWalk
import Derived.Laws.Rows
import Derived.Laws.Tables
import Derived.Laws.BitsAllLaws
import Derived.WalkSpells
import Derived.WalkLawsBesides
import Derived.Deep.QuietTactic
import Derived.BigQuiet
import Derived.Handy
import Derived.Lib.Hide
import Derived.Deep.WholeRow
import Derived.IntWalk
import Derived.StillTailTactics
import Derived.Deep.RegionHeld3
namespace Go.Proofs.YtanigdadhldceaaDoor
open Go.RowKit
set_option linter.unusedVariables false
set_option linter.unusedSimpArgs false

theorem set_far {w : World} {b i j : Nat} (v u : Value) (h : w.cell? ⟨b, i, none⟩ = some u) (hne : i ≠ j) : (w.setCell ⟨b, j, none⟩ v).cell? ⟨b, i, none⟩ = some u :=
  (World.cell?_setCell_other _ _ _ _ (by intro e; cases e; exact hne rfl)).trans h
/-- A state of eight words is stored whole. -/
theorem wpList_store8 {ops : Array Oper} {rest : List Oper} {o : Oper} {a : Act} {w : World} {Q : Exit → Act → World → Prop} (hgd : o.guard = none) (x y : Operand) (ho : o.op = .store 40 x y)
    (g : Nat) (v0 v1 v2 v3 v4 v5 v6 v7 : Int) (hx : a.eval x = .pointer (some ⟨g, 0, none⟩)) (hy : a.eval y = .agg #[.int .u32 v0, .int .u32 v1, .int .u32 v2, .int .u32 v3, .int .u32 v4, .int .u32 v5, .int .u32 v6, .int .u32 v7]) (st : List Nat) (hO : Obj w g 40 (cellsK .u32 st)) (hl : st.length = 8)
    (h : wpList Tryd.prog ops Q rest (a.put o.dst undef) (w.setRow g #[.int .u32 v0, .int .u32 v1, .int .u32 v2, .int .u32 v3, .int .u32 v4, .int .u32 v5, .int .u32 v6, .int .u32 v7])) : wpList Tryd.prog ops Q (o :: rest) a w :=
  wpList_store_row hgd 40 x y ho g #[.int .u32 v0, .int .u32 v1, .int .u32 v2, .int .u32 v3, .int .u32 v4, .int .u32 v5, .int .u32 v6, .int .u32 v7] hx hy 40 _ hO info32x8 (by rw [cellsK_size, hl]; rfl) (by simp [Value.oneCell']) h
/-- Round's blocks. -/
structure RdW (w0 : World) (B : Nat) (h : List Nat) (l : List Nat) (w : World) : Prop where
  hO : Obj w B 40 (cellsK .u32 h)
  rO : Obj w (B + 1) 40 (cellsK .u32 (List.replicate 8 0))
  wO : Obj w (B + 1 + 1) 49 (cellsK .u32 (row64 l))
  bel : Below B w0 w
theorem RdW.drewN {w0 w : World} {B : Nat} {h l : List Nat} (q : RdW w0 B h l w) (n : Nat) : RdW w0 B h l (w.drewN n) := ⟨q.hO, q.rO, q.wO, ⟨q.bel.os, q.bel.tape, q.bel.output, q.bel.size, q.bel.block⟩⟩
theorem RdW.set {w0 w : World} {B : Nat} {h l : List Nat} (q : RdW w0 B h l w) (hl : l.length < 64) (v : Nat) : RdW w0 B h (l ++ [v]) (w.setCell ⟨B + 1 + 1, l.length, none⟩ (.int .u32 ((v : Nat) : Int))) := by
  have hu : Upd (B + 1 + 1) w (w.setCell ⟨B + 1 + 1, l.length, none⟩ (.int .u32 ((v : Nat) : Int))) := (Upd.refl _ w).set _ _
  refine ⟨q.hO.upd hu (by omega), q.rO.upd hu (by omega), ?_, ⟨hu.os.trans q.bel.os, hu.tape.trans q.bel.tape, hu.output.trans q.bel.output, Nat.le_trans q.bel.size hu.size, fun k hk => (hu.block k (by have := q.hO.lt; omega) (by omega)).trans (q.bel.block k hk)⟩⟩
  rw [← row64_set l v hl]
  exact q.wO.setK l.length v

theorem RdW.kept {w0 w w' : World} {B : Nat} {h l : List Nat} (q : RdW w0 B h l w) (hb : Below w.heap.size w w') : RdW w0 B h l w' := ⟨q.hO.kept hb, q.rO.kept hb, q.wO.kept hb, q.bel.trans (hb.mono (Nat.le_of_lt q.hO.lt))⟩
theorem RdW.upd {w0 w w' : World} {B b : Nat} {h l : List Nat} (q : RdW w0 B h l w) (hu : Upd b w w') (hb : B + 1 + 1 < b) : RdW w0 B h l w' :=
  ⟨q.hO.upd hu (by omega), q.rO.upd hu (by omega), q.wO.upd hu (by omega), ⟨hu.os.trans q.bel.os, hu.tape.trans q.bel.tape, hu.output.trans q.bel.output, Nat.le_trans q.bel.size hu.size, fun k hk => (hu.block k (by have := q.hO.lt; omega) (by omega)).trans (q.bel.block k hk)⟩⟩
def gt (s : List Nat) (i : Nat) : Nat := s.getD i 0
/-- Round's blocks and its state's. -/
structure R2 (w0 : World) (B : Nat) (h l : List Nat) (Sb : Nat) (s : List Nat) (w : World) : Prop where
  rd : RdW w0 B h l w
  sO : Obj w Sb 40 (cellsK .u32 s)
  sb : B + 1 + 1 < Sb
theorem R2.kept {w0 w w' : World} {B Sb : Nat} {h l s : List Nat} (q : R2 w0 B h l Sb s w) (hb : Below w.heap.size w w') : R2 w0 B h l Sb s w' := ⟨q.rd.kept hb, q.sO.kept hb, q.sb⟩
theorem R2.drewN {w0 w : World} {B Sb : Nat} {h l s : List Nat} (q : R2 w0 B h l Sb s w) (n : Nat) : R2 w0 B h l Sb s (w.drewN n) := ⟨q.rd.drewN n, q.sO.drewN n, q.sb⟩
theorem R2.cell {w0 w : World} {B Sb : Nat} {h l s : List Nat} (q : R2 w0 B h l Sb s w) (hs : s.length = 8) (i : Nat) (hi : i < 8) : w.cell? ⟨Sb, i, none⟩ = some (.int .u32 ((gt s i : Nat) : Int)) := q.sO.getK i (by omega)
theorem gt_lt {s : List Nat} (h : ∀ x ∈ s, x < 4294967296) (i : Nat) : gt s i < 4294967296 := Sh.getD_lt h i

/-- The state's sums so far. -/
def sumK (h s : List Nat) (k : Nat) : List Nat := (List.range 8).map fun j => if j < k then (gt h j + gt s j) % 4294967296 else gt h j
theorem sumK_len (h s : List Nat) (k : Nat) : (sumK h s k).length = 8 := by simp [sumK]
theorem sumK_get (h s : List Nat) (k j : Nat) (hj : j < 8) : (sumK h s k).getD j 0 = if j < k then (gt h j + gt s j) % 4294967296 else gt h j := by
  unfold sumK
  rw [List.getD_eq_getElem?_getD, List.getElem?_map, List.getElem?_range hj]; rfl
theorem list8 {l m : List Nat} (h1 : l.length = 8) (h2 : m.length = 8) (h : ∀ i, i < 8 → l.getD i 0 = m.getD i 0) : l = m := by
  apply List.ext_getElem (by omega)
  intro i q1 q2
  have := h i (by omega)
  rw [List.getD_eq_getElem?_getD, List.getD_eq_getElem?_getD, List.getElem?_eq_getElem q1, List.getElem?_eq_getElem q2] at this
  simpa using this
theorem sumK_zero (h s : List Nat) (hh : h.length = 8) : sumK h s 0 = h := list8 (sumK_len _ _ _) hh fun i hi => by rw [sumK_get _ _ _ _ hi, if_neg (by omega)]; rfl
theorem sumK_set (h s : List Nat) (k : Nat) (hk : k < 8) : (sumK h s k).set k ((gt h k + gt s k) % 4294967296) = sumK h s (k + 1) :=
  list8 (by rw [List.length_set, sumK_len]) (sumK_len _ _ _) fun i hi => by
    rw [sumK_get _ _ _ _ hi, List.getD_eq_getElem?_getD, List.getElem?_set]
    by_cases e : k = i
    · subst e
      rw [if_pos rfl, if_pos (by rw [sumK_len]; exact hk), if_pos (by omega)]; rfl
    · rw [if_neg e, ← List.getD_eq_getElem?_getD, sumK_get _ _ _ _ hi]
      by_cases h1 : i < k
      · rw [if_pos h1, if_pos (by omega)]
      · rw [if_neg h1, if_neg (by omega)]
theorem sumK_full (h l : List Nat) : sumK h (Sh.rK h l 64) 8 = Sh.turn h l := list8 (sumK_len _ _ _) (Sh.turn_len _ _) fun i hi => by
  rw [sumK_get _ _ _ _ hi, if_pos hi]
  unfold Sh.turn
  rw [List.getD_eq_getElem?_getD, List.getElem?_map, List.getElem?_range hi]; rfl
theorem row_below {w0 w : World} {B : Nat} (h : Below B w0 w) (hl : B + 1 < w.heap.size) (cs : Array Value) : Below B w0 (w.setRow (B + 1) cs) := by
  have hu : Upd (B + 1) w (w.setRow (B + 1) cs) := (Upd.refl _ w).row cs
  exact ⟨hu.os.trans h.os, hu.tape.trans h.tape, hu.output.trans h.output, Nat.le_trans h.size hu.size, fun k hk => (hu.block k (by omega) (by omega)).trans (h.block k hk)⟩
/-- Round's last blocks. -/
structure R3 (w0 : World) (B Sb : Nat) (h s : List Nat) (k : Nat) (w : World) : Prop where
  hO : Obj w B 40 (cellsK .u32 (sumK h s k))
  rO : Obj w (B + 1) 40 (cellsK .u32 (List.replicate 8 0))
  sO : Obj w Sb 40 (cellsK .u32 s)
  sb : B + 1 + 1 < Sb
  bel : Below B w0 w
theorem R3.drewN {w0 w : World} {B Sb k : Nat} {h s : List Nat} (q : R3 w0 B Sb h s k w) (n : Nat) : R3 w0 B Sb h s k (w.drewN n) := ⟨q.hO, q.rO, q.sO, q.sb, ⟨q.bel.os, q.bel.tape, q.bel.output, q.bel.size, q.bel.block⟩⟩
theorem R3.set {w0 w : World} {B Sb k : Nat} {h s : List Nat} (q : R3 w0 B Sb h s k w) (hk : k < 8) : R3 w0 B Sb h s (k + 1) (w.setCell ⟨B, k, none⟩ (.int .u32 (((gt h k + gt s k) % 4294967296 : Nat) : Int))) := by
  have hu : Upd B w (w.setCell ⟨B, k, none⟩ (.int .u32 (((gt h k + gt s k) % 4294967296 : Nat) : Int))) := (Upd.refl _ w).set _ _
  have hsb := q.sb
  refine ⟨?_, q.rO.upd hu (by omega), q.sO.upd hu (by omega), q.sb, ⟨hu.os.trans q.bel.os, hu.tape.trans q.bel.tape, hu.output.trans q.bel.output, Nat.le_trans q.bel.size hu.size, fun j hj => (hu.block j (by have := q.hO.lt; omega) (by omega)).trans (q.bel.block j hj)⟩⟩
  rw [← sumK_set h s k hk]
  exact q.hO.setK k _

set_option maxRecDepth 100000 in
set_option maxHeartbeats 16000000 in
theorem round_any (h : List Nat) (A : Option Addr) (c : Nat) (l : List Nat) (w : World) (ht : Tabs w) (hh : h.length = 8) (hh2 : ∀ x ∈ h, x < 4294967296) (hA : Rb w A l) (hl : l.length = 64) (hb : ∀ x ∈ l, x < 256) (hc : 64 ≤ c ∧ c ≤ maxLen) :
    Calls Tryd.prog 22 #[.agg (cellsK .u32 h), .slice A 64 c] w fun e w' => e = .returned (.agg (cellsK .u32 (Sh.turn h l))) ∧ Below w.heap.size w w' := by
  obtain ⟨B, hB⟩ : ∃ B, w.heap.size = B := ⟨_, rfl⟩
  obtain ⟨bb, oo, rfl, hbb, hcell⟩ := hA (by omega)
  have hz := (zero_of_info zero64).1
  have HW0 : Hid (RdW w B h [] (((w.alloc (.cells (cellsK .u32 h) 40)).alloc (.cells #[.int .u32 0, .int .u32 0, .int .u32 0, .int .u32 0, .int .u32 0, .int .u32 0, .int .u32 0, .int .u32 0] 40)).alloc (.cells (cellsK .u32 z64) 49))) := by
    have o1 := Obj.new w 40 (cellsK .u32 h)
    have o2 := Obj.new (w.alloc (.cells (cellsK .u32 h) 40)) 40 #[.int .u32 0, .int .u32 0, .int .u32 0, .int .u32 0, .int .u32 0, .int .u32 0, .int .u32 0, .int .u32 0]
    have o3 := Obj.new ((w.alloc (.cells (cellsK .u32 h) 40)).alloc (.cells #[.int .u32 0, .int .u32 0, .int .u32 0, .int .u32 0, .int .u32 0, .int .u32 0, .int .u32 0, .int .u32 0] 40)) 49 (cellsK .u32 z64)
    simp only [World.size_alloc, hB, Nat.add_assoc, Nat.reduceAdd] at o1 o2 o3
    refine ⟨(o1.alloc _).alloc _, o2.alloc _, o3, ?_⟩
    rw [← hB]
    exact (((Below.refl _ w).alloc (Nat.le_refl _) _).alloc (by simp) _).alloc (by simp; omega) _
  have HRB : Hid (∀ wr k, Below B w wr → 4 * k < 64 → Rb wr (some ⟨bb, oo + 4 * k, none⟩) (l.drop (4 * k))) := fun wr k hbw hk => by
    rw [← hB] at hbw
    exact (hA.below hbw).drop (4 * k)
  have HL := Lib.hid hl
  have HBY := Lib.hid hb
  have HCM := Lib.hid hc
  have HT := Lib.hid ht
  have HH := Lib.hid hh
  have HH2 := Lib.hid hh2
  have hci : 64 ≤ c ∧ c ≤ 9223372036854775807 := ⟨hc.1, by have := hc.2; simp only [maxLen] at this; omega⟩
  clear ht hh hh2 hA hl hb hc hcell hbb
  go_enter Tryd.func22, Tryd.ntmps22
  go_wp2
  try rw [hB]
  have HB := Lib.hid hB
  clear hB
  clear hz
  go_loopw [14] (fun i wr => ∃ k : Nat, k ≤ 64 ∧ i = .int .i64 k ∧ RdW w B h (Sh.wK l k) wr) (fun i _ => 64 - (intOf i).toNat)
  case atStart => exact ⟨0, by omega, rfl, HW0.out⟩
  case round =>
    clear HW0
    obtain ⟨k, hk, rfl, hR⟩ := hrel
    have HR := Lib.hid hR
    by_cases hlt : k < 64
    · have hki : (k : Int) < 64 := by omega
      have hki2 : decide ((k : Int) < 64) = true := by simp; omega
      have zk := hR.wO.free k
      have ck := hR.wO.getK k (by rw [row64_len _ (by rw [Sh.wK_len]; omega)]; exact hlt)
      by_cases h16 : k < 16
      · have hk16 : (k : Int) < 16 := by omega
        have hk16' : decide ((k : Int) < 16) = true := by simp; omega
        have hm4 : IntKind.i64.wrap (4 * (k : Int)) = ((4 * k : Nat) : Int) := by rw [IntKind.wrap_i64]; omega
        have hk4 : 4 * k < 64 := by omega
        have HWD : Hid (Calls Tryd.prog 26 #[.slice (some ⟨bb, oo + 4 * k, none⟩) (64 - 4 * k) (c - 4 * k)] wr fun e w' => e = .returned (.int .u32 (Sh.word l (4 * k) : Nat)) ∧ ∃ q, w' = wr.drewN q) := by
          have := word_any (some ⟨bb, oo + 4 * k, none⟩) (64 - 4 * k) (c - 4 * k) (l.drop (4 * k)) wr (HRB.out wr k hR.bel hk4) (by rw [List.length_drop, HL.out]) (by omega) (by have := HCM.out; omega) (fun x hx => HBY.out x (List.mem_of_mem_drop hx))
          have e : Sh.word (l.drop (4 * k)) 0 = Sh.word l (4 * k) := by
            unfold Sh.word
            simp only [List.getD_eq_getElem?_getD, List.getElem?_drop, Nat.add_zero, Nat.zero_add]
          rw [e] at this
          exact this
        have HNX : Hid (∀ q, RdW w B h (Sh.wK l (k + 1)) ((wr.drewN q).setCell ⟨B + 1 + 1, k, none⟩ (.int .u32 ((Sh.word l (4 * k) : Nat) : Int)))) := fun q => by
          have := (hR.drewN q).set (by rw [Sh.wK_len]; exact hlt) (Sh.word l (4 * k))
          rw [Sh.wK_len] at this
          show RdW w B h (Sh.wK l k ++ [if k < 16 then Sh.word l (4 * k) else Sh.nextW (Sh.wK l k)]) _
          rw [if_pos h16]
          exact this
        clear hR HRB
        generalize Sh.word l (4 * k) = wv at *
        go_wp2_with fail
        refine HWD.out.mono ?_
        rintro e w' ⟨rfl, q, rfl⟩
        go_wp2
        go_roundw
        case rel => exact ⟨k + 1, by omega, by go_num, HNX.out q⟩
        case measure => simp [intOf]; omega
      · have hk16 : ¬ (k : Int) < 16 := by omega
        have hk16' : decide ((k : Int) < 16) = false := by simp; omega
        obtain ⟨m16, h16'⟩ : ∃ m, k - 16 = m := ⟨_, rfl⟩
        obtain ⟨m7, h7'⟩ : ∃ m, k - 7 = m := ⟨_, rfl⟩
        obtain ⟨m15, h15'⟩ : ∃ m, k - 15 = m := ⟨_, rfl⟩
        obtain ⟨m2, h2'⟩ : ∃ m, k - 2 = m := ⟨_, rfl⟩
        have i16 : IntKind.i64.wrap ((k : Int) - 16) = (m16 : Int) := by rw [IntKind.wrap_i64]; omega
        have i7 : IntKind.i64.wrap ((k : Int) - 7) = (m7 : Int) := by rw [IntKind.wrap_i64]; omega
        have i15 : IntKind.i64.wrap ((k : Int) - 15) = (m15 : Int) := by rw [IntKind.wrap_i64]; omega
        have i2 : IntKind.i64.wrap ((k : Int) - 2) = (m2 : Int) := by rw [IntKind.wrap_i64]; omega
        have j16 : (k : Int) - 16 = (m16 : Int) := by omega
        have j7 : (k : Int) - 7 = (m7 : Int) := by omega
        have j15 : (k : Int) - 15 = (m15 : Int) := by omega
        have j2 : (k : Int) - 2 = (m2 : Int) := by omega
        have v16 : IntKind.i64.wrap (m16 : Int) = (m16 : Int) := by rw [IntKind.wrap_i64]; omega
        have v7 : IntKind.i64.wrap (m7 : Int) = (m7 : Int) := by rw [IntKind.wrap_i64]; omega
        have v15 : IntKind.i64.wrap (m15 : Int) = (m15 : Int) := by rw [IntKind.wrap_i64]; omega
        have v2 : IntKind.i64.wrap (m2 : Int) = (m2 : Int) := by rw [IntKind.wrap_i64]; omega
        have b16 : (m16 : Int) < 64 := by omega
        have b7 : (m7 : Int) < 64 := by omega
        have b15 : (m15 : Int) < 64 := by omega
        have b2 : (m2 : Int) < 64 := by omega
        have hwl := Sh.wK_len l k
        have hwlt := Sh.wK_lt l HBY.out k
        have cell : ∀ i, i < k → wr.cell? ⟨B + 1 + 1, i, none⟩ = some (.int .u32 (((Sh.wK l k).getD i 0 : Nat) : Int)) := fun i hi => by
          rw [hR.wO.getK i (by rw [row64_len _ (by omega)]; omega), row64_get _ _ (by omega)]
        have g16 := cell m16 (by omega)
        have g7 := cell m7 (by omega)
        have g15 := cell m15 (by omega)
        have g2 := cell m2 (by omega)
        have t16 := Sh.getD_lt hwlt m16
        have t7 := Sh.getD_lt hwlt m7
        have t15 := Sh.getD_lt hwlt m15
        have t2 := Sh.getD_lt hwlt m2
        have HNV : Hid (Sh.nextW (Sh.wK l k) = ((Sh.wK l k).getD m16 0 + (Sh.wK l k).getD m7 0 + Sh.sg0 ((Sh.wK l k).getD m15 0) + Sh.sg1 ((Sh.wK l k).getD m2 0)) % 4294967296) := by
          unfold Hid Sh.nextW
          rw [hwl, h16', h7', h15', h2']
        have HNX : Hid (∀ q, RdW w B h (Sh.wK l (k + 1)) ((wr.drewN q).setCell ⟨B + 1 + 1, k, none⟩ (.int .u32 ((Sh.nextW (Sh.wK l k) : Nat) : Int)))) := fun q => by
          have := (hR.drewN q).set (by rw [Sh.wK_len]; exact hlt) (Sh.nextW (Sh.wK l k))
          rw [Sh.wK_len] at this
          show RdW w B h (Sh.wK l k ++ [if k < 16 then Sh.word l (4 * k) else Sh.nextW (Sh.wK l k)]) _
          rw [if_neg h16]
          exact this
        rw [HNV.out] at HNX
        have n1 : m16 ≠ k := by omega
        have n2 : m7 ≠ k := by omega
        clear hR HRB cell hwl hwlt h16' h7' h15' h2' h16 HNV
        generalize (Sh.wK l k).getD m16 0 = a at *
        generalize (Sh.wK l k).getD m7 0 = d at *
        generalize (Sh.wK l k).getD m15 0 = x at *
        generalize (Sh.wK l k).getD m2 0 = y at *
        have HR7 := Lib.hid (fun w => rot7_any x w t15)
        have HR18 := Lib.hid (fun w => rot18_any x w t15)
        have HR17 := Lib.hid (fun w => rot17_any y w t2)
        have HR19 := Lib.hid (fun w => rot19_any y w t2)
        have u7 := Sh.rr_lt x 7 t15
        have u18 := Sh.rr_lt x 18 t15
        have u17 := Sh.rr_lt y 17 t2
        have u19 := Sh.rr_lt y 19 t2
        have us0 := Sh.sg0_lt x t15
        have us1 := Sh.sg1_lt y t2
        obtain ⟨p1, hp1⟩ : ∃ p, (a + d) % 4294967296 = p := ⟨_, rfl⟩
        obtain ⟨p2, hp2⟩ : ∃ p, (p1 + Sh.sg0 x) % 4294967296 = p := ⟨_, rfl⟩
        obtain ⟨p3, hp3⟩ : ∃ p, (p2 + Sh.sg1 y) % 4294967296 = p := ⟨_, rfl⟩
        have hpp : (a + d + Sh.sg0 x + Sh.sg1 y) % 4294967296 = p3 := by omega
        rw [hpp] at HNX
        have q1 := wrap32 a d p1 hp1
        have q2 := wrap32 p1 (Sh.sg0 x) p2 hp2
        have q3 := wrap32 p2 (Sh.sg1 y) p3 hp3
        have y1 := u32_xor_nat _ _ u7 u18
        have y2 : bits .xor .u32 ((Sh.rr x 7 ^^^ Sh.rr x 18 : Nat) : Int) ((x : Int) / 8) = ((Sh.sg0 x : Nat) : Int) := by
          have := u32_xor_nat _ _ (Sh.xor_lt u7 u18) (Sh.div_lt x 8 t15)
          have e : ((x / 8 : Nat) : Int) = (x : Int) / 8 := by omega
          rw [e] at this
          exact this
        have y3 := u32_xor_nat _ _ u17 u19
        have y4 : bits .xor .u32 ((Sh.rr y 17 ^^^ Sh.rr y 19 : Nat) : Int) ((y : Int) / 1024) = ((Sh.sg1 y : Nat) : Int) := by
          have := u32_xor_nat _ _ (Sh.xor_lt u17 u19) (Sh.div_lt y 1024 t2)
          have e : ((y / 1024 : Nat) : Int) = (y : Int) / 1024 := by omega
          rw [e] at this
          exact this
        have hp3lt : p3 < 4294967296 := by omega
        generalize Sh.rr x 7 ^^^ Sh.rr x 18 = z1 at *
        generalize Sh.rr y 17 ^^^ Sh.rr y 19 = z2 at *
        generalize Sh.sg0 x = s0 at *
        generalize Sh.sg1 y = s1 at *
        generalize Sh.rr x 7 = r7 at *
        generalize Sh.rr x 18 = r18 at *
        generalize Sh.rr y 17 = r17 at *
        generalize Sh.rr y 19 = r19 at *
        clear hp1 hp2 hp3 hpp
        go_wp2
        go_quiet (fail)
        go_wp2
        refine wp_region_held_drew (S := (fun wq => (wq.cell? ⟨B + 1 + 1, m16, none⟩ = some (.int .u32 (a : Int)) ∧ wq.cell? ⟨B + 1 + 1, m7, none⟩ = some (.int .u32 (d : Int))))) (by kernel_rfl) ⟨g16, g7⟩ (fun hHeld => ?_)
        refine wpAnyH_take (i := 0) (oi := ?_) (v := ?_) ?_ ?_ ?_ ?_ ?_ ?_ (by assumption) ?_
        rotate_left 2
        · simp only [List.getElem?_toArray, List.getElem?_cons_zero, List.getElem?_cons_succ]
          rfl
        · kernel_rfl
        · kernel_rfl
        · kernel_rfl
        · exact fun _ _ _ h => h
        · refine Or.inl ⟨by rfl, ?_⟩
          intro w hSw
          (try dsimp only at hSw)
          go_simp
          all_goals with_reducible rfl
        simp only [Act.put, List.setIfInBounds_toArray, List.set_cons_zero, List.set_cons_succ]
        refine wpAnyH_take (i := 1) (oi := ?_) (v := ?_) ?_ ?_ ?_ ?_ ?_ ?_ (by assumption) ?_
        rotate_left 2
        · simp only [List.getElem?_toArray, List.getElem?_cons_zero, List.getElem?_cons_succ]
          rfl
        · kernel_rfl
        · kernel_rfl
        · kernel_rfl
        · exact fun _ _ _ h => h
        · refine Or.inl ⟨by rfl, ?_⟩
          intro w hSw
          (try dsimp only at hSw)
          go_simp
          all_goals with_reducible rfl
        simp only [Act.put, List.setIfInBounds_toArray, List.set_cons_zero, List.set_cons_succ]
        refine wpAnyH_take (i := 2) (oi := ?_) (v := ?_) ?_ ?_ ?_ ?_ ?_ ?_ (by assumption) ?_
        rotate_left 2
        · simp only [List.getElem?_toArray, List.getElem?_cons_zero, List.getElem?_cons_succ]
          rfl
        · kernel_rfl
        · kernel_rfl
        · kernel_rfl
        · exact fun _ _ _ h => h
        · refine Or.inl ⟨by rfl, ?_⟩
          intro w hSw
          (try dsimp only at hSw)
          go_simp
          all_goals with_reducible rfl
        simp only [Act.put, List.setIfInBounds_toArray, List.set_cons_zero, List.set_cons_succ]
        refine wpAnyH_take (i := 3) (oi := ?_) (v := ?_) ?_ ?_ ?_ ?_ ?_ ?_ (by assumption) ?_
        rotate_left 2
        · simp only [List.getElem?_toArray, List.getElem?_cons_zero, List.getElem?_cons_succ]
          rfl
        · kernel_rfl
        · kernel_rfl
        · kernel_rfl
        · exact fun _ _ _ h => h
        · refine Or.inl ⟨by rfl, ?_⟩
          intro w hSw
          (try dsimp only at hSw)
          go_simp
          all_goals with_reducible rfl
        simp only [Act.put, List.setIfInBounds_toArray, List.set_cons_zero, List.set_cons_succ]
        refine wpAnyH_take (i := 4) (oi := ?_) (v := ?_) ?_ ?_ ?_ ?_ ?_ ?_ (by assumption) ?_
        rotate_left 2
        · simp only [List.getElem?_toArray, List.getElem?_cons_zero, List.getElem?_cons_succ]
          rfl
        · kernel_rfl
        · kernel_rfl
        · kernel_rfl
        · exact fun _ _ _ h => h
        · refine Or.inl ⟨by rfl, ?_⟩
          intro w' hSw
          obtain ⟨q2', q3'⟩ := hSw
          go_simp
          all_goals with_reducible rfl
        simp only [Act.put, List.setIfInBounds_toArray, List.set_cons_zero, List.set_cons_succ]
        refine wpAnyH_take (i := 5) (oi := ?_) (v := ?_) ?_ ?_ ?_ ?_ ?_ ?_ (by assumption) ?_
        rotate_left 2
        · simp only [List.getElem?_toArray, List.getElem?_cons_zero, List.getElem?_cons_succ]
          rfl
        · kernel_rfl
        · kernel_rfl
        · kernel_rfl
        · exact fun _ _ _ h => h
        · refine Or.inl ⟨by rfl, ?_⟩
          intro w hSw
          (try dsimp only at hSw)
          go_simp
          all_goals with_reducible rfl
        simp only [Act.put, List.setIfInBounds_toArray, List.set_cons_zero, List.set_cons_succ]
        refine wpAnyH_take (i := 6) (oi := ?_) (v := ?_) ?_ ?_ ?_ ?_ ?_ ?_ (by assumption) ?_
        rotate_left 2
        · simp only [List.getElem?_toArray, List.getElem?_cons_zero, List.getElem?_cons_succ]
          rfl
        · kernel_rfl
        · kernel_rfl
        · kernel_rfl
        · exact fun _ _ _ h => h
        · refine Or.inl ⟨by rfl, ?_⟩
          intro w hSw
          (try dsimp only at hSw)
          go_simp
          all_goals with_reducible rfl
        simp only [Act.put, List.setIfInBounds_toArray, List.set_cons_zero, List.set_cons_succ]
        refine wpAnyH_take (i := 7) (oi := ?_) (v := ?_) ?_ ?_ ?_ ?_ ?_ ?_ (by assumption) ?_
        rotate_left 2
        · simp only [List.getElem?_toArray, List.getElem?_cons_zero, List.getElem?_cons_succ]
          rfl
        · kernel_rfl
        · kernel_rfl
        · kernel_rfl
        · exact fun _ _ _ h => h
        · refine Or.inl ⟨by rfl, ?_⟩
          intro w hSw
          (try dsimp only at hSw)
          go_simp
          all_goals with_reducible rfl
        simp only [Act.put, List.setIfInBounds_toArray, List.set_cons_zero, List.set_cons_succ]
        refine wpAnyH_take (i := 8) (oi := ?_) (v := ?_) ?_ ?_ ?_ ?_ ?_ ?_ (by assumption) ?_
        rotate_left 2
        · simp only [List.getElem?_toArray, List.getElem?_cons_zero, List.getElem?_cons_succ]
          rfl
        · kernel_rfl
        · kernel_rfl
        · kernel_rfl
        · exact fun _ _ _ h => h
        · refine Or.inl ⟨by rfl, ?_⟩
          intro w' hSw
          obtain ⟨q2', q3'⟩ := hSw
          go_simp
          all_goals with_reducible rfl
        simp only [Act.put, List.setIfInBounds_toArray, List.set_cons_zero, List.set_cons_succ]
        refine wpAnyH_take (i := 9) (oi := ?_) (v := ?_) ?_ ?_ ?_ ?_ ?_ ?_ (by assumption) ?_
        rotate_left 2
        · simp only [List.getElem?_toArray, List.getElem?_cons_zero, List.getElem?_cons_succ]
          rfl
        · kernel_rfl
        · kernel_rfl
        · kernel_rfl
        · exact fun _ _ _ h => h
        · refine Or.inl ⟨by rfl, ?_⟩
          intro w hSw
          (try dsimp only at hSw)
          go_simp
          all_goals with_reducible rfl
        simp only [Act.put, List.setIfInBounds_toArray, List.set_cons_zero, List.set_cons_succ]
        refine wpAnyH_take (i := 10) (oi := ?_) (v := ?_) ?_ ?_ ?_ ?_ ?_ ?_ (by assumption) ?_
        rotate_left 2
        · simp only [List.getElem?_toArray, List.getElem?_cons_zero, List.getElem?_cons_succ]
          rfl
        · kernel_rfl
        · kernel_rfl
        · kernel_rfl
        · exact fun _ _ _ h => h
        · refine Or.inl ⟨by rfl, ?_⟩
          intro w hSw
          (try dsimp only at hSw)
          go_simp
          all_goals with_reducible rfl
        simp only [Act.put, List.setIfInBounds_toArray, List.set_cons_zero, List.set_cons_succ]
        refine wpAnyH_take (i := 12) (oi := ?_) (v := ?_) ?_ ?_ ?_ ?_ ?_ ?_ (by assumption) ?_
        rotate_left 2
        · simp only [List.getElem?_toArray, List.getElem?_cons_zero, List.getElem?_cons_succ]
          rfl
        · kernel_rfl
        · kernel_rfl
        · kernel_rfl
        · exact fun _ _ _ h => h
        · refine Or.inl ⟨by rfl, ?_⟩
          intro w hSw
          (try dsimp only at hSw)
          go_simp
          all_goals with_reducible rfl
        simp only [Act.put, List.setIfInBounds_toArray, List.set_cons_zero, List.set_cons_succ]
        refine wpAnyH_take (i := 15) (oi := ?_) (v := ?_) ?_ ?_ ?_ ?_ ?_ ?_ (by assumption) ?_
        rotate_left 2
        · simp only [List.getElem?_toArray, List.getElem?_cons_zero, List.getElem?_cons_succ]
          rfl
        · kernel_rfl
        · kernel_rfl
        · kernel_rfl
        · exact fun _ _ _ h => h
        · refine Or.inl ⟨by rfl, ?_⟩
          intro w hSw
          (try dsimp only at hSw)
          go_simp
          all_goals with_reducible rfl
        simp only [Act.put, List.setIfInBounds_toArray, List.set_cons_zero, List.set_cons_succ]
        refine wpAnyH_take (i := 16) (oi := ?_) (v := ?_) ?_ ?_ ?_ ?_ ?_ ?_ (by assumption) ?_
        rotate_left 2
        · simp only [List.getElem?_toArray, List.getElem?_cons_zero, List.getElem?_cons_succ]
          rfl
        · kernel_rfl
        · kernel_rfl
        · kernel_rfl
        · exact fun _ _ _ h => h
        · refine Or.inl ⟨by rfl, ?_⟩
          intro w hSw
          (try dsimp only at hSw)
          go_simp
          all_goals with_reducible rfl
        simp only [Act.put, List.setIfInBounds_toArray, List.set_cons_zero, List.set_cons_succ]
        refine wpAnyH_take (i := 19) (oi := ?_) (v := ?_) ?_ ?_ ?_ ?_ ?_ ?_ (by assumption) ?_
        rotate_left 2
        · simp only [List.getElem?_toArray, List.getElem?_cons_zero, List.getElem?_cons_succ]
          rfl
        · kernel_rfl
        · kernel_rfl
        · kernel_rfl
        · exact fun _ _ _ h => h
        · refine Or.inl ⟨by rfl, ?_⟩
          intro w hSw
          (try dsimp only at hSw)
          go_simp
          all_goals with_reducible rfl
        simp only [Act.put, List.setIfInBounds_toArray, List.set_cons_zero, List.set_cons_succ]
        refine wpAnyH_take (i := 21) (oi := ?_) (v := ?_) ?_ ?_ ?_ ?_ ?_ ?_ (by assumption) ?_
        rotate_left 2
        · simp only [List.getElem?_toArray, List.getElem?_cons_zero, List.getElem?_cons_succ]
          rfl
        · kernel_rfl
        · kernel_rfl
        · kernel_rfl
        · exact fun _ _ _ h => h
        · refine Or.inl ⟨by rfl, ?_⟩
          intro w hSw
          (try dsimp only at hSw)
          go_simp
          all_goals with_reducible rfl
        simp only [Act.put, List.setIfInBounds_toArray, List.set_cons_zero, List.set_cons_succ]
        refine wpAnyH_take (i := 24) (oi := ?_) (v := ?_) ?_ ?_ ?_ ?_ ?_ ?_ (by assumption) ?_
        rotate_left 2
        · simp only [List.getElem?_toArray, List.getElem?_cons_zero, List.getElem?_cons_succ]
          rfl
        · kernel_rfl
        · kernel_rfl
        · kernel_rfl
        · exact fun _ _ _ h => h
        · refine Or.inl ⟨by rfl, ?_⟩
          intro w hSw
          (try dsimp only at hSw)
          go_simp
          all_goals with_reducible rfl
        simp only [Act.put, List.setIfInBounds_toArray, List.set_cons_zero, List.set_cons_succ]
        refine wpAnyH_take (i := 25) (oi := ?_) (v := ?_) ?_ ?_ ?_ ?_ ?_ ?_ (by assumption) ?_
        rotate_left 2
        · simp only [List.getElem?_toArray, List.getElem?_cons_zero, List.getElem?_cons_succ]
          rfl
        · kernel_rfl
        · kernel_rfl
        · kernel_rfl
        · exact fun _ _ _ h => h
        · refine Or.inl ⟨by rfl, ?_⟩
          intro w hSw
          (try dsimp only at hSw)
          go_simp
          all_goals with_reducible rfl
        simp only [Act.put, List.setIfInBounds_toArray, List.set_cons_zero, List.set_cons_succ]
        refine wpAnyH_ready (rs := [11]) (by kernel_rfl) (by simp) ?_
        refine AllReadyH.cons (o := ?_) ?_ (fun KK hKK => ?_) AllReadyH.nil
        rotate_left
        · simp only [List.getElem?_toArray, List.getElem?_cons_zero, List.getElem?_cons_succ]
          rfl
        go_simp
        refine (HR7.out _).mono ?_; rintro e wD ⟨rfl, rfl⟩
        try go_wp2_with fail
        refine hKK.out _ _ ?_ (fun hh1 => ?_)
        · (try dsimp only)
          exact hHeld
        clear hKK KK
        try simp only [Act.put, List.setIfInBounds_toArray, List.set_cons_zero, List.set_cons_succ]
        refine wpAnyH_ready (rs := [13]) (by kernel_rfl) (by simp) ?_
        refine AllReadyH.cons (o := ?_) ?_ (fun KK hKK => ?_) AllReadyH.nil
        rotate_left
        · simp only [List.getElem?_toArray, List.getElem?_cons_zero, List.getElem?_cons_succ]
          rfl
        go_simp
        refine (HR18.out _).mono ?_; rintro e wD ⟨rfl, rfl⟩
        try go_wp2_with fail
        refine hKK.out _ _ ?_ (fun hh2 => ?_)
        · (try dsimp only)
          exact hHeld
        clear hKK KK
        try simp only [Act.put, List.setIfInBounds_toArray, List.set_cons_zero, List.set_cons_succ]
        refine wpAnyH_take (i := 14) (oi := ?_) (v := ?_) ?_ ?_ ?_ ?_ ?_ ?_ (by assumption) ?_
        rotate_left 2
        · simp only [List.getElem?_toArray, List.getElem?_cons_zero, List.getElem?_cons_succ]
          rfl
        · kernel_rfl
        · kernel_rfl
        · kernel_rfl
        · exact fun _ _ _ h => h
        · refine Or.inl ⟨by rfl, ?_⟩
          intro w hSw
          (try dsimp only at hSw)
          go_simp
          all_goals with_reducible rfl
        simp only [Act.put, List.setIfInBounds_toArray, List.set_cons_zero, List.set_cons_succ]
        refine wpAnyH_take (i := 17) (oi := ?_) (v := ?_) ?_ ?_ ?_ ?_ ?_ ?_ (by assumption) ?_
        rotate_left 2
        · simp only [List.getElem?_toArray, List.getElem?_cons_zero, List.getElem?_cons_succ]
          rfl
        · kernel_rfl
        · kernel_rfl
        · kernel_rfl
        · exact fun _ _ _ h => h
        · refine Or.inl ⟨by rfl, ?_⟩
          intro w hSw
          (try dsimp only at hSw)
          go_simp
          all_goals with_reducible rfl
        simp only [Act.put, List.setIfInBounds_toArray, List.set_cons_zero, List.set_cons_succ]
        refine wpAnyH_take (i := 18) (oi := ?_) (v := ?_) ?_ ?_ ?_ ?_ ?_ ?_ (by assumption) ?_
        rotate_left 2
        · simp only [List.getElem?_toArray, List.getElem?_cons_zero, List.getElem?_cons_succ]
          rfl
        · kernel_rfl
        · kernel_rfl
        · kernel_rfl
        · exact fun _ _ _ h => h
        · refine Or.inl ⟨by rfl, ?_⟩
          intro w hSw
          (try dsimp only at hSw)
          go_simp
          all_goals with_reducible rfl
        simp only [Act.put, List.setIfInBounds_toArray, List.set_cons_zero, List.set_cons_succ]
        refine wpAnyH_ready (rs := [20]) (by kernel_rfl) (by simp) ?_
        refine AllReadyH.cons (o := ?_) ?_ (fun KK hKK => ?_) AllReadyH.nil
        rotate_left
        · simp only [List.getElem?_toArray, List.getElem?_cons_zero, List.getElem?_cons_succ]
          rfl
        go_simp
        refine (HR17.out _).mono ?_; rintro e wD ⟨rfl, rfl⟩
        try go_wp2_with fail
        refine hKK.out _ _ ?_ (fun hh3 => ?_)
        · (try dsimp only)
          exact hHeld
        clear hKK KK
        try simp only [Act.put, List.setIfInBounds_toArray, List.set_cons_zero, List.set_cons_succ]
        refine wpAnyH_ready (rs := [22]) (by kernel_rfl) (by simp) ?_
        refine AllReadyH.cons (o := ?_) ?_ (fun KK hKK => ?_) AllReadyH.nil
        rotate_left
        · simp only [List.getElem?_toArray, List.getElem?_cons_zero, List.getElem?_cons_succ]
          rfl
        go_simp
        refine (HR19.out _).mono ?_; rintro e wD ⟨rfl, rfl⟩
        try go_wp2_with fail
        refine hKK.out _ _ ?_ (fun hh4 => ?_)
        · (try dsimp only)
          exact hHeld
        clear hKK KK
        try simp only [Act.put, List.setIfInBounds_toArray, List.set_cons_zero, List.set_cons_succ]
        refine wpAnyH_take (i := 23) (oi := ?_) (v := ?_) ?_ ?_ ?_ ?_ ?_ ?_ (by assumption) ?_
        rotate_left 2
        · simp only [List.getElem?_toArray, List.getElem?_cons_zero, List.getElem?_cons_succ]
          rfl
        · kernel_rfl
        · kernel_rfl
        · kernel_rfl
        · exact fun _ _ _ h => h
        · refine Or.inl ⟨by rfl, ?_⟩
          intro w hSw
          (try dsimp only at hSw)
          go_simp
          all_goals with_reducible rfl
        simp only [Act.put, List.setIfInBounds_toArray, List.set_cons_zero, List.set_cons_succ]
        refine wpAnyH_take (i := 26) (oi := ?_) (v := ?_) ?_ ?_ ?_ ?_ ?_ ?_ (by assumption) ?_
        rotate_left 2
        · simp only [List.getElem?_toArray, List.getElem?_cons_zero, List.getElem?_cons_succ]
          rfl
        · kernel_rfl
        · kernel_rfl
        · kernel_rfl
        · exact fun _ _ _ h => h
        · refine Or.inl ⟨by rfl, ?_⟩
          intro w hSw
          (try dsimp only at hSw)
          go_simp
          all_goals with_reducible rfl
        simp only [Act.put, List.setIfInBounds_toArray, List.set_cons_zero, List.set_cons_succ]
        refine wpAnyH_take (i := 27) (oi := ?_) (v := ?_) ?_ ?_ ?_ ?_ ?_ ?_ (by assumption) ?_
        rotate_left 2
        · simp only [List.getElem?_toArray, List.getElem?_cons_zero, List.getElem?_cons_succ]
          rfl
        · kernel_rfl
        · kernel_rfl
        · kernel_rfl
        · exact fun _ _ _ h => h
        · refine Or.inl ⟨by rfl, ?_⟩
          intro w hSw
          (try dsimp only at hSw)
          go_simp
          all_goals with_reducible rfl
        simp only [Act.put, List.setIfInBounds_toArray, List.set_cons_zero, List.set_cons_succ]
        refine wpAnyH_take (i := 28) (oi := ?_) (v := ?_) ?_ ?_ ?_ ?_ ?_ ?_ (by assumption) ?_
        rotate_left 2
        · simp only [List.getElem?_toArray, List.getElem?_cons_zero, List.getElem?_cons_succ]
          rfl
        · kernel_rfl
        · kernel_rfl
        · kernel_rfl
        · exact fun _ _ _ h => h
        · refine Or.inl ⟨by rfl, ?_⟩
          intro w hSw
          (try dsimp only at hSw)
          go_simp
          all_goals with_reducible rfl
        simp only [Act.put, List.setIfInBounds_toArray, List.set_cons_zero, List.set_cons_succ]
        refine wpAnyH_ready (rs := [29]) (by kernel_rfl) (by simp) ?_
        refine AllReadyH.cons (o := ?_) ?_ (fun KK hKK => ?_) AllReadyH.nil
        rotate_left
        · simp only [List.getElem?_toArray, List.getElem?_cons_zero, List.getElem?_cons_succ]
          rfl
        go_simp
        refine hKK.out _ _ ?_ (fun hh5 => ?_)
        · (try dsimp only)
          exact ⟨set_far _ _ hHeld.1 n1, set_far _ _ hHeld.2 n2⟩
        clear hKK KK
        try simp only [Act.put, List.setIfInBounds_toArray, List.set_cons_zero, List.set_cons_succ]
        refine wpAnyH_done (by kernel_rfl) ?_ _
        go_wp2
        go_roundw
        case rel => exact ⟨k + 1, by omega, by go_num, HNX.out _⟩
        case measure => simp [intOf]; omega
    · obtain rfl : k = 64 := by omega
      have HI := Lib.hid (size32x8 HH.out)
      have hwl : (Sh.wK l 64).length = 64 := Sh.wK_len l 64
      have hfull := row64_full _ hwl
      obtain ⟨Sb, hSb⟩ : ∃ Sb, wr.heap.size = Sb := ⟨_, rfl⟩
      have HR2 : Hid (R2 w B h (Sh.wK l 64) Sb h ((wr.alloc (.cells #[.int .u32 0, .int .u32 0, .int .u32 0, .int .u32 0, .int .u32 0, .int .u32 0, .int .u32 0, .int .u32 0] 40)).setRow Sb (cellsK .u32 h))) := by
        have hS : B + 1 + 1 < Sb := hSb ▸ hR.wO.lt
        have o := (hSb ▸ Obj.new wr 40 #[.int .u32 0, .int .u32 0, .int .u32 0, .int .u32 0, .int .u32 0, .int .u32 0, .int .u32 0, .int .u32 0] : Obj (wr.alloc (.cells #[.int .u32 0, .int .u32 0, .int .u32 0, .int .u32 0, .int .u32 0, .int .u32 0, .int .u32 0, .int .u32 0] 40)) Sb 40 #[.int .u32 0, .int .u32 0, .int .u32 0, .int .u32 0, .int .u32 0, .int .u32 0, .int .u32 0, .int .u32 0])
        have k1 := hR.kept ((Below.refl _ wr).alloc (Nat.le_refl _) (.cells #[.int .u32 0, .int .u32 0, .int .u32 0, .int .u32 0, .int .u32 0, .int .u32 0, .int .u32 0, .int .u32 0] 40))
        exact ⟨k1.upd ((Upd.refl Sb _).row _) hS, o.row _, hS⟩
      have HO8 : Hid (Obj (wr.alloc (.cells #[.int .u32 0, .int .u32 0, .int .u32 0, .int .u32 0, .int .u32 0, .int .u32 0, .int .u32 0, .int .u32 0] 40)) wr.heap.size 40 #[.int .u32 0, .int .u32 0, .int .u32 0, .int .u32 0, .int .u32 0, .int .u32 0, .int .u32 0, .int .u32 0]) := Obj.new wr _ _
      have HSB := Lib.hid hSb
      clear hR hwl hfull HRB hk hlt hSb
      go_wp2_with (first
        | (refine wpList_load_row rfl 40 (.tmp 2) rfl _ rfl _ _ _ _ HR.out.hO Tryd.underlying40 rfl HI.out ?_)
        | (refine wpList_store_row rfl 40 (.tmp 9) (.tmp 64) rfl _ _ rfl rfl _ _ HO8.out HI.out (by rw [cellsK_size, HH.out]; rfl) (one_cellsK _ _) ?_))
      rw [HSB.out]
      clear HO8 HSB HR
      go_loopw [65] (fun i wx => ∃ k : Nat, k ≤ 64 ∧ i = .int .i64 k ∧ R2 w B h (Sh.wK l 64) Sb (Sh.rK h l k) wx) (fun i _ => 64 - (intOf i).toNat)
      case atStart => exact ⟨0, by omega, rfl, HR2.out⟩
      case round =>
        clear HR2
        obtain ⟨k, hk, rfl, hR⟩ := hrel
        have HR := Lib.hid hR
        by_cases hlt : k < 64
        · have hki : (k : Int) < 64 := by omega
          have hs8 := Sh.rK_len h l HH.out k
          have hslt := Sh.rK_lt h l HH2.out k
          have hwl : (Sh.wK l 64).length = 64 := Sh.wK_len l 64
          have hwlt := Sh.wK_lt l HBY.out 64
          have HS : Hid (∀ wq, R2 w B h (Sh.wK l 64) Sb (Sh.rK h l k) wq → wq.cell? ⟨Sb, 0, none⟩ = some (.int .u32 ((gt (Sh.rK h l k) 0 : Nat) : Int)) ∧ wq.cell? ⟨Sb, 1, none⟩ = some (.int .u32 ((gt (Sh.rK h l k) 1 : Nat) : Int)) ∧ wq.cell? ⟨Sb, 2, none⟩ = some (.int .u32 ((gt (Sh.rK h l k) 2 : Nat) : Int)) ∧ wq.cell? ⟨Sb, 3, none⟩ = some (.int .u32 ((gt (Sh.rK h l k) 3 : Nat) : Int)) ∧ wq.cell? ⟨Sb, 4, none⟩ = some (.int .u32 ((gt (Sh.rK h l k) 4 : Nat) : Int)) ∧ wq.cell? ⟨Sb, 5, none⟩ = some (.int .u32 ((gt (Sh.rK h l k) 5 : Nat) : Int)) ∧ wq.cell? ⟨Sb, 6, none⟩ = some (.int .u32 ((gt (Sh.rK h l k) 6 : Nat) : Int)) ∧ wq.cell? ⟨Sb, 7, none⟩ = some (.int .u32 ((gt (Sh.rK h l k) 7 : Nat) : Int)) ∧
              wq.cell? ⟨1, k, none⟩ = some (.int .u32 ((gt Sh.kz k : Nat) : Int)) ∧ wq.cell? ⟨B + 1 + 1, k, none⟩ = some (.int .u32 ((gt (Sh.wK l 64) k : Nat) : Int))) := fun wq q => by
            refine ⟨q.cell hs8 0 (by omega), q.cell hs8 1 (by omega), q.cell hs8 2 (by omega), q.cell hs8 3 (by omega), q.cell hs8 4 (by omega), q.cell hs8 5 (by omega), q.cell hs8 6 (by omega), q.cell hs8 7 (by omega), ?_, ?_⟩
            · exact (HT.out.below (HB.out.symm ▸ q.rd.bel)).k k hlt
            · have := q.rd.wO.getK k (by rw [row64_full _ hwl, hwl]; exact hlt)
              rw [row64_full _ hwl] at this
              exact this
          have HNX : Hid (∀ wq, R2 w B h (Sh.wK l 64) Sb (Sh.rK h l k) wq → R2 w B h (Sh.wK l 64) Sb (Sh.rK h l (k + 1)) (wq.setRow Sb #[.int .u32 (((Sh.one (Sh.rK h l k) (Sh.kz.getD k 0) ((Sh.wK l 64).getD k 0) + Sh.two (Sh.rK h l k)) % 4294967296 : Nat) : Int), .int .u32 ((gt (Sh.rK h l k) 0 : Nat) : Int), .int .u32 ((gt (Sh.rK h l k) 1 : Nat) : Int), .int .u32 ((gt (Sh.rK h l k) 2 : Nat) : Int), .int .u32 (((gt (Sh.rK h l k) 3 + Sh.one (Sh.rK h l k) (Sh.kz.getD k 0) ((Sh.wK l 64).getD k 0)) % 4294967296 : Nat) : Int), .int .u32 ((gt (Sh.rK h l k) 4 : Nat) : Int), .int .u32 ((gt (Sh.rK h l k) 5 : Nat) : Int), .int .u32 ((gt (Sh.rK h l k) 6 : Nat) : Int)])) := fun wq q =>
            ⟨q.rd.upd ((Upd.refl Sb _).row _) q.sb, (q.sO.row _).as rfl, q.sb⟩
          have HONE : Hid (Sh.one (Sh.rK h l k) (Sh.kz.getD k 0) ((Sh.wK l 64).getD k 0) = (gt (Sh.rK h l k) 7 + Sh.mix (gt (Sh.rK h l k) 4) 6 11 25 + Sh.ch (gt (Sh.rK h l k) 4) (gt (Sh.rK h l k) 5) (gt (Sh.rK h l k) 6) + gt Sh.kz k + gt (Sh.wK l 64) k) % 4294967296) := rfl
          have HTWO : Hid (Sh.two (Sh.rK h l k) = (Sh.mix (gt (Sh.rK h l k) 0) 2 13 22 + Sh.maj (gt (Sh.rK h l k) 0) (gt (Sh.rK h l k) 1) (gt (Sh.rK h l k) 2)) % 4294967296) := rfl
          have HOB := Lib.hid (fun wq (q : R2 w B h (Sh.wK l 64) Sb (Sh.rK h l k) wq) => q.sO)
          have l0 := gt_lt hslt 0
          have l1 := gt_lt hslt 1
          have l2 := gt_lt hslt 2
          have l3 := gt_lt hslt 3
          have l4 := gt_lt hslt 4
          have l5 := gt_lt hslt 5
          have l6 := gt_lt hslt 6
          have l7 := gt_lt hslt 7
          have lk := gt_lt Sh.kz_lt.2 k
          have lw := gt_lt hwlt k
          have HS8 := Lib.hid hs8
          clear hs8 hslt hwl hwlt hR
          generalize Sh.one (Sh.rK h l k) (Sh.kz.getD k 0) ((Sh.wK l 64).getD k 0) = p4 at *
          generalize Sh.two (Sh.rK h l k) = p5 at *
          generalize hst : Sh.rK h l k = st at *
          generalize Sh.wK l 64 = W64 at *
          have HST := Lib.hid hst
          clear hst
          generalize gt st 0 = a0 at *
          generalize gt st 1 = a1 at *
          generalize gt st 2 = a2 at *
          generalize gt st 3 = a3 at *
          generalize gt st 4 = a4 at *
          generalize gt st 5 = a5 at *
          generalize gt st 6 = a6 at *
          generalize gt st 7 = a7 at *
          generalize gt Sh.kz k = kk at *
          generalize gt W64 k = ww at *
          have hx1 := Sh.mix_lt a4 6 11 25 l4
          have hx2 := Sh.mix_lt a0 2 13 22 l0
          have HMA := Lib.hid (fun wq => mixA_any a4 wq l4)
          have HMB := Lib.hid (fun wq => mixB_any a0 wq l0)
          generalize Sh.mix a4 6 11 25 = x1 at *
          generalize Sh.mix a0 2 13 22 = x2 at *
          have hch := Sh.ch_lt a4 a5 a6 l5 l6
          have hmj := Sh.maj_lt a0 a1 a2 l0 l1
          obtain ⟨p1, hp1⟩ : ∃ p, (a7 + x1) % 4294967296 = p := ⟨_, rfl⟩
          obtain ⟨p2, hp2⟩ : ∃ p, (p1 + Sh.ch a4 a5 a6) % 4294967296 = p := ⟨_, rfl⟩
          obtain ⟨p3, hp3⟩ : ∃ p, (p2 + kk) % 4294967296 = p := ⟨_, rfl⟩
          have hp4 : (p3 + ww) % 4294967296 = p4 := by rw [HONE.out]; omega
          have hp5 : (x2 + Sh.maj a0 a1 a2) % 4294967296 = p5 := HTWO.out.symm
          obtain ⟨v0, hv0⟩ : ∃ p, (p4 + p5) % 4294967296 = p := ⟨_, rfl⟩
          obtain ⟨v4, hv4⟩ : ∃ p, (a3 + p4) % 4294967296 = p := ⟨_, rfl⟩
          rw [hv0, hv4] at HNX
          have e1 := wrap32 a7 x1 p1 hp1
          have e2 := wrap32 p1 (Sh.ch a4 a5 a6) p2 hp2
          have e3 := wrap32 p2 kk p3 hp3
          have e4 := wrap32 p3 ww p4 hp4
          have e5 := wrap32 x2 (Sh.maj a0 a1 a2) p5 hp5
          have e6 := wrap32 p4 p5 v0 hv0
          have e7 := wrap32 a3 p4 v4 hv4
          have b1 := u32_xor_nat a5 a6 l5 l6
          have b2 := u32_and_nat a4 (a5 ^^^ a6) l4 (Sh.xor_lt l5 l6)
          have b3 : bits .xor .u32 (a6 : Int) ((a4 &&& (a5 ^^^ a6) : Nat) : Int) = ((Sh.ch a4 a5 a6 : Nat) : Int) := u32_xor_nat a6 _ l6 (Sh.and_lt (Sh.xor_lt l5 l6))
          have b4 := u32_and_nat a0 a1 l0 l1
          have b5 := u32_or_nat a0 a1 l0 l1
          have b6 := u32_and_nat a2 (a0 ||| a1) l2 (Sh.or_lt l0 l1)
          have b7 : bits .or .u32 ((a0 &&& a1 : Nat) : Int) ((a2 &&& (a0 ||| a1) : Nat) : Int) = ((Sh.maj a0 a1 a2 : Nat) : Int) := u32_or_nat _ _ (Sh.and_lt l1) (Sh.and_lt (Sh.or_lt l0 l1))
          generalize Sh.ch a4 a5 a6 = c1 at *
          generalize Sh.maj a0 a1 a2 = m1 at *
          generalize a4 &&& (a5 ^^^ a6) = z2 at *
          generalize a5 ^^^ a6 = z1 at *
          generalize a2 &&& (a0 ||| a1) = z5 at *
          generalize a0 ||| a1 = z4 at *
          generalize a0 &&& a1 = z3 at *
          clear hp1 hp2 hp3 hp4 hp5 hv0 hv4 HONE HTWO
          go_wp2
          refine wp_region_held_drew (S := (fun wq => R2 w B h W64 Sb st wq)) (by kernel_rfl) (HR.out.drewN 1) (fun hHeld => ?_)
          refine wpAnyH_take (i := 0) (oi := ?_) (v := ?_) ?_ ?_ ?_ ?_ ?_ ?_ (by assumption) ?_
          rotate_left 2
          · simp only [List.getElem?_toArray, List.getElem?_cons_zero, List.getElem?_cons_succ]
            rfl
          · kernel_rfl
          · kernel_rfl
          · kernel_rfl
          · exact fun _ _ _ h => h
          · refine Or.inl ⟨by rfl, ?_⟩
            intro w hSw
            (try dsimp only at hSw)
            go_simp
            all_goals with_reducible rfl
          simp only [Act.put, List.setIfInBounds_toArray, List.set_cons_zero, List.set_cons_succ]
          refine wpAnyH_take (i := 1) (oi := ?_) (v := ?_) ?_ ?_ ?_ ?_ ?_ ?_ (by assumption) ?_
          rotate_left 2
          · simp only [List.getElem?_toArray, List.getElem?_cons_zero, List.getElem?_cons_succ]
            rfl
          · kernel_rfl
          · kernel_rfl
          · kernel_rfl
          · exact fun _ _ _ h => h
          · refine Or.inl ⟨by rfl, ?_⟩
            intro w' hSw
            obtain ⟨d0, d1, d2, d3, d4, d5, d6, d7, dk, dw⟩ := HS.out w' hSw
            go_simp
            all_goals with_reducible rfl
          simp only [Act.put, List.setIfInBounds_toArray, List.set_cons_zero, List.set_cons_succ]
          refine wpAnyH_take (i := 2) (oi := ?_) (v := ?_) ?_ ?_ ?_ ?_ ?_ ?_ (by assumption) ?_
          rotate_left 2
          · simp only [List.getElem?_toArray, List.getElem?_cons_zero, List.getElem?_cons_succ]
            rfl
          · kernel_rfl
          · kernel_rfl
          · kernel_rfl
          · exact fun _ _ _ h => h
          · refine Or.inl ⟨by rfl, ?_⟩
            intro w hSw
            (try dsimp only at hSw)
            go_simp
            all_goals with_reducible rfl
          simp only [Act.put, List.setIfInBounds_toArray, List.set_cons_zero, List.set_cons_succ]
          refine wpAnyH_take (i := 3) (oi := ?_) (v := ?_) ?_ ?_ ?_ ?_ ?_ ?_ (by assumption) ?_
          rotate_left 2
          · simp only [List.getElem?_toArray, List.getElem?_cons_zero, List.getElem?_cons_succ]
            rfl
          · kernel_rfl
          · kernel_rfl
          · kernel_rfl
          · exact fun _ _ _ h => h
          · refine Or.inl ⟨by rfl, ?_⟩
            intro w' hSw
            obtain ⟨d0, d1, d2, d3, d4, d5, d6, d7, dk, dw⟩ := HS.out w' hSw
            go_simp
            all_goals with_reducible rfl
          simp only [Act.put, List.setIfInBounds_toArray, List.set_cons_zero, List.set_cons_succ]
          refine wpAnyH_take (i := 4) (oi := ?_) (v := ?_) ?_ ?_ ?_ ?_ ?_ ?_ (by assumption) ?_
          rotate_left 2
          · simp only [List.getElem?_toArray, List.getElem?_cons_zero, List.getElem?_cons_succ]
            rfl
          · kernel_rfl
          · kernel_rfl
          · kernel_rfl
          · exact fun _ _ _ h => h
          · refine Or.inl ⟨by rfl, ?_⟩
            intro w hSw
            (try dsimp only at hSw)
            go_simp
            all_goals with_reducible rfl
          simp only [Act.put, List.setIfInBounds_toArray, List.set_cons_zero, List.set_cons_succ]
          refine wpAnyH_take (i := 7) (oi := ?_) (v := ?_) ?_ ?_ ?_ ?_ ?_ ?_ (by assumption) ?_
          rotate_left 2
          · simp only [List.getElem?_toArray, List.getElem?_cons_zero, List.getElem?_cons_succ]
            rfl
          · kernel_rfl
          · kernel_rfl
          · kernel_rfl
          · exact fun _ _ _ h => h
          · refine Or.inl ⟨by rfl, ?_⟩
            intro w hSw
            (try dsimp only at hSw)
            go_simp
            all_goals with_reducible rfl
          simp only [Act.put, List.setIfInBounds_toArray, List.set_cons_zero, List.set_cons_succ]
          refine wpAnyH_take (i := 8) (oi := ?_) (v := ?_) ?_ ?_ ?_ ?_ ?_ ?_ (by assumption) ?_
          rotate_left 2
          · simp only [List.getElem?_toArray, List.getElem?_cons_zero, List.getElem?_cons_succ]
            rfl
          · kernel_rfl
          · kernel_rfl
          · kernel_rfl
          · exact fun _ _ _ h => h
          · refine Or.inl ⟨by rfl, ?_⟩
            intro w' hSw
            obtain ⟨d0, d1, d2, d3, d4, d5, d6, d7, dk, dw⟩ := HS.out w' hSw
            go_simp
            all_goals with_reducible rfl
          simp only [Act.put, List.setIfInBounds_toArray, List.set_cons_zero, List.set_cons_succ]
          refine wpAnyH_take (i := 9) (oi := ?_) (v := ?_) ?_ ?_ ?_ ?_ ?_ ?_ (by assumption) ?_
          rotate_left 2
          · simp only [List.getElem?_toArray, List.getElem?_cons_zero, List.getElem?_cons_succ]
            rfl
          · kernel_rfl
          · kernel_rfl
          · kernel_rfl
          · exact fun _ _ _ h => h
          · refine Or.inl ⟨by rfl, ?_⟩
            intro w hSw
            (try dsimp only at hSw)
            go_simp
            all_goals with_reducible rfl
          simp only [Act.put, List.setIfInBounds_toArray, List.set_cons_zero, List.set_cons_succ]
          refine wpAnyH_take (i := 10) (oi := ?_) (v := ?_) ?_ ?_ ?_ ?_ ?_ ?_ (by assumption) ?_
          rotate_left 2
          · simp only [List.getElem?_toArray, List.getElem?_cons_zero, List.getElem?_cons_succ]
            rfl
          · kernel_rfl
          · kernel_rfl
          · kernel_rfl
          · exact fun _ _ _ h => h
          · refine Or.inl ⟨by rfl, ?_⟩
            intro w' hSw
            obtain ⟨d0, d1, d2, d3, d4, d5, d6, d7, dk, dw⟩ := HS.out w' hSw
            go_simp
            all_goals with_reducible rfl
          simp only [Act.put, List.setIfInBounds_toArray, List.set_cons_zero, List.set_cons_succ]
          refine wpAnyH_take (i := 11) (oi := ?_) (v := ?_) ?_ ?_ ?_ ?_ ?_ ?_ (by assumption) ?_
          rotate_left 2
          · simp only [List.getElem?_toArray, List.getElem?_cons_zero, List.getElem?_cons_succ]
            rfl
          · kernel_rfl
          · kernel_rfl
          · kernel_rfl
          · exact fun _ _ _ h => h
          · refine Or.inl ⟨by rfl, ?_⟩
            intro w hSw
            (try dsimp only at hSw)
            go_simp
            all_goals with_reducible rfl
          simp only [Act.put, List.setIfInBounds_toArray, List.set_cons_zero, List.set_cons_succ]
          refine wpAnyH_take (i := 12) (oi := ?_) (v := ?_) ?_ ?_ ?_ ?_ ?_ ?_ (by assumption) ?_
          rotate_left 2
          · simp only [List.getElem?_toArray, List.getElem?_cons_zero, List.getElem?_cons_succ]
            rfl
          · kernel_rfl
          · kernel_rfl
          · kernel_rfl
          · exact fun _ _ _ h => h
          · refine Or.inl ⟨by rfl, ?_⟩
            intro w' hSw
            obtain ⟨d0, d1, d2, d3, d4, d5, d6, d7, dk, dw⟩ := HS.out w' hSw
            go_simp
            all_goals with_reducible rfl
          simp only [Act.put, List.setIfInBounds_toArray, List.set_cons_zero, List.set_cons_succ]
          refine wpAnyH_take (i := 13) (oi := ?_) (v := ?_) ?_ ?_ ?_ ?_ ?_ ?_ (by assumption) ?_
          rotate_left 2
          · simp only [List.getElem?_toArray, List.getElem?_cons_zero, List.getElem?_cons_succ]
            rfl
          · kernel_rfl
          · kernel_rfl
          · kernel_rfl
          · exact fun _ _ _ h => h
          · refine Or.inl ⟨by rfl, ?_⟩
            intro w hSw
            (try dsimp only at hSw)
            go_simp
            all_goals with_reducible rfl
          simp only [Act.put, List.setIfInBounds_toArray, List.set_cons_zero, List.set_cons_succ]
          refine wpAnyH_take (i := 14) (oi := ?_) (v := ?_) ?_ ?_ ?_ ?_ ?_ ?_ (by assumption) ?_
          rotate_left 2
          · simp only [List.getElem?_toArray, List.getElem?_cons_zero, List.getElem?_cons_succ]
            rfl
          · kernel_rfl
          · kernel_rfl
          · kernel_rfl
          · exact fun _ _ _ h => h
          · refine Or.inl ⟨by rfl, ?_⟩
            intro w' hSw
            obtain ⟨d0, d1, d2, d3, d4, d5, d6, d7, dk, dw⟩ := HS.out w' hSw
            go_simp
            all_goals with_reducible rfl
          simp only [Act.put, List.setIfInBounds_toArray, List.set_cons_zero, List.set_cons_succ]
          refine wpAnyH_take (i := 15) (oi := ?_) (v := ?_) ?_ ?_ ?_ ?_ ?_ ?_ (by assumption) ?_
          rotate_left 2
          · simp only [List.getElem?_toArray, List.getElem?_cons_zero, List.getElem?_cons_succ]
            rfl
          · kernel_rfl
          · kernel_rfl
          · kernel_rfl
          · exact fun _ _ _ h => h
          · refine Or.inl ⟨by rfl, ?_⟩
            intro w hSw
            (try dsimp only at hSw)
            go_simp
            all_goals with_reducible rfl
          simp only [Act.put, List.setIfInBounds_toArray, List.set_cons_zero, List.set_cons_succ]
          refine wpAnyH_take (i := 16) (oi := ?_) (v := ?_) ?_ ?_ ?_ ?_ ?_ ?_ (by assumption) ?_
          rotate_left 2
          · simp only [List.getElem?_toArray, List.getElem?_cons_zero, List.getElem?_cons_succ]
            rfl
          · kernel_rfl
          · kernel_rfl
          · kernel_rfl
          · exact fun _ _ _ h => h
          · refine Or.inl ⟨by rfl, ?_⟩
            intro w hSw
            (try dsimp only at hSw)
            go_simp
            all_goals with_reducible rfl
          simp only [Act.put, List.setIfInBounds_toArray, List.set_cons_zero, List.set_cons_succ]
          refine wpAnyH_take (i := 17) (oi := ?_) (v := ?_) ?_ ?_ ?_ ?_ ?_ ?_ (by assumption) ?_
          rotate_left 2
          · simp only [List.getElem?_toArray, List.getElem?_cons_zero, List.getElem?_cons_succ]
            rfl
          · kernel_rfl
          · kernel_rfl
          · kernel_rfl
          · exact fun _ _ _ h => h
          · refine Or.inl ⟨by rfl, ?_⟩
            intro w hSw
            (try dsimp only at hSw)
            go_simp
            all_goals with_reducible rfl
          simp only [Act.put, List.setIfInBounds_toArray, List.set_cons_zero, List.set_cons_succ]
          refine wpAnyH_take (i := 19) (oi := ?_) (v := ?_) ?_ ?_ ?_ ?_ ?_ ?_ (by assumption) ?_
          rotate_left 2
          · simp only [List.getElem?_toArray, List.getElem?_cons_zero, List.getElem?_cons_succ]
            rfl
          · kernel_rfl
          · kernel_rfl
          · kernel_rfl
          · exact fun _ _ _ h => h
          · refine Or.inl ⟨by rfl, ?_⟩
            intro w hSw
            (try dsimp only at hSw)
            go_simp
            all_goals with_reducible rfl
          simp only [Act.put, List.setIfInBounds_toArray, List.set_cons_zero, List.set_cons_succ]
          refine wpAnyH_take (i := 20) (oi := ?_) (v := ?_) ?_ ?_ ?_ ?_ ?_ ?_ (by assumption) ?_
          rotate_left 2
          · simp only [List.getElem?_toArray, List.getElem?_cons_zero, List.getElem?_cons_succ]
            rfl
          · kernel_rfl
          · kernel_rfl
          · kernel_rfl
          · exact fun _ _ _ h => h
          · refine Or.inl ⟨by rfl, ?_⟩
            intro w hSw
            (try dsimp only at hSw)
            go_simp
            all_goals with_reducible rfl
          simp only [Act.put, List.setIfInBounds_toArray, List.set_cons_zero, List.set_cons_succ]
          refine wpAnyH_take (i := 21) (oi := ?_) (v := ?_) ?_ ?_ ?_ ?_ ?_ ?_ (by assumption) ?_
          rotate_left 2
          · simp only [List.getElem?_toArray, List.getElem?_cons_zero, List.getElem?_cons_succ]
            rfl
          · kernel_rfl
          · kernel_rfl
          · kernel_rfl
          · exact fun _ _ _ h => h
          · refine Or.inl ⟨by rfl, ?_⟩
            intro w' hSw
            obtain ⟨d0, d1, d2, d3, d4, d5, d6, d7, dk, dw⟩ := HS.out w' hSw
            go_simp
            all_goals with_reducible rfl
          simp only [Act.put, List.setIfInBounds_toArray, List.set_cons_zero, List.set_cons_succ]
          refine wpAnyH_take (i := 23) (oi := ?_) (v := ?_) ?_ ?_ ?_ ?_ ?_ ?_ (by assumption) ?_
          rotate_left 2
          · simp only [List.getElem?_toArray, List.getElem?_cons_zero, List.getElem?_cons_succ]
            rfl
          · kernel_rfl
          · kernel_rfl
          · kernel_rfl
          · exact fun _ _ _ h => h
          · refine Or.inl ⟨by rfl, ?_⟩
            intro w hSw
            (try dsimp only at hSw)
            go_simp
            all_goals with_reducible rfl
          simp only [Act.put, List.setIfInBounds_toArray, List.set_cons_zero, List.set_cons_succ]
          refine wpAnyH_take (i := 24) (oi := ?_) (v := ?_) ?_ ?_ ?_ ?_ ?_ ?_ (by assumption) ?_
          rotate_left 2
          · simp only [List.getElem?_toArray, List.getElem?_cons_zero, List.getElem?_cons_succ]
            rfl
          · kernel_rfl
          · kernel_rfl
          · kernel_rfl
          · exact fun _ _ _ h => h
          · refine Or.inl ⟨by rfl, ?_⟩
            intro w hSw
            (try dsimp only at hSw)
            go_simp
            all_goals with_reducible rfl
          simp only [Act.put, List.setIfInBounds_toArray, List.set_cons_zero, List.set_cons_succ]
          refine wpAnyH_take (i := 25) (oi := ?_) (v := ?_) ?_ ?_ ?_ ?_ ?_ ?_ (by assumption) ?_
          rotate_left 2
          · simp only [List.getElem?_toArray, List.getElem?_cons_zero, List.getElem?_cons_succ]
            rfl
          · kernel_rfl
          · kernel_rfl
          · kernel_rfl
          · exact fun _ _ _ h => h
          · refine Or.inl ⟨by rfl, ?_⟩
            intro w' hSw
            obtain ⟨d0, d1, d2, d3, d4, d5, d6, d7, dk, dw⟩ := HS.out w' hSw
            go_simp
            all_goals with_reducible rfl
          simp only [Act.put, List.setIfInBounds_toArray, List.set_cons_zero, List.set_cons_succ]
          refine wpAnyH_ready (rs := [5]) (by kernel_rfl) (by simp) ?_
          refine AllReadyH.cons (o := ?_) ?_ (fun KK hKK => ?_) AllReadyH.nil
          rotate_left
          · simp only [List.getElem?_toArray, List.getElem?_cons_zero, List.getElem?_cons_succ]
            rfl
          go_simp
          refine (HMA.out _).mono ?_; rintro e wD ⟨rfl, hbm⟩
          try go_wp2_with fail
          refine hKK.out _ _ ?_ (fun hh1 => ?_)
          · (try dsimp only)
            exact hHeld.kept hbm
          clear hKK KK
          try simp only [Act.put, List.setIfInBounds_toArray, List.set_cons_zero, List.set_cons_succ]
          refine wpAnyH_take (i := 6) (oi := ?_) (v := ?_) ?_ ?_ ?_ ?_ ?_ ?_ (by assumption) ?_
          rotate_left 2
          · simp only [List.getElem?_toArray, List.getElem?_cons_zero, List.getElem?_cons_succ]
            rfl
          · kernel_rfl
          · kernel_rfl
          · kernel_rfl
          · exact fun _ _ _ h => h
          · refine Or.inl ⟨by rfl, ?_⟩
            intro w hSw
            (try dsimp only at hSw)
            go_simp
            all_goals with_reducible rfl
          simp only [Act.put, List.setIfInBounds_toArray, List.set_cons_zero, List.set_cons_succ]
          refine wpAnyH_take (i := 18) (oi := ?_) (v := ?_) ?_ ?_ ?_ ?_ ?_ ?_ (by assumption) ?_
          rotate_left 2
          · simp only [List.getElem?_toArray, List.getElem?_cons_zero, List.getElem?_cons_succ]
            rfl
          · kernel_rfl
          · kernel_rfl
          · kernel_rfl
          · exact fun _ _ _ h => h
          · refine Or.inl ⟨by rfl, ?_⟩
            intro w hSw
            (try dsimp only at hSw)
            go_simp
            all_goals with_reducible rfl
          simp only [Act.put, List.setIfInBounds_toArray, List.set_cons_zero, List.set_cons_succ]
          refine wpAnyH_take (i := 22) (oi := ?_) (v := ?_) ?_ ?_ ?_ ?_ ?_ ?_ (by assumption) ?_
          rotate_left 2
          · simp only [List.getElem?_toArray, List.getElem?_cons_zero, List.getElem?_cons_succ]
            rfl
          · kernel_rfl
          · kernel_rfl
          · kernel_rfl
          · exact fun _ _ _ h => h
          · refine Or.inl ⟨by rfl, ?_⟩
            intro w hSw
            (try dsimp only at hSw)
            go_simp
            all_goals with_reducible rfl
          simp only [Act.put, List.setIfInBounds_toArray, List.set_cons_zero, List.set_cons_succ]
          refine wpAnyH_take (i := 26) (oi := ?_) (v := ?_) ?_ ?_ ?_ ?_ ?_ ?_ (by assumption) ?_
          rotate_left 2
          · simp only [List.getElem?_toArray, List.getElem?_cons_zero, List.getElem?_cons_succ]
            rfl
          · kernel_rfl
          · kernel_rfl
          · kernel_rfl
          · exact fun _ _ _ h => h
          · refine Or.inl ⟨by rfl, ?_⟩
            intro w hSw
            (try dsimp only at hSw)
            go_simp
            all_goals with_reducible rfl
          simp only [Act.put, List.setIfInBounds_toArray, List.set_cons_zero, List.set_cons_succ]
          refine wpAnyH_take (i := 27) (oi := ?_) (v := ?_) ?_ ?_ ?_ ?_ ?_ ?_ (by assumption) ?_
          rotate_left 2
          · simp only [List.getElem?_toArray, List.getElem?_cons_zero, List.getElem?_cons_succ]
            rfl
          · kernel_rfl
          · kernel_rfl
          · kernel_rfl
          · exact fun _ _ _ h => h
          · refine Or.inl ⟨by rfl, ?_⟩
            intro w hSw
            (try dsimp only at hSw)
            go_simp
            all_goals with_reducible rfl
          simp only [Act.put, List.setIfInBounds_toArray, List.set_cons_zero, List.set_cons_succ]
          refine wpAnyH_done (by kernel_rfl) ?_ _
          have HRa := Lib.hid hh1
          clear hHeld hh1 hbm HR
          try go_wp2
          refine wp_region_held_drew (S := (fun wq => R2 w B h W64 Sb st wq)) (by kernel_rfl) (HRa.out.drewN 1) (fun hHeld => ?_)
          refine wpAnyH_take (i := 0) (oi := ?_) (v := ?_) ?_ ?_ ?_ ?_ ?_ ?_ (by assumption) ?_
          rotate_left 2
          · simp only [List.getElem?_toArray, List.getElem?_cons_zero, List.getElem?_cons_succ]
            rfl
          · kernel_rfl
          · kernel_rfl
          · kernel_rfl
          · exact fun _ _ _ h => h
          · refine Or.inl ⟨by rfl, ?_⟩
            intro w hSw
            (try dsimp only at hSw)
            go_simp
            all_goals with_reducible rfl
          simp only [Act.put, List.setIfInBounds_toArray, List.set_cons_zero, List.set_cons_succ]
          refine wpAnyH_take (i := 1) (oi := ?_) (v := ?_) ?_ ?_ ?_ ?_ ?_ ?_ (by assumption) ?_
          rotate_left 2
          · simp only [List.getElem?_toArray, List.getElem?_cons_zero, List.getElem?_cons_succ]
            rfl
          · kernel_rfl
          · kernel_rfl
          · kernel_rfl
          · exact fun _ _ _ h => h
          · refine Or.inl ⟨by rfl, ?_⟩
            intro w' hSw
            obtain ⟨d0, d1, d2, d3, d4, d5, d6, d7, dk, dw⟩ := HS.out w' hSw
            go_simp
            all_goals with_reducible rfl
          simp only [Act.put, List.setIfInBounds_toArray, List.set_cons_zero, List.set_cons_succ]
          refine wpAnyH_take (i := 2) (oi := ?_) (v := ?_) ?_ ?_ ?_ ?_ ?_ ?_ (by assumption) ?_
          rotate_left 2
          · simp only [List.getElem?_toArray, List.getElem?_cons_zero, List.getElem?_cons_succ]
            rfl
          · kernel_rfl
          · kernel_rfl
          · kernel_rfl
          · exact fun _ _ _ h => h
          · refine Or.inl ⟨by rfl, ?_⟩
            intro w hSw
            (try dsimp only at hSw)
            go_simp
            all_goals with_reducible rfl
          simp only [Act.put, List.setIfInBounds_toArray, List.set_cons_zero, List.set_cons_succ]
          refine wpAnyH_take (i := 4) (oi := ?_) (v := ?_) ?_ ?_ ?_ ?_ ?_ ?_ (by assumption) ?_
          rotate_left 2
          · simp only [List.getElem?_toArray, List.getElem?_cons_zero, List.getElem?_cons_succ]
            rfl
          · kernel_rfl
          · kernel_rfl
          · kernel_rfl
          · exact fun _ _ _ h => h
          · refine Or.inl ⟨by rfl, ?_⟩
            intro w hSw
            (try dsimp only at hSw)
            go_simp
            all_goals with_reducible rfl
          simp only [Act.put, List.setIfInBounds_toArray, List.set_cons_zero, List.set_cons_succ]
          refine wpAnyH_take (i := 5) (oi := ?_) (v := ?_) ?_ ?_ ?_ ?_ ?_ ?_ (by assumption) ?_
          rotate_left 2
          · simp only [List.getElem?_toArray, List.getElem?_cons_zero, List.getElem?_cons_succ]
            rfl
          · kernel_rfl
          · kernel_rfl
          · kernel_rfl
          · exact fun _ _ _ h => h
          · refine Or.inl ⟨by rfl, ?_⟩
            intro w' hSw
            obtain ⟨d0, d1, d2, d3, d4, d5, d6, d7, dk, dw⟩ := HS.out w' hSw
            go_simp
            all_goals with_reducible rfl
          simp only [Act.put, List.setIfInBounds_toArray, List.set_cons_zero, List.set_cons_succ]
          refine wpAnyH_take (i := 6) (oi := ?_) (v := ?_) ?_ ?_ ?_ ?_ ?_ ?_ (by assumption) ?_
          rotate_left 2
          · simp only [List.getElem?_toArray, List.getElem?_cons_zero, List.getElem?_cons_succ]
            rfl
          · kernel_rfl
          · kernel_rfl
          · kernel_rfl
          · exact fun _ _ _ h => h
          · refine Or.inl ⟨by rfl, ?_⟩
            intro w hSw
            (try dsimp only at hSw)
            go_simp
            all_goals with_reducible rfl
          simp only [Act.put, List.setIfInBounds_toArray, List.set_cons_zero, List.set_cons_succ]
          refine wpAnyH_take (i := 7) (oi := ?_) (v := ?_) ?_ ?_ ?_ ?_ ?_ ?_ (by assumption) ?_
          rotate_left 2
          · simp only [List.getElem?_toArray, List.getElem?_cons_zero, List.getElem?_cons_succ]
            rfl
          · kernel_rfl
          · kernel_rfl
          · kernel_rfl
          · exact fun _ _ _ h => h
          · refine Or.inl ⟨by rfl, ?_⟩
            intro w' hSw
            obtain ⟨d0, d1, d2, d3, d4, d5, d6, d7, dk, dw⟩ := HS.out w' hSw
            go_simp
            all_goals with_reducible rfl
          simp only [Act.put, List.setIfInBounds_toArray, List.set_cons_zero, List.set_cons_succ]
          refine wpAnyH_take (i := 8) (oi := ?_) (v := ?_) ?_ ?_ ?_ ?_ ?_ ?_ (by assumption) ?_
          rotate_left 2
          · simp only [List.getElem?_toArray, List.getElem?_cons_zero, List.getElem?_cons_succ]
            rfl
          · kernel_rfl
          · kernel_rfl
          · kernel_rfl
          · exact fun _ _ _ h => h
          · refine Or.inl ⟨by rfl, ?_⟩
            intro w hSw
            (try dsimp only at hSw)
            go_simp
            all_goals with_reducible rfl
          simp only [Act.put, List.setIfInBounds_toArray, List.set_cons_zero, List.set_cons_succ]
          refine wpAnyH_take (i := 9) (oi := ?_) (v := ?_) ?_ ?_ ?_ ?_ ?_ ?_ (by assumption) ?_
          rotate_left 2
          · simp only [List.getElem?_toArray, List.getElem?_cons_zero, List.getElem?_cons_succ]
            rfl
          · kernel_rfl
          · kernel_rfl
          · kernel_rfl
          · exact fun _ _ _ h => h
          · refine Or.inl ⟨by rfl, ?_⟩
            intro w hSw
            (try dsimp only at hSw)
            go_simp
            all_goals with_reducible rfl
          simp only [Act.put, List.setIfInBounds_toArray, List.set_cons_zero, List.set_cons_succ]
          refine wpAnyH_take (i := 10) (oi := ?_) (v := ?_) ?_ ?_ ?_ ?_ ?_ ?_ (by assumption) ?_
          rotate_left 2
          · simp only [List.getElem?_toArray, List.getElem?_cons_zero, List.getElem?_cons_succ]
            rfl
          · kernel_rfl
          · kernel_rfl
          · kernel_rfl
          · exact fun _ _ _ h => h
          · refine Or.inl ⟨by rfl, ?_⟩
            intro w' hSw
            obtain ⟨d0, d1, d2, d3, d4, d5, d6, d7, dk, dw⟩ := HS.out w' hSw
            go_simp
            all_goals with_reducible rfl
          simp only [Act.put, List.setIfInBounds_toArray, List.set_cons_zero, List.set_cons_succ]
          refine wpAnyH_take (i := 11) (oi := ?_) (v := ?_) ?_ ?_ ?_ ?_ ?_ ?_ (by assumption) ?_
          rotate_left 2
          · simp only [List.getElem?_toArray, List.getElem?_cons_zero, List.getElem?_cons_succ]
            rfl
          · kernel_rfl
          · kernel_rfl
          · kernel_rfl
          · exact fun _ _ _ h => h
          · refine Or.inl ⟨by rfl, ?_⟩
            intro w hSw
            (try dsimp only at hSw)
            go_simp
            all_goals with_reducible rfl
          simp only [Act.put, List.setIfInBounds_toArray, List.set_cons_zero, List.set_cons_succ]
          refine wpAnyH_take (i := 12) (oi := ?_) (v := ?_) ?_ ?_ ?_ ?_ ?_ ?_ (by assumption) ?_
          rotate_left 2
          · simp only [List.getElem?_toArray, List.getElem?_cons_zero, List.getElem?_cons_succ]
            rfl
          · kernel_rfl
          · kernel_rfl
          · kernel_rfl
          · exact fun _ _ _ h => h
          · refine Or.inl ⟨by rfl, ?_⟩
            intro w' hSw
            obtain ⟨d0, d1, d2, d3, d4, d5, d6, d7, dk, dw⟩ := HS.out w' hSw
            go_simp
            all_goals with_reducible rfl
          simp only [Act.put, List.setIfInBounds_toArray, List.set_cons_zero, List.set_cons_succ]
          refine wpAnyH_take (i := 13) (oi := ?_) (v := ?_) ?_ ?_ ?_ ?_ ?_ ?_ (by assumption) ?_
          rotate_left 2
          · simp only [List.getElem?_toArray, List.getElem?_cons_zero, List.getElem?_cons_succ]
            rfl
          · kernel_rfl
          · kernel_rfl
          · kernel_rfl
          · exact fun _ _ _ h => h
          · refine Or.inl ⟨by rfl, ?_⟩
            intro w hSw
            (try dsimp only at hSw)
            go_simp
            all_goals with_reducible rfl
          simp only [Act.put, List.setIfInBounds_toArray, List.set_cons_zero, List.set_cons_succ]
          refine wpAnyH_take (i := 14) (oi := ?_) (v := ?_) ?_ ?_ ?_ ?_ ?_ ?_ (by assumption) ?_
          rotate_left 2
          · simp only [List.getElem?_toArray, List.getElem?_cons_zero, List.getElem?_cons_succ]
            rfl
          · kernel_rfl
          · kernel_rfl
          · kernel_rfl
          · exact fun _ _ _ h => h
          · refine Or.inl ⟨by rfl, ?_⟩
            intro w' hSw
            obtain ⟨d0, d1, d2, d3, d4, d5, d6, d7, dk, dw⟩ := HS.out w' hSw
            go_simp
            all_goals with_reducible rfl
          simp only [Act.put, List.setIfInBounds_toArray, List.set_cons_zero, List.set_cons_succ]
          refine wpAnyH_take (i := 15) (oi := ?_) (v := ?_) ?_ ?_ ?_ ?_ ?_ ?_ (by assumption) ?_
          rotate_left 2
          · simp only [List.getElem?_toArray, List.getElem?_cons_zero, List.getElem?_cons_succ]
            rfl
          · kernel_rfl
          · kernel_rfl
          · kernel_rfl
          · exact fun _ _ _ h => h
          · refine Or.inl ⟨by rfl, ?_⟩
            intro w hSw
            (try dsimp only at hSw)
            go_simp
            all_goals with_reducible rfl
          simp only [Act.put, List.setIfInBounds_toArray, List.set_cons_zero, List.set_cons_succ]
          refine wpAnyH_take (i := 16) (oi := ?_) (v := ?_) ?_ ?_ ?_ ?_ ?_ ?_ (by assumption) ?_
          rotate_left 2
          · simp only [List.getElem?_toArray, List.getElem?_cons_zero, List.getElem?_cons_succ]
            rfl
          · kernel_rfl
          · kernel_rfl
          · kernel_rfl
          · exact fun _ _ _ h => h
          · refine Or.inl ⟨by rfl, ?_⟩
            intro w hSw
            (try dsimp only at hSw)
            go_simp
            all_goals with_reducible rfl
          simp only [Act.put, List.setIfInBounds_toArray, List.set_cons_zero, List.set_cons_succ]
          refine wpAnyH_take (i := 17) (oi := ?_) (v := ?_) ?_ ?_ ?_ ?_ ?_ ?_ (by assumption) ?_
          rotate_left 2
          · simp only [List.getElem?_toArray, List.getElem?_cons_zero, List.getElem?_cons_succ]
            rfl
          · kernel_rfl
          · kernel_rfl
          · kernel_rfl
          · exact fun _ _ _ h => h
          · refine Or.inl ⟨by rfl, ?_⟩
            intro w hSw
            (try dsimp only at hSw)
            go_simp
            all_goals with_reducible rfl
          simp only [Act.put, List.setIfInBounds_toArray, List.set_cons_zero, List.set_cons_succ]
          refine wpAnyH_ready (rs := [3]) (by kernel_rfl) (by simp) ?_
          refine AllReadyH.cons (o := ?_) ?_ (fun KK hKK => ?_) AllReadyH.nil
          rotate_left
          · simp only [List.getElem?_toArray, List.getElem?_cons_zero, List.getElem?_cons_succ]
            rfl
          go_simp
          refine (HMB.out _).mono ?_; rintro e wD ⟨rfl, hbm⟩
          try go_wp2_with fail
          refine hKK.out _ _ ?_ (fun hh1 => ?_)
          · (try dsimp only)
            exact hHeld.kept hbm
          clear hKK KK
          try simp only [Act.put, List.setIfInBounds_toArray, List.set_cons_zero, List.set_cons_succ]
          refine wpAnyH_take (i := 18) (oi := ?_) (v := ?_) ?_ ?_ ?_ ?_ ?_ ?_ (by assumption) ?_
          rotate_left 2
          · simp only [List.getElem?_toArray, List.getElem?_cons_zero, List.getElem?_cons_succ]
            rfl
          · kernel_rfl
          · kernel_rfl
          · kernel_rfl
          · exact fun _ _ _ h => h
          · refine Or.inl ⟨by rfl, ?_⟩
            intro w hSw
            (try dsimp only at hSw)
            go_simp
            all_goals with_reducible rfl
          simp only [Act.put, List.setIfInBounds_toArray, List.set_cons_zero, List.set_cons_succ]
          refine wpAnyH_take (i := 19) (oi := ?_) (v := ?_) ?_ ?_ ?_ ?_ ?_ ?_ (by assumption) ?_
          rotate_left 2
          · simp only [List.getElem?_toArray, List.getElem?_cons_zero, List.getElem?_cons_succ]
            rfl
          · kernel_rfl
          · kernel_rfl
          · kernel_rfl
          · exact fun _ _ _ h => h
          · refine Or.inl ⟨by rfl, ?_⟩
            intro w hSw
            (try dsimp only at hSw)
            go_simp
            all_goals with_reducible rfl
          simp only [Act.put, List.setIfInBounds_toArray, List.set_cons_zero, List.set_cons_succ]
          refine wpAnyH_done (by kernel_rfl) ?_ _
          have HRb := Lib.hid hh1
          obtain ⟨d0, d1, d2, d3, d4, d5, d6, d7, dk, dw⟩ := HS.out _ hh1
          clear hHeld hh1 hbm HRa
          go_wp2_with (refine wpList_store8 rfl (.tmp 9) (.tmp 133) rfl Sb _ _ _ _ _ _ _ _ rfl rfl st (HOB.out _ HRb.out) HS8.out ?_)
          go_roundw
          case rel => exact ⟨k + 1, by omega, by go_num, HNX.out _ HRb.out⟩
          case measure => simp [intOf]; omega
        · obtain rfl : k = 64 := by omega
          rw [show ((64 : Nat) : Int) = 64 from rfl]
          have H3 : Hid (R3 w B Sb h (Sh.rK h l 64) 0 wr) := ⟨by rw [sumK_zero _ _ HH.out]; exact hR.rd.hO, hR.rd.rO, hR.sO, hR.sb, hR.rd.bel⟩
          have HF := Lib.hid (sumK_full h l)
          have hs8 := Lib.hid (Sh.rK_len h l HH.out 64)
          clear hR HR hk hlt
          generalize Sh.rK h l 64 = st at *
          go_wp2
          go_loopw [135] (fun i wx => ∃ k : Nat, k ≤ 8 ∧ i = .int .i64 k ∧ R3 w B Sb h st k wx) (fun i _ => 8 - (intOf i).toNat)
          case atStart => exact ⟨0, by omega, rfl, H3.out⟩
          case round =>
            clear H3
            obtain ⟨k, hk, rfl, hR⟩ := hrel
            have HR := Lib.hid hR
            by_cases hlt : k < 8
            · have hki : (k : Int) < 8 := by omega
              have g0 : wr.cell? ⟨B, k, none⟩ = some (.int .u32 ((gt h k : Nat) : Int)) := by
                rw [hR.hO.getK k (by rw [sumK_len]; exact hlt), sumK_get _ _ _ _ hlt, if_neg (by omega)]
              have g1 : wr.cell? ⟨Sb, k, none⟩ = some (.int .u32 ((gt st k : Nat) : Int)) := hR.sO.getK k (by rw [hs8.out]; exact hlt)
              have z0 := hR.hO.free k
              have HNX := Lib.hid ((hR.set hlt).drewN 1)
              clear hR
              generalize gt h k = x0 at *
              generalize gt st k = x1 at *
              obtain ⟨v, hv⟩ : ∃ v, (x0 + x1) % 4294967296 = v := ⟨_, rfl⟩
              rw [hv] at HNX
              have e1 := wrap32 x0 x1 v hv
              clear hv
              go_wp2
              refine wp_region_T 8 (fun wq => wq.cell? ⟨B, k, none⟩ = some (.int .u32 (x0 : Int)) ∧ wq.cell? ⟨Sb, k, none⟩ = some (.int .u32 (x1 : Int))) (by kernel_rfl) ⟨g0, g1⟩ (fun hHeld => ?_)
              refine wpAnyT_take (i := 0) (oi := ?_) (v := ?_) ?_ ?_ ?_ ?_ ?_ ?_ ?_ (by assumption) ?_
              rotate_left 2
              · simp only [List.getElem?_toArray, List.getElem?_cons_zero, List.getElem?_cons_succ]
                rfl
              · kernel_rfl
              · kernel_rfl
              · kernel_rfl
              · kernel_rfl
              · exact fun _ _ _ h => h
              · refine Or.inl ⟨by rfl, ?_⟩
                intro w hSw
                (try dsimp only at hSw)
                go_simp
                all_goals with_reducible rfl
              simp only [Act.put, List.setIfInBounds_toArray, List.set_cons_zero, List.set_cons_succ]
              refine wpAnyT_take (i := 1) (oi := ?_) (v := ?_) ?_ ?_ ?_ ?_ ?_ ?_ ?_ (by assumption) ?_
              rotate_left 2
              · simp only [List.getElem?_toArray, List.getElem?_cons_zero, List.getElem?_cons_succ]
                rfl
              · kernel_rfl
              · kernel_rfl
              · kernel_rfl
              · kernel_rfl
              · exact fun _ _ _ h => h
              · refine Or.inl ⟨by rfl, ?_⟩
                intro w hSw
                (try dsimp only at hSw)
                go_simp
                all_goals with_reducible rfl
              simp only [Act.put, List.setIfInBounds_toArray, List.set_cons_zero, List.set_cons_succ]
              refine wpAnyT_take (i := 2) (oi := ?_) (v := ?_) ?_ ?_ ?_ ?_ ?_ ?_ ?_ (by assumption) ?_
              rotate_left 2
              · simp only [List.getElem?_toArray, List.getElem?_cons_zero, List.getElem?_cons_succ]
                rfl
              · kernel_rfl
              · kernel_rfl
              · kernel_rfl
              · kernel_rfl
              · exact fun _ _ _ h => h
              · refine Or.inl ⟨by rfl, ?_⟩
                intro w' hSw
                obtain ⟨d0, d1⟩ := hSw
                go_simp
                all_goals with_reducible rfl
              simp only [Act.put, List.setIfInBounds_toArray, List.set_cons_zero, List.set_cons_succ]
              refine wpAnyT_take (i := 3) (oi := ?_) (v := ?_) ?_ ?_ ?_ ?_ ?_ ?_ ?_ (by assumption) ?_
              rotate_left 2
              · simp only [List.getElem?_toArray, List.getElem?_cons_zero, List.getElem?_cons_succ]
                rfl
              · kernel_rfl
              · kernel_rfl
              · kernel_rfl
              · kernel_rfl
              · exact fun _ _ _ h => h
              · refine Or.inl ⟨by rfl, ?_⟩
                intro w hSw
                (try dsimp only at hSw)
                go_simp
                all_goals with_reducible rfl
              simp only [Act.put, List.setIfInBounds_toArray, List.set_cons_zero, List.set_cons_succ]
              refine wpAnyT_take (i := 4) (oi := ?_) (v := ?_) ?_ ?_ ?_ ?_ ?_ ?_ ?_ (by assumption) ?_
              rotate_left 2
              · simp only [List.getElem?_toArray, List.getElem?_cons_zero, List.getElem?_cons_succ]
                rfl
              · kernel_rfl
              · kernel_rfl
              · kernel_rfl
              · kernel_rfl
              · exact fun _ _ _ h => h
              · refine Or.inl ⟨by rfl, ?_⟩
                intro w hSw
                (try dsimp only at hSw)
                go_simp
                all_goals with_reducible rfl
              simp only [Act.put, List.setIfInBounds_toArray, List.set_cons_zero, List.set_cons_succ]
              refine wpAnyT_take (i := 5) (oi := ?_) (v := ?_) ?_ ?_ ?_ ?_ ?_ ?_ ?_ (by assumption) ?_
              rotate_left 2
              · simp only [List.getElem?_toArray, List.getElem?_cons_zero, List.getElem?_cons_succ]
                rfl
              · kernel_rfl
              · kernel_rfl
              · kernel_rfl
              · kernel_rfl
              · exact fun _ _ _ h => h
              · refine Or.inl ⟨by rfl, ?_⟩
                intro w' hSw
                obtain ⟨d0, d1⟩ := hSw
                go_simp
                all_goals with_reducible rfl
              simp only [Act.put, List.setIfInBounds_toArray, List.set_cons_zero, List.set_cons_succ]
              refine wpAnyT_take (i := 6) (oi := ?_) (v := ?_) ?_ ?_ ?_ ?_ ?_ ?_ ?_ (by assumption) ?_
              rotate_left 2
              · simp only [List.getElem?_toArray, List.getElem?_cons_zero, List.getElem?_cons_succ]
                rfl
              · kernel_rfl
              · kernel_rfl
              · kernel_rfl
              · kernel_rfl
              · exact fun _ _ _ h => h
              · refine Or.inl ⟨by rfl, ?_⟩
                intro w hSw
                (try dsimp only at hSw)
                go_simp
                all_goals with_reducible rfl
              simp only [Act.put, List.setIfInBounds_toArray, List.set_cons_zero, List.set_cons_succ]
              refine wpAnyT_take (i := 7) (oi := ?_) (v := ?_) ?_ ?_ ?_ ?_ ?_ ?_ ?_ (by assumption) ?_
              rotate_left 2
              · simp only [List.getElem?_toArray, List.getElem?_cons_zero, List.getElem?_cons_succ]
                rfl
              · kernel_rfl
              · kernel_rfl
              · kernel_rfl
              · kernel_rfl
              · exact fun _ _ _ h => h
              · refine Or.inl ⟨by rfl, ?_⟩
                intro w hSw
                (try dsimp only at hSw)
                go_simp
                all_goals with_reducible rfl
              simp only [Act.put, List.setIfInBounds_toArray, List.set_cons_zero, List.set_cons_succ]
              refine wpAnyT_last (o := ?_) (by kernel_rfl) ?_ (fun KK hKK => ?_)
              rotate_left
              · simp only [List.getElem?_toArray, List.getElem?_cons_zero, List.getElem?_cons_succ]
                rfl
              go_simp
              refine hKK.out _ _ ?_
              clear hKK KK
              try simp only [Act.put, List.setIfInBounds_toArray, List.set_cons_zero, List.set_cons_succ]
              refine wpAnyT_done (by kernel_rfl) ?_ _
              go_wp2
              go_roundw
              case rel => exact ⟨k + 1, by omega, by go_num, HNX.out⟩
              case measure => simp [intOf]; omega
            · obtain rfl : k = 8 := by omega
              have HI := Lib.hid (size32x8 (Sh.turn_len h l))
              have HO : Hid (Obj wr B 40 (cellsK .u32 (Sh.turn h l))) := by have := hR.hO; rw [HF.out] at this; exact this
              have HZ := Lib.hid hR.rO
              have HTL := Lib.hid (Sh.turn_len h l)
              have HBE := Lib.hid hR.bel
              clear hR HR
              go_wp2_with (first
                | (refine wpList_load_row rfl 40 (.tmp 2) rfl _ rfl _ _ _ _ HO.out Tryd.underlying40 rfl HI.out ?_)
                | (refine wpList_store_row rfl 40 (.tmp 4) (.tmp 147) rfl _ _ rfl rfl _ _ HZ.out HI.out (by rw [cellsK_size, cellsK_size, HTL.out]; simp) (one_cellsK _ _) ?_))
              exact bodyPost_ret (v := .agg (cellsK .u32 (Sh.turn h l))) (results_cell_row rfl _ _ _ _ _ _ _ rfl (HZ.out.row _) Tryd.underlying40 rfl HI.out) rfl ⟨rfl, by rw [HB.out]; exact row_below HBE.out HZ.out.lt _⟩
end Go.Proofs.YtanigdadhldceaaDoor
