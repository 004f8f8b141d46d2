/- Layer 7's alive, walked. -/
import Derived.WalkKit
import Derived.OwnWalk
import Derived.WalkSpells
import Derived.WalkLawsBesides
import Derived.BigQuiet
import Derived.Deep.QuietTactic
import Derived.Laws.IdiomStrings
import Derived.Lib.SlBytesConst
import Derived.StillTailTactics
import Derived.Deep.RegionHeld3
import Derived.Deep.WholeRow
import Derived.Stop.BytesEq
import Derived.Handy
import Derived.Lib.Hide
import Derived.IntWalk
import Derived.Test.YtanigdadhldceaaDoorRows
import Derived.Test.YtanigdadhldceaaDoorAid
import Derived.Test.YtanigdadhldceaaDoorPlainSh
import Derived.Test.YtanigdadhldceaaDoorBy
import Derived.Test.YtanigdadhldceaaDoorShB
import Derived.Test.YtanigdadhldceaaDoorShW
import Derived.Test.YtanigdadhldceaaDoorHeldT
import Derived.Test.YtanigdadhldceaaDoorShC
import Derived.Test.YtanigdadhldceaaDoorShE
import Derived.Test.YtanigdadhldceaaDoorShG
import Derived.Test.YtanigdadhldceaaDoorShH
import Derived.Test.YtanigdadhldceaaDoorShI
import Derived.Test.YtanigdadhldceaaDoorShJ
namespace Go.Proofs.YtanigdadhldceaaDoor
open Go Go.RowKit
set_option linter.unusedVariables false
set_option linter.unusedSimpArgs false

set_option maxRecDepth 1000000 in
theorem sum_abc : Sh.sum [97, 98, 99] = [186, 120, 22, 191, 143, 1, 207, 234, 65, 65, 64, 222, 93, 174, 34, 35, 176, 3, 97, 163, 150, 23, 122, 156, 180, 16, 255, 97, 242, 0, 21, 173] := by decide +kernel
def jefe : List Nat := [74, 101, 102, 101]
def what : List Nat := [119, 104, 97, 116, 32, 100, 111, 32, 121, 97, 32, 119, 97, 110, 116, 32, 102, 111, 114, 32, 110, 111, 116, 104, 105, 110, 103, 63]
set_option maxRecDepth 1000000 in
theorem tag_jefe : Sh.tag jefe what = [91, 220, 193, 70, 191, 96, 117, 78, 106, 4, 36, 38, 8, 149, 117, 199, 90, 0, 63, 8, 157, 39, 57, 131, 157, 236, 88, 185, 100, 236, 56, 67] := by decide +kernel
/-- A slice's conversion to its own type: its block is marked. -/
theorem conv_self {w : World} {g n c : Nat} {C : Array Value} (hO : Obj w g 5 C) : ∃ w', (convert 22 22 (.slice (some ⟨g, 0, none⟩) n c)).run Tryd.prog w = .ok (.slice (some ⟨g, 0, none⟩) n c) w' ∧ Upd g w w' ∧ ∀ i, w'.cell? ⟨g, i, none⟩ = C[i]? := by
  have hsh : w.shape? g = some (5, C.size) := by
    unfold World.shape?
    have : w.heap[g]? = _ := hO
    rw [this]
  refine ⟨w.freeze ⟨g, C.size, none⟩ 1, ?_, ?_, ?_⟩
  · simp [convert, run_underlying Tryd.underlying22, run_underlying Tryd.underlying5, markStringish, hsh]
  · unfold World.freeze
    rw [if_neg (by decide)]
    refine ⟨rfl, rfl, rfl, by simp, fun k hk hne => ?_⟩
    show (w.heap.modify g _)[k]? = _
    rw [Array.getElem?_modify, if_neg (fun e => hne e.symm)]
  · intro i
    unfold World.freeze
    rw [if_neg (by decide)]
    unfold World.cell?
    have : w.heap[g]? = _ := hO
    dsimp only
    rw [Array.getElem?_modify, if_pos rfl, this]
    rfl
theorem conv_at (w : World) (C : Array Value) (n c g : Nat) (hg : g = w.heap.size) :
    (convert 22 22 (.slice (some ⟨g, 0, none⟩) n c)).run Tryd.prog (w.alloc (.cells C 5)) = .ok (.slice (some ⟨g, 0, none⟩) n c) (w.alloc (.cells C 5 (C.size, C.size + 1))) := by
  subst hg; exact Lib.run_convert_bytes_const w 22 5 C n c Tryd.underlying22 Tryd.underlying5
theorem Rb.upd {w w' : World} {b g : Nat} {l : List Nat} (h : Rb w (some ⟨b, 0, none⟩) l) (hu : Upd g w w') (hne : b ≠ g) : Rb w' (some ⟨b, 0, none⟩) l := fun hp => by
  obtain ⟨b', o, e, h1, h2⟩ := h hp
  cases e
  exact ⟨_, _, rfl, Nat.lt_of_lt_of_le h1 hu.size, fun i hi => (World.cell?_of_block (a := ⟨b, 0 + i, none⟩) (hu.block b h1 hne)).trans (h2 i hi)⟩
theorem cells_rb {w : World} {g : Nat} {l : List Nat} (hg : g < w.heap.size) (h : ∀ i, w.cell? ⟨g, i, none⟩ = (cellsK .u8 l)[i]?) : Rb w (some ⟨g, 0, none⟩) l := fun _ =>
  ⟨g, 0, rfl, hg, fun i hi => by rw [Nat.zero_add, h i, cellsK_get _ _ _ hi]; rfl⟩
theorem lit_rb (w : World) (l : List Nat) (fr : Nat × Nat) : Rb (w.alloc (.cells (cellsK .u8 l) 5 fr)) (some ⟨w.heap.size, 0, none⟩) l :=
  cells_rb (by simp) (fun i => World.cell?_alloc_mark w (cellsK .u8 l) 5 fr i)
theorem cellsK_u8 {l : List Nat} (h : ∀ x ∈ l, x < 256) : cellsK .u8 l = ((l.map UInt8.ofNat).map Extern.Stop.cell).toArray := by
  unfold cellsK
  rw [List.map_map]
  congr 1
  refine List.map_congr_left fun c hc => ?_
  have := h c hc
  show Value.int .u8 (c : Int) = Extern.Stop.cell (UInt8.ofNat c)
  unfold Extern.Stop.cell
  rw [UInt8.toNat_ofNat', Nat.mod_eq_of_lt (by omega)]
  rfl
/-- A digest is equal to itself. -/
theorem eqH {x : List Nat} (hx : x.length = 32) (qx : ∀ c ∈ x, c < 256) (w : World) :
    (binOp .eql 25 (.agg (cellsK .u8 x)) (.agg (cellsK .u8 x))).run Tryd.prog w = .ok (.bool true) w := by
  rw [cellsK_u8 qx, run_eql_bytes w 25 5 32 Tryd.underlying25 Tryd.underlying5 (fun w => by kernel_rfl) _ _ (by simpa using hx) (by simpa using hx)]
  simp
theorem eqgH : Tryd.prog.eqGuardType Tryd.prog.depth 25 = false := by kernel_rfl
/-- alive's two digests. -/
structure AlP (w0 : World) (p1 p2 : Nat) (S1 S2 : List Nat) (V : World) : Prop where
  o1 : Obj V p1 25 (cellsK .u8 S1)
  o2 : Obj V p2 25 (cellsK .u8 S2)
  bel : Below w0.heap.size w0 V
theorem AlP.kept {w0 V V' : World} {p1 p2 : Nat} {S1 S2 : List Nat} (h : AlP w0 p1 p2 S1 S2 V) (hb : Below V.heap.size V V') : AlP w0 p1 p2 S1 S2 V' := ⟨h.o1.kept hb, h.o2.kept hb, h.bel.trans (hb.mono h.bel.size)⟩
theorem AlP.new {w0 V : World} {p1 p2 : Nat} {S1 S2 : List Nat} (h : AlP w0 p1 p2 S1 S2 V) (T : TypeId) (cs : Array Value) : Obj (V.alloc (.cells cs T)) V.heap.size T cs := Obj.new V T cs
theorem AlP.upd {w0 V V' : World} {p1 p2 g : Nat} {S1 S2 : List Nat} (h : AlP w0 p1 p2 S1 S2 V) (hu : Upd g V V') (h1 : p1 < g) (h2 : p2 < g) (hg : w0.heap.size ≤ g) : AlP w0 p1 p2 S1 S2 V' :=
  ⟨h.o1.upd hu (by omega), h.o2.upd hu (by omega), ⟨hu.os.trans h.bel.os, hu.tape.trans h.bel.tape, hu.output.trans h.bel.output, Nat.le_trans h.bel.size hu.size, fun k hk => (hu.block k (by have := h.bel.size; omega) (by omega)).trans (h.bel.block k hk)⟩⟩

set_option maxRecDepth 100000 in
set_option maxHeartbeats 16000000 in
theorem alive_any (w : World) (ht : Tabs w) : Calls Tryd.prog 8 #[] w fun e w' => e = .returned (.bool true) ∧ Below w.heap.size w w' := by
  obtain ⟨S1, hS1⟩ : ∃ S, Sh.sum [97, 98, 99] = S := ⟨_, rfl⟩
  obtain ⟨S2, hS2⟩ : ∃ S, Sh.tag jefe what = S := ⟨_, rfl⟩
  have L1 : S1.length = 32 := hS1 ▸ Sh.sum_len _
  have L2 : S2.length = 32 := hS2 ▸ tag_len _ _
  have Q1 : ∀ x ∈ S1, x < 256 := hS1 ▸ Sh.sum_lt _
  have Q2 : ∀ x ∈ S2, x < 256 := hS2 ▸ tag_lt _ _
  have G1 : Hid (S1.getD 0 0 = 186 ∧ S1.getD 31 0 = 173 ∧ S2.getD 0 0 = 91 ∧ S2.getD 31 0 = 67) := by
    rw [← hS1, ← hS2, sum_abc, tag_jefe]; exact ⟨rfl, rfl, rfl, rfl⟩
  have kc := fun (w : World) (C : Array Value) (n c : Nat) => Lib.run_convert_bytes_const (P := Tryd.prog) w 22 5 C n c Tryd.underlying22 Tryd.underlying5
  go_enter Tryd.func8, Tryd.ntmps8
  go_wp2_with fail
  have LB : Below w.heap.size w (w.alloc (.cells #[.int .u8 97, .int .u8 98, .int .u8 99] 5 (3, 4))) := (Below.refl _ w).alloc (Nat.le_refl _) _
  refine (sum_any _ 3 3 [97, 98, 99] _ (ht.below LB) (lit_rb w [97, 98, 99] (3, 4)) rfl (by decide) (by decide) ⟨Nat.le_refl _, by unfold maxLen; omega⟩).mono ?_
  rintro e w1 ⟨rfl, hb1⟩
  rw [hS1]
  have LB1 : Below w.heap.size w w1 := LB.trans (hb1.mono (by simp))
  have HSZ1 := Lib.hid (sizeH L1)
  have HL1 := Lib.hid L1
  have HSZ2 := Lib.hid (sizeH L2)
  have HL2 := Lib.hid L2
  have HQ1 := Lib.hid Q1
  have HQ2 := Lib.hid Q2
  have HS2 := Lib.hid hS2
  have HT := Lib.hid ht
  have O1 := Obj.new w1 25 #[.int .u8 0, .int .u8 0, .int .u8 0, .int .u8 0, .int .u8 0, .int .u8 0, .int .u8 0, .int .u8 0, .int .u8 0, .int .u8 0, .int .u8 0, .int .u8 0, .int .u8 0, .int .u8 0, .int .u8 0, .int .u8 0, .int .u8 0, .int .u8 0, .int .u8 0, .int .u8 0, .int .u8 0, .int .u8 0, .int .u8 0, .int .u8 0, .int .u8 0, .int .u8 0, .int .u8 0, .int .u8 0, .int .u8 0, .int .u8 0, .int .u8 0, .int .u8 0]
  have U1 := (Upd.refl w1.heap.size (w1.alloc (.cells #[.int .u8 0, .int .u8 0, .int .u8 0, .int .u8 0, .int .u8 0, .int .u8 0, .int .u8 0, .int .u8 0, .int .u8 0, .int .u8 0, .int .u8 0, .int .u8 0, .int .u8 0, .int .u8 0, .int .u8 0, .int .u8 0, .int .u8 0, .int .u8 0, .int .u8 0, .int .u8 0, .int .u8 0, .int .u8 0, .int .u8 0, .int .u8 0, .int .u8 0, .int .u8 0, .int .u8 0, .int .u8 0, .int .u8 0, .int .u8 0, .int .u8 0, .int .u8 0] 25))).row (cellsK .u8 S1)
  have O1' := O1.row (cellsK .u8 S1)
  have LB2 : Below w1.heap.size w1 ((w1.alloc (.cells #[.int .u8 0, .int .u8 0, .int .u8 0, .int .u8 0, .int .u8 0, .int .u8 0, .int .u8 0, .int .u8 0, .int .u8 0, .int .u8 0, .int .u8 0, .int .u8 0, .int .u8 0, .int .u8 0, .int .u8 0, .int .u8 0, .int .u8 0, .int .u8 0, .int .u8 0, .int .u8 0, .int .u8 0, .int .u8 0, .int .u8 0, .int .u8 0, .int .u8 0, .int .u8 0, .int .u8 0, .int .u8 0, .int .u8 0, .int .u8 0, .int .u8 0, .int .u8 0] 25)).setRow w1.heap.size (cellsK .u8 S1)) := Upd.below ((Below.refl _ w1).alloc (Nat.le_refl _) _) (Nat.le_refl _) U1
  have LB3 := LB1.trans (LB2.mono LB1.size)
  have HO1 := Lib.hid O1
  obtain ⟨W2, hW2⟩ : ∃ W2, (w1.alloc (.cells #[.int .u8 0, .int .u8 0, .int .u8 0, .int .u8 0, .int .u8 0, .int .u8 0, .int .u8 0, .int .u8 0, .int .u8 0, .int .u8 0, .int .u8 0, .int .u8 0, .int .u8 0, .int .u8 0, .int .u8 0, .int .u8 0, .int .u8 0, .int .u8 0, .int .u8 0, .int .u8 0, .int .u8 0, .int .u8 0, .int .u8 0, .int .u8 0, .int .u8 0, .int .u8 0, .int .u8 0, .int .u8 0, .int .u8 0, .int .u8 0, .int .u8 0, .int .u8 0] 25)).setRow w1.heap.size (cellsK .u8 S1) = W2 := ⟨_, rfl⟩
  rw [hW2] at O1' LB3
  have HO1' := Lib.hid O1'
  have HLB3 := Lib.hid LB3
  have hww : w.heap.size ≤ w1.heap.size := LB1.size
  have HW2 := Lib.hid hW2
  clear hW2
  clear LB hb1 LB1 O1 U1 O1' LB2 LB3 hS1 hS2 L1 L2 Q1 Q2 ht
  have kcA := fun (C : Array Value) (n c : Nat) => conv_at ((w1.alloc (.cells #[.int .u8 0, .int .u8 0, .int .u8 0, .int .u8 0, .int .u8 0, .int .u8 0, .int .u8 0, .int .u8 0, .int .u8 0, .int .u8 0, .int .u8 0, .int .u8 0, .int .u8 0, .int .u8 0, .int .u8 0, .int .u8 0, .int .u8 0, .int .u8 0, .int .u8 0, .int .u8 0, .int .u8 0, .int .u8 0, .int .u8 0, .int .u8 0, .int .u8 0, .int .u8 0, .int .u8 0, .int .u8 0, .int .u8 0, .int .u8 0, .int .u8 0, .int .u8 0] 25)).setRow w1.heap.size (cellsK .u8 S1)) C n c (w1.heap.size + 1) (by simp [row_size])
  have kcB := fun (C0 : Array Value) (fr : Nat × Nat) (C : Array Value) (n c : Nat) => conv_at (((w1.alloc (.cells #[.int .u8 0, .int .u8 0, .int .u8 0, .int .u8 0, .int .u8 0, .int .u8 0, .int .u8 0, .int .u8 0, .int .u8 0, .int .u8 0, .int .u8 0, .int .u8 0, .int .u8 0, .int .u8 0, .int .u8 0, .int .u8 0, .int .u8 0, .int .u8 0, .int .u8 0, .int .u8 0, .int .u8 0, .int .u8 0, .int .u8 0, .int .u8 0, .int .u8 0, .int .u8 0, .int .u8 0, .int .u8 0, .int .u8 0, .int .u8 0, .int .u8 0, .int .u8 0] 25)).setRow w1.heap.size (cellsK .u8 S1)).alloc (.cells C0 5 fr)) C n c (w1.heap.size + 1 + 1) (by simp [row_size])
  clear kc
  go_wp2_with (refine wpList_store_row rfl 25 (.tmp 1) (.tmp 5) rfl _ _ rfl rfl _ _ HO1.out HSZ1.out (by rw [cellsK_size, HL1.out]; rfl) (one_cellsK _ _) ?_)
  rw [HW2.out]
  clear kcA kcB
  have hs2 : W2.heap.size = w1.heap.size + 1 := by rw [← HW2.out]; simp [row_size]
  have M1 := lit_rb W2 jefe (4, 5)
  have M2 := lit_rb (W2.alloc (.cells (cellsK .u8 jefe) 5 (4, 5))) what (28, 29)
  have KB1 : Below W2.heap.size W2 (W2.alloc (.cells (cellsK .u8 jefe) 5 (4, 5))) := (Below.refl _ _).alloc (Nat.le_refl _) _
  have KB2 : Below (W2.alloc (.cells (cellsK .u8 jefe) 5 (4, 5))).heap.size (W2.alloc (.cells (cellsK .u8 jefe) 5 (4, 5))) ((W2.alloc (.cells (cellsK .u8 jefe) 5 (4, 5))).alloc (.cells (cellsK .u8 what) 5 (28, 29))) := (Below.refl _ _).alloc (Nat.le_refl _) _
  have M1' := M1.below KB2
  rw [World.size_alloc] at M2
  have KB := KB1.trans (KB2.mono (by simp))
  rw [hs2] at M1' M2
  obtain ⟨W3, hW3⟩ : ∃ W3, (W2.alloc (.cells (cellsK .u8 jefe) 5 (4, 5))).alloc (.cells (cellsK .u8 what) 5 (28, 29)) = W3 := ⟨_, rfl⟩
  rw [hW3] at M1' M2 KB
  have KW := HLB3.out.trans (KB.mono HLB3.out.size)
  have O1'' := HO1'.out.kept KB
  have HW3 := Lib.hid hW3
  clear M1 KB1 KB2
  have HTG : Hid (Calls Tryd.prog 11 #[.slice (some ⟨w1.heap.size + 1, 0, none⟩) 4 4, .slice (some ⟨w1.heap.size + 1 + 1, 0, none⟩) 28 28] W3 fun e w' => e = .returned (.agg (cellsK .u8 S2)) ∧ Below W3.heap.size W3 w') := by
    have := tag_any _ _ 4 4 28 28 jefe what W3 (HT.out.below KW) M1' rfl (by decide) (by decide) ⟨Nat.le_refl _, by unfold maxLen; omega⟩ M2 rfl (by decide) (by decide)
    rw [HS2.out] at this
    exact this
  rw [← hW3] at HTG
  refine HTG.out.mono ?_
  rintro e w4 ⟨rfl, hb4⟩
  have hb4' : Below W3.heap.size W3 w4 := by rw [← hW3]; exact hb4
  have O4 := O1''.kept hb4'
  have K4 := KW.trans (hb4'.mono KW.size)
  have O5 := Obj.new w4 25 #[.int .u8 0, .int .u8 0, .int .u8 0, .int .u8 0, .int .u8 0, .int .u8 0, .int .u8 0, .int .u8 0, .int .u8 0, .int .u8 0, .int .u8 0, .int .u8 0, .int .u8 0, .int .u8 0, .int .u8 0, .int .u8 0, .int .u8 0, .int .u8 0, .int .u8 0, .int .u8 0, .int .u8 0, .int .u8 0, .int .u8 0, .int .u8 0, .int .u8 0, .int .u8 0, .int .u8 0, .int .u8 0, .int .u8 0, .int .u8 0, .int .u8 0, .int .u8 0]
  have U5 := (Upd.refl w4.heap.size (w4.alloc (.cells #[.int .u8 0, .int .u8 0, .int .u8 0, .int .u8 0, .int .u8 0, .int .u8 0, .int .u8 0, .int .u8 0, .int .u8 0, .int .u8 0, .int .u8 0, .int .u8 0, .int .u8 0, .int .u8 0, .int .u8 0, .int .u8 0, .int .u8 0, .int .u8 0, .int .u8 0, .int .u8 0, .int .u8 0, .int .u8 0, .int .u8 0, .int .u8 0, .int .u8 0, .int .u8 0, .int .u8 0, .int .u8 0, .int .u8 0, .int .u8 0, .int .u8 0, .int .u8 0] 25))).row (cellsK .u8 S2)
  have L5 : Below w4.heap.size w4 ((w4.alloc (.cells #[.int .u8 0, .int .u8 0, .int .u8 0, .int .u8 0, .int .u8 0, .int .u8 0, .int .u8 0, .int .u8 0, .int .u8 0, .int .u8 0, .int .u8 0, .int .u8 0, .int .u8 0, .int .u8 0, .int .u8 0, .int .u8 0, .int .u8 0, .int .u8 0, .int .u8 0, .int .u8 0, .int .u8 0, .int .u8 0, .int .u8 0, .int .u8 0, .int .u8 0, .int .u8 0, .int .u8 0, .int .u8 0, .int .u8 0, .int .u8 0, .int .u8 0, .int .u8 0] 25)).setRow w4.heap.size (cellsK .u8 S2)) := Upd.below ((Below.refl _ w4).alloc (Nat.le_refl _) _) (Nat.le_refl _) U5
  have HO5 := Lib.hid O5
  have HA : Hid (AlP w w1.heap.size w4.heap.size S1 S2 ((w4.alloc (.cells #[.int .u8 0, .int .u8 0, .int .u8 0, .int .u8 0, .int .u8 0, .int .u8 0, .int .u8 0, .int .u8 0, .int .u8 0, .int .u8 0, .int .u8 0, .int .u8 0, .int .u8 0, .int .u8 0, .int .u8 0, .int .u8 0, .int .u8 0, .int .u8 0, .int .u8 0, .int .u8 0, .int .u8 0, .int .u8 0, .int .u8 0, .int .u8 0, .int .u8 0, .int .u8 0, .int .u8 0, .int .u8 0, .int .u8 0, .int .u8 0, .int .u8 0, .int .u8 0] 25)).setRow w4.heap.size (cellsK .u8 S2)) ∧ w1.heap.size < w4.heap.size ∧ w.heap.size ≤ w1.heap.size) :=
    ⟨⟨O4.kept L5, O5.row _, K4.trans (L5.mono K4.size)⟩, O4.lt, hww⟩
  clear HTG hb4 hb4' O4 K4 O5 U5 L5 O1'' KW M1' M2 KB hW3 HW3 HW2 HO1' HLB3 HO1 hs2 hww
  go_wp2_with (refine wpList_store_row rfl 25 (.tmp 2) (.tmp 10) rfl _ _ rfl rfl _ _ HO5.out HSZ2.out (by rw [cellsK_size, HL2.out]; rfl) (one_cellsK _ _) ?_)
  obtain ⟨W5, hW5⟩ : ∃ W5, (w4.alloc (.cells #[.int .u8 0, .int .u8 0, .int .u8 0, .int .u8 0, .int .u8 0, .int .u8 0, .int .u8 0, .int .u8 0, .int .u8 0, .int .u8 0, .int .u8 0, .int .u8 0, .int .u8 0, .int .u8 0, .int .u8 0, .int .u8 0, .int .u8 0, .int .u8 0, .int .u8 0, .int .u8 0, .int .u8 0, .int .u8 0, .int .u8 0, .int .u8 0, .int .u8 0, .int .u8 0, .int .u8 0, .int .u8 0, .int .u8 0, .int .u8 0, .int .u8 0, .int .u8 0] 25)).setRow w4.heap.size (cellsK .u8 S2) = W5 := ⟨_, rfl⟩
  rw [hW5] at HA ⊢
  clear hW5 HO5
  generalize w4.heap.size = p2 at *
  generalize w1.heap.size = p1 at *
  try simp only [Act.put]
  have HCL : Hid (∀ w', AlP w p1 p2 S1 S2 w' → w'.cell? ⟨p1, 0, none⟩ = some (.int .u8 186) ∧ w'.cell? ⟨p1, 31, none⟩ = some (.int .u8 173) ∧ w'.cell? ⟨p2, 0, none⟩ = some (.int .u8 91) ∧ w'.cell? ⟨p2, 31, none⟩ = some (.int .u8 67)) := fun w' h => by
    obtain ⟨g1, g2, g3, g4⟩ := G1.out
    refine ⟨?_, ?_, ?_, ?_⟩
    · rw [h.o1.getK 0 (by rw [HL1.out]; decide), g1]; rfl
    · rw [h.o1.getK 31 (by rw [HL1.out]; decide), g2]; rfl
    · rw [h.o2.getK 0 (by rw [HL2.out]; decide), g3]; rfl
    · rw [h.o2.getK 31 (by rw [HL2.out]; decide), g4]; rfl
  have HLB : Hid (∀ W, AlP w p1 p2 S1 S2 W → Calls Tryd.prog 17 #[.agg (cellsK .u8 S1), .string ⟨#[107, 101, 121]⟩, .int .i64 16] W fun e w' => ∃ A, e = .returned (.slice A 16 16) ∧ Below W.heap.size W w') := fun W h => by
    refine (label_any S1 ⟨#[107, 101, 121]⟩ 16 W (HT.out.below h.bel) HL1.out HQ1.out (by decide)).mono ?_
    rintro e w' ⟨v, rfl, hv, hb⟩
    rcases hv with ⟨h, _⟩ | ⟨k, hk, _, A, rfl, _⟩
    · omega
    · obtain rfl : 16 = k := by omega
      exact ⟨A, rfl, hb⟩
  have HXP : Hid (∀ W, AlP w p1 p2 S1 S2 W → Calls Tryd.prog 15 #[.agg (cellsK .u8 S1), .slice none 0 0, .int .i64 40] W fun e w' => ∃ A, e = .returned (.slice A 40 40) ∧ Below W.heap.size W w') := fun W h => by
    refine (expand_any S1 [] none 0 0 40 W (HT.out.below h.bel) HL1.out HQ1.out (fun h => by cases h) rfl (fun x hx => by cases hx) (by decide) (by decide)).mono ?_
    rintro e w' ⟨A, rfl, _, hb⟩
    exact ⟨A, rfl, hb⟩
  have HXT : Hid (∀ W b31 b33, AlP w p1 p2 S1 S2 W → Rb W (some ⟨b31, 0, none⟩) jefe → Rb W (some ⟨b33, 0, none⟩) what → Calls Tryd.prog 13 #[.slice (some ⟨b31, 0, none⟩) 4 4, .slice (some ⟨b33, 0, none⟩) 28 28] W fun e w' => e = .returned (.agg (cellsK .u8 S2)) ∧ Below W.heap.size W w') := fun W b31 b33 h h1 h2 => by
    have := extract_any _ _ 4 4 28 28 jefe what W (HT.out.below h.bel) h1 rfl (by decide) (by decide) ⟨Nat.le_refl _, by unfold maxLen; omega⟩ h2 rfl (by decide) (by decide)
    rw [HS2.out] at this
    exact this
  have heq := fun W => eqH HL2.out HQ2.out W
  have heg := eqgH
  have hp := HA.out.2
  have HE0 : Hid (AlP w p1 p2 S1 S2 W5.drew) := HA.out.1.kept ((Below.refl _ W5).drew)
  clear HA G1 HQ1
  refine wp_region_held_drew (S := (fun wq => AlP w p1 p2 S1 S2 wq)) (by kernel_rfl) HE0.out (fun hHeld => ?_)
  refine wpAnyH_take (i := 0) (oi := ?_) (v := ?_) ?_ ?_ ?_ ?_ ?_ ?_ (by assumption) ?_
  rotate_left 2
  · simp only [List.getElem?_toArray, List.getElem?_cons_zero, List.getElem?_cons_succ]
    rfl
  · kernel_rfl
  · kernel_rfl
  · kernel_rfl
  · exact fun _ _ _ h => h
  · refine Or.inl ⟨by rfl, ?_⟩
    intro w hSw
    (try dsimp only at hSw)
    go_simp
    all_goals with_reducible rfl
  simp only [Act.put, List.setIfInBounds_toArray, List.set_cons_zero, List.set_cons_succ]
  refine wpAnyH_take (i := 1) (oi := ?_) (v := ?_) ?_ ?_ ?_ ?_ ?_ ?_ (by assumption) ?_
  rotate_left 2
  · simp only [List.getElem?_toArray, List.getElem?_cons_zero, List.getElem?_cons_succ]
    rfl
  · kernel_rfl
  · kernel_rfl
  · kernel_rfl
  · exact fun _ _ _ h => h
  · refine Or.inl ⟨by rfl, ?_⟩
    intro w' hSw
    obtain ⟨q0, q1, q2, q3⟩ := HCL.out w' hSw
    go_simp
    all_goals with_reducible rfl
  simp only [Act.put, List.setIfInBounds_toArray, List.set_cons_zero, List.set_cons_succ]
  refine wpAnyH_take (i := 2) (oi := ?_) (v := ?_) ?_ ?_ ?_ ?_ ?_ ?_ (by assumption) ?_
  rotate_left 2
  · simp only [List.getElem?_toArray, List.getElem?_cons_zero, List.getElem?_cons_succ]
    rfl
  · kernel_rfl
  · kernel_rfl
  · kernel_rfl
  · exact fun _ _ _ h => h
  · refine Or.inl ⟨by rfl, ?_⟩
    intro w hSw
    (try dsimp only at hSw)
    go_simp
    all_goals with_reducible rfl
  simp only [Act.put, List.setIfInBounds_toArray, List.set_cons_zero, List.set_cons_succ]
  refine wpAnyH_take (i := 3) (oi := ?_) (v := ?_) ?_ ?_ ?_ ?_ ?_ ?_ (by assumption) ?_
  rotate_left 2
  · simp only [List.getElem?_toArray, List.getElem?_cons_zero, List.getElem?_cons_succ]
    rfl
  · kernel_rfl
  · kernel_rfl
  · kernel_rfl
  · exact fun _ _ _ h => h
  · refine Or.inl ⟨by rfl, ?_⟩
    intro w hSw
    (try dsimp only at hSw)
    go_simp
    all_goals with_reducible rfl
  simp only [Act.put, List.setIfInBounds_toArray, List.set_cons_zero, List.set_cons_succ]
  refine wpAnyH_take (i := 4) (oi := ?_) (v := ?_) ?_ ?_ ?_ ?_ ?_ ?_ (by assumption) ?_
  rotate_left 2
  · simp only [List.getElem?_toArray, List.getElem?_cons_zero, List.getElem?_cons_succ]
    rfl
  · kernel_rfl
  · kernel_rfl
  · kernel_rfl
  · exact fun _ _ _ h => h
  · refine Or.inl ⟨by rfl, ?_⟩
    intro w hSw
    (try dsimp only at hSw)
    go_simp
    all_goals with_reducible rfl
  simp only [Act.put, List.setIfInBounds_toArray, List.set_cons_zero, List.set_cons_succ]
  refine wpAnyH_take (i := 5) (oi := ?_) (v := ?_) ?_ ?_ ?_ ?_ ?_ ?_ (by assumption) ?_
  rotate_left 2
  · simp only [List.getElem?_toArray, List.getElem?_cons_zero, List.getElem?_cons_succ]
    rfl
  · kernel_rfl
  · kernel_rfl
  · kernel_rfl
  · exact fun _ _ _ h => h
  · refine Or.inl ⟨by rfl, ?_⟩
    intro w' hSw
    obtain ⟨q0, q1, q2, q3⟩ := HCL.out w' hSw
    go_simp
    all_goals with_reducible rfl
  simp only [Act.put, List.setIfInBounds_toArray, List.set_cons_zero, List.set_cons_succ]
  refine wpAnyH_take (i := 6) (oi := ?_) (v := ?_) ?_ ?_ ?_ ?_ ?_ ?_ (by assumption) ?_
  rotate_left 2
  · simp only [List.getElem?_toArray, List.getElem?_cons_zero, List.getElem?_cons_succ]
    rfl
  · kernel_rfl
  · kernel_rfl
  · kernel_rfl
  · exact fun _ _ _ h => h
  · refine Or.inl ⟨by rfl, ?_⟩
    intro w hSw
    (try dsimp only at hSw)
    go_simp
    all_goals with_reducible rfl
  simp only [Act.put, List.setIfInBounds_toArray, List.set_cons_zero, List.set_cons_succ]
  refine wpAnyH_take (i := 7) (oi := ?_) (v := ?_) ?_ ?_ ?_ ?_ ?_ ?_ (by assumption) ?_
  rotate_left 2
  · simp only [List.getElem?_toArray, List.getElem?_cons_zero, List.getElem?_cons_succ]
    rfl
  · kernel_rfl
  · kernel_rfl
  · kernel_rfl
  · exact fun _ _ _ h => h
  · refine Or.inl ⟨by rfl, ?_⟩
    intro w hSw
    (try dsimp only at hSw)
    go_simp
    all_goals with_reducible rfl
  simp only [Act.put, List.setIfInBounds_toArray, List.set_cons_zero, List.set_cons_succ]
  refine wpAnyH_take (i := 8) (oi := ?_) (v := ?_) ?_ ?_ ?_ ?_ ?_ ?_ (by assumption) ?_
  rotate_left 2
  · simp only [List.getElem?_toArray, List.getElem?_cons_zero, List.getElem?_cons_succ]
    rfl
  · kernel_rfl
  · kernel_rfl
  · kernel_rfl
  · exact fun _ _ _ h => h
  · refine Or.inl ⟨by rfl, ?_⟩
    intro w hSw
    (try dsimp only at hSw)
    go_simp
    all_goals with_reducible rfl
  simp only [Act.put, List.setIfInBounds_toArray, List.set_cons_zero, List.set_cons_succ]
  refine wpAnyH_take (i := 9) (oi := ?_) (v := ?_) ?_ ?_ ?_ ?_ ?_ ?_ (by assumption) ?_
  rotate_left 2
  · simp only [List.getElem?_toArray, List.getElem?_cons_zero, List.getElem?_cons_succ]
    rfl
  · kernel_rfl
  · kernel_rfl
  · kernel_rfl
  · exact fun _ _ _ h => h
  · refine Or.inl ⟨by rfl, ?_⟩
    intro w hSw
    (try dsimp only at hSw)
    go_simp
    all_goals with_reducible rfl
  simp only [Act.put, List.setIfInBounds_toArray, List.set_cons_zero, List.set_cons_succ]
  refine wpAnyH_take (i := 10) (oi := ?_) (v := ?_) ?_ ?_ ?_ ?_ ?_ ?_ (by assumption) ?_
  rotate_left 2
  · simp only [List.getElem?_toArray, List.getElem?_cons_zero, List.getElem?_cons_succ]
    rfl
  · kernel_rfl
  · kernel_rfl
  · kernel_rfl
  · exact fun _ _ _ h => h
  · refine Or.inl ⟨by rfl, ?_⟩
    intro w' hSw
    obtain ⟨q0, q1, q2, q3⟩ := HCL.out w' hSw
    go_simp
    all_goals with_reducible rfl
  simp only [Act.put, List.setIfInBounds_toArray, List.set_cons_zero, List.set_cons_succ]
  refine wpAnyH_take (i := 11) (oi := ?_) (v := ?_) ?_ ?_ ?_ ?_ ?_ ?_ (by assumption) ?_
  rotate_left 2
  · simp only [List.getElem?_toArray, List.getElem?_cons_zero, List.getElem?_cons_succ]
    rfl
  · kernel_rfl
  · kernel_rfl
  · kernel_rfl
  · exact fun _ _ _ h => h
  · refine Or.inl ⟨by rfl, ?_⟩
    intro w hSw
    (try dsimp only at hSw)
    go_simp
    all_goals with_reducible rfl
  simp only [Act.put, List.setIfInBounds_toArray, List.set_cons_zero, List.set_cons_succ]
  refine wpAnyH_take (i := 12) (oi := ?_) (v := ?_) ?_ ?_ ?_ ?_ ?_ ?_ (by assumption) ?_
  rotate_left 2
  · simp only [List.getElem?_toArray, List.getElem?_cons_zero, List.getElem?_cons_succ]
    rfl
  · kernel_rfl
  · kernel_rfl
  · kernel_rfl
  · exact fun _ _ _ h => h
  · refine Or.inl ⟨by rfl, ?_⟩
    intro w hSw
    (try dsimp only at hSw)
    go_simp
    all_goals with_reducible rfl
  simp only [Act.put, List.setIfInBounds_toArray, List.set_cons_zero, List.set_cons_succ]
  refine wpAnyH_take (i := 13) (oi := ?_) (v := ?_) ?_ ?_ ?_ ?_ ?_ ?_ (by assumption) ?_
  rotate_left 2
  · simp only [List.getElem?_toArray, List.getElem?_cons_zero, List.getElem?_cons_succ]
    rfl
  · kernel_rfl
  · kernel_rfl
  · kernel_rfl
  · exact fun _ _ _ h => h
  · refine Or.inl ⟨by rfl, ?_⟩
    intro w hSw
    (try dsimp only at hSw)
    go_simp
    all_goals with_reducible rfl
  simp only [Act.put, List.setIfInBounds_toArray, List.set_cons_zero, List.set_cons_succ]
  refine wpAnyH_take (i := 14) (oi := ?_) (v := ?_) ?_ ?_ ?_ ?_ ?_ ?_ (by assumption) ?_
  rotate_left 2
  · simp only [List.getElem?_toArray, List.getElem?_cons_zero, List.getElem?_cons_succ]
    rfl
  · kernel_rfl
  · kernel_rfl
  · kernel_rfl
  · exact fun _ _ _ h => h
  · refine Or.inl ⟨by rfl, ?_⟩
    intro w hSw
    (try dsimp only at hSw)
    go_simp
    all_goals with_reducible rfl
  simp only [Act.put, List.setIfInBounds_toArray, List.set_cons_zero, List.set_cons_succ]
  refine wpAnyH_take (i := 15) (oi := ?_) (v := ?_) ?_ ?_ ?_ ?_ ?_ ?_ (by assumption) ?_
  rotate_left 2
  · simp only [List.getElem?_toArray, List.getElem?_cons_zero, List.getElem?_cons_succ]
    rfl
  · kernel_rfl
  · kernel_rfl
  · kernel_rfl
  · exact fun _ _ _ h => h
  · refine Or.inl ⟨by rfl, ?_⟩
    intro w' hSw
    obtain ⟨q0, q1, q2, q3⟩ := HCL.out w' hSw
    go_simp
    all_goals with_reducible rfl
  simp only [Act.put, List.setIfInBounds_toArray, List.set_cons_zero, List.set_cons_succ]
  refine wpAnyH_take (i := 16) (oi := ?_) (v := ?_) ?_ ?_ ?_ ?_ ?_ ?_ (by assumption) ?_
  rotate_left 2
  · simp only [List.getElem?_toArray, List.getElem?_cons_zero, List.getElem?_cons_succ]
    rfl
  · kernel_rfl
  · kernel_rfl
  · kernel_rfl
  · exact fun _ _ _ h => h
  · refine Or.inl ⟨by rfl, ?_⟩
    intro w hSw
    (try dsimp only at hSw)
    go_simp
    all_goals with_reducible rfl
  simp only [Act.put, List.setIfInBounds_toArray, List.set_cons_zero, List.set_cons_succ]
  refine wpAnyH_take (i := 17) (oi := ?_) (v := ?_) ?_ ?_ ?_ ?_ ?_ ?_ (by assumption) ?_
  rotate_left 2
  · simp only [List.getElem?_toArray, List.getElem?_cons_zero, List.getElem?_cons_succ]
    rfl
  · kernel_rfl
  · kernel_rfl
  · kernel_rfl
  · exact fun _ _ _ h => h
  · refine Or.inl ⟨by rfl, ?_⟩
    intro w hSw
    (try dsimp only at hSw)
    go_simp
    all_goals with_reducible rfl
  simp only [Act.put, List.setIfInBounds_toArray, List.set_cons_zero, List.set_cons_succ]
  refine wpAnyH_take (i := 18) (oi := ?_) (v := ?_) ?_ ?_ ?_ ?_ ?_ ?_ (by assumption) ?_
  rotate_left 2
  · simp only [List.getElem?_toArray, List.getElem?_cons_zero, List.getElem?_cons_succ]
    rfl
  · kernel_rfl
  · kernel_rfl
  · kernel_rfl
  · exact fun _ _ _ h => h
  · refine Or.inl ⟨by rfl, ?_⟩
    intro w hSw
    (try dsimp only at hSw)
    go_simp
    all_goals with_reducible rfl
  simp only [Act.put, List.setIfInBounds_toArray, List.set_cons_zero, List.set_cons_succ]
  refine wpAnyH_take (i := 19) (oi := ?_) (v := ?_) ?_ ?_ ?_ ?_ ?_ ?_ (by assumption) ?_
  rotate_left 2
  · simp only [List.getElem?_toArray, List.getElem?_cons_zero, List.getElem?_cons_succ]
    rfl
  · kernel_rfl
  · kernel_rfl
  · kernel_rfl
  · exact fun _ _ _ h => h
  · refine yieldsIf_load_row (g := p1) (t := 25) (cs := (cellsK .u8 S1)) (ty := 25) (x := (.tmp 1)) ?_ ?_ ?_ ?_ Tryd.underlying25 rfl HSZ1.out
    · rfl
    · rfl
    · rfl
    · exact fun w hSw => hSw.o1
  simp only [Act.put, List.setIfInBounds_toArray, List.set_cons_zero, List.set_cons_succ]
  refine wpAnyH_ready (rs := [20]) (by kernel_rfl) (by simp) ?_
  refine AllReadyH.cons (o := ?_) ?_ (fun KK hKK => ?_) AllReadyH.nil
  rotate_left
  · simp only [List.getElem?_toArray, List.getElem?_cons_zero, List.getElem?_cons_succ]
    rfl
  go_simp
  refine (HLB.out _ HE0.out).mono ?_; rintro e w6 ⟨A6, rfl, hb6⟩
  try go_wp2_with fail
  have HE1 := Lib.hid (HE0.out.kept hb6)
  clear HE0 hb6
  refine hKK.out _ _ ?_ (fun hh1 => ?_)
  · (try dsimp only)
    exact HE1.out
  clear hKK KK
  try simp only [Act.put, List.setIfInBounds_toArray, List.set_cons_zero, List.set_cons_succ]
  refine wpAnyH_take (i := 21) (oi := ?_) (v := ?_) ?_ ?_ ?_ ?_ ?_ ?_ (by assumption) ?_
  rotate_left 2
  · simp only [List.getElem?_toArray, List.getElem?_cons_zero, List.getElem?_cons_succ]
    rfl
  · kernel_rfl
  · kernel_rfl
  · kernel_rfl
  · exact fun _ _ _ h => h
  · refine Or.inl ⟨by rfl, ?_⟩
    intro w hSw
    (try dsimp only at hSw)
    go_simp
    all_goals with_reducible rfl
  simp only [Act.put, List.setIfInBounds_toArray, List.set_cons_zero, List.set_cons_succ]
  refine wpAnyH_take (i := 22) (oi := ?_) (v := ?_) ?_ ?_ ?_ ?_ ?_ ?_ (by assumption) ?_
  rotate_left 2
  · simp only [List.getElem?_toArray, List.getElem?_cons_zero, List.getElem?_cons_succ]
    rfl
  · kernel_rfl
  · kernel_rfl
  · kernel_rfl
  · exact fun _ _ _ h => h
  · refine Or.inl ⟨by rfl, ?_⟩
    intro w hSw
    (try dsimp only at hSw)
    go_simp
    all_goals with_reducible rfl
  simp only [Act.put, List.setIfInBounds_toArray, List.set_cons_zero, List.set_cons_succ]
  refine wpAnyH_take (i := 23) (oi := ?_) (v := ?_) ?_ ?_ ?_ ?_ ?_ ?_ (by assumption) ?_
  rotate_left 2
  · simp only [List.getElem?_toArray, List.getElem?_cons_zero, List.getElem?_cons_succ]
    rfl
  · kernel_rfl
  · kernel_rfl
  · kernel_rfl
  · exact fun _ _ _ h => h
  · refine Or.inl ⟨by rfl, ?_⟩
    intro w hSw
    (try dsimp only at hSw)
    go_simp
    all_goals with_reducible rfl
  simp only [Act.put, List.setIfInBounds_toArray, List.set_cons_zero, List.set_cons_succ]
  refine wpAnyH_take (i := 24) (oi := ?_) (v := ?_) ?_ ?_ ?_ ?_ ?_ ?_ (by assumption) ?_
  rotate_left 2
  · simp only [List.getElem?_toArray, List.getElem?_cons_zero, List.getElem?_cons_succ]
    rfl
  · kernel_rfl
  · kernel_rfl
  · kernel_rfl
  · exact fun _ _ _ h => h
  · refine Or.inl ⟨by rfl, ?_⟩
    intro w hSw
    (try dsimp only at hSw)
    go_simp
    all_goals with_reducible rfl
  simp only [Act.put, List.setIfInBounds_toArray, List.set_cons_zero, List.set_cons_succ]
  refine wpAnyH_take (i := 25) (oi := ?_) (v := ?_) ?_ ?_ ?_ ?_ ?_ ?_ (by assumption) ?_
  rotate_left 2
  · simp only [List.getElem?_toArray, List.getElem?_cons_zero, List.getElem?_cons_succ]
    rfl
  · kernel_rfl
  · kernel_rfl
  · kernel_rfl
  · exact fun _ _ _ h => h
  · refine yieldsIf_load_row (g := p1) (t := 25) (cs := (cellsK .u8 S1)) (ty := 25) (x := (.tmp 1)) ?_ ?_ ?_ ?_ Tryd.underlying25 rfl HSZ1.out
    · rfl
    · rfl
    · rfl
    · exact fun w hSw => hSw.o1
  simp only [Act.put, List.setIfInBounds_toArray, List.set_cons_zero, List.set_cons_succ]
  refine wpAnyH_ready (rs := [26]) (by kernel_rfl) (by simp) ?_
  refine AllReadyH.cons (o := ?_) ?_ (fun KK hKK => ?_) AllReadyH.nil
  rotate_left
  · simp only [List.getElem?_toArray, List.getElem?_cons_zero, List.getElem?_cons_succ]
    rfl
  go_simp
  refine (HXP.out _ HE1.out).mono ?_; rintro e w7 ⟨A7, rfl, hb7⟩
  try go_wp2_with fail
  have HE2 := Lib.hid (HE1.out.kept hb7)
  clear HE1 hb7
  refine hKK.out _ _ ?_ (fun hh2 => ?_)
  · (try dsimp only)
    exact HE2.out
  clear hKK KK
  try simp only [Act.put, List.setIfInBounds_toArray, List.set_cons_zero, List.set_cons_succ]
  refine wpAnyH_take (i := 27) (oi := ?_) (v := ?_) ?_ ?_ ?_ ?_ ?_ ?_ (by assumption) ?_
  rotate_left 2
  · simp only [List.getElem?_toArray, List.getElem?_cons_zero, List.getElem?_cons_succ]
    rfl
  · kernel_rfl
  · kernel_rfl
  · kernel_rfl
  · exact fun _ _ _ h => h
  · refine Or.inl ⟨by rfl, ?_⟩
    intro w hSw
    (try dsimp only at hSw)
    go_simp
    all_goals with_reducible rfl
  simp only [Act.put, List.setIfInBounds_toArray, List.set_cons_zero, List.set_cons_succ]
  refine wpAnyH_take (i := 28) (oi := ?_) (v := ?_) ?_ ?_ ?_ ?_ ?_ ?_ (by assumption) ?_
  rotate_left 2
  · simp only [List.getElem?_toArray, List.getElem?_cons_zero, List.getElem?_cons_succ]
    rfl
  · kernel_rfl
  · kernel_rfl
  · kernel_rfl
  · exact fun _ _ _ h => h
  · refine Or.inl ⟨by rfl, ?_⟩
    intro w hSw
    (try dsimp only at hSw)
    go_simp
    all_goals with_reducible rfl
  simp only [Act.put, List.setIfInBounds_toArray, List.set_cons_zero, List.set_cons_succ]
  refine wpAnyH_take (i := 29) (oi := ?_) (v := ?_) ?_ ?_ ?_ ?_ ?_ ?_ (by assumption) ?_
  rotate_left 2
  · simp only [List.getElem?_toArray, List.getElem?_cons_zero, List.getElem?_cons_succ]
    rfl
  · kernel_rfl
  · kernel_rfl
  · kernel_rfl
  · exact fun _ _ _ h => h
  · refine Or.inl ⟨by rfl, ?_⟩
    intro w hSw
    (try dsimp only at hSw)
    go_simp
    all_goals with_reducible rfl
  simp only [Act.put, List.setIfInBounds_toArray, List.set_cons_zero, List.set_cons_succ]
  refine wpAnyH_take (i := 30) (oi := ?_) (v := ?_) ?_ ?_ ?_ ?_ ?_ ?_ (by assumption) ?_
  rotate_left 2
  · simp only [List.getElem?_toArray, List.getElem?_cons_zero, List.getElem?_cons_succ]
    rfl
  · kernel_rfl
  · kernel_rfl
  · kernel_rfl
  · exact fun _ _ _ h => h
  · refine Or.inl ⟨by rfl, ?_⟩
    intro w hSw
    (try dsimp only at hSw)
    go_simp
    all_goals with_reducible rfl
  simp only [Act.put, List.setIfInBounds_toArray, List.set_cons_zero, List.set_cons_succ]
  refine wpAnyH_take (i := 36) (oi := ?_) (v := ?_) ?_ ?_ ?_ ?_ ?_ ?_ (by assumption) ?_
  rotate_left 2
  · simp only [List.getElem?_toArray, List.getElem?_cons_zero, List.getElem?_cons_succ]
    rfl
  · kernel_rfl
  · kernel_rfl
  · kernel_rfl
  · exact fun _ _ _ h => h
  · refine yieldsIf_load_row (g := p2) (t := 25) (cs := (cellsK .u8 S2)) (ty := 25) (x := (.tmp 2)) ?_ ?_ ?_ ?_ Tryd.underlying25 rfl HSZ2.out
    · rfl
    · rfl
    · rfl
    · exact fun w hSw => hSw.o2
  simp only [Act.put, List.setIfInBounds_toArray, List.set_cons_zero, List.set_cons_succ]
  have hp3 : p2 < w7.heap.size := HE2.out.o2.lt
  refine wpAnyH_ready (rs := [31, 33]) (by kernel_rfl) (by simp) ?_
  refine AllReadyH.cons (o := ?_) ?_ (fun KK hKK => ?_) ?_
  rotate_left
  · simp only [List.getElem?_toArray, List.getElem?_cons_zero, List.getElem?_cons_succ]
    rfl
  · go_simp
    have h1 := HE2.out.new 5 #[.int .u8 74, .int .u8 101, .int .u8 102, .int .u8 101]
    (try simp only [World.size_alloc, size_drew] at h1)
    have H2 := Lib.hid h1
    have HE3 := Lib.hid (HE2.out.kept ((Below.refl _ _).alloc (Nat.le_refl _) (.cells #[.int .u8 74, .int .u8 101, .int .u8 102, .int .u8 101] 5)))
    clear h1 HE2
    refine hKK.out _ _ ?_ (fun hh => ?_)
    · exact HE3.out
    clear hKK KK
    try simp only [Act.put, List.setIfInBounds_toArray, List.set_cons_zero, List.set_cons_succ]
    refine wpAnyH_ready (rs := [32, 33]) (by kernel_rfl) (by simp) ?_
    refine AllReadyH.cons (o := ?_) ?_ (fun KK hKK => ?_) ?_
    rotate_left
    · simp only [List.getElem?_toArray, List.getElem?_cons_zero, List.getElem?_cons_succ]
      rfl
    · obtain ⟨W4, hr4, hu4, hm4⟩ := conv_self (n := 4) (c := 4) H2.out
      have HG4 := Lib.hid (H2.out.lt)
      go_simp
      clear hr4
      have HE5 := Lib.hid (HE3.out.upd hu4 (by omega) (by omega) (by omega))
      have HR6 : Hid (Rb W4 (some ⟨w7.heap.size, 0, none⟩) jefe) := cells_rb (Nat.lt_of_lt_of_le HG4.out hu4.size) hm4
      have hs4 : w7.heap.size + 1 ≤ W4.heap.size := by have := HE5.out; have h2 := hu4.size; simp only [World.size_alloc] at h2; exact h2
      clear HE3 H2 HG4 hu4 hm4
      refine hKK.out _ _ ?_ (fun hh => ?_)
      · exact HE5.out
      clear hKK KK
      try simp only [Act.put, List.setIfInBounds_toArray, List.set_cons_zero, List.set_cons_succ]
      refine wpAnyH_ready (rs := [33]) (by kernel_rfl) (by simp) ?_
      refine AllReadyH.cons (o := ?_) ?_ (fun KK hKK => ?_) AllReadyH.nil
      rotate_left
      · simp only [List.getElem?_toArray, List.getElem?_cons_zero, List.getElem?_cons_succ]
        rfl
      go_simp
      have h7 := HE5.out.new 5 #[.int .u8 119, .int .u8 104, .int .u8 97, .int .u8 116, .int .u8 32, .int .u8 100, .int .u8 111, .int .u8 32, .int .u8 121, .int .u8 97, .int .u8 32, .int .u8 119, .int .u8 97, .int .u8 110, .int .u8 116, .int .u8 32, .int .u8 102, .int .u8 111, .int .u8 114, .int .u8 32, .int .u8 110, .int .u8 111, .int .u8 116, .int .u8 104, .int .u8 105, .int .u8 110, .int .u8 103, .int .u8 63]
      (try simp only [World.size_alloc, size_drew] at h7)
      have H8 := Lib.hid h7
      have HE9 := Lib.hid (HE5.out.kept ((Below.refl _ _).alloc (Nat.le_refl _) (.cells #[.int .u8 119, .int .u8 104, .int .u8 97, .int .u8 116, .int .u8 32, .int .u8 100, .int .u8 111, .int .u8 32, .int .u8 121, .int .u8 97, .int .u8 32, .int .u8 119, .int .u8 97, .int .u8 110, .int .u8 116, .int .u8 32, .int .u8 102, .int .u8 111, .int .u8 114, .int .u8 32, .int .u8 110, .int .u8 111, .int .u8 116, .int .u8 104, .int .u8 105, .int .u8 110, .int .u8 103, .int .u8 63] 5)))
      have H10 := Lib.hid (HR6.out.below ((Below.refl _ _).alloc (Nat.le_refl _) (.cells #[.int .u8 119, .int .u8 104, .int .u8 97, .int .u8 116, .int .u8 32, .int .u8 100, .int .u8 111, .int .u8 32, .int .u8 121, .int .u8 97, .int .u8 32, .int .u8 119, .int .u8 97, .int .u8 110, .int .u8 116, .int .u8 32, .int .u8 102, .int .u8 111, .int .u8 114, .int .u8 32, .int .u8 110, .int .u8 111, .int .u8 116, .int .u8 104, .int .u8 105, .int .u8 110, .int .u8 103, .int .u8 63] 5)))
      clear h7 HE5 HR6
      refine hKK.out _ _ ?_ (fun hh => ?_)
      · exact HE9.out
      clear hKK KK
      try simp only [Act.put, List.setIfInBounds_toArray, List.set_cons_zero, List.set_cons_succ]
      refine wpAnyH_ready (rs := [34]) (by kernel_rfl) (by simp) ?_
      refine AllReadyH.cons (o := ?_) ?_ (fun KK hKK => ?_) AllReadyH.nil
      rotate_left
      · simp only [List.getElem?_toArray, List.getElem?_cons_zero, List.getElem?_cons_succ]
        rfl
      obtain ⟨W11, hr11, hu11, hm11⟩ := conv_self (n := 28) (c := 28) H8.out
      have HG11 := Lib.hid (H8.out.lt)
      go_simp
      clear hr11
      have HE12 := Lib.hid (HE9.out.upd hu11 (by omega) (by omega) (by omega))
      have HR13 : Hid (Rb W11 (some ⟨W4.heap.size, 0, none⟩) what) := cells_rb (Nat.lt_of_lt_of_le HG11.out hu11.size) hm11
      have H14 := Lib.hid (H10.out.upd hu11 (by omega))
      clear HE9 H8 HG11 H10 hu11 hm11
      refine hKK.out _ _ ?_ (fun hh => ?_)
      · exact HE12.out
      clear hKK KK
      try simp only [Act.put, List.setIfInBounds_toArray, List.set_cons_zero, List.set_cons_succ]
      refine wpAnyH_ready (rs := [35]) (by kernel_rfl) (by simp) ?_
      refine AllReadyH.cons (o := ?_) ?_ (fun KK hKK => ?_) AllReadyH.nil
      rotate_left
      · simp only [List.getElem?_toArray, List.getElem?_cons_zero, List.getElem?_cons_succ]
        rfl
      go_simp
      refine (HXT.out _ _ _ HE12.out H14.out HR13.out).mono ?_
      rintro e w9 ⟨rfl, hb9⟩
      try go_wp2_with fail
      have HE15 := Lib.hid (HE12.out.kept hb9)
      clear hb9 HE12 H14 HR13
      refine hKK.out _ _ ?_ (fun hh => ?_)
      · exact HE15.out
      clear hKK KK
      try simp only [Act.put, List.setIfInBounds_toArray, List.set_cons_zero, List.set_cons_succ]
      refine wpAnyH_take (i := 37) (oi := ?_) (v := ?_) ?_ ?_ ?_ ?_ ?_ ?_ (by assumption) ?_
      rotate_left 2
      · simp only [List.getElem?_toArray, List.getElem?_cons_zero, List.getElem?_cons_succ]
        rfl
      · kernel_rfl
      · kernel_rfl
      · kernel_rfl
      · exact fun _ _ _ h => h
      · refine Or.inl ⟨by rfl, ?_⟩
        intro w hSw
        (try dsimp only at hSw)
        go_simp
        all_goals with_reducible rfl
      simp only [Act.put, List.setIfInBounds_toArray, List.set_cons_zero, List.set_cons_succ]
      refine wpAnyH_take (i := 38) (oi := ?_) (v := ?_) ?_ ?_ ?_ ?_ ?_ ?_ (by assumption) ?_
      rotate_left 2
      · simp only [List.getElem?_toArray, List.getElem?_cons_zero, List.getElem?_cons_succ]
        rfl
      · kernel_rfl
      · kernel_rfl
      · kernel_rfl
      · exact fun _ _ _ h => h
      · refine Or.inl ⟨by rfl, ?_⟩
        intro w hSw
        (try dsimp only at hSw)
        go_simp
        all_goals with_reducible rfl
      simp only [Act.put, List.setIfInBounds_toArray, List.set_cons_zero, List.set_cons_succ]
      refine wpAnyH_take (i := 39) (oi := ?_) (v := ?_) ?_ ?_ ?_ ?_ ?_ ?_ (by assumption) ?_
      rotate_left 2
      · simp only [List.getElem?_toArray, List.getElem?_cons_zero, List.getElem?_cons_succ]
        rfl
      · kernel_rfl
      · kernel_rfl
      · kernel_rfl
      · exact fun _ _ _ h => h
      · refine Or.inl ⟨by rfl, ?_⟩
        intro w hSw
        (try dsimp only at hSw)
        go_simp
        all_goals with_reducible rfl
      simp only [Act.put, List.setIfInBounds_toArray, List.set_cons_zero, List.set_cons_succ]
      refine wpAnyH_done (by kernel_rfl) ?_ _
      go_wp2
      go_ret
      exact ⟨rfl, HE15.out.bel⟩
    refine AllReadyH.cons (o := ?_) ?_ (fun KK hKK => ?_) AllReadyH.nil
    rotate_left
    · simp only [List.getElem?_toArray, List.getElem?_cons_zero, List.getElem?_cons_succ]
      rfl
    go_simp
    have h16 := HE3.out.new 5 #[.int .u8 119, .int .u8 104, .int .u8 97, .int .u8 116, .int .u8 32, .int .u8 100, .int .u8 111, .int .u8 32, .int .u8 121, .int .u8 97, .int .u8 32, .int .u8 119, .int .u8 97, .int .u8 110, .int .u8 116, .int .u8 32, .int .u8 102, .int .u8 111, .int .u8 114, .int .u8 32, .int .u8 110, .int .u8 111, .int .u8 116, .int .u8 104, .int .u8 105, .int .u8 110, .int .u8 103, .int .u8 63]
    (try simp only [World.size_alloc, size_drew] at h16)
    have H17 := Lib.hid h16
    have HE18 := Lib.hid (HE3.out.kept ((Below.refl _ _).alloc (Nat.le_refl _) (.cells #[.int .u8 119, .int .u8 104, .int .u8 97, .int .u8 116, .int .u8 32, .int .u8 100, .int .u8 111, .int .u8 32, .int .u8 121, .int .u8 97, .int .u8 32, .int .u8 119, .int .u8 97, .int .u8 110, .int .u8 116, .int .u8 32, .int .u8 102, .int .u8 111, .int .u8 114, .int .u8 32, .int .u8 110, .int .u8 111, .int .u8 116, .int .u8 104, .int .u8 105, .int .u8 110, .int .u8 103, .int .u8 63] 5)))
    have H19 := Lib.hid (H2.out.kept ((Below.refl _ _).alloc (Nat.le_refl _) (.cells #[.int .u8 119, .int .u8 104, .int .u8 97, .int .u8 116, .int .u8 32, .int .u8 100, .int .u8 111, .int .u8 32, .int .u8 121, .int .u8 97, .int .u8 32, .int .u8 119, .int .u8 97, .int .u8 110, .int .u8 116, .int .u8 32, .int .u8 102, .int .u8 111, .int .u8 114, .int .u8 32, .int .u8 110, .int .u8 111, .int .u8 116, .int .u8 104, .int .u8 105, .int .u8 110, .int .u8 103, .int .u8 63] 5)))
    clear h16 HE3 H2
    refine hKK.out _ _ ?_ (fun hh => ?_)
    · exact HE18.out
    clear hKK KK
    try simp only [Act.put, List.setIfInBounds_toArray, List.set_cons_zero, List.set_cons_succ]
    refine wpAnyH_ready (rs := [32, 34]) (by kernel_rfl) (by simp) ?_
    refine AllReadyH.cons (o := ?_) ?_ (fun KK hKK => ?_) ?_
    rotate_left
    · simp only [List.getElem?_toArray, List.getElem?_cons_zero, List.getElem?_cons_succ]
      rfl
    · obtain ⟨W20, hr20, hu20, hm20⟩ := conv_self (n := 4) (c := 4) H19.out
      have HG20 := Lib.hid (H19.out.lt)
      go_simp
      clear hr20
      have HE21 := Lib.hid (HE18.out.upd hu20 (by omega) (by omega) (by omega))
      have HR22 : Hid (Rb W20 (some ⟨w7.heap.size, 0, none⟩) jefe) := cells_rb (Nat.lt_of_lt_of_le HG20.out hu20.size) hm20
      have H23 := Lib.hid (H17.out.upd hu20 (by omega))
      clear HE18 H19 HG20 H17 hu20 hm20
      refine hKK.out _ _ ?_ (fun hh => ?_)
      · exact HE21.out
      clear hKK KK
      try simp only [Act.put, List.setIfInBounds_toArray, List.set_cons_zero, List.set_cons_succ]
      refine wpAnyH_ready (rs := [34]) (by kernel_rfl) (by simp) ?_
      refine AllReadyH.cons (o := ?_) ?_ (fun KK hKK => ?_) AllReadyH.nil
      rotate_left
      · simp only [List.getElem?_toArray, List.getElem?_cons_zero, List.getElem?_cons_succ]
        rfl
      obtain ⟨W24, hr24, hu24, hm24⟩ := conv_self (n := 28) (c := 28) H23.out
      have HG24 := Lib.hid (H23.out.lt)
      go_simp
      clear hr24
      have HE25 := Lib.hid (HE21.out.upd hu24 (by omega) (by omega) (by omega))
      have HR26 : Hid (Rb W24 (some ⟨w7.heap.size + 1, 0, none⟩) what) := cells_rb (Nat.lt_of_lt_of_le HG24.out hu24.size) hm24
      have H27 := Lib.hid (HR22.out.upd hu24 (by omega))
      clear HE21 H23 HG24 HR22 hu24 hm24
      refine hKK.out _ _ ?_ (fun hh => ?_)
      · exact HE25.out
      clear hKK KK
      try simp only [Act.put, List.setIfInBounds_toArray, List.set_cons_zero, List.set_cons_succ]
      refine wpAnyH_ready (rs := [35]) (by kernel_rfl) (by simp) ?_
      refine AllReadyH.cons (o := ?_) ?_ (fun KK hKK => ?_) AllReadyH.nil
      rotate_left
      · simp only [List.getElem?_toArray, List.getElem?_cons_zero, List.getElem?_cons_succ]
        rfl
      go_simp
      refine (HXT.out _ _ _ HE25.out H27.out HR26.out).mono ?_
      rintro e w9 ⟨rfl, hb9⟩
      try go_wp2_with fail
      have HE28 := Lib.hid (HE25.out.kept hb9)
      clear hb9 HE25 H27 HR26
      refine hKK.out _ _ ?_ (fun hh => ?_)
      · exact HE28.out
      clear hKK KK
      try simp only [Act.put, List.setIfInBounds_toArray, List.set_cons_zero, List.set_cons_succ]
      refine wpAnyH_take (i := 37) (oi := ?_) (v := ?_) ?_ ?_ ?_ ?_ ?_ ?_ (by assumption) ?_
      rotate_left 2
      · simp only [List.getElem?_toArray, List.getElem?_cons_zero, List.getElem?_cons_succ]
        rfl
      · kernel_rfl
      · kernel_rfl
      · kernel_rfl
      · exact fun _ _ _ h => h
      · refine Or.inl ⟨by rfl, ?_⟩
        intro w hSw
        (try dsimp only at hSw)
        go_simp
        all_goals with_reducible rfl
      simp only [Act.put, List.setIfInBounds_toArray, List.set_cons_zero, List.set_cons_succ]
      refine wpAnyH_take (i := 38) (oi := ?_) (v := ?_) ?_ ?_ ?_ ?_ ?_ ?_ (by assumption) ?_
      rotate_left 2
      · simp only [List.getElem?_toArray, List.getElem?_cons_zero, List.getElem?_cons_succ]
        rfl
      · kernel_rfl
      · kernel_rfl
      · kernel_rfl
      · exact fun _ _ _ h => h
      · refine Or.inl ⟨by rfl, ?_⟩
        intro w hSw
        (try dsimp only at hSw)
        go_simp
        all_goals with_reducible rfl
      simp only [Act.put, List.setIfInBounds_toArray, List.set_cons_zero, List.set_cons_succ]
      refine wpAnyH_take (i := 39) (oi := ?_) (v := ?_) ?_ ?_ ?_ ?_ ?_ ?_ (by assumption) ?_
      rotate_left 2
      · simp only [List.getElem?_toArray, List.getElem?_cons_zero, List.getElem?_cons_succ]
        rfl
      · kernel_rfl
      · kernel_rfl
      · kernel_rfl
      · exact fun _ _ _ h => h
      · refine Or.inl ⟨by rfl, ?_⟩
        intro w hSw
        (try dsimp only at hSw)
        go_simp
        all_goals with_reducible rfl
      simp only [Act.put, List.setIfInBounds_toArray, List.set_cons_zero, List.set_cons_succ]
      refine wpAnyH_done (by kernel_rfl) ?_ _
      go_wp2
      go_ret
      exact ⟨rfl, HE28.out.bel⟩
    refine AllReadyH.cons (o := ?_) ?_ (fun KK hKK => ?_) AllReadyH.nil
    rotate_left
    · simp only [List.getElem?_toArray, List.getElem?_cons_zero, List.getElem?_cons_succ]
      rfl
    obtain ⟨W29, hr29, hu29, hm29⟩ := conv_self (n := 28) (c := 28) H17.out
    have HG29 := Lib.hid (H17.out.lt)
    go_simp
    clear hr29
    have HE30 := Lib.hid (HE18.out.upd hu29 (by omega) (by omega) (by omega))
    have HR31 : Hid (Rb W29 (some ⟨w7.heap.size + 1, 0, none⟩) what) := cells_rb (Nat.lt_of_lt_of_le HG29.out hu29.size) hm29
    have H32 := Lib.hid (H19.out.upd hu29 (by omega))
    clear HE18 H17 HG29 H19 hu29 hm29
    refine hKK.out _ _ ?_ (fun hh => ?_)
    · exact HE30.out
    clear hKK KK
    try simp only [Act.put, List.setIfInBounds_toArray, List.set_cons_zero, List.set_cons_succ]
    refine wpAnyH_ready (rs := [32]) (by kernel_rfl) (by simp) ?_
    refine AllReadyH.cons (o := ?_) ?_ (fun KK hKK => ?_) AllReadyH.nil
    rotate_left
    · simp only [List.getElem?_toArray, List.getElem?_cons_zero, List.getElem?_cons_succ]
      rfl
    obtain ⟨W33, hr33, hu33, hm33⟩ := conv_self (n := 4) (c := 4) H32.out
    have HG33 := Lib.hid (H32.out.lt)
    go_simp
    clear hr33
    have HE34 := Lib.hid (HE30.out.upd hu33 (by omega) (by omega) (by omega))
    have HR35 : Hid (Rb W33 (some ⟨w7.heap.size, 0, none⟩) jefe) := cells_rb (Nat.lt_of_lt_of_le HG33.out hu33.size) hm33
    have H36 := Lib.hid (HR31.out.upd hu33 (by omega))
    clear HE30 H32 HG33 HR31 hu33 hm33
    refine hKK.out _ _ ?_ (fun hh => ?_)
    · exact HE34.out
    clear hKK KK
    try simp only [Act.put, List.setIfInBounds_toArray, List.set_cons_zero, List.set_cons_succ]
    refine wpAnyH_ready (rs := [35]) (by kernel_rfl) (by simp) ?_
    refine AllReadyH.cons (o := ?_) ?_ (fun KK hKK => ?_) AllReadyH.nil
    rotate_left
    · simp only [List.getElem?_toArray, List.getElem?_cons_zero, List.getElem?_cons_succ]
      rfl
    go_simp
    refine (HXT.out _ _ _ HE34.out HR35.out H36.out).mono ?_
    rintro e w9 ⟨rfl, hb9⟩
    try go_wp2_with fail
    have HE37 := Lib.hid (HE34.out.kept hb9)
    clear hb9 HE34 HR35 H36
    refine hKK.out _ _ ?_ (fun hh => ?_)
    · exact HE37.out
    clear hKK KK
    try simp only [Act.put, List.setIfInBounds_toArray, List.set_cons_zero, List.set_cons_succ]
    refine wpAnyH_take (i := 37) (oi := ?_) (v := ?_) ?_ ?_ ?_ ?_ ?_ ?_ (by assumption) ?_
    rotate_left 2
    · simp only [List.getElem?_toArray, List.getElem?_cons_zero, List.getElem?_cons_succ]
      rfl
    · kernel_rfl
    · kernel_rfl
    · kernel_rfl
    · exact fun _ _ _ h => h
    · refine Or.inl ⟨by rfl, ?_⟩
      intro w hSw
      (try dsimp only at hSw)
      go_simp
      all_goals with_reducible rfl
    simp only [Act.put, List.setIfInBounds_toArray, List.set_cons_zero, List.set_cons_succ]
    refine wpAnyH_take (i := 38) (oi := ?_) (v := ?_) ?_ ?_ ?_ ?_ ?_ ?_ (by assumption) ?_
    rotate_left 2
    · simp only [List.getElem?_toArray, List.getElem?_cons_zero, List.getElem?_cons_succ]
      rfl
    · kernel_rfl
    · kernel_rfl
    · kernel_rfl
    · exact fun _ _ _ h => h
    · refine Or.inl ⟨by rfl, ?_⟩
      intro w hSw
      (try dsimp only at hSw)
      go_simp
      all_goals with_reducible rfl
    simp only [Act.put, List.setIfInBounds_toArray, List.set_cons_zero, List.set_cons_succ]
    refine wpAnyH_take (i := 39) (oi := ?_) (v := ?_) ?_ ?_ ?_ ?_ ?_ ?_ (by assumption) ?_
    rotate_left 2
    · simp only [List.getElem?_toArray, List.getElem?_cons_zero, List.getElem?_cons_succ]
      rfl
    · kernel_rfl
    · kernel_rfl
    · kernel_rfl
    · exact fun _ _ _ h => h
    · refine Or.inl ⟨by rfl, ?_⟩
      intro w hSw
      (try dsimp only at hSw)
      go_simp
      all_goals with_reducible rfl
    simp only [Act.put, List.setIfInBounds_toArray, List.set_cons_zero, List.set_cons_succ]
    refine wpAnyH_done (by kernel_rfl) ?_ _
    go_wp2
    go_ret
    exact ⟨rfl, HE37.out.bel⟩
  refine AllReadyH.cons (o := ?_) ?_ (fun KK hKK => ?_) AllReadyH.nil
  rotate_left
  · simp only [List.getElem?_toArray, List.getElem?_cons_zero, List.getElem?_cons_succ]
    rfl
  go_simp
  have h38 := HE2.out.new 5 #[.int .u8 119, .int .u8 104, .int .u8 97, .int .u8 116, .int .u8 32, .int .u8 100, .int .u8 111, .int .u8 32, .int .u8 121, .int .u8 97, .int .u8 32, .int .u8 119, .int .u8 97, .int .u8 110, .int .u8 116, .int .u8 32, .int .u8 102, .int .u8 111, .int .u8 114, .int .u8 32, .int .u8 110, .int .u8 111, .int .u8 116, .int .u8 104, .int .u8 105, .int .u8 110, .int .u8 103, .int .u8 63]
  (try simp only [World.size_alloc, size_drew] at h38)
  have H39 := Lib.hid h38
  have HE40 := Lib.hid (HE2.out.kept ((Below.refl _ _).alloc (Nat.le_refl _) (.cells #[.int .u8 119, .int .u8 104, .int .u8 97, .int .u8 116, .int .u8 32, .int .u8 100, .int .u8 111, .int .u8 32, .int .u8 121, .int .u8 97, .int .u8 32, .int .u8 119, .int .u8 97, .int .u8 110, .int .u8 116, .int .u8 32, .int .u8 102, .int .u8 111, .int .u8 114, .int .u8 32, .int .u8 110, .int .u8 111, .int .u8 116, .int .u8 104, .int .u8 105, .int .u8 110, .int .u8 103, .int .u8 63] 5)))
  clear h38 HE2
  refine hKK.out _ _ ?_ (fun hh => ?_)
  · exact HE40.out
  clear hKK KK
  try simp only [Act.put, List.setIfInBounds_toArray, List.set_cons_zero, List.set_cons_succ]
  refine wpAnyH_ready (rs := [31, 34]) (by kernel_rfl) (by simp) ?_
  refine AllReadyH.cons (o := ?_) ?_ (fun KK hKK => ?_) ?_
  rotate_left
  · simp only [List.getElem?_toArray, List.getElem?_cons_zero, List.getElem?_cons_succ]
    rfl
  · go_simp
    have h41 := HE40.out.new 5 #[.int .u8 74, .int .u8 101, .int .u8 102, .int .u8 101]
    (try simp only [World.size_alloc, size_drew] at h41)
    have H42 := Lib.hid h41
    have HE43 := Lib.hid (HE40.out.kept ((Below.refl _ _).alloc (Nat.le_refl _) (.cells #[.int .u8 74, .int .u8 101, .int .u8 102, .int .u8 101] 5)))
    have H44 := Lib.hid (H39.out.kept ((Below.refl _ _).alloc (Nat.le_refl _) (.cells #[.int .u8 74, .int .u8 101, .int .u8 102, .int .u8 101] 5)))
    clear h41 HE40 H39
    refine hKK.out _ _ ?_ (fun hh => ?_)
    · exact HE43.out
    clear hKK KK
    try simp only [Act.put, List.setIfInBounds_toArray, List.set_cons_zero, List.set_cons_succ]
    refine wpAnyH_ready (rs := [32, 34]) (by kernel_rfl) (by simp) ?_
    refine AllReadyH.cons (o := ?_) ?_ (fun KK hKK => ?_) ?_
    rotate_left
    · simp only [List.getElem?_toArray, List.getElem?_cons_zero, List.getElem?_cons_succ]
      rfl
    · obtain ⟨W45, hr45, hu45, hm45⟩ := conv_self (n := 4) (c := 4) H42.out
      have HG45 := Lib.hid (H42.out.lt)
      go_simp
      clear hr45
      have HE46 := Lib.hid (HE43.out.upd hu45 (by omega) (by omega) (by omega))
      have HR47 : Hid (Rb W45 (some ⟨w7.heap.size + 1, 0, none⟩) jefe) := cells_rb (Nat.lt_of_lt_of_le HG45.out hu45.size) hm45
      have H48 := Lib.hid (H44.out.upd hu45 (by omega))
      clear HE43 H42 HG45 H44 hu45 hm45
      refine hKK.out _ _ ?_ (fun hh => ?_)
      · exact HE46.out
      clear hKK KK
      try simp only [Act.put, List.setIfInBounds_toArray, List.set_cons_zero, List.set_cons_succ]
      refine wpAnyH_ready (rs := [34]) (by kernel_rfl) (by simp) ?_
      refine AllReadyH.cons (o := ?_) ?_ (fun KK hKK => ?_) AllReadyH.nil
      rotate_left
      · simp only [List.getElem?_toArray, List.getElem?_cons_zero, List.getElem?_cons_succ]
        rfl
      obtain ⟨W49, hr49, hu49, hm49⟩ := conv_self (n := 28) (c := 28) H48.out
      have HG49 := Lib.hid (H48.out.lt)
      go_simp
      clear hr49
      have HE50 := Lib.hid (HE46.out.upd hu49 (by omega) (by omega) (by omega))
      have HR51 : Hid (Rb W49 (some ⟨w7.heap.size, 0, none⟩) what) := cells_rb (Nat.lt_of_lt_of_le HG49.out hu49.size) hm49
      have H52 := Lib.hid (HR47.out.upd hu49 (by omega))
      clear HE46 H48 HG49 HR47 hu49 hm49
      refine hKK.out _ _ ?_ (fun hh => ?_)
      · exact HE50.out
      clear hKK KK
      try simp only [Act.put, List.setIfInBounds_toArray, List.set_cons_zero, List.set_cons_succ]
      refine wpAnyH_ready (rs := [35]) (by kernel_rfl) (by simp) ?_
      refine AllReadyH.cons (o := ?_) ?_ (fun KK hKK => ?_) AllReadyH.nil
      rotate_left
      · simp only [List.getElem?_toArray, List.getElem?_cons_zero, List.getElem?_cons_succ]
        rfl
      go_simp
      refine (HXT.out _ _ _ HE50.out H52.out HR51.out).mono ?_
      rintro e w9 ⟨rfl, hb9⟩
      try go_wp2_with fail
      have HE53 := Lib.hid (HE50.out.kept hb9)
      clear hb9 HE50 H52 HR51
      refine hKK.out _ _ ?_ (fun hh => ?_)
      · exact HE53.out
      clear hKK KK
      try simp only [Act.put, List.setIfInBounds_toArray, List.set_cons_zero, List.set_cons_succ]
      refine wpAnyH_take (i := 37) (oi := ?_) (v := ?_) ?_ ?_ ?_ ?_ ?_ ?_ (by assumption) ?_
      rotate_left 2
      · simp only [List.getElem?_toArray, List.getElem?_cons_zero, List.getElem?_cons_succ]
        rfl
      · kernel_rfl
      · kernel_rfl
      · kernel_rfl
      · exact fun _ _ _ h => h
      · refine Or.inl ⟨by rfl, ?_⟩
        intro w hSw
        (try dsimp only at hSw)
        go_simp
        all_goals with_reducible rfl
      simp only [Act.put, List.setIfInBounds_toArray, List.set_cons_zero, List.set_cons_succ]
      refine wpAnyH_take (i := 38) (oi := ?_) (v := ?_) ?_ ?_ ?_ ?_ ?_ ?_ (by assumption) ?_
      rotate_left 2
      · simp only [List.getElem?_toArray, List.getElem?_cons_zero, List.getElem?_cons_succ]
        rfl
      · kernel_rfl
      · kernel_rfl
      · kernel_rfl
      · exact fun _ _ _ h => h
      · refine Or.inl ⟨by rfl, ?_⟩
        intro w hSw
        (try dsimp only at hSw)
        go_simp
        all_goals with_reducible rfl
      simp only [Act.put, List.setIfInBounds_toArray, List.set_cons_zero, List.set_cons_succ]
      refine wpAnyH_take (i := 39) (oi := ?_) (v := ?_) ?_ ?_ ?_ ?_ ?_ ?_ (by assumption) ?_
      rotate_left 2
      · simp only [List.getElem?_toArray, List.getElem?_cons_zero, List.getElem?_cons_succ]
        rfl
      · kernel_rfl
      · kernel_rfl
      · kernel_rfl
      · exact fun _ _ _ h => h
      · refine Or.inl ⟨by rfl, ?_⟩
        intro w hSw
        (try dsimp only at hSw)
        go_simp
        all_goals with_reducible rfl
      simp only [Act.put, List.setIfInBounds_toArray, List.set_cons_zero, List.set_cons_succ]
      refine wpAnyH_done (by kernel_rfl) ?_ _
      go_wp2
      go_ret
      exact ⟨rfl, HE53.out.bel⟩
    refine AllReadyH.cons (o := ?_) ?_ (fun KK hKK => ?_) AllReadyH.nil
    rotate_left
    · simp only [List.getElem?_toArray, List.getElem?_cons_zero, List.getElem?_cons_succ]
      rfl
    obtain ⟨W54, hr54, hu54, hm54⟩ := conv_self (n := 28) (c := 28) H44.out
    have HG54 := Lib.hid (H44.out.lt)
    go_simp
    clear hr54
    have HE55 := Lib.hid (HE43.out.upd hu54 (by omega) (by omega) (by omega))
    have HR56 : Hid (Rb W54 (some ⟨w7.heap.size, 0, none⟩) what) := cells_rb (Nat.lt_of_lt_of_le HG54.out hu54.size) hm54
    have H57 := Lib.hid (H42.out.upd hu54 (by omega))
    clear HE43 H44 HG54 H42 hu54 hm54
    refine hKK.out _ _ ?_ (fun hh => ?_)
    · exact HE55.out
    clear hKK KK
    try simp only [Act.put, List.setIfInBounds_toArray, List.set_cons_zero, List.set_cons_succ]
    refine wpAnyH_ready (rs := [32]) (by kernel_rfl) (by simp) ?_
    refine AllReadyH.cons (o := ?_) ?_ (fun KK hKK => ?_) AllReadyH.nil
    rotate_left
    · simp only [List.getElem?_toArray, List.getElem?_cons_zero, List.getElem?_cons_succ]
      rfl
    obtain ⟨W58, hr58, hu58, hm58⟩ := conv_self (n := 4) (c := 4) H57.out
    have HG58 := Lib.hid (H57.out.lt)
    go_simp
    clear hr58
    have HE59 := Lib.hid (HE55.out.upd hu58 (by omega) (by omega) (by omega))
    have HR60 : Hid (Rb W58 (some ⟨w7.heap.size + 1, 0, none⟩) jefe) := cells_rb (Nat.lt_of_lt_of_le HG58.out hu58.size) hm58
    have H61 := Lib.hid (HR56.out.upd hu58 (by omega))
    clear HE55 H57 HG58 HR56 hu58 hm58
    refine hKK.out _ _ ?_ (fun hh => ?_)
    · exact HE59.out
    clear hKK KK
    try simp only [Act.put, List.setIfInBounds_toArray, List.set_cons_zero, List.set_cons_succ]
    refine wpAnyH_ready (rs := [35]) (by kernel_rfl) (by simp) ?_
    refine AllReadyH.cons (o := ?_) ?_ (fun KK hKK => ?_) AllReadyH.nil
    rotate_left
    · simp only [List.getElem?_toArray, List.getElem?_cons_zero, List.getElem?_cons_succ]
      rfl
    go_simp
    refine (HXT.out _ _ _ HE59.out HR60.out H61.out).mono ?_
    rintro e w9 ⟨rfl, hb9⟩
    try go_wp2_with fail
    have HE62 := Lib.hid (HE59.out.kept hb9)
    clear hb9 HE59 HR60 H61
    refine hKK.out _ _ ?_ (fun hh => ?_)
    · exact HE62.out
    clear hKK KK
    try simp only [Act.put, List.setIfInBounds_toArray, List.set_cons_zero, List.set_cons_succ]
    refine wpAnyH_take (i := 37) (oi := ?_) (v := ?_) ?_ ?_ ?_ ?_ ?_ ?_ (by assumption) ?_
    rotate_left 2
    · simp only [List.getElem?_toArray, List.getElem?_cons_zero, List.getElem?_cons_succ]
      rfl
    · kernel_rfl
    · kernel_rfl
    · kernel_rfl
    · exact fun _ _ _ h => h
    · refine Or.inl ⟨by rfl, ?_⟩
      intro w hSw
      (try dsimp only at hSw)
      go_simp
      all_goals with_reducible rfl
    simp only [Act.put, List.setIfInBounds_toArray, List.set_cons_zero, List.set_cons_succ]
    refine wpAnyH_take (i := 38) (oi := ?_) (v := ?_) ?_ ?_ ?_ ?_ ?_ ?_ (by assumption) ?_
    rotate_left 2
    · simp only [List.getElem?_toArray, List.getElem?_cons_zero, List.getElem?_cons_succ]
      rfl
    · kernel_rfl
    · kernel_rfl
    · kernel_rfl
    · exact fun _ _ _ h => h
    · refine Or.inl ⟨by rfl, ?_⟩
      intro w hSw
      (try dsimp only at hSw)
      go_simp
      all_goals with_reducible rfl
    simp only [Act.put, List.setIfInBounds_toArray, List.set_cons_zero, List.set_cons_succ]
    refine wpAnyH_take (i := 39) (oi := ?_) (v := ?_) ?_ ?_ ?_ ?_ ?_ ?_ (by assumption) ?_
    rotate_left 2
    · simp only [List.getElem?_toArray, List.getElem?_cons_zero, List.getElem?_cons_succ]
      rfl
    · kernel_rfl
    · kernel_rfl
    · kernel_rfl
    · exact fun _ _ _ h => h
    · refine Or.inl ⟨by rfl, ?_⟩
      intro w hSw
      (try dsimp only at hSw)
      go_simp
      all_goals with_reducible rfl
    simp only [Act.put, List.setIfInBounds_toArray, List.set_cons_zero, List.set_cons_succ]
    refine wpAnyH_done (by kernel_rfl) ?_ _
    go_wp2
    go_ret
    exact ⟨rfl, HE62.out.bel⟩
  refine AllReadyH.cons (o := ?_) ?_ (fun KK hKK => ?_) AllReadyH.nil
  rotate_left
  · simp only [List.getElem?_toArray, List.getElem?_cons_zero, List.getElem?_cons_succ]
    rfl
  obtain ⟨W63, hr63, hu63, hm63⟩ := conv_self (n := 28) (c := 28) H39.out
  have HG63 := Lib.hid (H39.out.lt)
  go_simp
  clear hr63
  have HE64 := Lib.hid (HE40.out.upd hu63 (by omega) (by omega) (by omega))
  have HR65 : Hid (Rb W63 (some ⟨w7.heap.size, 0, none⟩) what) := cells_rb (Nat.lt_of_lt_of_le HG63.out hu63.size) hm63
  have hs63 : w7.heap.size + 1 ≤ W63.heap.size := by have := HE64.out; have h2 := hu63.size; simp only [World.size_alloc] at h2; exact h2
  clear HE40 H39 HG63 hu63 hm63
  refine hKK.out _ _ ?_ (fun hh => ?_)
  · exact HE64.out
  clear hKK KK
  try simp only [Act.put, List.setIfInBounds_toArray, List.set_cons_zero, List.set_cons_succ]
  refine wpAnyH_ready (rs := [31]) (by kernel_rfl) (by simp) ?_
  refine AllReadyH.cons (o := ?_) ?_ (fun KK hKK => ?_) AllReadyH.nil
  rotate_left
  · simp only [List.getElem?_toArray, List.getElem?_cons_zero, List.getElem?_cons_succ]
    rfl
  go_simp
  have h66 := HE64.out.new 5 #[.int .u8 74, .int .u8 101, .int .u8 102, .int .u8 101]
  (try simp only [World.size_alloc, size_drew] at h66)
  have H67 := Lib.hid h66
  have HE68 := Lib.hid (HE64.out.kept ((Below.refl _ _).alloc (Nat.le_refl _) (.cells #[.int .u8 74, .int .u8 101, .int .u8 102, .int .u8 101] 5)))
  have H69 := Lib.hid (HR65.out.below ((Below.refl _ _).alloc (Nat.le_refl _) (.cells #[.int .u8 74, .int .u8 101, .int .u8 102, .int .u8 101] 5)))
  clear h66 HE64 HR65
  refine hKK.out _ _ ?_ (fun hh => ?_)
  · exact HE68.out
  clear hKK KK
  try simp only [Act.put, List.setIfInBounds_toArray, List.set_cons_zero, List.set_cons_succ]
  refine wpAnyH_ready (rs := [32]) (by kernel_rfl) (by simp) ?_
  refine AllReadyH.cons (o := ?_) ?_ (fun KK hKK => ?_) AllReadyH.nil
  rotate_left
  · simp only [List.getElem?_toArray, List.getElem?_cons_zero, List.getElem?_cons_succ]
    rfl
  obtain ⟨W70, hr70, hu70, hm70⟩ := conv_self (n := 4) (c := 4) H67.out
  have HG70 := Lib.hid (H67.out.lt)
  go_simp
  clear hr70
  have HE71 := Lib.hid (HE68.out.upd hu70 (by omega) (by omega) (by omega))
  have HR72 : Hid (Rb W70 (some ⟨W63.heap.size, 0, none⟩) jefe) := cells_rb (Nat.lt_of_lt_of_le HG70.out hu70.size) hm70
  have H73 := Lib.hid (H69.out.upd hu70 (by omega))
  clear HE68 H67 HG70 H69 hu70 hm70
  refine hKK.out _ _ ?_ (fun hh => ?_)
  · exact HE71.out
  clear hKK KK
  try simp only [Act.put, List.setIfInBounds_toArray, List.set_cons_zero, List.set_cons_succ]
  refine wpAnyH_ready (rs := [35]) (by kernel_rfl) (by simp) ?_
  refine AllReadyH.cons (o := ?_) ?_ (fun KK hKK => ?_) AllReadyH.nil
  rotate_left
  · simp only [List.getElem?_toArray, List.getElem?_cons_zero, List.getElem?_cons_succ]
    rfl
  go_simp
  refine (HXT.out _ _ _ HE71.out HR72.out H73.out).mono ?_
  rintro e w9 ⟨rfl, hb9⟩
  try go_wp2_with fail
  have HE74 := Lib.hid (HE71.out.kept hb9)
  clear hb9 HE71 HR72 H73
  refine hKK.out _ _ ?_ (fun hh => ?_)
  · exact HE74.out
  clear hKK KK
  try simp only [Act.put, List.setIfInBounds_toArray, List.set_cons_zero, List.set_cons_succ]
  refine wpAnyH_take (i := 37) (oi := ?_) (v := ?_) ?_ ?_ ?_ ?_ ?_ ?_ (by assumption) ?_
  rotate_left 2
  · simp only [List.getElem?_toArray, List.getElem?_cons_zero, List.getElem?_cons_succ]
    rfl
  · kernel_rfl
  · kernel_rfl
  · kernel_rfl
  · exact fun _ _ _ h => h
  · refine Or.inl ⟨by rfl, ?_⟩
    intro w hSw
    (try dsimp only at hSw)
    go_simp
    all_goals with_reducible rfl
  simp only [Act.put, List.setIfInBounds_toArray, List.set_cons_zero, List.set_cons_succ]
  refine wpAnyH_take (i := 38) (oi := ?_) (v := ?_) ?_ ?_ ?_ ?_ ?_ ?_ (by assumption) ?_
  rotate_left 2
  · simp only [List.getElem?_toArray, List.getElem?_cons_zero, List.getElem?_cons_succ]
    rfl
  · kernel_rfl
  · kernel_rfl
  · kernel_rfl
  · exact fun _ _ _ h => h
  · refine Or.inl ⟨by rfl, ?_⟩
    intro w hSw
    (try dsimp only at hSw)
    go_simp
    all_goals with_reducible rfl
  simp only [Act.put, List.setIfInBounds_toArray, List.set_cons_zero, List.set_cons_succ]
  refine wpAnyH_take (i := 39) (oi := ?_) (v := ?_) ?_ ?_ ?_ ?_ ?_ ?_ (by assumption) ?_
  rotate_left 2
  · simp only [List.getElem?_toArray, List.getElem?_cons_zero, List.getElem?_cons_succ]
    rfl
  · kernel_rfl
  · kernel_rfl
  · kernel_rfl
  · exact fun _ _ _ h => h
  · refine Or.inl ⟨by rfl, ?_⟩
    intro w hSw
    (try dsimp only at hSw)
    go_simp
    all_goals with_reducible rfl
  simp only [Act.put, List.setIfInBounds_toArray, List.set_cons_zero, List.set_cons_succ]
  refine wpAnyH_done (by kernel_rfl) ?_ _
  go_wp2
  go_ret
  exact ⟨rfl, HE74.out.bel⟩
end Go.Proofs.YtanigdadhldceaaDoor
