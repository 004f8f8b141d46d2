/- Joined: Arrays of words as lists: rows that are loaded and stored whole; the tables of layer 7. | Layer 7's words, walked: RotateLeft32, right, mix, word, four. | Layer 7's words, walked: mix, word, four. | Layer 7's round, walked. | Layer 7's Turn of the document, walked. -/
import Derived.Test.YtabfcaidioohfaaDoorZa
import Derived.Test.YtabfcaidioohfaaDoorRows
import Derived.Test.YtabfcaidioohfaaDoorZp
import Derived.WalkKit
import Derived.OwnWalk
import Derived.Laws.Rows
import Derived.Laws.Tables
import Derived.Laws.BitsAllLaws
import Derived.WalkSpells
import Derived.Lib.Hide
import Derived.Deep.WholeRow
import Derived.IntWalk
import Derived.WalkLawsBesides
import Derived.Deep.QuietTactic
import Derived.BigQuiet
import Derived.Handy
import Derived.StillTailTactics
import Derived.Deep.RegionHeld3
namespace Go.Proofs.YtabfcaidioohfaaDoor
open List (getElem?_toArray getElem?_cons_zero getElem?_cons_succ setIfInBounds_toArray set_cons_zero set_cons_succ)
set_option maxRecDepth 100000
open Go.RowKit
set_option linter.unusedVariables false
set_option linter.unusedSimpArgs false
/-- The cells of an array of integers. -/
def cellsK (k : IntKind) (l : List Nat) : Array Value := (l.map fun c => Value.int k ((c : Nat) : Int)).toArray
theorem cellsK_size (k : IntKind) (l : List Nat) : (cellsK k l).size = l.length := by simp [cellsK]
theorem cellsK_get (k : IntKind) (l : List Nat) (i : Nat) (h : i < l.length) : (cellsK k l)[i]? = some (.int k ((l.getD i 0 : Nat) : Int)) := by
 simp [cellsK, h, List.getD_eq_getElem?_getD]
theorem cellsK_set (k : IntKind) (l : List Nat) (i v : Nat) : (cellsK k l).setIfInBounds i (.int k ((v : Nat) : Int)) = cellsK k (l.set i v) := by
 unfold cellsK; simp [List.map_set]
theorem Obj.getK {w : World} {b : Nat} {t : TypeId} {k : IntKind} {l : List Nat} (h : Obj w b t (cellsK k l)) (i : Nat) (hi : i < l.length) : w.cell? ⟨b, i, none⟩ = some (.int k ((l.getD i 0 : Nat) : Int)) := by rw [h.cell i, cellsK_get k l i hi]
theorem Obj.setK {w : World} {b : Nat} {t : TypeId} {k : IntKind} {l : List Nat} (h : Obj w b t (cellsK k l)) (i v : Nat) : Obj (w.setCell ⟨b, i, none⟩ (.int k ((v : Nat) : Int))) b t (cellsK k (l.set i v)) := by
 have := h.set i (.int k ((v : Nat) : Int)); rwa [cellsK_set] at this
theorem one_cellsK (k : IntKind) (l : List Nat) : (cellsK k l).all (·.oneCell') = true := by
 unfold cellsK
 rw [Array.all_eq_true_iff_forall_mem]
 intro v hv
 simp at hv
 obtain ⟨c, _, rfl⟩ := hv
 rfl
section
variable {P : Program}
end
theorem info32x8 : (Tryd.prog.info? 112).map (·.size) = some 8 := by kernel_rfl
theorem info64x8 : (Tryd.prog.info? 133).map (·.size) = some 8 := by kernel_rfl
theorem info8x32 : (Tryd.prog.info? 22).map (·.size) = some 32 := by kernel_rfl
theorem size32x8 {l : List Nat} (h : l.length = 8) : (Tryd.prog.info? 112).map (·.size) = some (cellsK .u32 l).size := by rw [cellsK_size, h]; exact info32x8
def z64 : List Nat := List.replicate 64 0
theorem zero64 : (Tryd.prog.info? 134).map (fun i => (i.zero, i.size)) = some (some (.agg (cellsK .u32 z64)), 64) := by kernel_rfl
theorem zero64u : (Tryd.prog.info? 131).map (fun i => (i.zero, i.size)) = some (some (.agg (cellsK .u64 z64)), 64) := by kernel_rfl
/-- The tables. -/
structure Tabs (w : World) : Prop where
 sz : 2 < w.heap.size ∧ 1 < w.heap.size
 k : ∀ i, i < 64 → w.cell? ⟨2, i, none⟩ = some (.int .u32 ((Sh.kz.getD i 0 : Nat) : Int))
 f : ∀ i, i < 8 → w.cell? ⟨1, i, none⟩ = some (.int .u32 ((Sh.first.getD i 0 : Nat) : Int))
theorem Tabs.below {w w' : World} (h : Tabs w) (hb : Below w.heap.size w w') : Tabs w' :=
 ⟨⟨Nat.lt_of_lt_of_le h.sz.1 hb.size, Nat.lt_of_lt_of_le h.sz.2 hb.size⟩, fun i hi => (hb.cell (p := ⟨_, i, none⟩) h.sz.1).trans (h.k i hi), fun i hi => (hb.cell (p := ⟨_, i, none⟩) h.sz.2).trans (h.f i hi)⟩
/-- The words so far, and zeros. -/
def row64 (l : List Nat) : List Nat := l ++ List.replicate (64 - l.length) 0
theorem row64_zero : row64 [] = z64 := rfl
theorem row64_len (l : List Nat) (h : l.length ≤ 64) : (row64 l).length = 64 := by simp [row64]; omega
theorem row64_get (l : List Nat) (i : Nat) (h : i < l.length) : (row64 l).getD i 0 = l.getD i 0 := by
 unfold row64
 rw [List.getD_eq_getElem?_getD, List.getElem?_append_left h, ← List.getD_eq_getElem?_getD]
theorem row64_set (l : List Nat) (v : Nat) (h : l.length < 64) : (row64 l).set l.length v = row64 (l ++ [v]) := by
 unfold row64
 rw [List.set_append_right _ _ (Nat.le_refl _), Nat.sub_self, List.length_append, List.length_singleton]
 obtain ⟨m, hm⟩ : ∃ m, 64 - l.length = m + 1 := ⟨64 - l.length - 1, by omega⟩
 rw [hm, show 64 - (l.length + 1) = m by omega, List.replicate_succ, set_cons_zero, List.append_assoc]
 rfl
theorem row64_full (l : List Nat) (h : l.length = 64) : row64 l = l := by unfold row64; rw [h]; simp
theorem wrap32 (a b c : Nat) (h : (a + b) % 4294967296 = c) : IntKind.u32.wrap ((a : Int) + (b : Int)) = (c : Int) := by rw [IntKind.wrap_u32]; omega
end Go.Proofs.YtabfcaidioohfaaDoor
namespace Go.Proofs.YtabfcaidioohfaaDoor
open List (getElem?_toArray getElem?_cons_zero getElem?_cons_succ setIfInBounds_toArray set_cons_zero set_cons_succ)
set_option maxRecDepth 100000
open Go.RowKit
set_option linter.unusedVariables false
set_option linter.unusedSimpArgs false
theorem u32_rot (n : Nat) (x : Nat) (hx : x < 4294967296) : bits .or .u32 ((x : Int) * 2 ^ (32 - n) % 4294967296) ((x : Int) / 2 ^ n) = ((Sh.rr x n : Nat) : Int) := by
 have e1 : (x : Int) * 2 ^ (32 - n) % 4294967296 = ((x * 2 ^ (32 - n) % 4294967296 : Nat) : Int) := by simp
 have e2 : (x : Int) / 2 ^ n = ((x / 2 ^ n : Nat) : Int) := by simp
 rw [e1, e2, u32_or_nat _ _ (Nat.mod_lt _ (by decide)) (Sh.div_lt _ _ hx), Nat.or_comm]
 rfl
theorem u64_right (n : Nat) (hn : 1 ≤ n) (x : Nat) (hx : x < 4294967296) : bits .or .u64 ((x : Int) / 2 ^ n) ((x : Int) * 2 ^ (32 - n)) % 4294967296 = ((Sh.rr x n : Nat) : Int) := by
 have e1 : (x : Int) * 2 ^ (32 - n) = ((x * 2 ^ (32 - n) : Nat) : Int) := by simp
 have e2 : (x : Int) / 2 ^ n = ((x / 2 ^ n : Nat) : Int) := by simp
 have hp : 2 ^ (32 - n) ≤ 2 ^ 31 := Nat.pow_le_pow_right (by decide) (by omega)
 have hm : x * 2 ^ (32 - n) ≤ x * 2 ^ 31 := Nat.mul_le_mul_left _ hp
 have := Sh.div_lt x (2 ^ n) hx
 rw [e1, e2, u64_or_nat _ _ (by omega) (by omega), ← Sh.rr_ref x n hx]
 simp
set_option maxHeartbeats 400000 in
theorem rot7_any (x : Nat) (w : World) (hx : x < 4294967296) :
  Calls Tryd.prog 100 #[.int .u32 (x : Int), .int .i64 (-7)] w fun e w' => e = .returned (.int .u32 (Sh.rr x 7 : Nat)) ∧ w = w' := by
 have hb : bits .and .u64 (IntKind.u64.wrap (-7)) 31 = 25 := by decide
 have HR := Lib.hid (u32_rot 7 x hx)
 go_enter Tryd.func100, Tryd.ntmps100
 go_wp2
 go_ret
 exact ⟨(ret_int HR.out.symm).symm, rfl⟩
set_option maxHeartbeats 400000 in
theorem right7_any (x : Nat) (w : World) (hx : x < 4294967296) :
  Calls Tryd.prog 91 #[.int .u64 (x : Int), .int .i64 7] w fun e w' => e = .returned (.int .u64 (Sh.rr x 7 : Nat)) ∧ w = w' := by
 have HR := Lib.hid (u64_right 7 (by omega) x hx)
 go_enter Tryd.func91, Tryd.ntmps91
 go_wp2
 go_ret
 exact ⟨(ret_int HR.out.symm).symm, rfl⟩
set_option maxHeartbeats 400000 in
theorem rot18_any (x : Nat) (w : World) (hx : x < 4294967296) :
  Calls Tryd.prog 100 #[.int .u32 (x : Int), .int .i64 (-18)] w fun e w' => e = .returned (.int .u32 (Sh.rr x 18 : Nat)) ∧ w = w' := by
 have hb : bits .and .u64 (IntKind.u64.wrap (-18)) 31 = 14 := by decide
 have HR := Lib.hid (u32_rot 18 x hx)
 go_enter Tryd.func100, Tryd.ntmps100
 go_wp2
 go_ret
 exact ⟨(ret_int HR.out.symm).symm, rfl⟩
set_option maxHeartbeats 400000 in
theorem right18_any (x : Nat) (w : World) (hx : x < 4294967296) :
  Calls Tryd.prog 91 #[.int .u64 (x : Int), .int .i64 18] w fun e w' => e = .returned (.int .u64 (Sh.rr x 18 : Nat)) ∧ w = w' := by
 have HR := Lib.hid (u64_right 18 (by omega) x hx)
 go_enter Tryd.func91, Tryd.ntmps91
 go_wp2
 go_ret
 exact ⟨(ret_int HR.out.symm).symm, rfl⟩
set_option maxHeartbeats 400000 in
theorem rot17_any (x : Nat) (w : World) (hx : x < 4294967296) :
  Calls Tryd.prog 100 #[.int .u32 (x : Int), .int .i64 (-17)] w fun e w' => e = .returned (.int .u32 (Sh.rr x 17 : Nat)) ∧ w = w' := by
 have hb : bits .and .u64 (IntKind.u64.wrap (-17)) 31 = 15 := by decide
 have HR := Lib.hid (u32_rot 17 x hx)
 go_enter Tryd.func100, Tryd.ntmps100
 go_wp2
 go_ret
 exact ⟨(ret_int HR.out.symm).symm, rfl⟩
set_option maxHeartbeats 400000 in
theorem right17_any (x : Nat) (w : World) (hx : x < 4294967296) :
  Calls Tryd.prog 91 #[.int .u64 (x : Int), .int .i64 17] w fun e w' => e = .returned (.int .u64 (Sh.rr x 17 : Nat)) ∧ w = w' := by
 have HR := Lib.hid (u64_right 17 (by omega) x hx)
 go_enter Tryd.func91, Tryd.ntmps91
 go_wp2
 go_ret
 exact ⟨(ret_int HR.out.symm).symm, rfl⟩
set_option maxHeartbeats 400000 in
theorem rot19_any (x : Nat) (w : World) (hx : x < 4294967296) :
  Calls Tryd.prog 100 #[.int .u32 (x : Int), .int .i64 (-19)] w fun e w' => e = .returned (.int .u32 (Sh.rr x 19 : Nat)) ∧ w = w' := by
 have hb : bits .and .u64 (IntKind.u64.wrap (-19)) 31 = 13 := by decide
 have HR := Lib.hid (u32_rot 19 x hx)
 go_enter Tryd.func100, Tryd.ntmps100
 go_wp2
 go_ret
 exact ⟨(ret_int HR.out.symm).symm, rfl⟩
set_option maxHeartbeats 400000 in
theorem right19_any (x : Nat) (w : World) (hx : x < 4294967296) :
  Calls Tryd.prog 91 #[.int .u64 (x : Int), .int .i64 19] w fun e w' => e = .returned (.int .u64 (Sh.rr x 19 : Nat)) ∧ w = w' := by
 have HR := Lib.hid (u64_right 19 (by omega) x hx)
 go_enter Tryd.func91, Tryd.ntmps91
 go_wp2
 go_ret
 exact ⟨(ret_int HR.out.symm).symm, rfl⟩
set_option maxHeartbeats 400000 in
theorem rot6_any (x : Nat) (w : World) (hx : x < 4294967296) :
  Calls Tryd.prog 100 #[.int .u32 (x : Int), .int .i64 (-6)] w fun e w' => e = .returned (.int .u32 (Sh.rr x 6 : Nat)) ∧ w = w' := by
 have hb : bits .and .u64 (IntKind.u64.wrap (-6)) 31 = 26 := by decide
 have HR := Lib.hid (u32_rot 6 x hx)
 go_enter Tryd.func100, Tryd.ntmps100
 go_wp2
 go_ret
 exact ⟨(ret_int HR.out.symm).symm, rfl⟩
set_option maxHeartbeats 400000 in
theorem right6_any (x : Nat) (w : World) (hx : x < 4294967296) :
  Calls Tryd.prog 91 #[.int .u64 (x : Int), .int .i64 6] w fun e w' => e = .returned (.int .u64 (Sh.rr x 6 : Nat)) ∧ w = w' := by
 have HR := Lib.hid (u64_right 6 (by omega) x hx)
 go_enter Tryd.func91, Tryd.ntmps91
 go_wp2
 go_ret
 exact ⟨(ret_int HR.out.symm).symm, rfl⟩
set_option maxHeartbeats 400000 in
theorem rot11_any (x : Nat) (w : World) (hx : x < 4294967296) :
  Calls Tryd.prog 100 #[.int .u32 (x : Int), .int .i64 (-11)] w fun e w' => e = .returned (.int .u32 (Sh.rr x 11 : Nat)) ∧ w = w' := by
 have hb : bits .and .u64 (IntKind.u64.wrap (-11)) 31 = 21 := by decide
 have HR := Lib.hid (u32_rot 11 x hx)
 go_enter Tryd.func100, Tryd.ntmps100
 go_wp2
 go_ret
 exact ⟨(ret_int HR.out.symm).symm, rfl⟩
set_option maxHeartbeats 400000 in
theorem right11_any (x : Nat) (w : World) (hx : x < 4294967296) :
  Calls Tryd.prog 91 #[.int .u64 (x : Int), .int .i64 11] w fun e w' => e = .returned (.int .u64 (Sh.rr x 11 : Nat)) ∧ w = w' := by
 have HR := Lib.hid (u64_right 11 (by omega) x hx)
 go_enter Tryd.func91, Tryd.ntmps91
 go_wp2
 go_ret
 exact ⟨(ret_int HR.out.symm).symm, rfl⟩
set_option maxHeartbeats 400000 in
theorem rot25_any (x : Nat) (w : World) (hx : x < 4294967296) :
  Calls Tryd.prog 100 #[.int .u32 (x : Int), .int .i64 (-25)] w fun e w' => e = .returned (.int .u32 (Sh.rr x 25 : Nat)) ∧ w = w' := by
 have hb : bits .and .u64 (IntKind.u64.wrap (-25)) 31 = 7 := by decide
 have HR := Lib.hid (u32_rot 25 x hx)
 go_enter Tryd.func100, Tryd.ntmps100
 go_wp2
 go_ret
 exact ⟨(ret_int HR.out.symm).symm, rfl⟩
set_option maxHeartbeats 400000 in
theorem right25_any (x : Nat) (w : World) (hx : x < 4294967296) :
  Calls Tryd.prog 91 #[.int .u64 (x : Int), .int .i64 25] w fun e w' => e = .returned (.int .u64 (Sh.rr x 25 : Nat)) ∧ w = w' := by
 have HR := Lib.hid (u64_right 25 (by omega) x hx)
 go_enter Tryd.func91, Tryd.ntmps91
 go_wp2
 go_ret
 exact ⟨(ret_int HR.out.symm).symm, rfl⟩
set_option maxHeartbeats 400000 in
theorem h_rot2_any (x : Nat) (w : World) (hx : x < 4294967296) :
  Calls Tryd.prog 100 #[.int .u32 (x : Int), .int .i64 (-2)] w fun e w' => e = .returned (.int .u32 (Sh.rr x 2 : Nat)) ∧ w = w' := by
 have hb : bits .and .u64 (IntKind.u64.wrap (-2)) 31 = 30 := by decide
 have HR := Lib.hid (u32_rot 2 x hx)
 go_enter Tryd.func100, Tryd.ntmps100
 go_wp2
 go_ret
 exact ⟨(ret_int HR.out.symm).symm, rfl⟩
set_option maxHeartbeats 400000 in
theorem right2_any (x : Nat) (w : World) (hx : x < 4294967296) :
  Calls Tryd.prog 91 #[.int .u64 (x : Int), .int .i64 2] w fun e w' => e = .returned (.int .u64 (Sh.rr x 2 : Nat)) ∧ w = w' := by
 have HR := Lib.hid (u64_right 2 (by omega) x hx)
 go_enter Tryd.func91, Tryd.ntmps91
 go_wp2
 go_ret
 exact ⟨(ret_int HR.out.symm).symm, rfl⟩
set_option maxHeartbeats 400000 in
theorem rot13_any (x : Nat) (w : World) (hx : x < 4294967296) :
  Calls Tryd.prog 100 #[.int .u32 (x : Int), .int .i64 (-13)] w fun e w' => e = .returned (.int .u32 (Sh.rr x 13 : Nat)) ∧ w = w' := by
 have hb : bits .and .u64 (IntKind.u64.wrap (-13)) 31 = 19 := by decide
 have HR := Lib.hid (u32_rot 13 x hx)
 go_enter Tryd.func100, Tryd.ntmps100
 go_wp2
 go_ret
 exact ⟨(ret_int HR.out.symm).symm, rfl⟩
set_option maxHeartbeats 400000 in
theorem right13_any (x : Nat) (w : World) (hx : x < 4294967296) :
  Calls Tryd.prog 91 #[.int .u64 (x : Int), .int .i64 13] w fun e w' => e = .returned (.int .u64 (Sh.rr x 13 : Nat)) ∧ w = w' := by
 have HR := Lib.hid (u64_right 13 (by omega) x hx)
 go_enter Tryd.func91, Tryd.ntmps91
 go_wp2
 go_ret
 exact ⟨(ret_int HR.out.symm).symm, rfl⟩
set_option maxHeartbeats 400000 in
theorem rot22_any (x : Nat) (w : World) (hx : x < 4294967296) :
  Calls Tryd.prog 100 #[.int .u32 (x : Int), .int .i64 (-22)] w fun e w' => e = .returned (.int .u32 (Sh.rr x 22 : Nat)) ∧ w = w' := by
 have hb : bits .and .u64 (IntKind.u64.wrap (-22)) 31 = 10 := by decide
 have HR := Lib.hid (u32_rot 22 x hx)
 go_enter Tryd.func100, Tryd.ntmps100
 go_wp2
 go_ret
 exact ⟨(ret_int HR.out.symm).symm, rfl⟩
set_option maxHeartbeats 400000 in
theorem right22_any (x : Nat) (w : World) (hx : x < 4294967296) :
  Calls Tryd.prog 91 #[.int .u64 (x : Int), .int .i64 22] w fun e w' => e = .returned (.int .u64 (Sh.rr x 22 : Nat)) ∧ w = w' := by
 have HR := Lib.hid (u64_right 22 (by omega) x hx)
 go_enter Tryd.func91, Tryd.ntmps91
 go_wp2
 go_ret
 exact ⟨(ret_int HR.out.symm).symm, rfl⟩
end Go.Proofs.YtabfcaidioohfaaDoor
namespace Go.Proofs.YtabfcaidioohfaaDoor
open List (getElem?_toArray getElem?_cons_zero getElem?_cons_succ setIfInBounds_toArray set_cons_zero set_cons_succ)
set_option maxRecDepth 100000
open Go.RowKit
set_option linter.unusedVariables false
set_option linter.unusedSimpArgs false
theorem val32 {a b : Int} (h : a = b) : Value.int .u32 a = Value.int .u32 b := by rw [h]
/-- Three turns, put together so far. -/
def mixKA (x : Nat) : Nat → Nat
 | 0 => 0
 | 1 => Sh.rr x 6
 | 2 => Sh.rr x 6 ^^^ Sh.rr x 11
 | _ => Sh.mix x 6 11 25
set_option maxHeartbeats 1000000 in
theorem mixA_any (x : Nat) (w : World) (hx : x < 4294967296) :
  Calls Tryd.prog 101 #[.int .u32 (x : Int), .agg #[.int .i64 6, .int .i64 11, .int .i64 25]] w fun e w' => e = .returned (.int .u32 (Sh.mix x 6 11 25 : Nat)) ∧ Below w.heap.size w w' := by
 have ra := Sh.rr_lt x 6 hx
 have rb := Sh.rr_lt x 11 hx
 have rc := Sh.rr_lt x 25 hx
 have H1 : Hid (bits .xor .u32 0 ((Sh.rr x 6 : Nat) : Int) = ((mixKA x 1 : Nat) : Int)) := by
  have := u32_xor_nat 0 (Sh.rr x 6) (by decide) ra
  rw [Nat.zero_xor] at this; exact this
 have H2 : Hid (bits .xor .u32 ((mixKA x 1 : Nat) : Int) ((Sh.rr x 11 : Nat) : Int) = ((mixKA x 2 : Nat) : Int)) := u32_xor_nat _ _ ra rb
 have H3 : Hid (bits .xor .u32 ((mixKA x 2 : Nat) : Int) ((Sh.rr x 25 : Nat) : Int) = ((mixKA x 3 : Nat) : Int)) := u32_xor_nat _ _ (Sh.xor_lt ra rb) rc
 have HC := Lib.hid (fun w => rot6_any x w hx)
 have HD := Lib.hid (fun w => rot11_any x w hx)
 have HE := Lib.hid (fun w => rot25_any x w hx)
 have HB : Hid (Below w.heap.size w (w.alloc (.cells #[.int .i64 6, .int .i64 11, .int .i64 25] 145))) := (Below.refl _ w).alloc (Nat.le_refl _) _
 have HF : Hid (Sh.mix x 6 11 25 = mixKA x 3) := rfl
 clear ra rb rc
 generalize Sh.rr x 6 = ya at *
 generalize Sh.rr x 11 = yb at *
 generalize Sh.rr x 25 = yc at *
 rw [HF.out]
 have i0 : ∀ w : World, (Instr.index 145 (.agg #[.int .i64 6, .int .i64 11, .int .i64 25]) (.int .i64 0)).run Tryd.prog w = .ok (.int .i64 6) w := fun _ => by kernel_rfl
 have i1 : ∀ w : World, (Instr.index 145 (.agg #[.int .i64 6, .int .i64 11, .int .i64 25]) (.int .i64 1)).run Tryd.prog w = .ok (.int .i64 11) w := fun _ => by kernel_rfl
 have i2 : ∀ w : World, (Instr.index 145 (.agg #[.int .i64 6, .int .i64 11, .int .i64 25]) (.int .i64 2)).run Tryd.prog w = .ok (.int .i64 25) w := fun _ => by kernel_rfl
 go_enter Tryd.func101, Tryd.ntmps101
 go_wp2
 go_loop [5, 9] (fun y i => ∃ k : Nat, k ≤ 3 ∧ i = .int .i64 k ∧ y = .int .u32 ((mixKA x k : Nat) : Int)) (fun _ i => 3 - (intOf i).toNat)
 case atStart => exact ⟨0, by omega, rfl, rfl⟩
 case round =>
  obtain ⟨k, hk, rfl, rfl⟩ := hrel
  rcases Nat.lt_or_ge k 3 with hk3 | hk3
  ·have hc : k = 0 ∨ k = 1 ∨ k = 2 := by omega
   rcases hc with rfl | rfl | rfl
   ·have e0 : ((mixKA x 0 : Nat) : Int) = 0 := rfl
    rw [e0]
    clear e0
    go_wp2_with fail
    refine (HC.out _).mono ?_
    rintro e w' ⟨rfl, rfl⟩
    go_wp2
    go_round
    case rel => exact ⟨1, by omega, by first | rfl | go_num, val32 H1.out⟩
    case measure => simp [intOf]
   ·generalize hm : mixKA x 1 = m at *
    have HM := Lib.hid hm
    clear hm
    go_wp2_with fail
    refine (HD.out _).mono ?_
    rintro e w' ⟨rfl, rfl⟩
    go_wp2
    go_round
    case rel => exact ⟨2, by omega, by first | rfl | go_num, val32 H2.out⟩
    case measure => simp [intOf]
   ·generalize hm : mixKA x 2 = m at *
    have HM := Lib.hid hm
    clear hm
    go_wp2_with fail
    refine (HE.out _).mono ?_
    rintro e w' ⟨rfl, rfl⟩
    go_wp2
    go_round
    case rel => exact ⟨3, by omega, by first | rfl | go_num, val32 H3.out⟩
    case measure => simp [intOf]
  ·obtain rfl : k = 3 := by omega
   go_wp2
   go_ret
   exact ⟨rfl, HB.out⟩
/-- Three turns, put together so far. -/
def mixKB (x : Nat) : Nat → Nat
 | 0 => 0
 | 1 => Sh.rr x 2
 | 2 => Sh.rr x 2 ^^^ Sh.rr x 13
 | _ => Sh.mix x 2 13 22
set_option maxHeartbeats 1000000 in
theorem mixB_any (x : Nat) (w : World) (hx : x < 4294967296) :
  Calls Tryd.prog 101 #[.int .u32 (x : Int), .agg #[.int .i64 2, .int .i64 13, .int .i64 22]] w fun e w' => e = .returned (.int .u32 (Sh.mix x 2 13 22 : Nat)) ∧ Below w.heap.size w w' := by
 have ra := Sh.rr_lt x 2 hx
 have rb := Sh.rr_lt x 13 hx
 have rc := Sh.rr_lt x 22 hx
 have H1 : Hid (bits .xor .u32 0 ((Sh.rr x 2 : Nat) : Int) = ((mixKB x 1 : Nat) : Int)) := by
  have := u32_xor_nat 0 (Sh.rr x 2) (by decide) ra
  rw [Nat.zero_xor] at this; exact this
 have H2 : Hid (bits .xor .u32 ((mixKB x 1 : Nat) : Int) ((Sh.rr x 13 : Nat) : Int) = ((mixKB x 2 : Nat) : Int)) := u32_xor_nat _ _ ra rb
 have H3 : Hid (bits .xor .u32 ((mixKB x 2 : Nat) : Int) ((Sh.rr x 22 : Nat) : Int) = ((mixKB x 3 : Nat) : Int)) := u32_xor_nat _ _ (Sh.xor_lt ra rb) rc
 have HC := Lib.hid (fun w => h_rot2_any x w hx)
 have HD := Lib.hid (fun w => rot13_any x w hx)
 have HE := Lib.hid (fun w => rot22_any x w hx)
 have HB : Hid (Below w.heap.size w (w.alloc (.cells #[.int .i64 2, .int .i64 13, .int .i64 22] 145))) := (Below.refl _ w).alloc (Nat.le_refl _) _
 have HF : Hid (Sh.mix x 2 13 22 = mixKB x 3) := rfl
 clear ra rb rc
 generalize Sh.rr x 2 = ya at *
 generalize Sh.rr x 13 = yb at *
 generalize Sh.rr x 22 = yc at *
 rw [HF.out]
 have i0 : ∀ w : World, (Instr.index 145 (.agg #[.int .i64 2, .int .i64 13, .int .i64 22]) (.int .i64 0)).run Tryd.prog w = .ok (.int .i64 2) w := fun _ => by kernel_rfl
 have i1 : ∀ w : World, (Instr.index 145 (.agg #[.int .i64 2, .int .i64 13, .int .i64 22]) (.int .i64 1)).run Tryd.prog w = .ok (.int .i64 13) w := fun _ => by kernel_rfl
 have i2 : ∀ w : World, (Instr.index 145 (.agg #[.int .i64 2, .int .i64 13, .int .i64 22]) (.int .i64 2)).run Tryd.prog w = .ok (.int .i64 22) w := fun _ => by kernel_rfl
 go_enter Tryd.func101, Tryd.ntmps101
 go_wp2
 go_loop [5, 9] (fun y i => ∃ k : Nat, k ≤ 3 ∧ i = .int .i64 k ∧ y = .int .u32 ((mixKB x k : Nat) : Int)) (fun _ i => 3 - (intOf i).toNat)
 case atStart => exact ⟨0, by omega, rfl, rfl⟩
 case round =>
  obtain ⟨k, hk, rfl, rfl⟩ := hrel
  rcases Nat.lt_or_ge k 3 with hk3 | hk3
  ·have hc : k = 0 ∨ k = 1 ∨ k = 2 := by omega
   rcases hc with rfl | rfl | rfl
   ·have e0 : ((mixKB x 0 : Nat) : Int) = 0 := rfl
    rw [e0]
    clear e0
    go_wp2_with fail
    refine (HC.out _).mono ?_
    rintro e w' ⟨rfl, rfl⟩
    go_wp2
    go_round
    case rel => exact ⟨1, by omega, by first | rfl | go_num, val32 H1.out⟩
    case measure => simp [intOf]
   ·generalize hm : mixKB x 1 = m at *
    have HM := Lib.hid hm
    clear hm
    go_wp2_with fail
    refine (HD.out _).mono ?_
    rintro e w' ⟨rfl, rfl⟩
    go_wp2
    go_round
    case rel => exact ⟨2, by omega, by first | rfl | go_num, val32 H2.out⟩
    case measure => simp [intOf]
   ·generalize hm : mixKB x 2 = m at *
    have HM := Lib.hid hm
    clear hm
    go_wp2_with fail
    refine (HE.out _).mono ?_
    rintro e w' ⟨rfl, rfl⟩
    go_wp2
    go_round
    case rel => exact ⟨3, by omega, by first | rfl | go_num, val32 H3.out⟩
    case measure => simp [intOf]
  ·obtain rfl : k = 3 := by omega
   go_wp2
   go_ret
   exact ⟨rfl, HB.out⟩
set_option maxHeartbeats 1000000 in
theorem word_any (A : Option Addr) (n c : Nat) (l : List Nat) (w : World) (hA : Rb w A l) (hn : l.length = n) (h4 : 4 ≤ n) (hnc : n ≤ c ∧ c ≤ maxLen) (hb : ∀ x ∈ l, x < 256) :
  Calls Tryd.prog 99 #[.slice A n c] w fun e w' => e = .returned (.int .u32 (Sh.word l 0 : Nat)) ∧ ∃ q, w' = w.drewN q := by
 obtain ⟨b, o, rfl, _, hc⟩ := hA (by omega)
 have hg : ∀ j, l.getD j 0 < 256 := fun j => by
  rw [List.getD_eq_getElem?_getD]
  cases e : l[j]? with
  | none => decide
  | some v => exact hb v (List.mem_of_getElem? e)
 have f0 : w.cell? ⟨b, o, none⟩ = some (.int .u8 ((l.getD 0 0 : Nat) : Int)) := hc 0 (by omega)
 have f1 : w.cell? ⟨b, o + 1, none⟩ = some (.int .u8 ((l.getD 1 0 : Nat) : Int)) := hc 1 (by omega)
 have f2 : w.cell? ⟨b, o + 2, none⟩ = some (.int .u8 ((l.getD 2 0 : Nat) : Int)) := hc 2 (by omega)
 have f3 : w.cell? ⟨b, o + 3, none⟩ = some (.int .u8 ((l.getD 3 0 : Nat) : Int)) := hc 3 (by omega)
 have g0 := hg 0
 have g1 := hg 1
 have g2 := hg 2
 have g3 := hg 3
 have hci : n ≤ c ∧ c ≤ 9223372036854775807 := ⟨hnc.1, by have := hnc.2; simp only [maxLen] at this; omega⟩
 have HW : Hid (Sh.word l 0 = ((l.getD 0 0 * 256 + l.getD 1 0) * 256 + l.getD 2 0) * 256 + l.getD 3 0) := rfl
 rw [HW.out]
 clear HW hg hc hA hn hb hnc
 generalize l.getD 0 0 = x0 at *
 generalize l.getD 1 0 = x1 at *
 generalize l.getD 2 0 = x2 at *
 generalize l.getD 3 0 = x3 at *
 have HV : Hid (bits .or .u32 (bits .or .u32 (bits .or .u32 ((x0 : Int) * 16777216) ((x1 : Int) * 65536)) ((x2 : Int) * 256)) (x3 : Int) = ((((x0 * 256 + x1) * 256 + x2) * 256 + x3 : Nat) : Int)) := by
  have q1 : (x0 : Int) * 16777216 = ((x0 * 16777216 : Nat) : Int) := by omega
  have q2 : (x1 : Int) * 65536 = ((x1 * 65536 : Nat) : Int) := by omega
  have q3 : (x2 : Int) * 256 = ((x2 * 256 : Nat) : Int) := by omega
  have a1 : x0 * 16777216 ||| x1 * 65536 < 4294967296 := Sh.or_lt (by omega) (by omega)
  have a2 : x0 * 16777216 ||| x1 * 65536 ||| x2 * 256 < 4294967296 := Sh.or_lt a1 (by omega)
  unfold Hid
  rw [q1, q2, q3, u32_or_nat _ _ (by omega) (by omega), u32_or_nat _ _ a1 (by omega), u32_or_nat _ _ a2 (by omega), Sh.word_or _ _ _ _ g0 g1 g2 g3]
 have e0 : IntKind.u32.wrap (x0 : Int) = (x0 : Int) := by rw [IntKind.wrap_u32]; omega
 have e1 : IntKind.u32.wrap (x1 : Int) = (x1 : Int) := by rw [IntKind.wrap_u32]; omega
 have e2 : IntKind.u32.wrap (x2 : Int) = (x2 : Int) := by rw [IntKind.wrap_u32]; omega
 have e3 : IntKind.u32.wrap (x3 : Int) = (x3 : Int) := by rw [IntKind.wrap_u32]; omega
 go_enter Tryd.func99, Tryd.ntmps99
 go_wp2
 go_quiet (fail)
 go_wp2
 go_ret
 exact ⟨ret_int HV.out, _, rfl⟩
theorem b8_eq {a b : Int} (h : a = b) : Value.int .u8 a = Value.int .u8 b := by rw [h]
set_option maxHeartbeats 1000000 in
theorem four_any (x : Nat) (w : World) (hx : x < 4294967296) :
  Calls Tryd.prog 92 #[.int .u32 (x : Int)] w fun e w' => e = .returned (.slice (some ⟨w.heap.size, 0, none⟩) 4 4) ∧ w' = w.alloc (.cells ((Sh.four x).map b8).toArray 5) := by
 have k1 : IntKind.u8.wrap ((x : Int) / 16777216) = ((x / 16777216 % 256 : Nat) : Int) := by rw [IntKind.wrap_u8]; omega
 have k2 : IntKind.u8.wrap ((x : Int) / 65536) = ((x / 65536 % 256 : Nat) : Int) := by rw [IntKind.wrap_u8]; omega
 have k3 : IntKind.u8.wrap ((x : Int) / 256) = ((x / 256 % 256 : Nat) : Int) := by rw [IntKind.wrap_u8]; omega
 have k4 : IntKind.u8.wrap (x : Int) = ((x % 256 : Nat) : Int) := by rw [IntKind.wrap_u8]; omega
 have HF : Hid ((Sh.four x).map b8 = [.int .u8 ((x / 16777216 % 256 : Nat) : Int), .int .u8 ((x / 65536 % 256 : Nat) : Int), .int .u8 ((x / 256 % 256 : Nat) : Int), .int .u8 ((x % 256 : Nat) : Int)]) := rfl
 rw [HF.out]
 generalize x / 16777216 % 256 = y1 at *
 generalize x / 65536 % 256 = y2 at *
 generalize x / 256 % 256 = y3 at *
 generalize x % 256 = y4 at *
 clear hx
 go_enter Tryd.func92, Tryd.ntmps92
 go_wp2
 go_ret
 exact ⟨rfl, rfl⟩
end Go.Proofs.YtabfcaidioohfaaDoor
namespace Go.Proofs.YtabfcaidioohfaaDoor
open List (getElem?_toArray getElem?_cons_zero getElem?_cons_succ setIfInBounds_toArray set_cons_zero set_cons_succ)
set_option maxRecDepth 100000
open Go.RowKit
set_option linter.unusedVariables false
set_option linter.unusedSimpArgs false
theorem set_far {w : World} {b i j : Nat} (v u : Value) (h : w.cell? ⟨b, i, none⟩ = some u) (hne : i ≠ j) : (w.setCell ⟨b, j, none⟩ v).cell? ⟨b, i, none⟩ = some u :=
 (World.cell?_setCell_other _ _ _ _ (by intro e; cases e; exact hne rfl)).trans h
/-- A state of eight words is stored whole. -/
theorem wpList_store8 {ops : Array Oper} {rest : List Oper} {o : Oper} {a : Act} {w : World} {Q : Exit → Act → World → Prop} (hgd : o.guard = none) (x y : Operand) (ho : o.op = .store 112 x y)
  (g : Nat) (v0 v1 v2 v3 v4 v5 v6 v7 : Int) (hx : a.eval x = .pointer (some ⟨g, 0, none⟩)) (hy : a.eval y = .agg #[.int .u32 v0, .int .u32 v1, .int .u32 v2, .int .u32 v3, .int .u32 v4, .int .u32 v5, .int .u32 v6, .int .u32 v7]) (st : List Nat) (hO : Obj w g 112 (cellsK .u32 st)) (hl : st.length = 8)
  (h : wpList Tryd.prog ops Q rest (a.put o.dst undef) (w.setRow g #[.int .u32 v0, .int .u32 v1, .int .u32 v2, .int .u32 v3, .int .u32 v4, .int .u32 v5, .int .u32 v6, .int .u32 v7])) : wpList Tryd.prog ops Q (o :: rest) a w :=
 wpList_store_row hgd 112 x y ho g #[.int .u32 v0, .int .u32 v1, .int .u32 v2, .int .u32 v3, .int .u32 v4, .int .u32 v5, .int .u32 v6, .int .u32 v7] hx hy 112 _ hO info32x8 (by rw [cellsK_size, hl]; rfl) (by simp [Value.oneCell']) h
/-- Round's blocks. -/
structure RdW (w0 : World) (B : Nat) (h : List Nat) (l : List Nat) (w : World) : Prop where
 hO : Obj w B 112 (cellsK .u32 h)
 rO : Obj w (B + 1) 112 (cellsK .u32 (List.replicate 8 0))
 wO : Obj w (B + 1 + 1) 134 (cellsK .u32 (row64 l))
 bel : Below B w0 w
theorem RdW.drewN {w0 w : World} {B : Nat} {h l : List Nat} (q : RdW w0 B h l w) (n : Nat) : RdW w0 B h l (w.drewN n) := ⟨q.hO, q.rO, q.wO, ⟨q.bel.os, q.bel.tape, q.bel.output, q.bel.size, q.bel.block⟩⟩
theorem RdW.set {w0 w : World} {B : Nat} {h l : List Nat} (q : RdW w0 B h l w) (hl : l.length < 64) (v : Nat) : RdW w0 B h (l ++ [v]) (w.setCell ⟨B + 1 + 1, l.length, none⟩ (.int .u32 ((v : Nat) : Int))) := by
 have hu : Upd (B + 1 + 1) w (w.setCell ⟨B + 1 + 1, l.length, none⟩ (.int .u32 ((v : Nat) : Int))) := (Upd.refl _ w).set _ _
 refine ⟨q.hO.upd hu (by omega), q.rO.upd hu (by omega), ?_, ⟨hu.os.trans q.bel.os, hu.tape.trans q.bel.tape, hu.output.trans q.bel.output, Nat.le_trans q.bel.size hu.size, fun k hk => (hu.block k (by have := q.hO.lt; omega) (by omega)).trans (q.bel.block k hk)⟩⟩
 rw [← row64_set l v hl]
 exact q.wO.setK l.length v
theorem RdW.kept {w0 w w' : World} {B : Nat} {h l : List Nat} (q : RdW w0 B h l w) (hb : Below w.heap.size w w') : RdW w0 B h l w' := ⟨q.hO.kept hb, q.rO.kept hb, q.wO.kept hb, q.bel.trans (hb.mono (Nat.le_of_lt q.hO.lt))⟩
theorem RdW.upd {w0 w w' : World} {B b : Nat} {h l : List Nat} (q : RdW w0 B h l w) (hu : Upd b w w') (hb : B + 1 + 1 < b) : RdW w0 B h l w' :=
 ⟨q.hO.upd hu (by omega), q.rO.upd hu (by omega), q.wO.upd hu (by omega), ⟨hu.os.trans q.bel.os, hu.tape.trans q.bel.tape, hu.output.trans q.bel.output, Nat.le_trans q.bel.size hu.size, fun k hk => (hu.block k (by have := q.hO.lt; omega) (by omega)).trans (q.bel.block k hk)⟩⟩
def gt (s : List Nat) (i : Nat) : Nat := s.getD i 0
/-- Round's blocks and its state's. -/
structure R2 (w0 : World) (B : Nat) (h l : List Nat) (Sb : Nat) (s : List Nat) (w : World) : Prop where
 rd : RdW w0 B h l w
 sO : Obj w Sb 112 (cellsK .u32 s)
 sb : B + 1 + 1 < Sb
theorem R2.kept {w0 w w' : World} {B Sb : Nat} {h l s : List Nat} (q : R2 w0 B h l Sb s w) (hb : Below w.heap.size w w') : R2 w0 B h l Sb s w' := ⟨q.rd.kept hb, q.sO.kept hb, q.sb⟩
theorem R2.drewN {w0 w : World} {B Sb : Nat} {h l s : List Nat} (q : R2 w0 B h l Sb s w) (n : Nat) : R2 w0 B h l Sb s (w.drewN n) := ⟨q.rd.drewN n, q.sO.drewN n, q.sb⟩
theorem R2.cell {w0 w : World} {B Sb : Nat} {h l s : List Nat} (q : R2 w0 B h l Sb s w) (hs : s.length = 8) (i : Nat) (hi : i < 8) : w.cell? ⟨Sb, i, none⟩ = some (.int .u32 ((gt s i : Nat) : Int)) := q.sO.getK i (by omega)
theorem gt_lt {s : List Nat} (h : ∀ x ∈ s, x < 4294967296) (i : Nat) : gt s i < 4294967296 := Sh.getD_lt h i
/-- The state's sums so far. -/
def sumK (h s : List Nat) (k : Nat) : List Nat := (List.range 8).map fun j => if j < k then (gt h j + gt s j) % 4294967296 else gt h j
theorem sumK_len (h s : List Nat) (k : Nat) : (sumK h s k).length = 8 := by simp [sumK]
theorem sumK_get (h s : List Nat) (k j : Nat) (hj : j < 8) : (sumK h s k).getD j 0 = if j < k then (gt h j + gt s j) % 4294967296 else gt h j := by
 unfold sumK
 rw [List.getD_eq_getElem?_getD, List.getElem?_map, List.getElem?_range hj]; rfl
theorem list8 {l m : List Nat} (h1 : l.length = 8) (h2 : m.length = 8) (h : ∀ i, i < 8 → l.getD i 0 = m.getD i 0) : l = m := by
 apply List.ext_getElem (by omega)
 intro i q1 q2
 have := h i (by omega)
 rw [List.getD_eq_getElem?_getD, List.getD_eq_getElem?_getD, List.getElem?_eq_getElem q1, List.getElem?_eq_getElem q2] at this
 simpa using this
theorem sumK_zero (h s : List Nat) (hh : h.length = 8) : sumK h s 0 = h := list8 (sumK_len _ _ _) hh fun i hi => by rw [sumK_get _ _ _ _ hi, if_neg (by omega)]; rfl
theorem sumK_set (h s : List Nat) (k : Nat) (hk : k < 8) : (sumK h s k).set k ((gt h k + gt s k) % 4294967296) = sumK h s (k + 1) :=
 list8 (by rw [List.length_set, sumK_len]) (sumK_len _ _ _) fun i hi => by
  rw [sumK_get _ _ _ _ hi, List.getD_eq_getElem?_getD, List.getElem?_set]
  by_cases e : k = i
  ·subst e
   rw [if_pos rfl, if_pos (by rw [sumK_len]; exact hk), if_pos (by omega)]; rfl
  ·rw [if_neg e, ← List.getD_eq_getElem?_getD, sumK_get _ _ _ _ hi]
   by_cases h1 : i < k
   ·rw [if_pos h1, if_pos (by omega)]
   ·rw [if_neg h1, if_neg (by omega)]
theorem sumK_full (h l : List Nat) : sumK h (Sh.rK h l 64) 8 = Sh.turn h l := list8 (sumK_len _ _ _) (Sh.turn_len _ _) fun i hi => by
 rw [sumK_get _ _ _ _ hi, if_pos hi]
 unfold Sh.turn
 rw [List.getD_eq_getElem?_getD, List.getElem?_map, List.getElem?_range hi]; rfl
theorem row_below {w0 w : World} {B : Nat} (h : Below B w0 w) (hl : B + 1 < w.heap.size) (cs : Array Value) : Below B w0 (w.setRow (B + 1) cs) := by
 have hu : Upd (B + 1) w (w.setRow (B + 1) cs) := (Upd.refl _ w).row cs
 exact ⟨hu.os.trans h.os, hu.tape.trans h.tape, hu.output.trans h.output, Nat.le_trans h.size hu.size, fun k hk => (hu.block k (by omega) (by omega)).trans (h.block k hk)⟩
/-- Round's last blocks. -/
structure R3 (w0 : World) (B Sb : Nat) (h s : List Nat) (k : Nat) (w : World) : Prop where
 hO : Obj w B 112 (cellsK .u32 (sumK h s k))
 rO : Obj w (B + 1) 112 (cellsK .u32 (List.replicate 8 0))
 sO : Obj w Sb 112 (cellsK .u32 s)
 sb : B + 1 + 1 < Sb
 bel : Below B w0 w
theorem R3.drewN {w0 w : World} {B Sb k : Nat} {h s : List Nat} (q : R3 w0 B Sb h s k w) (n : Nat) : R3 w0 B Sb h s k (w.drewN n) := ⟨q.hO, q.rO, q.sO, q.sb, ⟨q.bel.os, q.bel.tape, q.bel.output, q.bel.size, q.bel.block⟩⟩
theorem R3.set {w0 w : World} {B Sb k : Nat} {h s : List Nat} (q : R3 w0 B Sb h s k w) (hk : k < 8) : R3 w0 B Sb h s (k + 1) (w.setCell ⟨B, k, none⟩ (.int .u32 (((gt h k + gt s k) % 4294967296 : Nat) : Int))) := by
 have hu : Upd B w (w.setCell ⟨B, k, none⟩ (.int .u32 (((gt h k + gt s k) % 4294967296 : Nat) : Int))) := (Upd.refl _ w).set _ _
 have hsb := q.sb
 refine ⟨?_, q.rO.upd hu (by omega), q.sO.upd hu (by omega), q.sb, ⟨hu.os.trans q.bel.os, hu.tape.trans q.bel.tape, hu.output.trans q.bel.output, Nat.le_trans q.bel.size hu.size, fun j hj => (hu.block j (by have := q.hO.lt; omega) (by omega)).trans (q.bel.block j hj)⟩⟩
 rw [← sumK_set h s k hk]
 exact q.hO.setK k _
set_option maxRecDepth 100000 in
set_option maxHeartbeats 16000000 in
theorem round_any (h : List Nat) (A : Option Addr) (c : Nat) (l : List Nat) (w : World) (ht : Tabs w) (hh : h.length = 8) (hh2 : ∀ x ∈ h, x < 4294967296) (hA : Rb w A l) (hl : l.length = 64) (hb : ∀ x ∈ l, x < 256) (hc : 64 ≤ c ∧ c ≤ maxLen) :
  Calls Tryd.prog 93 #[.agg (cellsK .u32 h), .slice A 64 c] w fun e w' => e = .returned (.agg (cellsK .u32 (Sh.turn h l))) ∧ Below w.heap.size w w' := by
 obtain ⟨B, hB⟩ : ∃ B, w.heap.size = B := ⟨_, rfl⟩
 obtain ⟨bb, oo, rfl, hbb, hcell⟩ := hA (by omega)
 have hz := (zero_of_info zero64).1
 have HW0 : Hid (RdW w B h [] (((w.alloc (.cells (cellsK .u32 h) 112)).alloc (.cells #[.int .u32 0, .int .u32 0, .int .u32 0, .int .u32 0, .int .u32 0, .int .u32 0, .int .u32 0, .int .u32 0] 112)).alloc (.cells (cellsK .u32 z64) 134))) := by
  have o1 := Obj.new w 112 (cellsK .u32 h)
  have o2 := Obj.new (w.alloc (.cells (cellsK .u32 h) 112)) 112 #[.int .u32 0, .int .u32 0, .int .u32 0, .int .u32 0, .int .u32 0, .int .u32 0, .int .u32 0, .int .u32 0]
  have o3 := Obj.new ((w.alloc (.cells (cellsK .u32 h) 112)).alloc (.cells #[.int .u32 0, .int .u32 0, .int .u32 0, .int .u32 0, .int .u32 0, .int .u32 0, .int .u32 0, .int .u32 0] 112)) 134 (cellsK .u32 z64)
  simp only [World.size_alloc, hB, Nat.add_assoc, Nat.reduceAdd] at o1 o2 o3
  refine ⟨(o1.alloc _).alloc _, o2.alloc _, o3, ?_⟩
  rw [← hB]
  exact (((Below.refl _ w).alloc (Nat.le_refl _) _).alloc (by simp) _).alloc (by simp; omega) _
 have HRB : Hid (∀ wr k, Below B w wr → 4 * k < 64 → Rb wr (some ⟨bb, oo + 4 * k, none⟩) (l.drop (4 * k))) := fun wr k hbw hk => by
  rw [← hB] at hbw
  exact (hA.below hbw).drop (4 * k)
 have HL := Lib.hid hl
 have HBY := Lib.hid hb
 have HCM := Lib.hid hc
 have HT := Lib.hid ht
 have HH := Lib.hid hh
 have HH2 := Lib.hid hh2
 have hci : 64 ≤ c ∧ c ≤ 9223372036854775807 := ⟨hc.1, by have := hc.2; simp only [maxLen] at this; omega⟩
 clear ht hh hh2 hA hl hb hc hcell hbb
 go_enter Tryd.func93, Tryd.ntmps93
 go_wp2
 try rw [hB]
 have HB := Lib.hid hB
 clear hB
 clear hz
 go_loopw [14] (fun i wr => ∃ k : Nat, k ≤ 64 ∧ i = .int .i64 k ∧ RdW w B h (Sh.wK l k) wr) (fun i _ => 64 - (intOf i).toNat)
 case atStart => exact ⟨0, by omega, rfl, HW0.out⟩
 case round =>
  clear HW0
  obtain ⟨k, hk, rfl, hR⟩ := hrel
  have HR := Lib.hid hR
  by_cases hlt : k < 64
  ·have hki : (k : Int) < 64 := by omega
   have hki2 : decide ((k : Int) < 64) = true := by simp; omega
   have zk := hR.wO.free k
   have ck := hR.wO.getK k (by rw [row64_len _ (by rw [Sh.wK_len]; omega)]; exact hlt)
   by_cases h16 : k < 16
   ·have hk16 : (k : Int) < 16 := by omega
    have hk16' : decide ((k : Int) < 16) = true := by simp; omega
    have hm4 : IntKind.i64.wrap (4 * (k : Int)) = ((4 * k : Nat) : Int) := by rw [IntKind.wrap_i64]; omega
    have hk4 : 4 * k < 64 := by omega
    have HWD : Hid (Calls Tryd.prog 99 #[.slice (some ⟨bb, oo + 4 * k, none⟩) (64 - 4 * k) (c - 4 * k)] wr fun e w' => e = .returned (.int .u32 (Sh.word l (4 * k) : Nat)) ∧ ∃ q, w' = wr.drewN q) := by
     have := word_any (some ⟨bb, oo + 4 * k, none⟩) (64 - 4 * k) (c - 4 * k) (l.drop (4 * k)) wr (HRB.out wr k hR.bel hk4) (by rw [List.length_drop, HL.out]) (by omega) (by have := HCM.out; omega) (fun x hx => HBY.out x (List.mem_of_mem_drop hx))
     have e : Sh.word (l.drop (4 * k)) 0 = Sh.word l (4 * k) := by
      unfold Sh.word
      simp only [List.getD_eq_getElem?_getD, List.getElem?_drop, Nat.add_zero, Nat.zero_add]
     rw [e] at this
     exact this
    have HNX : Hid (∀ q, RdW w B h (Sh.wK l (k + 1)) ((wr.drewN q).setCell ⟨B + 1 + 1, k, none⟩ (.int .u32 ((Sh.word l (4 * k) : Nat) : Int)))) := fun q => by
     have := (hR.drewN q).set (by rw [Sh.wK_len]; exact hlt) (Sh.word l (4 * k))
     rw [Sh.wK_len] at this
     show RdW w B h (Sh.wK l k ++ [if k < 16 then Sh.word l (4 * k) else Sh.nextW (Sh.wK l k)]) _
     rw [if_pos h16]
     exact this
    clear hR HRB
    generalize Sh.word l (4 * k) = wv at *
    go_wp2_with fail
    refine HWD.out.mono ?_
    rintro e w' ⟨rfl, q, rfl⟩
    go_wp2
    go_roundw
    case rel => exact ⟨k + 1, by omega, by go_num, HNX.out q⟩
    case measure => simp [intOf]; omega
   ·have hk16 : ¬ (k : Int) < 16 := by omega
    have hk16' : decide ((k : Int) < 16) = false := by simp; omega
    obtain ⟨m16, h16'⟩ : ∃ m, k - 16 = m := ⟨_, rfl⟩
    obtain ⟨m7, h7'⟩ : ∃ m, k - 7 = m := ⟨_, rfl⟩
    obtain ⟨m15, h15'⟩ : ∃ m, k - 15 = m := ⟨_, rfl⟩
    obtain ⟨m2, h2'⟩ : ∃ m, k - 2 = m := ⟨_, rfl⟩
    have i16 : IntKind.i64.wrap ((k : Int) - 16) = (m16 : Int) := by rw [IntKind.wrap_i64]; omega
    have i7 : IntKind.i64.wrap ((k : Int) - 7) = (m7 : Int) := by rw [IntKind.wrap_i64]; omega
    have i15 : IntKind.i64.wrap ((k : Int) - 15) = (m15 : Int) := by rw [IntKind.wrap_i64]; omega
    have i2 : IntKind.i64.wrap ((k : Int) - 2) = (m2 : Int) := by rw [IntKind.wrap_i64]; omega
    have j16 : (k : Int) - 16 = (m16 : Int) := by omega
    have j7 : (k : Int) - 7 = (m7 : Int) := by omega
    have j15 : (k : Int) - 15 = (m15 : Int) := by omega
    have j2 : (k : Int) - 2 = (m2 : Int) := by omega
    have v16 : IntKind.i64.wrap (m16 : Int) = (m16 : Int) := by rw [IntKind.wrap_i64]; omega
    have v7 : IntKind.i64.wrap (m7 : Int) = (m7 : Int) := by rw [IntKind.wrap_i64]; omega
    have v15 : IntKind.i64.wrap (m15 : Int) = (m15 : Int) := by rw [IntKind.wrap_i64]; omega
    have v2 : IntKind.i64.wrap (m2 : Int) = (m2 : Int) := by rw [IntKind.wrap_i64]; omega
    have b16 : (m16 : Int) < 64 := by omega
    have b7 : (m7 : Int) < 64 := by omega
    have b15 : (m15 : Int) < 64 := by omega
    have b2 : (m2 : Int) < 64 := by omega
    have hwl := Sh.wK_len l k
    have hwlt := Sh.wK_lt l HBY.out k
    have cell : ∀ i, i < k → wr.cell? ⟨B + 1 + 1, i, none⟩ = some (.int .u32 (((Sh.wK l k).getD i 0 : Nat) : Int)) := fun i hi => by
     rw [hR.wO.getK i (by rw [row64_len _ (by omega)]; omega), row64_get _ _ (by omega)]
    have g16 := cell m16 (by omega)
    have g7 := cell m7 (by omega)
    have g15 := cell m15 (by omega)
    have g2 := cell m2 (by omega)
    have t16 := Sh.getD_lt hwlt m16
    have t7 := Sh.getD_lt hwlt m7
    have t15 := Sh.getD_lt hwlt m15
    have t2 := Sh.getD_lt hwlt m2
    have HNV : Hid (Sh.nextW (Sh.wK l k) = ((Sh.wK l k).getD m16 0 + (Sh.wK l k).getD m7 0 + Sh.sg0 ((Sh.wK l k).getD m15 0) + Sh.sg1 ((Sh.wK l k).getD m2 0)) % 4294967296) := by
     unfold Hid Sh.nextW
     rw [hwl, h16', h7', h15', h2']
    have HNX : Hid (∀ q, RdW w B h (Sh.wK l (k + 1)) ((wr.drewN q).setCell ⟨B + 1 + 1, k, none⟩ (.int .u32 ((Sh.nextW (Sh.wK l k) : Nat) : Int)))) := fun q => by
     have := (hR.drewN q).set (by rw [Sh.wK_len]; exact hlt) (Sh.nextW (Sh.wK l k))
     rw [Sh.wK_len] at this
     show RdW w B h (Sh.wK l k ++ [if k < 16 then Sh.word l (4 * k) else Sh.nextW (Sh.wK l k)]) _
     rw [if_neg h16]
     exact this
    rw [HNV.out] at HNX
    have n1 : m16 ≠ k := by omega
    have n2 : m7 ≠ k := by omega
    clear hR HRB cell hwl hwlt h16' h7' h15' h2' h16 HNV
    generalize (Sh.wK l k).getD m16 0 = a at *
    generalize (Sh.wK l k).getD m7 0 = d at *
    generalize (Sh.wK l k).getD m15 0 = x at *
    generalize (Sh.wK l k).getD m2 0 = y at *
    have HR7 := Lib.hid (fun w => rot7_any x w t15)
    have HR18 := Lib.hid (fun w => rot18_any x w t15)
    have HR17 := Lib.hid (fun w => rot17_any y w t2)
    have HR19 := Lib.hid (fun w => rot19_any y w t2)
    have u7 := Sh.rr_lt x 7 t15
    have u18 := Sh.rr_lt x 18 t15
    have u17 := Sh.rr_lt y 17 t2
    have u19 := Sh.rr_lt y 19 t2
    have us0 := Sh.sg0_lt x t15
    have us1 := Sh.sg1_lt y t2
    obtain ⟨p1, hp1⟩ : ∃ p, (a + d) % 4294967296 = p := ⟨_, rfl⟩
    obtain ⟨p2, hp2⟩ : ∃ p, (p1 + Sh.sg0 x) % 4294967296 = p := ⟨_, rfl⟩
    obtain ⟨p3, hp3⟩ : ∃ p, (p2 + Sh.sg1 y) % 4294967296 = p := ⟨_, rfl⟩
    have hpp : (a + d + Sh.sg0 x + Sh.sg1 y) % 4294967296 = p3 := by omega
    rw [hpp] at HNX
    have q1 := wrap32 a d p1 hp1
    have q2 := wrap32 p1 (Sh.sg0 x) p2 hp2
    have q3 := wrap32 p2 (Sh.sg1 y) p3 hp3
    have y1 := u32_xor_nat _ _ u7 u18
    have y2 : bits .xor .u32 ((Sh.rr x 7 ^^^ Sh.rr x 18 : Nat) : Int) ((x : Int) / 8) = ((Sh.sg0 x : Nat) : Int) := by
     have := u32_xor_nat _ _ (Sh.xor_lt u7 u18) (Sh.div_lt x 8 t15)
     have e : ((x / 8 : Nat) : Int) = (x : Int) / 8 := by omega
     rw [e] at this
     exact this
    have y3 := u32_xor_nat _ _ u17 u19
    have y4 : bits .xor .u32 ((Sh.rr y 17 ^^^ Sh.rr y 19 : Nat) : Int) ((y : Int) / 1024) = ((Sh.sg1 y : Nat) : Int) := by
     have := u32_xor_nat _ _ (Sh.xor_lt u17 u19) (Sh.div_lt y 1024 t2)
     have e : ((y / 1024 : Nat) : Int) = (y : Int) / 1024 := by omega
     rw [e] at this
     exact this
    have hp3lt : p3 < 4294967296 := by omega
    generalize Sh.rr x 7 ^^^ Sh.rr x 18 = z1 at *
    generalize Sh.rr y 17 ^^^ Sh.rr y 19 = z2 at *
    generalize Sh.sg0 x = s0 at *
    generalize Sh.sg1 y = s1 at *
    generalize Sh.rr x 7 = r7 at *
    generalize Sh.rr x 18 = r18 at *
    generalize Sh.rr y 17 = r17 at *
    generalize Sh.rr y 19 = r19 at *
    clear hp1 hp2 hp3 hpp
    go_wp2
    go_quiet (fail)
    go_wp2
    refine wp_region_held_drew (S := (fun wq => (wq.cell? ⟨B + 1 + 1, m16, none⟩ = some (.int .u32 (a : Int)) ∧ wq.cell? ⟨B + 1 + 1, m7, none⟩ = some (.int .u32 (d : Int))))) (by kernel_rfl) ⟨g16, g7⟩ (fun hHeld => ?_)
    refine tkH 0 ?_
    refine tkH 1 ?_
    refine tkH 2 ?_
    refine tkH 3 ?_
    refine tkH 4 ?_ (hy := by
     refine Or.inl ⟨by rfl, ?_⟩
     intro w' hSw
     obtain ⟨q2', q3'⟩ := hSw
     go_simp
     all_goals with_reducible rfl)
    refine tkH 5 ?_
    refine tkH 6 ?_
    refine tkH 7 ?_
    refine tkH 8 ?_ (hy := by
     refine Or.inl ⟨by rfl, ?_⟩
     intro w' hSw
     obtain ⟨q2', q3'⟩ := hSw
     go_simp
     all_goals with_reducible rfl)
    refine tkH 9 ?_
    refine tkH 10 ?_
    refine tkH 12 ?_
    refine tkH 15 ?_
    refine tkH 16 ?_
    refine tkH 19 ?_
    refine tkH 21 ?_
    refine tkH 24 ?_
    refine tkH 25 ?_
    refine onH 11 (fun KK hKK => ?_)
    go_simp
    refine (HR7.out _).mono ?_; rintro e wD ⟨rfl, rfl⟩
    try go_wp2_with fail
    refine hKK.out _ _ ?_ (fun hh1 => ?_)
    ·(try dsimp only)
     exact hHeld
    clear hKK KK
    try simp only [Act.put, setIfInBounds_toArray, set_cons_zero, set_cons_succ]
    refine onH 13 (fun KK hKK => ?_)
    go_simp
    refine (HR18.out _).mono ?_; rintro e wD ⟨rfl, rfl⟩
    try go_wp2_with fail
    refine hKK.out _ _ ?_ (fun hh2 => ?_)
    ·(try dsimp only)
     exact hHeld
    clear hKK KK
    try simp only [Act.put, setIfInBounds_toArray, set_cons_zero, set_cons_succ]
    refine tkH 14 ?_
    refine tkH 17 ?_
    refine tkH 18 ?_
    refine onH 20 (fun KK hKK => ?_)
    go_simp
    refine (HR17.out _).mono ?_; rintro e wD ⟨rfl, rfl⟩
    try go_wp2_with fail
    refine hKK.out _ _ ?_ (fun hh3 => ?_)
    ·(try dsimp only)
     exact hHeld
    clear hKK KK
    try simp only [Act.put, setIfInBounds_toArray, set_cons_zero, set_cons_succ]
    refine onH 22 (fun KK hKK => ?_)
    go_simp
    refine (HR19.out _).mono ?_; rintro e wD ⟨rfl, rfl⟩
    try go_wp2_with fail
    refine hKK.out _ _ ?_ (fun hh4 => ?_)
    ·(try dsimp only)
     exact hHeld
    clear hKK KK
    try simp only [Act.put, setIfInBounds_toArray, set_cons_zero, set_cons_succ]
    refine tkH 23 ?_
    refine tkH 26 ?_
    refine tkH 27 ?_
    refine tkH 28 ?_
    refine onH 29 (fun KK hKK => ?_)
    go_simp
    refine hKK.out _ _ ?_ (fun hh5 => ?_)
    ·(try dsimp only)
     exact ⟨set_far _ _ hHeld.1 n1, set_far _ _ hHeld.2 n2⟩
    clear hKK KK
    try simp only [Act.put, setIfInBounds_toArray, set_cons_zero, set_cons_succ]
    refine wpAnyH_done (by kernel_rfl) ?_ _
    go_wp2
    go_roundw
    case rel => exact ⟨k + 1, by omega, by go_num, HNX.out _⟩
    case measure => simp [intOf]; omega
  ·obtain rfl : k = 64 := by omega
   have HI := Lib.hid (size32x8 HH.out)
   have hwl : (Sh.wK l 64).length = 64 := Sh.wK_len l 64
   have hfull := row64_full _ hwl
   obtain ⟨Sb, hSb⟩ : ∃ Sb, wr.heap.size = Sb := ⟨_, rfl⟩
   have HR2 : Hid (R2 w B h (Sh.wK l 64) Sb h ((wr.alloc (.cells #[.int .u32 0, .int .u32 0, .int .u32 0, .int .u32 0, .int .u32 0, .int .u32 0, .int .u32 0, .int .u32 0] 112)).setRow Sb (cellsK .u32 h))) := by
    have hS : B + 1 + 1 < Sb := hSb ▸ hR.wO.lt
    have o := (hSb ▸ Obj.new wr 112 #[.int .u32 0, .int .u32 0, .int .u32 0, .int .u32 0, .int .u32 0, .int .u32 0, .int .u32 0, .int .u32 0] : Obj (wr.alloc (.cells #[.int .u32 0, .int .u32 0, .int .u32 0, .int .u32 0, .int .u32 0, .int .u32 0, .int .u32 0, .int .u32 0] 112)) Sb 112 #[.int .u32 0, .int .u32 0, .int .u32 0, .int .u32 0, .int .u32 0, .int .u32 0, .int .u32 0, .int .u32 0])
    have k1 := hR.kept ((Below.refl _ wr).alloc (Nat.le_refl _) (.cells #[.int .u32 0, .int .u32 0, .int .u32 0, .int .u32 0, .int .u32 0, .int .u32 0, .int .u32 0, .int .u32 0] 112))
    exact ⟨k1.upd ((Upd.refl Sb _).row _) hS, o.row _, hS⟩
   have HO8 : Hid (Obj (wr.alloc (.cells #[.int .u32 0, .int .u32 0, .int .u32 0, .int .u32 0, .int .u32 0, .int .u32 0, .int .u32 0, .int .u32 0] 112)) wr.heap.size 112 #[.int .u32 0, .int .u32 0, .int .u32 0, .int .u32 0, .int .u32 0, .int .u32 0, .int .u32 0, .int .u32 0]) := Obj.new wr _ _
   have HSB := Lib.hid hSb
   clear hR hwl hfull HRB hk hlt hSb
   go_wp2_with (first
    | (refine wpList_load_row rfl 112 (.tmp 2) rfl _ rfl _ _ _ _ HR.out.hO Tryd.underlying112 rfl HI.out ?_)
    | (refine wpList_store_row rfl 112 (.tmp 9) (.tmp 64) rfl _ _ rfl rfl _ _ HO8.out HI.out (by rw [cellsK_size, HH.out]; rfl) (one_cellsK _ _) ?_))
   rw [HSB.out]
   clear HO8 HSB HR
   go_loopw [65] (fun i wx => ∃ k : Nat, k ≤ 64 ∧ i = .int .i64 k ∧ R2 w B h (Sh.wK l 64) Sb (Sh.rK h l k) wx) (fun i _ => 64 - (intOf i).toNat)
   case atStart => exact ⟨0, by omega, rfl, HR2.out⟩
   case round =>
    clear HR2
    obtain ⟨k, hk, rfl, hR⟩ := hrel
    have HR := Lib.hid hR
    by_cases hlt : k < 64
    ·have hki : (k : Int) < 64 := by omega
     have hs8 := Sh.rK_len h l HH.out k
     have hslt := Sh.rK_lt h l HH2.out k
     have hwl : (Sh.wK l 64).length = 64 := Sh.wK_len l 64
     have hwlt := Sh.wK_lt l HBY.out 64
     have HS : Hid (∀ wq, R2 w B h (Sh.wK l 64) Sb (Sh.rK h l k) wq → wq.cell? ⟨Sb, 0, none⟩ = some (.int .u32 ((gt (Sh.rK h l k) 0 : Nat) : Int)) ∧ wq.cell? ⟨Sb, 1, none⟩ = some (.int .u32 ((gt (Sh.rK h l k) 1 : Nat) : Int)) ∧ wq.cell? ⟨Sb, 2, none⟩ = some (.int .u32 ((gt (Sh.rK h l k) 2 : Nat) : Int)) ∧ wq.cell? ⟨Sb, 3, none⟩ = some (.int .u32 ((gt (Sh.rK h l k) 3 : Nat) : Int)) ∧ wq.cell? ⟨Sb, 4, none⟩ = some (.int .u32 ((gt (Sh.rK h l k) 4 : Nat) : Int)) ∧ wq.cell? ⟨Sb, 5, none⟩ = some (.int .u32 ((gt (Sh.rK h l k) 5 : Nat) : Int)) ∧ wq.cell? ⟨Sb, 6, none⟩ = some (.int .u32 ((gt (Sh.rK h l k) 6 : Nat) : Int)) ∧ wq.cell? ⟨Sb, 7, none⟩ = some (.int .u32 ((gt (Sh.rK h l k) 7 : Nat) : Int)) ∧
       wq.cell? ⟨2, k, none⟩ = some (.int .u32 ((gt Sh.kz k : Nat) : Int)) ∧ wq.cell? ⟨B + 1 + 1, k, none⟩ = some (.int .u32 ((gt (Sh.wK l 64) k : Nat) : Int))) := fun wq q => by
      refine ⟨q.cell hs8 0 (by omega), q.cell hs8 1 (by omega), q.cell hs8 2 (by omega), q.cell hs8 3 (by omega), q.cell hs8 4 (by omega), q.cell hs8 5 (by omega), q.cell hs8 6 (by omega), q.cell hs8 7 (by omega), ?_, ?_⟩
      ·exact (HT.out.below (HB.out.symm ▸ q.rd.bel)).k k hlt
      ·have := q.rd.wO.getK k (by rw [row64_full _ hwl, hwl]; exact hlt)
       rw [row64_full _ hwl] at this
       exact this
     have HNX : Hid (∀ wq, R2 w B h (Sh.wK l 64) Sb (Sh.rK h l k) wq → R2 w B h (Sh.wK l 64) Sb (Sh.rK h l (k + 1)) (wq.setRow Sb #[.int .u32 (((Sh.one (Sh.rK h l k) (Sh.kz.getD k 0) ((Sh.wK l 64).getD k 0) + Sh.two (Sh.rK h l k)) % 4294967296 : Nat) : Int), .int .u32 ((gt (Sh.rK h l k) 0 : Nat) : Int), .int .u32 ((gt (Sh.rK h l k) 1 : Nat) : Int), .int .u32 ((gt (Sh.rK h l k) 2 : Nat) : Int), .int .u32 (((gt (Sh.rK h l k) 3 + Sh.one (Sh.rK h l k) (Sh.kz.getD k 0) ((Sh.wK l 64).getD k 0)) % 4294967296 : Nat) : Int), .int .u32 ((gt (Sh.rK h l k) 4 : Nat) : Int), .int .u32 ((gt (Sh.rK h l k) 5 : Nat) : Int), .int .u32 ((gt (Sh.rK h l k) 6 : Nat) : Int)])) := fun wq q =>
      ⟨q.rd.upd ((Upd.refl Sb _).row _) q.sb, (q.sO.row _).as rfl, q.sb⟩
     have HONE : Hid (Sh.one (Sh.rK h l k) (Sh.kz.getD k 0) ((Sh.wK l 64).getD k 0) = (gt (Sh.rK h l k) 7 + Sh.mix (gt (Sh.rK h l k) 4) 6 11 25 + Sh.ch (gt (Sh.rK h l k) 4) (gt (Sh.rK h l k) 5) (gt (Sh.rK h l k) 6) + gt Sh.kz k + gt (Sh.wK l 64) k) % 4294967296) := rfl
     have HTWO : Hid (Sh.two (Sh.rK h l k) = (Sh.mix (gt (Sh.rK h l k) 0) 2 13 22 + Sh.maj (gt (Sh.rK h l k) 0) (gt (Sh.rK h l k) 1) (gt (Sh.rK h l k) 2)) % 4294967296) := rfl
     have HOB := Lib.hid (fun wq (q : R2 w B h (Sh.wK l 64) Sb (Sh.rK h l k) wq) => q.sO)
     have l0 := gt_lt hslt 0
     have l1 := gt_lt hslt 1
     have l2 := gt_lt hslt 2
     have l3 := gt_lt hslt 3
     have l4 := gt_lt hslt 4
     have l5 := gt_lt hslt 5
     have l6 := gt_lt hslt 6
     have l7 := gt_lt hslt 7
     have lk := gt_lt Sh.kz_lt.2 k
     have lw := gt_lt hwlt k
     have HS8 := Lib.hid hs8
     clear hs8 hslt hwl hwlt hR
     generalize Sh.one (Sh.rK h l k) (Sh.kz.getD k 0) ((Sh.wK l 64).getD k 0) = p4 at *
     generalize Sh.two (Sh.rK h l k) = p5 at *
     generalize hst : Sh.rK h l k = st at *
     generalize Sh.wK l 64 = W64 at *
     have HST := Lib.hid hst
     clear hst
     generalize gt st 0 = a0 at *
     generalize gt st 1 = a1 at *
     generalize gt st 2 = a2 at *
     generalize gt st 3 = a3 at *
     generalize gt st 4 = a4 at *
     generalize gt st 5 = a5 at *
     generalize gt st 6 = a6 at *
     generalize gt st 7 = a7 at *
     generalize gt Sh.kz k = kk at *
     generalize gt W64 k = ww at *
     have hx1 := Sh.mix_lt a4 6 11 25 l4
     have hx2 := Sh.mix_lt a0 2 13 22 l0
     have HMA := Lib.hid (fun wq => mixA_any a4 wq l4)
     have HMB := Lib.hid (fun wq => mixB_any a0 wq l0)
     generalize Sh.mix a4 6 11 25 = x1 at *
     generalize Sh.mix a0 2 13 22 = x2 at *
     have hch := Sh.ch_lt a4 a5 a6 l5 l6
     have hmj := Sh.maj_lt a0 a1 a2 l0 l1
     obtain ⟨p1, hp1⟩ : ∃ p, (a7 + x1) % 4294967296 = p := ⟨_, rfl⟩
     obtain ⟨p2, hp2⟩ : ∃ p, (p1 + Sh.ch a4 a5 a6) % 4294967296 = p := ⟨_, rfl⟩
     obtain ⟨p3, hp3⟩ : ∃ p, (p2 + kk) % 4294967296 = p := ⟨_, rfl⟩
     have hp4 : (p3 + ww) % 4294967296 = p4 := by rw [HONE.out]; omega
     have hp5 : (x2 + Sh.maj a0 a1 a2) % 4294967296 = p5 := HTWO.out.symm
     obtain ⟨v0, hv0⟩ : ∃ p, (p4 + p5) % 4294967296 = p := ⟨_, rfl⟩
     obtain ⟨v4, hv4⟩ : ∃ p, (a3 + p4) % 4294967296 = p := ⟨_, rfl⟩
     rw [hv0, hv4] at HNX
     have e1 := wrap32 a7 x1 p1 hp1
     have e2 := wrap32 p1 (Sh.ch a4 a5 a6) p2 hp2
     have e3 := wrap32 p2 kk p3 hp3
     have e4 := wrap32 p3 ww p4 hp4
     have e5 := wrap32 x2 (Sh.maj a0 a1 a2) p5 hp5
     have e6 := wrap32 p4 p5 v0 hv0
     have e7 := wrap32 a3 p4 v4 hv4
     have b1 := u32_xor_nat a5 a6 l5 l6
     have b2 := u32_and_nat a4 (a5 ^^^ a6) l4 (Sh.xor_lt l5 l6)
     have b3 : bits .xor .u32 (a6 : Int) ((a4 &&& (a5 ^^^ a6) : Nat) : Int) = ((Sh.ch a4 a5 a6 : Nat) : Int) := u32_xor_nat a6 _ l6 (Sh.and_lt (Sh.xor_lt l5 l6))
     have b4 := u32_and_nat a0 a1 l0 l1
     have b5 := u32_or_nat a0 a1 l0 l1
     have b6 := u32_and_nat a2 (a0 ||| a1) l2 (Sh.or_lt l0 l1)
     have b7 : bits .or .u32 ((a0 &&& a1 : Nat) : Int) ((a2 &&& (a0 ||| a1) : Nat) : Int) = ((Sh.maj a0 a1 a2 : Nat) : Int) := u32_or_nat _ _ (Sh.and_lt l1) (Sh.and_lt (Sh.or_lt l0 l1))
     generalize Sh.ch a4 a5 a6 = c1 at *
     generalize Sh.maj a0 a1 a2 = m1 at *
     generalize a4 &&& (a5 ^^^ a6) = z2 at *
     generalize a5 ^^^ a6 = z1 at *
     generalize a2 &&& (a0 ||| a1) = z5 at *
     generalize a0 ||| a1 = z4 at *
     generalize a0 &&& a1 = z3 at *
     clear hp1 hp2 hp3 hp4 hp5 hv0 hv4 HONE HTWO
     go_wp2
     refine wp_region_held_drew (S := (fun wq => R2 w B h W64 Sb st wq)) (by kernel_rfl) (HR.out.drewN 1) (fun hHeld => ?_)
     refine tkH 0 ?_
     refine tkH 1 ?_ (hy := by
      refine Or.inl ⟨by rfl, ?_⟩
      intro w' hSw
      obtain ⟨d0, d1, d2, d3, d4, d5, d6, d7, dk, dw⟩ := HS.out w' hSw
      go_simp
      all_goals with_reducible rfl)
     refine tkH 2 ?_
     refine tkH 3 ?_ (hy := by
      refine Or.inl ⟨by rfl, ?_⟩
      intro w' hSw
      obtain ⟨d0, d1, d2, d3, d4, d5, d6, d7, dk, dw⟩ := HS.out w' hSw
      go_simp
      all_goals with_reducible rfl)
     refine tkH 4 ?_
     refine tkH 7 ?_
     refine tkH 8 ?_ (hy := by
      refine Or.inl ⟨by rfl, ?_⟩
      intro w' hSw
      obtain ⟨d0, d1, d2, d3, d4, d5, d6, d7, dk, dw⟩ := HS.out w' hSw
      go_simp
      all_goals with_reducible rfl)
     refine tkH 9 ?_
     refine tkH 10 ?_ (hy := by
      refine Or.inl ⟨by rfl, ?_⟩
      intro w' hSw
      obtain ⟨d0, d1, d2, d3, d4, d5, d6, d7, dk, dw⟩ := HS.out w' hSw
      go_simp
      all_goals with_reducible rfl)
     refine tkH 11 ?_
     refine tkH 12 ?_ (hy := by
      refine Or.inl ⟨by rfl, ?_⟩
      intro w' hSw
      obtain ⟨d0, d1, d2, d3, d4, d5, d6, d7, dk, dw⟩ := HS.out w' hSw
      go_simp
      all_goals with_reducible rfl)
     refine tkH 13 ?_
     refine tkH 14 ?_ (hy := by
      refine Or.inl ⟨by rfl, ?_⟩
      intro w' hSw
      obtain ⟨d0, d1, d2, d3, d4, d5, d6, d7, dk, dw⟩ := HS.out w' hSw
      go_simp
      all_goals with_reducible rfl)
     refine tkH 15 ?_
     refine tkH 16 ?_
     refine tkH 17 ?_
     refine tkH 19 ?_
     refine tkH 20 ?_
     refine tkH 21 ?_ (hy := by
      refine Or.inl ⟨by rfl, ?_⟩
      intro w' hSw
      obtain ⟨d0, d1, d2, d3, d4, d5, d6, d7, dk, dw⟩ := HS.out w' hSw
      go_simp
      all_goals with_reducible rfl)
     refine tkH 23 ?_
     refine tkH 24 ?_
     refine tkH 25 ?_ (hy := by
      refine Or.inl ⟨by rfl, ?_⟩
      intro w' hSw
      obtain ⟨d0, d1, d2, d3, d4, d5, d6, d7, dk, dw⟩ := HS.out w' hSw
      go_simp
      all_goals with_reducible rfl)
     refine onH 5 (fun KK hKK => ?_)
     go_simp
     refine (HMA.out _).mono ?_; rintro e wD ⟨rfl, hbm⟩
     try go_wp2_with fail
     refine hKK.out _ _ ?_ (fun hh1 => ?_)
     ·(try dsimp only)
      exact hHeld.kept hbm
     clear hKK KK
     try simp only [Act.put, setIfInBounds_toArray, set_cons_zero, set_cons_succ]
     refine tkH 6 ?_
     refine tkH 18 ?_
     refine tkH 22 ?_
     refine tkH 26 ?_
     refine tkH 27 ?_
     refine wpAnyH_done (by kernel_rfl) ?_ _
     have HRa := Lib.hid hh1
     clear hHeld hh1 hbm HR
     try go_wp2
     refine wp_region_held_drew (S := (fun wq => R2 w B h W64 Sb st wq)) (by kernel_rfl) (HRa.out.drewN 1) (fun hHeld => ?_)
     refine tkH 0 ?_
     refine tkH 1 ?_ (hy := by
      refine Or.inl ⟨by rfl, ?_⟩
      intro w' hSw
      obtain ⟨d0, d1, d2, d3, d4, d5, d6, d7, dk, dw⟩ := HS.out w' hSw
      go_simp
      all_goals with_reducible rfl)
     refine tkH 2 ?_
     refine tkH 4 ?_
     refine tkH 5 ?_ (hy := by
      refine Or.inl ⟨by rfl, ?_⟩
      intro w' hSw
      obtain ⟨d0, d1, d2, d3, d4, d5, d6, d7, dk, dw⟩ := HS.out w' hSw
      go_simp
      all_goals with_reducible rfl)
     refine tkH 6 ?_
     refine tkH 7 ?_ (hy := by
      refine Or.inl ⟨by rfl, ?_⟩
      intro w' hSw
      obtain ⟨d0, d1, d2, d3, d4, d5, d6, d7, dk, dw⟩ := HS.out w' hSw
      go_simp
      all_goals with_reducible rfl)
     refine tkH 8 ?_
     refine tkH 9 ?_
     refine tkH 10 ?_ (hy := by
      refine Or.inl ⟨by rfl, ?_⟩
      intro w' hSw
      obtain ⟨d0, d1, d2, d3, d4, d5, d6, d7, dk, dw⟩ := HS.out w' hSw
      go_simp
      all_goals with_reducible rfl)
     refine tkH 11 ?_
     refine tkH 12 ?_ (hy := by
      refine Or.inl ⟨by rfl, ?_⟩
      intro w' hSw
      obtain ⟨d0, d1, d2, d3, d4, d5, d6, d7, dk, dw⟩ := HS.out w' hSw
      go_simp
      all_goals with_reducible rfl)
     refine tkH 13 ?_
     refine tkH 14 ?_ (hy := by
      refine Or.inl ⟨by rfl, ?_⟩
      intro w' hSw
      obtain ⟨d0, d1, d2, d3, d4, d5, d6, d7, dk, dw⟩ := HS.out w' hSw
      go_simp
      all_goals with_reducible rfl)
     refine tkH 15 ?_
     refine tkH 16 ?_
     refine tkH 17 ?_
     refine onH 3 (fun KK hKK => ?_)
     go_simp
     refine (HMB.out _).mono ?_; rintro e wD ⟨rfl, hbm⟩
     try go_wp2_with fail
     refine hKK.out _ _ ?_ (fun hh1 => ?_)
     ·(try dsimp only)
      exact hHeld.kept hbm
     clear hKK KK
     try simp only [Act.put, setIfInBounds_toArray, set_cons_zero, set_cons_succ]
     refine tkH 18 ?_
     refine tkH 19 ?_
     refine wpAnyH_done (by kernel_rfl) ?_ _
     have HRb := Lib.hid hh1
     obtain ⟨d0, d1, d2, d3, d4, d5, d6, d7, dk, dw⟩ := HS.out _ hh1
     clear hHeld hh1 hbm HRa
     go_wp2_with (refine wpList_store8 rfl (.tmp 9) (.tmp 133) rfl Sb _ _ _ _ _ _ _ _ rfl rfl st (HOB.out _ HRb.out) HS8.out ?_)
     go_roundw
     case rel => exact ⟨k + 1, by omega, by go_num, HNX.out _ HRb.out⟩
     case measure => simp [intOf]; omega
    ·obtain rfl : k = 64 := by omega
     rw [show ((64 : Nat) : Int) = 64 from rfl]
     have H3 : Hid (R3 w B Sb h (Sh.rK h l 64) 0 wr) := ⟨by rw [sumK_zero _ _ HH.out]; exact hR.rd.hO, hR.rd.rO, hR.sO, hR.sb, hR.rd.bel⟩
     have HF := Lib.hid (sumK_full h l)
     have hs8 := Lib.hid (Sh.rK_len h l HH.out 64)
     clear hR HR hk hlt
     generalize Sh.rK h l 64 = st at *
     go_wp2
     go_loopw [135] (fun i wx => ∃ k : Nat, k ≤ 8 ∧ i = .int .i64 k ∧ R3 w B Sb h st k wx) (fun i _ => 8 - (intOf i).toNat)
     case atStart => exact ⟨0, by omega, rfl, H3.out⟩
     case round =>
      clear H3
      obtain ⟨k, hk, rfl, hR⟩ := hrel
      have HR := Lib.hid hR
      by_cases hlt : k < 8
      ·have hki : (k : Int) < 8 := by omega
       have g0 : wr.cell? ⟨B, k, none⟩ = some (.int .u32 ((gt h k : Nat) : Int)) := by
        rw [hR.hO.getK k (by rw [sumK_len]; exact hlt), sumK_get _ _ _ _ hlt, if_neg (by omega)]
       have g1 : wr.cell? ⟨Sb, k, none⟩ = some (.int .u32 ((gt st k : Nat) : Int)) := hR.sO.getK k (by rw [hs8.out]; exact hlt)
       have z0 := hR.hO.free k
       have HNX := Lib.hid ((hR.set hlt).drewN 1)
       clear hR
       generalize gt h k = x0 at *
       generalize gt st k = x1 at *
       obtain ⟨v, hv⟩ : ∃ v, (x0 + x1) % 4294967296 = v := ⟨_, rfl⟩
       rw [hv] at HNX
       have e1 := wrap32 x0 x1 v hv
       clear hv
       go_wp2
       refine wp_region_T 8 (fun wq => wq.cell? ⟨B, k, none⟩ = some (.int .u32 (x0 : Int)) ∧ wq.cell? ⟨Sb, k, none⟩ = some (.int .u32 (x1 : Int))) (by kernel_rfl) ⟨g0, g1⟩ (fun hHeld => ?_)
       refine wpAnyT_take (i := 0) (oi := ?_) (v := ?_) ?_ ?_ ?_ ?_ ?_ ?_ ?_ (by assumption) ?_
       rotate_left 2
       ·simp only [getElem?_toArray, getElem?_cons_zero, getElem?_cons_succ]
        rfl
       ·kernel_rfl
       ·kernel_rfl
       ·kernel_rfl
       ·kernel_rfl
       ·exact fun _ _ _ h => h
       ·refine Or.inl ⟨by rfl, ?_⟩
        intro w hSw
        (try dsimp only at hSw)
        go_simp
        all_goals with_reducible rfl
       simp only [Act.put, setIfInBounds_toArray, set_cons_zero, set_cons_succ]
       refine wpAnyT_take (i := 1) (oi := ?_) (v := ?_) ?_ ?_ ?_ ?_ ?_ ?_ ?_ (by assumption) ?_
       rotate_left 2
       ·simp only [getElem?_toArray, getElem?_cons_zero, getElem?_cons_succ]
        rfl
       ·kernel_rfl
       ·kernel_rfl
       ·kernel_rfl
       ·kernel_rfl
       ·exact fun _ _ _ h => h
       ·refine Or.inl ⟨by rfl, ?_⟩
        intro w hSw
        (try dsimp only at hSw)
        go_simp
        all_goals with_reducible rfl
       simp only [Act.put, setIfInBounds_toArray, set_cons_zero, set_cons_succ]
       refine wpAnyT_take (i := 2) (oi := ?_) (v := ?_) ?_ ?_ ?_ ?_ ?_ ?_ ?_ (by assumption) ?_
       rotate_left 2
       ·simp only [getElem?_toArray, getElem?_cons_zero, getElem?_cons_succ]
        rfl
       ·kernel_rfl
       ·kernel_rfl
       ·kernel_rfl
       ·kernel_rfl
       ·exact fun _ _ _ h => h
       ·refine Or.inl ⟨by rfl, ?_⟩
        intro w' hSw
        obtain ⟨d0, d1⟩ := hSw
        go_simp
        all_goals with_reducible rfl
       simp only [Act.put, setIfInBounds_toArray, set_cons_zero, set_cons_succ]
       refine wpAnyT_take (i := 3) (oi := ?_) (v := ?_) ?_ ?_ ?_ ?_ ?_ ?_ ?_ (by assumption) ?_
       rotate_left 2
       ·simp only [getElem?_toArray, getElem?_cons_zero, getElem?_cons_succ]
        rfl
       ·kernel_rfl
       ·kernel_rfl
       ·kernel_rfl
       ·kernel_rfl
       ·exact fun _ _ _ h => h
       ·refine Or.inl ⟨by rfl, ?_⟩
        intro w hSw
        (try dsimp only at hSw)
        go_simp
        all_goals with_reducible rfl
       simp only [Act.put, setIfInBounds_toArray, set_cons_zero, set_cons_succ]
       refine wpAnyT_take (i := 4) (oi := ?_) (v := ?_) ?_ ?_ ?_ ?_ ?_ ?_ ?_ (by assumption) ?_
       rotate_left 2
       ·simp only [getElem?_toArray, getElem?_cons_zero, getElem?_cons_succ]
        rfl
       ·kernel_rfl
       ·kernel_rfl
       ·kernel_rfl
       ·kernel_rfl
       ·exact fun _ _ _ h => h
       ·refine Or.inl ⟨by rfl, ?_⟩
        intro w hSw
        (try dsimp only at hSw)
        go_simp
        all_goals with_reducible rfl
       simp only [Act.put, setIfInBounds_toArray, set_cons_zero, set_cons_succ]
       refine wpAnyT_take (i := 5) (oi := ?_) (v := ?_) ?_ ?_ ?_ ?_ ?_ ?_ ?_ (by assumption) ?_
       rotate_left 2
       ·simp only [getElem?_toArray, getElem?_cons_zero, getElem?_cons_succ]
        rfl
       ·kernel_rfl
       ·kernel_rfl
       ·kernel_rfl
       ·kernel_rfl
       ·exact fun _ _ _ h => h
       ·refine Or.inl ⟨by rfl, ?_⟩
        intro w' hSw
        obtain ⟨d0, d1⟩ := hSw
        go_simp
        all_goals with_reducible rfl
       simp only [Act.put, setIfInBounds_toArray, set_cons_zero, set_cons_succ]
       refine wpAnyT_take (i := 6) (oi := ?_) (v := ?_) ?_ ?_ ?_ ?_ ?_ ?_ ?_ (by assumption) ?_
       rotate_left 2
       ·simp only [getElem?_toArray, getElem?_cons_zero, getElem?_cons_succ]
        rfl
       ·kernel_rfl
       ·kernel_rfl
       ·kernel_rfl
       ·kernel_rfl
       ·exact fun _ _ _ h => h
       ·refine Or.inl ⟨by rfl, ?_⟩
        intro w hSw
        (try dsimp only at hSw)
        go_simp
        all_goals with_reducible rfl
       simp only [Act.put, setIfInBounds_toArray, set_cons_zero, set_cons_succ]
       refine wpAnyT_take (i := 7) (oi := ?_) (v := ?_) ?_ ?_ ?_ ?_ ?_ ?_ ?_ (by assumption) ?_
       rotate_left 2
       ·simp only [getElem?_toArray, getElem?_cons_zero, getElem?_cons_succ]
        rfl
       ·kernel_rfl
       ·kernel_rfl
       ·kernel_rfl
       ·kernel_rfl
       ·exact fun _ _ _ h => h
       ·refine Or.inl ⟨by rfl, ?_⟩
        intro w hSw
        (try dsimp only at hSw)
        go_simp
        all_goals with_reducible rfl
       simp only [Act.put, setIfInBounds_toArray, set_cons_zero, set_cons_succ]
       refine wpAnyT_last (o := ?_) (by kernel_rfl) ?_ (fun KK hKK => ?_)
       rotate_left
       ·simp only [getElem?_toArray, getElem?_cons_zero, getElem?_cons_succ]
        rfl
       go_simp
       refine hKK.out _ _ ?_
       clear hKK KK
       try simp only [Act.put, setIfInBounds_toArray, set_cons_zero, set_cons_succ]
       refine wpAnyT_done (by kernel_rfl) ?_ _
       go_wp2
       go_roundw
       case rel => exact ⟨k + 1, by omega, by go_num, HNX.out⟩
       case measure => simp [intOf]; omega
      ·obtain rfl : k = 8 := by omega
       have HI := Lib.hid (size32x8 (Sh.turn_len h l))
       have HO : Hid (Obj wr B 112 (cellsK .u32 (Sh.turn h l))) := by have := hR.hO; rw [HF.out] at this; exact this
       have HZ := Lib.hid hR.rO
       have HTL := Lib.hid (Sh.turn_len h l)
       have HBE := Lib.hid hR.bel
       clear hR HR
       go_wp2_with (first
        | (refine wpList_load_row rfl 112 (.tmp 2) rfl _ rfl _ _ _ _ HO.out Tryd.underlying112 rfl HI.out ?_)
        | (refine wpList_store_row rfl 112 (.tmp 4) (.tmp 147) rfl _ _ rfl rfl _ _ HZ.out HI.out (by rw [cellsK_size, cellsK_size, HTL.out]; simp) (one_cellsK _ _) ?_))
       exact bodyPost_ret (v := .agg (cellsK .u32 (Sh.turn h l))) (results_cell_row rfl _ _ _ _ _ _ _ rfl (HZ.out.row _) Tryd.underlying112 rfl HI.out) rfl ⟨rfl, by rw [HB.out]; exact row_below HBE.out HZ.out.lt _⟩
end Go.Proofs.YtabfcaidioohfaaDoor
namespace Go.Proofs.YtabfcaidioohfaaDoor
open List (getElem?_toArray getElem?_cons_zero getElem?_cons_succ setIfInBounds_toArray set_cons_zero set_cons_succ)
set_option maxRecDepth 100000
open Go.RowKit
set_option linter.unusedVariables false
set_option linter.unusedSimpArgs false
theorem set_farU {w : World} {b i j : Nat} (v u : Value) (h : w.cell? ⟨b, i, none⟩ = some u) (hne : i ≠ j) : (w.setCell ⟨b, j, none⟩ v).cell? ⟨b, i, none⟩ = some u :=
 (World.cell?_setCell_other _ _ _ _ (by intro e; cases e; exact hne rfl)).trans h
theorem set_farB {w : World} {b c i j : Nat} (v u : Value) (h : w.cell? ⟨b, i, none⟩ = some u) (hne : b ≠ c) : (w.setCell ⟨c, j, none⟩ v).cell? ⟨b, i, none⟩ = some u :=
 (World.cell?_setCell_other _ _ _ _ (by intro e; cases e; exact hne rfl)).trans h
/-- Turn's blocks. -/
structure RdU (w0 : World) (B : Nat) (h : List Nat) (l : List Nat) (w : World) : Prop where
 hO : Obj w B 112 (cellsK .u32 h)
 rO : Obj w (B + 1) 112 (cellsK .u32 (List.replicate 8 0))
 wO : Obj w (B + 1 + 1) 131 (cellsK .u64 (row64 l))
 bel : Below B w0 w
theorem RdU.drewN {w0 w : World} {B : Nat} {h l : List Nat} (q : RdU w0 B h l w) (n : Nat) : RdU w0 B h l (w.drewN n) := ⟨q.hO, q.rO, q.wO, ⟨q.bel.os, q.bel.tape, q.bel.output, q.bel.size, q.bel.block⟩⟩
theorem RdU.set {w0 w : World} {B : Nat} {h l : List Nat} (q : RdU w0 B h l w) (hl : l.length < 64) (v : Nat) : RdU w0 B h (l ++ [v]) (w.setCell ⟨B + 1 + 1, l.length, none⟩ (.int .u64 ((v : Nat) : Int))) := by
 have hu : Upd (B + 1 + 1) w (w.setCell ⟨B + 1 + 1, l.length, none⟩ (.int .u64 ((v : Nat) : Int))) := (Upd.refl _ w).set _ _
 refine ⟨q.hO.upd hu (by omega), q.rO.upd hu (by omega), ?_, ⟨hu.os.trans q.bel.os, hu.tape.trans q.bel.tape, hu.output.trans q.bel.output, Nat.le_trans q.bel.size hu.size, fun k hk => (hu.block k (by have := q.hO.lt; omega) (by omega)).trans (q.bel.block k hk)⟩⟩
 rw [← row64_set l v hl]
 exact q.wO.setK l.length v
theorem RdU.kept {w0 w w' : World} {B : Nat} {h l : List Nat} (q : RdU w0 B h l w) (hb : Below w.heap.size w w') : RdU w0 B h l w' := ⟨q.hO.kept hb, q.rO.kept hb, q.wO.kept hb, q.bel.trans (hb.mono (Nat.le_of_lt q.hO.lt))⟩
theorem RdU.upd {w0 w w' : World} {B b : Nat} {h l : List Nat} (q : RdU w0 B h l w) (hu : Upd b w w') (hb : B + 1 + 1 < b) : RdU w0 B h l w' :=
 ⟨q.hO.upd hu (by omega), q.rO.upd hu (by omega), q.wO.upd hu (by omega), ⟨hu.os.trans q.bel.os, hu.tape.trans q.bel.tape, hu.output.trans q.bel.output, Nat.le_trans q.bel.size hu.size, fun k hk => (hu.block k (by have := q.hO.lt; omega) (by omega)).trans (q.bel.block k hk)⟩⟩
/-- Turn's blocks and its state's. -/
structure U2 (w0 : World) (B : Nat) (h l : List Nat) (Sb : Nat) (s : List Nat) (w : World) : Prop where
 rd : RdU w0 B h l w
 sO : Obj w Sb 133 (cellsK .u64 s)
 sb : B + 1 + 1 < Sb
theorem U2.drewN {w0 w : World} {B Sb : Nat} {h l s : List Nat} (q : U2 w0 B h l Sb s w) (n : Nat) : U2 w0 B h l Sb s (w.drewN n) := ⟨q.rd.drewN n, q.sO.drewN n, q.sb⟩
theorem U2.cell {w0 w : World} {B Sb : Nat} {h l s : List Nat} (q : U2 w0 B h l Sb s w) (hs : s.length = 8) (i : Nat) (hi : i < 8) : w.cell? ⟨Sb, i, none⟩ = some (.int .u64 ((gt s i : Nat) : Int)) := q.sO.getK i (by omega)
/-- The state's words so far. -/
def row8 (h : List Nat) (k : Nat) : List Nat := h.take k ++ List.replicate (8 - k) 0
theorem row8_zero (h : List Nat) : row8 h 0 = List.replicate 8 0 := rfl
theorem row8_len (h : List Nat) (k : Nat) (hh : h.length = 8) (hk : k ≤ 8) : (row8 h k).length = 8 := by unfold row8; rw [List.length_append, List.length_take, List.length_replicate]; omega
theorem row8_full (h : List Nat) (hh : h.length = 8) : row8 h 8 = h := by unfold row8; rw [List.take_of_length_le (by omega)]; simp
theorem row8_set (h : List Nat) (k : Nat) (hh : h.length = 8) (hk : k < 8) : (row8 h k).set k (gt h k) = row8 h (k + 1) := by
 unfold row8 gt
 have hl : (h.take k).length = k := by rw [List.length_take]; omega
 rw [List.set_append_right _ _ (by omega), hl, Nat.sub_self]
 obtain ⟨m, hm⟩ : ∃ m, 8 - k = m + 1 := ⟨8 - k - 1, by omega⟩
 rw [hm, show 8 - (k + 1) = m by omega, List.replicate_succ, set_cons_zero, List.take_succ_eq_append_getElem (by omega), List.append_assoc, List.getD_eq_getElem?_getD, List.getElem?_eq_getElem (by omega)]
 rfl
theorem U2.set {w0 w : World} {B Sb k : Nat} {h l : List Nat} (q : U2 w0 B h l Sb (row8 h k) w) (hh : h.length = 8) (hk : k < 8) : U2 w0 B h l Sb (row8 h (k + 1)) (w.setCell ⟨Sb, k, none⟩ (.int .u64 ((gt h k : Nat) : Int))) := by
 refine ⟨q.rd.upd ((Upd.refl Sb _).set _ _) q.sb, ?_, q.sb⟩
 rw [← row8_set h k hh hk]
 exact q.sO.setK k _
theorem wpList_store8u {ops : Array Oper} {rest : List Oper} {o : Oper} {a : Act} {w : World} {Q : Exit → Act → World → Prop} (hgd : o.guard = none) (x y : Operand) (ho : o.op = .store 133 x y)
  (g : Nat) (v0 v1 v2 v3 v4 v5 v6 v7 : Int) (hx : a.eval x = .pointer (some ⟨g, 0, none⟩)) (hy : a.eval y = .agg #[.int .u64 v0, .int .u64 v1, .int .u64 v2, .int .u64 v3, .int .u64 v4, .int .u64 v5, .int .u64 v6, .int .u64 v7]) (st : List Nat) (hO : Obj w g 133 (cellsK .u64 st)) (hl : st.length = 8)
  (h : wpList Tryd.prog ops Q rest (a.put o.dst undef) (w.setRow g #[.int .u64 v0, .int .u64 v1, .int .u64 v2, .int .u64 v3, .int .u64 v4, .int .u64 v5, .int .u64 v6, .int .u64 v7])) : wpList Tryd.prog ops Q (o :: rest) a w :=
 wpList_store_row hgd 133 x y ho g #[.int .u64 v0, .int .u64 v1, .int .u64 v2, .int .u64 v3, .int .u64 v4, .int .u64 v5, .int .u64 v6, .int .u64 v7] hx hy 133 _ hO info64x8 (by rw [cellsK_size, hl]; rfl) (by simp [Value.oneCell']) h
/-- Turn's last blocks. -/
structure U3 (w0 : World) (B Sb : Nat) (h s : List Nat) (k : Nat) (w : World) : Prop where
 hO : Obj w B 112 (cellsK .u32 (sumK h s k))
 rO : Obj w (B + 1) 112 (cellsK .u32 (List.replicate 8 0))
 sO : Obj w Sb 133 (cellsK .u64 s)
 sb : B + 1 + 1 < Sb
 bel : Below B w0 w
theorem U3.drewN {w0 w : World} {B Sb k : Nat} {h s : List Nat} (q : U3 w0 B Sb h s k w) (n : Nat) : U3 w0 B Sb h s k (w.drewN n) := ⟨q.hO, q.rO, q.sO, q.sb, ⟨q.bel.os, q.bel.tape, q.bel.output, q.bel.size, q.bel.block⟩⟩
theorem U3.set {w0 w : World} {B Sb k : Nat} {h s : List Nat} (q : U3 w0 B Sb h s k w) (hk : k < 8) : U3 w0 B Sb h s (k + 1) (w.setCell ⟨B, k, none⟩ (.int .u32 (((gt h k + gt s k) % 4294967296 : Nat) : Int))) := by
 have hu : Upd B w (w.setCell ⟨B, k, none⟩ (.int .u32 (((gt h k + gt s k) % 4294967296 : Nat) : Int))) := (Upd.refl _ w).set _ _
 have hsb := q.sb
 refine ⟨?_, q.rO.upd hu (by omega), q.sO.upd hu (by omega), q.sb, ⟨hu.os.trans q.bel.os, hu.tape.trans q.bel.tape, hu.output.trans q.bel.output, Nat.le_trans q.bel.size hu.size, fun j hj => (hu.block j (by have := q.hO.lt; omega) (by omega)).trans (q.bel.block j hj)⟩⟩
 rw [← sumK_set h s k hk]
 exact q.hO.setK k _
theorem wrap64u (a b c : Nat) (h : a + b = c) (hc : c < 18446744073709551616) : IntKind.u64.wrap ((a : Int) + (b : Int)) = (c : Int) := by rw [IntKind.wrap_u64]; omega
theorem up32 {a : Nat} (h : a < 4294967296) : a < 18446744073709551616 := Nat.lt_trans h (by decide)
set_option maxRecDepth 100000 in
set_option maxHeartbeats 16000000 in
theorem h_turn_any (h : List Nat) (A : Option Addr) (c : Nat) (l : List Nat) (w : World) (ht : Tabs w) (hh : h.length = 8) (hh2 : ∀ x ∈ h, x < 4294967296) (hA : Rb w A l) (hl : l.length = 64) (hb : ∀ x ∈ l, x < 256) (hc : 64 ≤ c ∧ c ≤ maxLen) :
  Calls Tryd.prog 77 #[.agg (cellsK .u32 h), .slice A 64 c] w fun e w' => e = .returned (.agg (cellsK .u32 (Sh.turn h l))) ∧ Below w.heap.size w w' := by
 obtain ⟨B, hB⟩ : ∃ B, w.heap.size = B := ⟨_, rfl⟩
 obtain ⟨bb, oo, rfl, hbb, hcell⟩ := hA (by omega)
 have hz := (zero_of_info zero64u).1
 have HW0 : Hid (RdU w B h [] (((w.alloc (.cells (cellsK .u32 h) 112)).alloc (.cells #[.int .u32 0, .int .u32 0, .int .u32 0, .int .u32 0, .int .u32 0, .int .u32 0, .int .u32 0, .int .u32 0] 112)).alloc (.cells (cellsK .u64 z64) 131))) := by
  have o1 := Obj.new w 112 (cellsK .u32 h)
  have o2 := Obj.new (w.alloc (.cells (cellsK .u32 h) 112)) 112 #[.int .u32 0, .int .u32 0, .int .u32 0, .int .u32 0, .int .u32 0, .int .u32 0, .int .u32 0, .int .u32 0]
  have o3 := Obj.new ((w.alloc (.cells (cellsK .u32 h) 112)).alloc (.cells #[.int .u32 0, .int .u32 0, .int .u32 0, .int .u32 0, .int .u32 0, .int .u32 0, .int .u32 0, .int .u32 0] 112)) 131 (cellsK .u64 z64)
  simp only [World.size_alloc, hB, Nat.add_assoc, Nat.reduceAdd] at o1 o2 o3
  refine ⟨(o1.alloc _).alloc _, o2.alloc _, o3, ?_⟩
  rw [← hB]
  exact (((Below.refl _ w).alloc (Nat.le_refl _) _).alloc (by simp) _).alloc (by simp; omega) _
 have HCE : Hid (∀ wr j, Below B w wr → j < 64 → ∃ v, v < 256 ∧ l.getD j 0 = v ∧ wr.cell? ⟨bb, oo + j, none⟩ = some (.int .u8 ((v : Nat) : Int))) := fun wr j hbw hj => by
  rw [← hB] at hbw
  refine ⟨l.getD j 0, ?_, rfl, (hbw.cell (p := ⟨bb, _, none⟩) hbb).trans (hcell j (by omega))⟩
  rw [List.getD_eq_getElem?_getD, List.getElem?_eq_getElem (by omega)]
  exact hb _ (List.getElem_mem _)
 have HBB : Hid (bb < B) := by unfold Hid; omega
 have HL := Lib.hid hl
 have HBY := Lib.hid hb
 have HT := Lib.hid ht
 have HH := Lib.hid hh
 have HH2 := Lib.hid hh2
 have hci : 64 ≤ c ∧ c ≤ 9223372036854775807 := ⟨hc.1, by have := hc.2; simp only [maxLen] at this; omega⟩
 clear ht hh hh2 hA hl hb hc hcell hbb
 go_enter Tryd.func77, Tryd.ntmps77
 go_wp2
 try rw [hB]
 have HB := Lib.hid hB
 clear hB
 clear hz
 go_loopw [6] (fun i wr => ∃ k : Nat, k ≤ 64 ∧ i = .int .i64 k ∧ RdU w B h (Sh.wK l k) wr) (fun i _ => 64 - (intOf i).toNat)
 case atStart => exact ⟨0, by omega, rfl, HW0.out⟩
 case round =>
  clear HW0
  obtain ⟨k, hk, rfl, hR⟩ := hrel
  have HR := Lib.hid hR
  by_cases hlt : k < 64
  ·have hki : (k : Int) < 64 := by omega
   have zk := hR.wO.free k
   have ck := hR.wO.getK k (by rw [row64_len _ (by rw [Sh.wK_len]; omega)]; exact hlt)
   by_cases h16 : k < 16
   ·have hk16 : (k : Int) < 16 := by omega
    obtain ⟨j0, hj0⟩ : ∃ j, 4 * k = j := ⟨_, rfl⟩
    have i0 : IntKind.i64.wrap (4 * (k : Int)) = (j0 : Int) := by rw [IntKind.wrap_i64]; omega
    have i0' : 4 * (k : Int) = (j0 : Int) := by omega
    have v0 : IntKind.i64.wrap (j0 : Int) = (j0 : Int) := by rw [IntKind.wrap_i64]; omega
    have i1 : IntKind.i64.wrap ((j0 : Int) + 1) = ((j0 + 1 : Nat) : Int) := by rw [IntKind.wrap_i64]; omega
    have i2 : IntKind.i64.wrap ((j0 : Int) + 2) = ((j0 + 2 : Nat) : Int) := by rw [IntKind.wrap_i64]; omega
    have i3 : IntKind.i64.wrap ((j0 : Int) + 3) = ((j0 + 3 : Nat) : Int) := by rw [IntKind.wrap_i64]; omega
    obtain ⟨x0, r0, t0, g0⟩ := HCE.out wr j0 hR.bel (by omega)
    obtain ⟨x1, r1, t1, g1⟩ := HCE.out wr (j0 + 1) hR.bel (by omega)
    obtain ⟨x2, r2, t2, g2⟩ := HCE.out wr (j0 + 2) hR.bel (by omega)
    obtain ⟨x3, r3, t3, g3⟩ := HCE.out wr (j0 + 3) hR.bel (by omega)
    have HWO : Hid (Sh.word l (4 * k) = ((x0 * 256 + x1) * 256 + x2) * 256 + x3) := by
     unfold Hid Sh.word
     rw [hj0, t0, t1, t2, t3]
    have b0 : (j0 : Int) < 64 := by omega
    have b1 : ((j0 : Int) + 1) < 64 := by omega
    have b2 : ((j0 : Int) + 2) < 64 := by omega
    have b3 : ((j0 : Int) + 3) < 64 := by omega
    have p1 : ((j0 : Int) + 1).toNat = j0 + 1 := by omega
    have p2 : ((j0 : Int) + 2).toNat = j0 + 2 := by omega
    have p3 : ((j0 : Int) + 3).toNat = j0 + 3 := by omega
    have n1 : (0 : Int) ≤ (j0 : Int) + 1 := by omega
    have n2 : (0 : Int) ≤ (j0 : Int) + 2 := by omega
    have n3 : (0 : Int) ≤ (j0 : Int) + 3 := by omega
    have HNX : Hid (∀ q, RdU w B h (Sh.wK l (k + 1)) ((wr.drewN q).setCell ⟨B + 1 + 1, k, none⟩ (.int .u64 ((Sh.word l (4 * k) : Nat) : Int)))) := fun q => by
     have := (hR.drewN q).set (by rw [Sh.wK_len]; exact hlt) (Sh.word l (4 * k))
     rw [Sh.wK_len] at this
     show RdU w B h (Sh.wK l k ++ [if k < 16 then Sh.word l (4 * k) else Sh.nextW (Sh.wK l k)]) _
     rw [if_pos h16]
     exact this
    rw [HWO.out] at HNX
    obtain ⟨y0, hy0⟩ : ∃ y, x0 * 256 = y := ⟨_, rfl⟩
    obtain ⟨y1, hy1⟩ : ∃ y, y0 + x1 = y := ⟨_, rfl⟩
    obtain ⟨y2, hy2⟩ : ∃ y, y1 * 256 = y := ⟨_, rfl⟩
    obtain ⟨y3, hy3⟩ : ∃ y, y2 + x2 = y := ⟨_, rfl⟩
    obtain ⟨y4, hy4⟩ : ∃ y, y3 * 256 = y := ⟨_, rfl⟩
    obtain ⟨y5, hy5⟩ : ∃ y, y4 + x3 = y := ⟨_, rfl⟩
    rw [show ((x0 * 256 + x1) * 256 + x2) * 256 + x3 = y5 by omega] at HNX
    have c0 : IntKind.u64.wrap (x0 : Int) = (x0 : Int) := by rw [IntKind.wrap_u64]; omega
    have c1 : IntKind.u64.wrap (x1 : Int) = (x1 : Int) := by rw [IntKind.wrap_u64]; omega
    have c2 : IntKind.u64.wrap (x2 : Int) = (x2 : Int) := by rw [IntKind.wrap_u64]; omega
    have c3 : IntKind.u64.wrap (x3 : Int) = (x3 : Int) := by rw [IntKind.wrap_u64]; omega
    have d0 : IntKind.u64.wrap ((x0 : Int) * 256) = (y0 : Int) := by rw [IntKind.wrap_u64]; omega
    have d1 : IntKind.u64.wrap ((y0 : Int) + (x1 : Int)) = (y1 : Int) := by rw [IntKind.wrap_u64]; omega
    have d2 : IntKind.u64.wrap ((y1 : Int) * 256) = (y2 : Int) := by rw [IntKind.wrap_u64]; omega
    have d3 : IntKind.u64.wrap ((y2 : Int) + (x2 : Int)) = (y3 : Int) := by rw [IntKind.wrap_u64]; omega
    have d4 : IntKind.u64.wrap ((y3 : Int) * 256) = (y4 : Int) := by rw [IntKind.wrap_u64]; omega
    have d5 : IntKind.u64.wrap ((y4 : Int) + (x3 : Int)) = (y5 : Int) := by rw [IntKind.wrap_u64]; omega
    have hne : bb ≠ B + 1 + 1 := by have := HBB.out; omega
    clear hR t0 t1 t2 t3 HWO hj0 hy0 hy1 hy2 hy3 hy4 hy5 r0 r1 r2 r3
    go_wp2
    refine wp_region_held_drew (S := (fun wq => wq.cell? ⟨bb, oo + j0, none⟩ = some (.int .u8 (x0 : Int)) ∧ wq.cell? ⟨bb, oo + (j0 + 1), none⟩ = some (.int .u8 (x1 : Int)) ∧ wq.cell? ⟨bb, oo + (j0 + 2), none⟩ = some (.int .u8 (x2 : Int)) ∧ wq.cell? ⟨bb, oo + (j0 + 3), none⟩ = some (.int .u8 (x3 : Int)))) (by kernel_rfl) ⟨g0, g1, g2, g3⟩ (fun hHeld => ?_)
    refine tkH 0 ?_
    refine tkH 1 ?_
    refine tkH 2 ?_
    refine tkH 3 ?_
    refine tkH 4 ?_
    refine tkH 5 ?_ (hy := by
     refine Or.inl ⟨by rfl, ?_⟩
     intro w' hSw
     obtain ⟨q0, q1, q2, q3⟩ := hSw
     go_simp
     all_goals with_reducible rfl)
    refine tkH 6 ?_
    refine tkH 7 ?_
    refine tkH 8 ?_
    refine tkH 9 ?_
    refine tkH 10 ?_
    refine tkH 11 ?_
    refine tkH 12 ?_
    refine tkH 13 ?_ (hy := by
     refine Or.inl ⟨by rfl, ?_⟩
     intro w' hSw
     obtain ⟨q0, q1, q2, q3⟩ := hSw
     go_simp
     all_goals with_reducible rfl)
    refine tkH 14 ?_
    refine tkH 15 ?_
    refine tkH 16 ?_
    refine tkH 17 ?_
    refine tkH 18 ?_
    refine tkH 19 ?_
    refine tkH 20 ?_
    refine tkH 21 ?_
    refine tkH 22 ?_ (hy := by
     refine Or.inl ⟨by rfl, ?_⟩
     intro w' hSw
     obtain ⟨q0, q1, q2, q3⟩ := hSw
     go_simp
     all_goals with_reducible rfl)
    refine tkH 23 ?_
    refine tkH 24 ?_
    refine tkH 25 ?_
    refine tkH 26 ?_
    refine tkH 27 ?_
    refine tkH 28 ?_
    refine tkH 29 ?_
    refine tkH 30 ?_
    refine tkH 31 ?_ (hy := by
     refine Or.inl ⟨by rfl, ?_⟩
     intro w' hSw
     obtain ⟨q0, q1, q2, q3⟩ := hSw
     go_simp
     all_goals with_reducible rfl)
    refine tkH 32 ?_
    refine tkH 33 ?_
    refine tkH 34 ?_
    refine onH 35 (fun KK hKK => ?_)
    go_simp
    refine hKK.out _ _ ?_ (fun hh1 => ?_)
    ·(try dsimp only)
     exact ⟨set_farB _ _ hHeld.1 hne, set_farB _ _ hHeld.2.1 hne, set_farB _ _ hHeld.2.2.1 hne, set_farB _ _ hHeld.2.2.2 hne⟩
    clear hKK KK
    try simp only [Act.put, setIfInBounds_toArray, set_cons_zero, set_cons_succ]
    refine wpAnyH_done (by kernel_rfl) ?_ _
    go_wp2
    go_roundw
    case rel => exact ⟨k + 1, by omega, by go_num, HNX.out 1⟩
    case measure => simp [intOf]; omega
   ·have hk16 : ¬ (k : Int) < 16 := by omega
    have hk16' : decide ((k : Int) < 16) = false := by simp; omega
    obtain ⟨m16, h16'⟩ : ∃ m, k - 16 = m := ⟨_, rfl⟩
    obtain ⟨m7, h7'⟩ : ∃ m, k - 7 = m := ⟨_, rfl⟩
    obtain ⟨m15, h15'⟩ : ∃ m, k - 15 = m := ⟨_, rfl⟩
    obtain ⟨m2, h2'⟩ : ∃ m, k - 2 = m := ⟨_, rfl⟩
    have i16 : IntKind.i64.wrap ((k : Int) - 16) = (m16 : Int) := by rw [IntKind.wrap_i64]; omega
    have j16 : (k : Int) - 16 = (m16 : Int) := by omega
    have v16 : IntKind.i64.wrap (m16 : Int) = (m16 : Int) := by rw [IntKind.wrap_i64]; omega
    have b16 : (m16 : Int) < 64 := by omega
    have i7 : IntKind.i64.wrap ((k : Int) - 7) = (m7 : Int) := by rw [IntKind.wrap_i64]; omega
    have j7 : (k : Int) - 7 = (m7 : Int) := by omega
    have v7 : IntKind.i64.wrap (m7 : Int) = (m7 : Int) := by rw [IntKind.wrap_i64]; omega
    have b7 : (m7 : Int) < 64 := by omega
    have i15 : IntKind.i64.wrap ((k : Int) - 15) = (m15 : Int) := by rw [IntKind.wrap_i64]; omega
    have j15 : (k : Int) - 15 = (m15 : Int) := by omega
    have v15 : IntKind.i64.wrap (m15 : Int) = (m15 : Int) := by rw [IntKind.wrap_i64]; omega
    have b15 : (m15 : Int) < 64 := by omega
    have i2 : IntKind.i64.wrap ((k : Int) - 2) = (m2 : Int) := by rw [IntKind.wrap_i64]; omega
    have j2 : (k : Int) - 2 = (m2 : Int) := by omega
    have v2 : IntKind.i64.wrap (m2 : Int) = (m2 : Int) := by rw [IntKind.wrap_i64]; omega
    have b2 : (m2 : Int) < 64 := by omega
    have hwl := Sh.wK_len l k
    have hwlt := Sh.wK_lt l HBY.out k
    have cell : ∀ i, i < k → wr.cell? ⟨B + 1 + 1, i, none⟩ = some (.int .u64 (((Sh.wK l k).getD i 0 : Nat) : Int)) := fun i hi => by
     rw [hR.wO.getK i (by rw [row64_len _ (by omega)]; omega), row64_get _ _ (by omega)]
    have g16 := cell m16 (by omega)
    have g7 := cell m7 (by omega)
    have g15 := cell m15 (by omega)
    have g2 := cell m2 (by omega)
    have t16 := Sh.getD_lt hwlt m16
    have t7 := Sh.getD_lt hwlt m7
    have t15 := Sh.getD_lt hwlt m15
    have t2 := Sh.getD_lt hwlt m2
    have HNV : Hid (Sh.nextW (Sh.wK l k) = ((Sh.wK l k).getD m16 0 + (Sh.wK l k).getD m7 0 + Sh.sg0 ((Sh.wK l k).getD m15 0) + Sh.sg1 ((Sh.wK l k).getD m2 0)) % 4294967296) := by
     unfold Hid Sh.nextW
     rw [hwl, h16', h7', h15', h2']
    have HNX : Hid (∀ q, RdU w B h (Sh.wK l (k + 1)) ((wr.drewN q).setCell ⟨B + 1 + 1, k, none⟩ (.int .u64 ((Sh.nextW (Sh.wK l k) : Nat) : Int)))) := fun q => by
     have := (hR.drewN q).set (by rw [Sh.wK_len]; exact hlt) (Sh.nextW (Sh.wK l k))
     rw [Sh.wK_len] at this
     show RdU w B h (Sh.wK l k ++ [if k < 16 then Sh.word l (4 * k) else Sh.nextW (Sh.wK l k)]) _
     rw [if_neg h16]
     exact this
    rw [HNV.out] at HNX
    have n1 : m16 ≠ k := by omega
    have n2 : m7 ≠ k := by omega
    clear hR cell hwl hwlt h16' h7' h15' h2' h16 HNV
    generalize (Sh.wK l k).getD m16 0 = a at *
    generalize (Sh.wK l k).getD m7 0 = d at *
    generalize (Sh.wK l k).getD m15 0 = x at *
    generalize (Sh.wK l k).getD m2 0 = y at *
    have HR7 := Lib.hid (fun w => right7_any x w t15)
    have HR18 := Lib.hid (fun w => right18_any x w t15)
    have HR17 := Lib.hid (fun w => right17_any y w t2)
    have HR19 := Lib.hid (fun w => right19_any y w t2)
    have u7 := Sh.rr_lt x 7 t15
    have u18 := Sh.rr_lt x 18 t15
    have u17 := Sh.rr_lt y 17 t2
    have u19 := Sh.rr_lt y 19 t2
    have us0 := Sh.sg0_lt x t15
    have us1 := Sh.sg1_lt y t2
    obtain ⟨p1, hp1⟩ : ∃ p, Sh.sg1 y + d = p := ⟨_, rfl⟩
    obtain ⟨p2, hp2⟩ : ∃ p, p1 + Sh.sg0 x = p := ⟨_, rfl⟩
    obtain ⟨p3, hp3⟩ : ∃ p, p2 + a = p := ⟨_, rfl⟩
    obtain ⟨p4, hp4⟩ : ∃ p, p3 % 4294967296 = p := ⟨_, rfl⟩
    have hpp : (a + d + Sh.sg0 x + Sh.sg1 y) % 4294967296 = p4 := by omega
    rw [hpp] at HNX
    have q1 : IntKind.u64.wrap (((Sh.sg1 y : Nat) : Int) + (d : Int)) = (p1 : Int) := by rw [IntKind.wrap_u64]; omega
    have q2 : IntKind.u64.wrap ((p1 : Int) + ((Sh.sg0 x : Nat) : Int)) = (p2 : Int) := by rw [IntKind.wrap_u64]; omega
    have q3 : IntKind.u64.wrap ((p2 : Int) + (a : Int)) = (p3 : Int) := by rw [IntKind.wrap_u64]; omega
    have q4 : (p3 : Int) % 4294967296 = (p4 : Int) := by omega
    have q5 : Int.tmod (p3 : Int) 4294967296 = (p4 : Int) := by rw [Int.tmod_eq_emod_of_nonneg (by omega)]; omega
    have y1 := u64_xor_nat _ _ (Nat.lt_trans u7 (by decide)) (Nat.lt_trans u18 (by decide))
    have y2 : bits .xor .u64 ((Sh.rr x 7 ^^^ Sh.rr x 18 : Nat) : Int) ((x : Int) / 8) = ((Sh.sg0 x : Nat) : Int) := by
     have := u64_xor_nat _ _ (Nat.lt_trans (Sh.xor_lt u7 u18) (by decide)) (Nat.lt_trans (Sh.div_lt x 8 t15) (by decide))
     have e : ((x / 8 : Nat) : Int) = (x : Int) / 8 := by omega
     rw [e] at this
     exact this
    have y3 := u64_xor_nat _ _ (Nat.lt_trans u17 (by decide)) (Nat.lt_trans u19 (by decide))
    have y4 : bits .xor .u64 ((Sh.rr y 17 ^^^ Sh.rr y 19 : Nat) : Int) ((y : Int) / 1024) = ((Sh.sg1 y : Nat) : Int) := by
     have := u64_xor_nat _ _ (Nat.lt_trans (Sh.xor_lt u17 u19) (by decide)) (Nat.lt_trans (Sh.div_lt y 1024 t2) (by decide))
     have e : ((y / 1024 : Nat) : Int) = (y : Int) / 1024 := by omega
     rw [e] at this
     exact this
    generalize Sh.rr x 7 ^^^ Sh.rr x 18 = z1 at *
    generalize Sh.rr y 17 ^^^ Sh.rr y 19 = z2 at *
    generalize Sh.sg0 x = s0 at *
    generalize Sh.sg1 y = s1 at *
    generalize Sh.rr x 7 = r7 at *
    generalize Sh.rr x 18 = r18 at *
    generalize Sh.rr y 17 = r17 at *
    generalize Sh.rr y 19 = r19 at *
    clear hp1 hp2 hp3 hp4 hpp
    go_wp2
    go_quiet (fail)
    go_wp2
    refine wp_region_held_drew (S := (fun wq => (wq.cell? ⟨B + 1 + 1, m16, none⟩ = some (.int .u64 (a : Int)) ∧ wq.cell? ⟨B + 1 + 1, m7, none⟩ = some (.int .u64 (d : Int))))) (by kernel_rfl) ⟨g16, g7⟩ (fun hHeld => ?_)
    refine tkH 0 ?_
    refine tkH 1 ?_
    refine tkH 3 ?_
    refine tkH 6 ?_
    refine tkH 7 ?_
    refine tkH 9 ?_
    refine tkH 10 ?_
    refine tkH 11 ?_
    refine tkH 12 ?_ (hy := by
     refine Or.inl ⟨by rfl, ?_⟩
     intro w' hSw
     obtain ⟨q2', q3'⟩ := hSw
     go_simp
     all_goals with_reducible rfl)
    refine tkH 14 ?_
    refine tkH 16 ?_
    refine tkH 19 ?_
    refine tkH 20 ?_
    refine tkH 23 ?_
    refine tkH 24 ?_
    refine tkH 25 ?_
    refine tkH 26 ?_ (hy := by
     refine Or.inl ⟨by rfl, ?_⟩
     intro w' hSw
     obtain ⟨q2', q3'⟩ := hSw
     go_simp
     all_goals with_reducible rfl)
    refine onH 2 (fun KK hKK => ?_)
    go_simp
    refine (HR17.out _).mono ?_; rintro e wD ⟨rfl, rfl⟩
    try go_wp2_with fail
    refine hKK.out _ _ ?_ (fun hh1 => ?_)
    ·(try dsimp only)
     exact hHeld
    clear hKK KK
    try simp only [Act.put, setIfInBounds_toArray, set_cons_zero, set_cons_succ]
    refine onH 4 (fun KK hKK => ?_)
    go_simp
    refine (HR19.out _).mono ?_; rintro e wD ⟨rfl, rfl⟩
    try go_wp2_with fail
    refine hKK.out _ _ ?_ (fun hh2 => ?_)
    ·(try dsimp only)
     exact hHeld
    clear hKK KK
    try simp only [Act.put, setIfInBounds_toArray, set_cons_zero, set_cons_succ]
    refine tkH 5 ?_
    refine tkH 8 ?_
    refine tkH 13 ?_
    refine onH 15 (fun KK hKK => ?_)
    go_simp
    refine (HR7.out _).mono ?_; rintro e wD ⟨rfl, rfl⟩
    try go_wp2_with fail
    refine hKK.out _ _ ?_ (fun hh3 => ?_)
    ·(try dsimp only)
     exact hHeld
    clear hKK KK
    try simp only [Act.put, setIfInBounds_toArray, set_cons_zero, set_cons_succ]
    refine onH 17 (fun KK hKK => ?_)
    go_simp
    refine (HR18.out _).mono ?_; rintro e wD ⟨rfl, rfl⟩
    try go_wp2_with fail
    refine hKK.out _ _ ?_ (fun hh4 => ?_)
    ·(try dsimp only)
     exact hHeld
    clear hKK KK
    try simp only [Act.put, setIfInBounds_toArray, set_cons_zero, set_cons_succ]
    refine tkH 18 ?_
    refine tkH 21 ?_
    refine tkH 22 ?_
    refine tkH 27 ?_
    refine tkH 28 ?_
    refine tkH 29 ?_
    refine onH 30 (fun KK hKK => ?_)
    go_simp
    refine hKK.out _ _ ?_ (fun hh5 => ?_)
    ·(try dsimp only)
     exact ⟨set_farU _ _ hHeld.1 n1, set_farU _ _ hHeld.2 n2⟩
    clear hKK KK
    try simp only [Act.put, setIfInBounds_toArray, set_cons_zero, set_cons_succ]
    refine wpAnyH_done (by kernel_rfl) ?_ _
    go_wp2
    go_roundw
    case rel => exact ⟨k + 1, by omega, by go_num, HNX.out _⟩
    case measure => simp [intOf]; omega
  ·obtain rfl : k = 64 := by omega
   rw [show ((64 : Nat) : Int) = 64 from rfl]
   have hwl : (Sh.wK l 64).length = 64 := Sh.wK_len l 64
   have hfull := row64_full _ hwl
   obtain ⟨Sb, hSb⟩ : ∃ Sb, wr.heap.size = Sb := ⟨_, rfl⟩
   have HU0 : Hid (U2 w B h (Sh.wK l 64) Sb (row8 h 0) (wr.alloc (.cells #[.int .u64 0, .int .u64 0, .int .u64 0, .int .u64 0, .int .u64 0, .int .u64 0, .int .u64 0, .int .u64 0] 133))) := by
    have hS : B + 1 + 1 < Sb := hSb ▸ hR.wO.lt
    have o := (hSb ▸ Obj.new wr 133 #[.int .u64 0, .int .u64 0, .int .u64 0, .int .u64 0, .int .u64 0, .int .u64 0, .int .u64 0, .int .u64 0] : Obj (wr.alloc (.cells #[.int .u64 0, .int .u64 0, .int .u64 0, .int .u64 0, .int .u64 0, .int .u64 0, .int .u64 0, .int .u64 0] 133)) Sb 133 #[.int .u64 0, .int .u64 0, .int .u64 0, .int .u64 0, .int .u64 0, .int .u64 0, .int .u64 0, .int .u64 0])
    have k1 := hR.kept ((Below.refl _ wr).alloc (Nat.le_refl _) (.cells #[.int .u64 0, .int .u64 0, .int .u64 0, .int .u64 0, .int .u64 0, .int .u64 0, .int .u64 0, .int .u64 0] 133))
    exact ⟨k1, o.as rfl, hS⟩
   have HSB := Lib.hid hSb
   clear hR hwl hfull hk hlt hSb HCE
   go_wp2
   rw [HSB.out]
   clear HSB HR
   go_loopw [10] (fun i wx => ∃ k : Nat, k ≤ 8 ∧ i = .int .i64 k ∧ U2 w B h (Sh.wK l 64) Sb (row8 h k) wx) (fun i _ => 8 - (intOf i).toNat)
   case atStart => exact ⟨0, by omega, rfl, HU0.out⟩
   case round =>
    clear HU0
    obtain ⟨k, hk, rfl, hR⟩ := hrel
    have HR := Lib.hid hR
    by_cases hlt : k < 8
    ·have hki : (k : Int) < 8 := by omega
     have c0 : wr.cell? ⟨B, k, none⟩ = some (.int .u32 ((gt h k : Nat) : Int)) := hR.rd.hO.getK k (by rw [HH.out]; exact hlt)
     have z0 := hR.sO.free k
     have hx := gt_lt HH2.out k
     have e1 : IntKind.u64.wrap ((gt h k : Nat) : Int) = ((gt h k : Nat) : Int) := by rw [IntKind.wrap_u64]; omega
     have hsb := hR.sb
     have ck : ∃ v, wr.cell? ⟨Sb, k, none⟩ = some v := ⟨_, hR.sO.getK k (by rw [row8_len _ _ HH.out (by omega)]; exact hlt)⟩
     obtain ⟨v0, ck⟩ := ck
     have HNX := Lib.hid (hR.set HH.out hlt)
     clear hR
     generalize gt h k = x at *
     go_wp2
     go_roundw
     case rel => exact ⟨k + 1, by omega, by go_num, HNX.out⟩
     case measure => simp [intOf]; omega
    ·obtain rfl : k = 8 := by omega
     rw [show ((8 : Nat) : Int) = 8 from rfl]
     have H2 : Hid (U2 w B h (Sh.wK l 64) Sb (Sh.rK h l 0) wr) := by
      have := hR
      rw [row8_full _ HH.out] at this
      exact this
     clear hR HR hk hlt
     go_wp2
     go_loopw [11] (fun i wx => ∃ k : Nat, k ≤ 64 ∧ i = .int .i64 k ∧ U2 w B h (Sh.wK l 64) Sb (Sh.rK h l k) wx) (fun i _ => 64 - (intOf i).toNat)
     case atStart => exact ⟨0, by omega, rfl, H2.out⟩
     case round =>
      clear H2
      obtain ⟨k, hk, rfl, hR⟩ := hrel
      have HR := Lib.hid hR
      by_cases hlt : k < 64
      ·have hki : (k : Int) < 64 := by omega
       have hs8 := Sh.rK_len h l HH.out k
       have hslt := Sh.rK_lt h l HH2.out k
       have hwl : (Sh.wK l 64).length = 64 := Sh.wK_len l 64
       have hwlt := Sh.wK_lt l HBY.out 64
       have HSC : Hid (∀ wq, U2 w B h (Sh.wK l 64) Sb (Sh.rK h l k) wq → wq.cell? ⟨Sb, 0, none⟩ = some (.int .u64 ((gt (Sh.rK h l k) 0 : Nat) : Int)) ∧ wq.cell? ⟨Sb, 1, none⟩ = some (.int .u64 ((gt (Sh.rK h l k) 1 : Nat) : Int)) ∧ wq.cell? ⟨Sb, 2, none⟩ = some (.int .u64 ((gt (Sh.rK h l k) 2 : Nat) : Int)) ∧ wq.cell? ⟨Sb, 3, none⟩ = some (.int .u64 ((gt (Sh.rK h l k) 3 : Nat) : Int)) ∧ wq.cell? ⟨Sb, 4, none⟩ = some (.int .u64 ((gt (Sh.rK h l k) 4 : Nat) : Int)) ∧ wq.cell? ⟨Sb, 5, none⟩ = some (.int .u64 ((gt (Sh.rK h l k) 5 : Nat) : Int)) ∧ wq.cell? ⟨Sb, 6, none⟩ = some (.int .u64 ((gt (Sh.rK h l k) 6 : Nat) : Int)) ∧ wq.cell? ⟨Sb, 7, none⟩ = some (.int .u64 ((gt (Sh.rK h l k) 7 : Nat) : Int)) ∧
         wq.cell? ⟨2, k, none⟩ = some (.int .u32 ((gt Sh.kz k : Nat) : Int)) ∧ wq.cell? ⟨B + 1 + 1, k, none⟩ = some (.int .u64 ((gt (Sh.wK l 64) k : Nat) : Int))) := fun wq q => by
        refine ⟨q.cell hs8 0 (by omega), q.cell hs8 1 (by omega), q.cell hs8 2 (by omega), q.cell hs8 3 (by omega), q.cell hs8 4 (by omega), q.cell hs8 5 (by omega), q.cell hs8 6 (by omega), q.cell hs8 7 (by omega), ?_, ?_⟩
        ·exact (HT.out.below (HB.out.symm ▸ q.rd.bel)).k k hlt
        ·have := q.rd.wO.getK k (by rw [row64_full _ hwl, hwl]; exact hlt)
         rw [row64_full _ hwl] at this
         exact this
       have HNX : Hid (∀ wq, U2 w B h (Sh.wK l 64) Sb (Sh.rK h l k) wq → U2 w B h (Sh.wK l 64) Sb (Sh.rK h l (k + 1)) (wq.setRow Sb #[.int .u64 (((Sh.one (Sh.rK h l k) (Sh.kz.getD k 0) ((Sh.wK l 64).getD k 0) + Sh.two (Sh.rK h l k)) % 4294967296 : Nat) : Int), .int .u64 ((gt (Sh.rK h l k) 0 : Nat) : Int), .int .u64 ((gt (Sh.rK h l k) 1 : Nat) : Int), .int .u64 ((gt (Sh.rK h l k) 2 : Nat) : Int), .int .u64 (((gt (Sh.rK h l k) 3 + Sh.one (Sh.rK h l k) (Sh.kz.getD k 0) ((Sh.wK l 64).getD k 0)) % 4294967296 : Nat) : Int), .int .u64 ((gt (Sh.rK h l k) 4 : Nat) : Int), .int .u64 ((gt (Sh.rK h l k) 5 : Nat) : Int), .int .u64 ((gt (Sh.rK h l k) 6 : Nat) : Int)])) := fun wq q =>
        ⟨q.rd.upd ((Upd.refl Sb _).row _) q.sb, (q.sO.row _).as rfl, q.sb⟩
       have HONE : Hid (Sh.one (Sh.rK h l k) (Sh.kz.getD k 0) ((Sh.wK l 64).getD k 0) = (gt (Sh.rK h l k) 7 + Sh.mix (gt (Sh.rK h l k) 4) 6 11 25 + Sh.ch (gt (Sh.rK h l k) 4) (gt (Sh.rK h l k) 5) (gt (Sh.rK h l k) 6) + gt Sh.kz k + gt (Sh.wK l 64) k) % 4294967296) := rfl
       have HTWO : Hid (Sh.two (Sh.rK h l k) = (Sh.mix (gt (Sh.rK h l k) 0) 2 13 22 + Sh.maj (gt (Sh.rK h l k) 0) (gt (Sh.rK h l k) 1) (gt (Sh.rK h l k) 2)) % 4294967296) := rfl
       have HOB := Lib.hid (fun wq (q : U2 w B h (Sh.wK l 64) Sb (Sh.rK h l k) wq) => q.sO)
       have l0 := gt_lt hslt 0
       have l1 := gt_lt hslt 1
       have l2 := gt_lt hslt 2
       have l3 := gt_lt hslt 3
       have l4 := gt_lt hslt 4
       have l5 := gt_lt hslt 5
       have l6 := gt_lt hslt 6
       have l7 := gt_lt hslt 7
       have lk := gt_lt Sh.kz_lt.2 k
       have lw := gt_lt hwlt k
       have HS8 := Lib.hid hs8
       clear hs8 hslt hwl hwlt hR
       generalize Sh.one (Sh.rK h l k) (Sh.kz.getD k 0) ((Sh.wK l 64).getD k 0) = p5 at *
       generalize Sh.two (Sh.rK h l k) = t2 at *
       generalize hst : Sh.rK h l k = st at *
       generalize Sh.wK l 64 = W64 at *
       have HST := Lib.hid hst
       clear hst
       generalize gt st 0 = a0 at *
       generalize gt st 1 = a1 at *
       generalize gt st 2 = a2 at *
       generalize gt st 3 = a3 at *
       generalize gt st 4 = a4 at *
       generalize gt st 5 = a5 at *
       generalize gt st 6 = a6 at *
       generalize gt st 7 = a7 at *
       generalize gt Sh.kz k = kk at *
       generalize gt W64 k = ww at *
       -- region 17
       obtain ⟨d0, d1, d2, d3, d4, d5, d6, d7, dk, dw⟩ := HSC.out wr HR.out
       go_wp2
       go_quiet (fail)
       rename_i nq
       have HRa := Lib.hid (HR.out.drewN nq)
       clear d0 d1 d2 d3 d4 d5 d6 d7 dk dw HR
       generalize wr.drewN nq = wa at *
       obtain ⟨d0, d1, d2, d3, d4, d5, d6, d7, dk, dw⟩ := HSC.out wa HRa.out
       -- region 18
       have R6 := Lib.hid (fun w => right6_any a4 w l4)
       have R11 := Lib.hid (fun w => right11_any a4 w l4)
       have R25 := Lib.hid (fun w => right25_any a4 w l4)
       have HY : Hid (∃ z1 mx z3 z4 z5 c1 p1 p2 p3 p4, bits .xor .u64 ((Sh.rr a4 6 : Nat) : Int) ((Sh.rr a4 11 : Nat) : Int) = ((z1 : Nat) : Int) ∧ bits .xor .u64 ((z1 : Nat) : Int) ((Sh.rr a4 25 : Nat) : Int) = ((mx : Nat) : Int) ∧ bits .and .u64 (a4 : Int) (a5 : Int) = ((z3 : Nat) : Int) ∧ IntKind.u64.wrap (4294967295 - (a4 : Int)) = ((z4 : Nat) : Int) ∧ bits .and .u64 ((z4 : Nat) : Int) (a6 : Int) = ((z5 : Nat) : Int) ∧ bits .xor .u64 ((z3 : Nat) : Int) ((z5 : Nat) : Int) = ((c1 : Nat) : Int) ∧
         IntKind.u64.wrap ((a7 : Int) + ((mx : Nat) : Int)) = ((p1 : Nat) : Int) ∧ IntKind.u64.wrap (((p1 : Nat) : Int) + ((c1 : Nat) : Int)) = ((p2 : Nat) : Int) ∧ IntKind.u64.wrap (((p2 : Nat) : Int) + (kk : Int)) = ((p3 : Nat) : Int) ∧ IntKind.u64.wrap (((p3 : Nat) : Int) + (ww : Int)) = ((p4 : Nat) : Int) ∧ p4 % 4294967296 = p5 ∧ p4 < 25769803776) := by
        have m1 := Sh.rr_lt a4 6 l4
        have m2 := Sh.rr_lt a4 11 l4
        have m3 := Sh.rr_lt a4 25 l4
        have m4 := Sh.mix_lt a4 6 11 25 l4
        have m5 := Sh.ch_lt a4 a5 a6 l5 l6
        have hn : 4294967295 - a4 < 4294967296 := by omega
        refine ⟨Sh.rr a4 6 ^^^ Sh.rr a4 11, Sh.mix a4 6 11 25, a4 &&& a5, 4294967295 - a4, (4294967295 - a4) &&& a6, Sh.ch a4 a5 a6, a7 + Sh.mix a4 6 11 25, a7 + Sh.mix a4 6 11 25 + Sh.ch a4 a5 a6, a7 + Sh.mix a4 6 11 25 + Sh.ch a4 a5 a6 + kk, a7 + Sh.mix a4 6 11 25 + Sh.ch a4 a5 a6 + kk + ww, ?_, ?_, ?_, ?_, ?_, ?_, ?_, ?_, ?_, ?_, ?_, ?_⟩
        ·exact u64_xor_nat _ _ (up32 m1) (up32 m2)
        ·exact u64_xor_nat _ _ (up32 (Sh.xor_lt m1 m2)) (up32 m3)
        ·exact u64_and_nat _ _ (up32 l4) (up32 l5)
        ·rw [IntKind.wrap_u64]; omega
        ·exact u64_and_nat _ _ (up32 hn) (up32 l6)
        ·rw [u64_xor_nat _ _ (up32 (Sh.and_lt l5)) (up32 (Sh.and_lt l6)), Sh.ch_ref a4 a5 a6 l4 l6]
        ·exact wrap64u _ _ _ rfl (by omega)
        ·exact wrap64u _ _ _ rfl (by omega)
        ·exact wrap64u _ _ _ rfl (by omega)
        ·exact wrap64u _ _ _ rfl (by omega)
        ·exact HONE.out.symm
        ·omega
       obtain ⟨z1, mx, z3, z4, z5, c1, p1, p2, p3, p4, y1, y2, y3, y4, y5, y6, y7, y8, y9, y10, hp5, hp4⟩ := HY.out
       have lp5 : p5 < 4294967296 := by omega
       have q1 : (p4 : Int) % 4294967296 = (p5 : Int) := by omega
       have q2 : Int.tmod (p4 : Int) 4294967296 = (p5 : Int) := by rw [Int.tmod_eq_emod_of_nonneg (by omega)]; omega
       have q3 : IntKind.u64.wrap (kk : Int) = (kk : Int) := by rw [IntKind.wrap_u64]; omega
       generalize Sh.rr a4 6 = r6 at *
       generalize Sh.rr a4 11 = r11 at *
       generalize Sh.rr a4 25 = r25 at *
       clear HY hp5 HONE
       go_wp2
       go_quiet ((go_at_call 91; first | (with_reducible exact Calls.quiet_of_same (still1 (R6.out _))) | (with_reducible exact Calls.quiet_of_same (still1 (R11.out _))) | (with_reducible exact Calls.quiet_of_same (still1 (R25.out _)))))
       rename_i nq
       have HRb := Lib.hid (HRa.out.drewN nq)
       clear d0 d1 d2 d3 d4 d5 d6 d7 dk dw HRa y1 y2 y3 y4 y5 y6 y7 y8 y9 y10 hp4 q1 q2 q3 R6 R11 R25
       generalize wa.drewN nq = wb at *
       obtain ⟨d0, d1, d2, d3, d4, d5, d6, d7, dk, dw⟩ := HSC.out wb HRb.out
       have R2 := Lib.hid (fun w => right2_any a0 w l0)
       have R13 := Lib.hid (fun w => right13_any a0 w l0)
       have R22 := Lib.hid (fun w => right22_any a0 w l0)
       have HY : Hid (∃ z1 mx z3 z4 z5 z6 mj p1, bits .xor .u64 ((Sh.rr a0 2 : Nat) : Int) ((Sh.rr a0 13 : Nat) : Int) = ((z1 : Nat) : Int) ∧ bits .xor .u64 ((z1 : Nat) : Int) ((Sh.rr a0 22 : Nat) : Int) = ((mx : Nat) : Int) ∧ bits .and .u64 (a0 : Int) (a1 : Int) = ((z3 : Nat) : Int) ∧ bits .and .u64 (a0 : Int) (a2 : Int) = ((z4 : Nat) : Int) ∧ bits .xor .u64 ((z3 : Nat) : Int) ((z4 : Nat) : Int) = ((z5 : Nat) : Int) ∧ bits .and .u64 (a1 : Int) (a2 : Int) = ((z6 : Nat) : Int) ∧ bits .xor .u64 ((z5 : Nat) : Int) ((z6 : Nat) : Int) = ((mj : Nat) : Int) ∧
         IntKind.u64.wrap (((mx : Nat) : Int) + ((mj : Nat) : Int)) = ((p1 : Nat) : Int) ∧ p1 % 4294967296 = t2 ∧ p1 < 8589934592) := by
        have m1 := Sh.rr_lt a0 2 l0
        have m2 := Sh.rr_lt a0 13 l0
        have m3 := Sh.rr_lt a0 22 l0
        have m4 := Sh.mix_lt a0 2 13 22 l0
        have m5 := Sh.maj_lt a0 a1 a2 l0 l1
        refine ⟨Sh.rr a0 2 ^^^ Sh.rr a0 13, Sh.mix a0 2 13 22, a0 &&& a1, a0 &&& a2, (a0 &&& a1) ^^^ (a0 &&& a2), a1 &&& a2, Sh.maj a0 a1 a2, Sh.mix a0 2 13 22 + Sh.maj a0 a1 a2, ?_, ?_, ?_, ?_, ?_, ?_, ?_, ?_, ?_, ?_⟩
        ·exact u64_xor_nat _ _ (up32 m1) (up32 m2)
        ·exact u64_xor_nat _ _ (up32 (Sh.xor_lt m1 m2)) (up32 m3)
        ·exact u64_and_nat _ _ (up32 l0) (up32 l1)
        ·exact u64_and_nat _ _ (up32 l0) (up32 l2)
        ·exact u64_xor_nat _ _ (up32 (Sh.and_lt l1)) (up32 (Sh.and_lt l2))
        ·exact u64_and_nat _ _ (up32 l1) (up32 l2)
        ·rw [u64_xor_nat _ _ (up32 (Sh.xor_lt (Sh.and_lt l1) (Sh.and_lt l2))) (up32 (Sh.and_lt l2)), Sh.maj_ref a0 a1 a2]
        ·exact wrap64u _ _ _ rfl (by omega)
        ·exact HTWO.out.symm
        ·omega
       obtain ⟨z1', mx', z3', z4', z5', z6', mj, p6, y1, y2, y3, y4, y5, y6, y7, y8, ht2, hp6⟩ := HY.out
       have lt2 : t2 < 4294967296 := by omega
       have q1 : (p6 : Int) % 4294967296 = (t2 : Int) := by omega
       have q2 : Int.tmod (p6 : Int) 4294967296 = (t2 : Int) := by rw [Int.tmod_eq_emod_of_nonneg (by omega)]; omega
       generalize Sh.rr a0 2 = r2 at *
       generalize Sh.rr a0 13 = r13 at *
       generalize Sh.rr a0 22 = r22 at *
       clear HY ht2 HTWO
       go_wp2
       go_quiet ((go_at_call 91; first | (with_reducible exact Calls.quiet_of_same (still1 (R2.out _))) | (with_reducible exact Calls.quiet_of_same (still1 (R13.out _))) | (with_reducible exact Calls.quiet_of_same (still1 (R22.out _)))))
       rename_i nq
       have HRc := Lib.hid (HRb.out.drewN nq)
       clear d0 d1 d2 d3 d4 d5 d6 d7 dk dw HRb y1 y2 y3 y4 y5 y6 y7 y8 hp6 q1 q2 R2 R13 R22
       generalize wb.drewN nq = wc at *
       obtain ⟨d0, d1, d2, d3, d4, d5, d6, d7, dk, dw⟩ := HSC.out wc HRc.out
       obtain ⟨p7, hp7⟩ : ∃ p, p5 + t2 = p := ⟨_, rfl⟩
       obtain ⟨v0, hv0⟩ : ∃ p, p7 % 4294967296 = p := ⟨_, rfl⟩
       obtain ⟨p8, hp8⟩ : ∃ p, a3 + p5 = p := ⟨_, rfl⟩
       obtain ⟨v4, hv4⟩ : ∃ p, p8 % 4294967296 = p := ⟨_, rfl⟩
       rw [hp7, hv0, hp8, hv4] at HNX
       have e1 : IntKind.u64.wrap ((p5 : Int) + (t2 : Int)) = (p7 : Int) := wrap64u _ _ _ hp7 (by omega)
       have e1' : (p5 : Int) + (t2 : Int) = (p7 : Int) := by omega
       have e2 : (p7 : Int) % 4294967296 = (v0 : Int) := by omega
       have e3 : Int.tmod (p7 : Int) 4294967296 = (v0 : Int) := by rw [Int.tmod_eq_emod_of_nonneg (by omega)]; omega
       have e4 : IntKind.u64.wrap ((a3 : Int) + (p5 : Int)) = (p8 : Int) := wrap64u _ _ _ hp8 (by omega)
       have e4' : (a3 : Int) + (p5 : Int) = (p8 : Int) := by omega
       have e5 : (p8 : Int) % 4294967296 = (v4 : Int) := by omega
       have e6 : Int.tmod (p8 : Int) 4294967296 = (v4 : Int) := by rw [Int.tmod_eq_emod_of_nonneg (by omega)]; omega
       clear hp7 hv0 hp8 hv4
       go_wp2_with (refine wpList_store8u rfl (.tmp 9) (.tmp 192) rfl Sb _ _ _ _ _ _ _ _ rfl rfl st (HOB.out _ HRc.out) HS8.out ?_)
       go_roundw
       case rel => exact ⟨k + 1, by omega, by go_num, HNX.out _ HRc.out⟩
       case measure => simp [intOf]; omega
      ·obtain rfl : k = 64 := by omega
       rw [show ((64 : Nat) : Int) = 64 from rfl]
       have H3 : Hid (U3 w B Sb h (Sh.rK h l 64) 0 wr) := ⟨by rw [sumK_zero _ _ HH.out]; exact hR.rd.hO, hR.rd.rO, hR.sO, hR.sb, hR.rd.bel⟩
       have HF := Lib.hid (sumK_full h l)
       have hs8 := Lib.hid (Sh.rK_len h l HH.out 64)
       have hl8 := Lib.hid (Sh.rK_lt h l HH2.out 64)
       clear hR HR hk hlt
       generalize Sh.rK h l 64 = st at *
       go_wp2
       go_loopw [16] (fun i wx => ∃ k : Nat, k ≤ 8 ∧ i = .int .i64 k ∧ U3 w B Sb h st k wx) (fun i _ => 8 - (intOf i).toNat)
       case atStart => exact ⟨0, by omega, rfl, H3.out⟩
       case round =>
        clear H3
        obtain ⟨k, hk, rfl, hR⟩ := hrel
        have HR := Lib.hid hR
        by_cases hlt : k < 8
        ·have hki : (k : Int) < 8 := by omega
         have g0 : wr.cell? ⟨B, k, none⟩ = some (.int .u32 ((gt h k : Nat) : Int)) := by
          rw [hR.hO.getK k (by rw [sumK_len]; exact hlt), sumK_get _ _ _ _ hlt, if_neg (by omega)]
         have g1 : wr.cell? ⟨Sb, k, none⟩ = some (.int .u64 ((gt st k : Nat) : Int)) := hR.sO.getK k (by rw [hs8.out]; exact hlt)
         have z0 := hR.hO.free k
         have b0 := gt_lt HH2.out k
         have b1 := gt_lt hl8.out k
         have HNX := Lib.hid ((hR.set hlt).drewN 1)
         clear hR
         generalize gt h k = x0 at *
         generalize gt st k = x1 at *
         obtain ⟨v, hv⟩ : ∃ v, x0 + x1 = v := ⟨_, rfl⟩
         obtain ⟨u, hu⟩ : ∃ u, v % 4294967296 = u := ⟨_, rfl⟩
         rw [hv, hu] at HNX
         have f0 : IntKind.u64.wrap (x0 : Int) = (x0 : Int) := by rw [IntKind.wrap_u64]; omega
         have f1 : IntKind.u64.wrap ((x0 : Int) + (x1 : Int)) = (v : Int) := wrap64u _ _ _ hv (by omega)
         have f1' : (x0 : Int) + (x1 : Int) = (v : Int) := by omega
         have f2 : (v : Int) % 4294967296 = (u : Int) := by omega
         have f3 : Int.tmod (v : Int) 4294967296 = (u : Int) := by rw [Int.tmod_eq_emod_of_nonneg (by omega)]; omega
         have f4 : IntKind.u32.wrap (u : Int) = (u : Int) := by rw [IntKind.wrap_u32]; omega
         have hne : Sb ≠ B := by have := HR.out.sb; omega
         have HF2 := Lib.hid f2
         clear hv hu
         go_wp2
         refine wp_region_T 12 (fun wq => wq.cell? ⟨B, k, none⟩ = some (.int .u32 (x0 : Int)) ∧ wq.cell? ⟨Sb, k, none⟩ = some (.int .u64 (x1 : Int))) (by kernel_rfl) ⟨g0, g1⟩ (fun hHeld => ?_)
         refine wpAnyT_take (i := 0) (oi := ?_) (v := ?_) ?_ ?_ ?_ ?_ ?_ ?_ ?_ (by assumption) ?_
         rotate_left 2
         ·simp only [getElem?_toArray, getElem?_cons_zero, getElem?_cons_succ]
          rfl
         ·kernel_rfl
         ·kernel_rfl
         ·kernel_rfl
         ·kernel_rfl
         ·exact fun _ _ _ h => h
         ·refine Or.inl ⟨by rfl, ?_⟩
          intro w hSw
          (try dsimp only at hSw)
          go_simp
          all_goals with_reducible rfl
         simp only [Act.put, setIfInBounds_toArray, set_cons_zero, set_cons_succ]
         refine wpAnyT_take (i := 1) (oi := ?_) (v := ?_) ?_ ?_ ?_ ?_ ?_ ?_ ?_ (by assumption) ?_
         rotate_left 2
         ·simp only [getElem?_toArray, getElem?_cons_zero, getElem?_cons_succ]
          rfl
         ·kernel_rfl
         ·kernel_rfl
         ·kernel_rfl
         ·kernel_rfl
         ·exact fun _ _ _ h => h
         ·refine Or.inl ⟨by rfl, ?_⟩
          intro w hSw
          (try dsimp only at hSw)
          go_simp
          all_goals with_reducible rfl
         simp only [Act.put, setIfInBounds_toArray, set_cons_zero, set_cons_succ]
         refine wpAnyT_take (i := 2) (oi := ?_) (v := ?_) ?_ ?_ ?_ ?_ ?_ ?_ ?_ (by assumption) ?_
         rotate_left 2
         ·simp only [getElem?_toArray, getElem?_cons_zero, getElem?_cons_succ]
          rfl
         ·kernel_rfl
         ·kernel_rfl
         ·kernel_rfl
         ·kernel_rfl
         ·exact fun _ _ _ h => h
         ·refine Or.inl ⟨by rfl, ?_⟩
          intro w hSw
          (try dsimp only at hSw)
          go_simp
          all_goals with_reducible rfl
         simp only [Act.put, setIfInBounds_toArray, set_cons_zero, set_cons_succ]
         refine wpAnyT_take (i := 3) (oi := ?_) (v := ?_) ?_ ?_ ?_ ?_ ?_ ?_ ?_ (by assumption) ?_
         rotate_left 2
         ·simp only [getElem?_toArray, getElem?_cons_zero, getElem?_cons_succ]
          rfl
         ·kernel_rfl
         ·kernel_rfl
         ·kernel_rfl
         ·kernel_rfl
         ·exact fun _ _ _ h => h
         ·refine Or.inl ⟨by rfl, ?_⟩
          intro w' hSw
          obtain ⟨d0, d1⟩ := hSw
          go_simp
          all_goals with_reducible rfl
         simp only [Act.put, setIfInBounds_toArray, set_cons_zero, set_cons_succ]
         refine wpAnyT_take (i := 4) (oi := ?_) (v := ?_) ?_ ?_ ?_ ?_ ?_ ?_ ?_ (by assumption) ?_
         rotate_left 2
         ·simp only [getElem?_toArray, getElem?_cons_zero, getElem?_cons_succ]
          rfl
         ·kernel_rfl
         ·kernel_rfl
         ·kernel_rfl
         ·kernel_rfl
         ·exact fun _ _ _ h => h
         ·refine Or.inl ⟨by rfl, ?_⟩
          intro w hSw
          (try dsimp only at hSw)
          go_simp
          all_goals with_reducible rfl
         simp only [Act.put, setIfInBounds_toArray, set_cons_zero, set_cons_succ]
         refine wpAnyT_take (i := 5) (oi := ?_) (v := ?_) ?_ ?_ ?_ ?_ ?_ ?_ ?_ (by assumption) ?_
         rotate_left 2
         ·simp only [getElem?_toArray, getElem?_cons_zero, getElem?_cons_succ]
          rfl
         ·kernel_rfl
         ·kernel_rfl
         ·kernel_rfl
         ·kernel_rfl
         ·exact fun _ _ _ h => h
         ·refine Or.inl ⟨by rfl, ?_⟩
          intro w hSw
          (try dsimp only at hSw)
          go_simp
          all_goals with_reducible rfl
         simp only [Act.put, setIfInBounds_toArray, set_cons_zero, set_cons_succ]
         refine wpAnyT_take (i := 6) (oi := ?_) (v := ?_) ?_ ?_ ?_ ?_ ?_ ?_ ?_ (by assumption) ?_
         rotate_left 2
         ·simp only [getElem?_toArray, getElem?_cons_zero, getElem?_cons_succ]
          rfl
         ·kernel_rfl
         ·kernel_rfl
         ·kernel_rfl
         ·kernel_rfl
         ·exact fun _ _ _ h => h
         ·refine Or.inl ⟨by rfl, ?_⟩
          intro w hSw
          (try dsimp only at hSw)
          go_simp
          all_goals with_reducible rfl
         simp only [Act.put, setIfInBounds_toArray, set_cons_zero, set_cons_succ]
         refine wpAnyT_take (i := 7) (oi := ?_) (v := ?_) ?_ ?_ ?_ ?_ ?_ ?_ ?_ (by assumption) ?_
         rotate_left 2
         ·simp only [getElem?_toArray, getElem?_cons_zero, getElem?_cons_succ]
          rfl
         ·kernel_rfl
         ·kernel_rfl
         ·kernel_rfl
         ·kernel_rfl
         ·exact fun _ _ _ h => h
         ·refine Or.inl ⟨by rfl, ?_⟩
          intro w' hSw
          obtain ⟨d0, d1⟩ := hSw
          go_simp
          all_goals with_reducible rfl
         simp only [Act.put, setIfInBounds_toArray, set_cons_zero, set_cons_succ]
         refine wpAnyT_take (i := 8) (oi := ?_) (v := ?_) ?_ ?_ ?_ ?_ ?_ ?_ ?_ (by assumption) ?_
         rotate_left 2
         ·simp only [getElem?_toArray, getElem?_cons_zero, getElem?_cons_succ]
          rfl
         ·kernel_rfl
         ·kernel_rfl
         ·kernel_rfl
         ·kernel_rfl
         ·exact fun _ _ _ h => h
         ·refine Or.inl ⟨by rfl, ?_⟩
          intro w hSw
          (try dsimp only at hSw)
          go_simp
          all_goals with_reducible rfl
         simp only [Act.put, setIfInBounds_toArray, set_cons_zero, set_cons_succ]
         refine wpAnyT_take (i := 9) (oi := ?_) (v := ?_) ?_ ?_ ?_ ?_ ?_ ?_ ?_ (by assumption) ?_
         rotate_left 2
         ·simp only [getElem?_toArray, getElem?_cons_zero, getElem?_cons_succ]
          rfl
         ·kernel_rfl
         ·kernel_rfl
         ·kernel_rfl
         ·kernel_rfl
         ·exact fun _ _ _ h => h
         ·refine Or.inl ⟨by rfl, ?_⟩
          intro w hSw
          (try dsimp only at hSw)
          go_simp
          all_goals with_reducible rfl
         simp only [Act.put, setIfInBounds_toArray, set_cons_zero, set_cons_succ]
         refine wpAnyT_take (i := 10) (oi := ?_) (v := ?_) ?_ ?_ ?_ ?_ ?_ ?_ ?_ (by assumption) ?_
         rotate_left 2
         ·simp only [getElem?_toArray, getElem?_cons_zero, getElem?_cons_succ]
          rfl
         ·kernel_rfl
         ·kernel_rfl
         ·kernel_rfl
         ·kernel_rfl
         ·exact fun _ _ _ h => h
         ·refine Or.inl ⟨by rfl, ?_⟩
          intro w hSw
          (try dsimp only at hSw)
          go_simp
          all_goals with_reducible rfl
         simp only [Act.put, setIfInBounds_toArray, set_cons_zero, set_cons_succ]
         refine wpAnyT_take (i := 11) (oi := ?_) (v := ?_) ?_ ?_ ?_ ?_ ?_ ?_ ?_ (by assumption) ?_
         rotate_left 2
         ·simp only [getElem?_toArray, getElem?_cons_zero, getElem?_cons_succ]
          rfl
         ·kernel_rfl
         ·kernel_rfl
         ·kernel_rfl
         ·kernel_rfl
         ·exact fun _ _ _ h => h
         ·refine Or.inl ⟨by rfl, ?_⟩
          intro w hSw
          (try dsimp only at hSw)
          go_simp
          all_goals with_reducible rfl
         simp only [Act.put, setIfInBounds_toArray, set_cons_zero, set_cons_succ]
         refine wpAnyT_last (o := ?_) (by kernel_rfl) ?_ (fun KK hKK => ?_)
         rotate_left
         ·simp only [getElem?_toArray, getElem?_cons_zero, getElem?_cons_succ]
          rfl
         go_simp
         refine hKK.out _ _ ?_
         clear hKK KK
         try simp only [Act.put, setIfInBounds_toArray, set_cons_zero, set_cons_succ]
         refine wpAnyT_done (by kernel_rfl) ?_ _
         go_wp2
         go_roundw
         case rel => exact ⟨k + 1, by omega, by go_num, by have h := HNX.out; rw [← HF2.out] at h; exact h⟩
         case measure => simp [intOf]; omega
        ·obtain rfl : k = 8 := by omega
         have HI := Lib.hid (size32x8 (Sh.turn_len h l))
         have HO : Hid (Obj wr B 112 (cellsK .u32 (Sh.turn h l))) := by have := hR.hO; rw [HF.out] at this; exact this
         have HZ := Lib.hid hR.rO
         have HTL := Lib.hid (Sh.turn_len h l)
         have HBE := Lib.hid hR.bel
         clear hR HR
         go_wp2_with (first
          | (refine wpList_load_row rfl 112 (.tmp 2) rfl _ rfl _ _ _ _ HO.out Tryd.underlying112 rfl HI.out ?_)
          | (refine wpList_store_row rfl 112 (.tmp 4) (.tmp 209) rfl _ _ rfl rfl _ _ HZ.out HI.out (by rw [cellsK_size, cellsK_size, HTL.out]; simp) (one_cellsK _ _) ?_))
         exact bodyPost_ret (v := .agg (cellsK .u32 (Sh.turn h l))) (results_cell_row rfl _ _ _ _ _ _ _ rfl (HZ.out.row _) Tryd.underlying112 rfl HI.out) rfl ⟨rfl, by rw [HB.out]; exact row_below HBE.out HZ.out.lt _⟩
end Go.Proofs.YtabfcaidioohfaaDoor
