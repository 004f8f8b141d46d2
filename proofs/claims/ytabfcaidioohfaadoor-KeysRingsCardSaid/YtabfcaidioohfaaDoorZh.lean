/- Joined: Layer 10: keys that lie in a block; a packet's number. | The tables of layer 10 out of the row's condition. -/
import Derived.Test.YtabfcaidioohfaaDoorRows
import Derived.Test.YtabfcaidioohfaaDoorZp
import Derived.Test.YtabfcaidioohfaaDoorZa
import Derived.Test.YtabfcaidioohfaaDoorZs
import Derived.Test.YtabfcaidioohfaaDoorZu
import Derived.Test.YtabfcaidioohfaaDoorZk
import Derived.WalkKit
import Derived.Great.Walk
import Derived.OwnWalkIn
import Derived.LoopN
import Derived.LoopIn
import Derived.WalkSpells
import Derived.WalkLawsBesides
import Derived.Laws.Rows
import Derived.Laws.CopyOwn
import Derived.Handy
import Derived.BigQuiet
import Derived.Deep.QuietTactic
import Derived.Deep.MidRow
import Derived.Deep.RegionHeld3
import Derived.IntWalk
import Derived.Lib.Hide
import Derived.Test.YtabfcaidioohfaaDoorZl
import Derived.Test.YtabfcaidioohfaaDoorZt
import Derived.ProofKit
import Derived.LaidMore
import Derived.LaidLaws
import Derived.Lib.LaidTab
import Derived.OpenShut
import Derived.WideShapes
import Derived.ChangeShapes
import Derived.Stop.Joined
namespace Go.Proofs.YtabfcaidioohfaaDoor
open Go Go.RowKit Go.Shelf
set_option linter.unusedVariables false
set_option linter.unusedSimpArgs false
set_option maxRecDepth 100000
theorem rowT_rd {w : World} {g : Nat} {t : TypeId} {l : List Nat} {tail : List Value} (h : Obj w g t (rowT l tail)) : Rd w (some ⟨g, 0, none⟩) l := fun _ =>
 ⟨g, 0, rfl, h.lt, fun j hj => by rw [Nat.zero_add]; exact h.getT j hj⟩
/-- Keys that lie in a block. -/
structure SzI (w : World) (T : Nat) (s : Ky.Sec) (V : World) : Prop where
 o : Obj V T 29 (secV s)
 bel : Below w.heap.size w V
theorem SzI.kept {w V V' : World} {T : Nat} {s : Ky.Sec} (h : SzI w T s V) (hb : Below V.heap.size V V') : SzI w T s V' := ⟨h.o.kept hb, h.bel.trans (hb.mono h.bel.size)⟩
/-- The number of a packet, as an unsigned one. -/
theorem u64_of {n : Int} : ∃ u : Nat, IntKind.u64.wrap n = (u : Int) ∧ u < 18446744073709551616 := by
 refine ⟨(n % 18446744073709551616).toNat, ?_, ?_⟩
 ·rw [IntKind.wrap_u64]; omega
 ·omega
def z32 : Array Value := #[.int .u8 0, .int .u8 0, .int .u8 0, .int .u8 0, .int .u8 0, .int .u8 0, .int .u8 0, .int .u8 0, .int .u8 0, .int .u8 0, .int .u8 0, .int .u8 0, .int .u8 0, .int .u8 0, .int .u8 0, .int .u8 0, .int .u8 0, .int .u8 0, .int .u8 0, .int .u8 0, .int .u8 0, .int .u8 0, .int .u8 0, .int .u8 0, .int .u8 0, .int .u8 0, .int .u8 0, .int .u8 0, .int .u8 0, .int .u8 0, .int .u8 0, .int .u8 0]
/-- Two secrets laid down. -/
theorem twoH (V : World) (L1 L2 : List Nat) :
  Obj ((V.alloc (.cells z32 23)).alloc (.cells z32 23)) V.heap.size 23 z32 ∧
  Obj (((V.alloc (.cells z32 23)).alloc (.cells z32 23)).setRow V.heap.size (cellsN L1)) (V.heap.size + 1) 23 z32 ∧
  Obj ((((V.alloc (.cells z32 23)).alloc (.cells z32 23)).setRow V.heap.size (cellsN L1)).setRow (V.heap.size + 1) (cellsN L2)) V.heap.size 23 (cellsN L1) ∧
  Obj ((((V.alloc (.cells z32 23)).alloc (.cells z32 23)).setRow V.heap.size (cellsN L1)).setRow (V.heap.size + 1) (cellsN L2)) (V.heap.size + 1) 23 (cellsN L2) ∧
  Below V.heap.size V ((((V.alloc (.cells z32 23)).alloc (.cells z32 23)).setRow V.heap.size (cellsN L1)).setRow (V.heap.size + 1) (cellsN L2)) := by
 obtain ⟨Ca, hCa⟩ : ∃ C, V.heap.size = C := ⟨_, rfl⟩
 obtain ⟨W3, hW3⟩ : ∃ W3, (V.alloc (.cells z32 23)).alloc (.cells z32 23) = W3 := ⟨_, rfl⟩
 have o1 : Obj W3 Ca 23 z32 := hW3 ▸ hCa ▸ (Obj.new V _ _).alloc _
 have o2 : Obj W3 (Ca + 1) 23 z32 := hW3 ▸ hCa ▸ new2 V _ _ _
 have u4 : Upd Ca W3 (W3.setRow Ca (cellsN L1)) := (Upd.refl _ W3).row _
 have o4 : Obj (W3.setRow Ca (cellsN L1)) (Ca + 1) 23 z32 := o2.upd u4 (by omega)
 have u5 : Upd (Ca + 1) (W3.setRow Ca (cellsN L1)) ((W3.setRow Ca (cellsN L1)).setRow (Ca + 1) (cellsN L2)) := (Upd.refl _ _).row _
 have b3 : Below V.heap.size V W3 := hW3 ▸ ((Below.refl _ V).alloc (Nat.le_refl _) _).alloc (by simp) _
 have b5 := Upd.below (Upd.below b3 (Nat.le_of_eq hCa) u4) (by omega) u5
 rw [hW3, hCa]
 rw [hCa] at b5
 exact ⟨o1, o4, (o1.row (cellsN L1)).upd u5 (by omega), o4.row (cellsN L2), b5⟩
end Go.Proofs.YtabfcaidioohfaaDoor
namespace Go.Proofs.YtabfcaidioohfaaDoor
open Go Go.ChangeShapes Go.WideShapes Go.RowKit
set_option linter.unusedVariables false
set_option linter.unusedSimpArgs false
set_option maxRecDepth 100000
def laid3 : List (String × DataW Unit) := [("doorward/api.K", Rows.laid_doorward_api_K), ("doorward/api.First", Rows.laid_doorward_api_First), ("doorward/keys.labels", Rows.laid_doorward_keys_labels)]
theorem gL : Tryd.prog.globalNamed "doorward/keys.labels" = some 0 := by kernel_rfl
theorem tL : (Tryd.prog.globals[0]?).map (·.type) = some 72 := by kernel_rfl
/-- The door's own heap meets the condition. -/
theorem door_met3 (os : Os) (args : Array Value) : laidMetH Tryd.prog laid3 ((World.doorLaid Tryd.prog 400 os).forCall (fun _ _ => 0) ⟨#[], args, []⟩).memory :=
 laidMetH_of_parts3 (fuel := 8) (laidMet_of_run' 8 (by kernel_rfl) (by kernel_rfl)) (by kernel_rfl) (by kernel_rfl)
theorem ktab_of_laid {W : World} (h : laidMetH Tryd.prog laid3 W) : KTab W := by
 rw [MakeChecks.laidMetH_plain _ _ _ (by kernel_rfl)] at h
 unfold laid3 at h
 obtain ⟨ps, ⟨g0, t0, cs0, f0, p0, q0, hg0, ht0, hv0, hd0, ⟨g1, t1, cs1, f1, p1, q1, hg1, ht1, hv1, hd1, ⟨g2, t2, cs2, f2, p2, q2, hg2, ht2, hv2, hd2, _, _⟩, _⟩, _⟩, _, _⟩ := h
 obtain rfl := Option.some.inj (gK.symm.trans hg0)
 obtain rfl := Option.some.inj (gF.symm.trans hg1)
 obtain rfl := Option.some.inj (gL.symm.trans hg2)
 obtain rfl := Option.some.inj (tK.symm.trans ht0)
 obtain rfl := Option.some.inj (tF.symm.trans ht1)
 obtain rfl := Option.some.inj (tL.symm.trans ht2)
 rw [dK] at hd0
 rw [dF] at hd1
 have hK : Lib.TabIs Tryd.prog W "doorward/api.K" .u32 zsK := by
  unfold Lib.TabIs
  rw [hv0, ← Lib.cells_of_tab Tryd.underlying134 Tryd.underlying111 (by kernel_rfl) (by kernel_rfl) hd0]
 have hF : Lib.TabIs Tryd.prog W "doorward/api.First" .u32 zsF := by
  unfold Lib.TabIs
  rw [hv1, ← Lib.cells_of_tab Tryd.underlying112 Tryd.underlying111 (by kernel_rfl) (by kernel_rfl) hd1]
 have k : ∀ i, i < 64 → W.cell? ⟨2, i, none⟩ = some (.int .u32 ((Sh.kz.getD i 0 : Nat) : Int)) := fun i hi => by
  rw [hK.cell gK i (by unfold zsK; rw [List.length_map, Sh.kz_lt.1]; exact hi)]
  unfold zsK; rw [getD_cast]
 have f : ∀ i, i < 8 → W.cell? ⟨1, i, none⟩ = some (.int .u32 ((Sh.first.getD i 0 : Nat) : Int)) := fun i hi => by
  rw [hF.cell gF i (by unfold zsF; rw [List.length_map, Sh.first_lt.1]; exact hi)]
  unfold zsF; rw [getD_cast]
 have hS : ∀ i, i < 3 → cs2[i]? = some (.string (Ky.labB i)) := by
  cases f2 with
  | zero => simp [DataW.trod] at hd2
  | succ fuel =>
   have hce : Tryd.prog.cellsOf 9 = 1 := by kernel_rfl
   have hct : Tryd.prog.cellsOf 72 = 3 := by kernel_rfl
   simp only [DataW.trod, Tryd.underlying72, hce, hct, Nat.mul_one] at hd2
   split at hd2
   ·obtain ⟨xs, hm, hx⟩ := Option.map_eq_some_iff.1 hd2
    have hxs : xs.map (·.1) = [(DataW.lit (.string [113, 117, 105, 99, 32, 107, 101, 121]) : DataW Unit), .lit (.string [113, 117, 105, 99, 32, 105, 118]), .lit (.string [113, 117, 105, 99, 32, 107, 117])] := by
     have := congrArg Prod.fst hx
     simpa [Rows.laid_doorward_keys_labels] using this
    intro i hi
    obtain ⟨b, hb, hf⟩ := Lib.mapM_at hm i i (by simp [hi])
    obtain ⟨z, hc, hz, hw⟩ := DataW.trod_string Tryd.underlying9 hf
    have h1 : cs2[i]? = some (.string z) := by
     have := congrArg (·[0]?) hc
     simpa [List.getElem?_take, List.getElem?_drop] using this
    have h2 : (xs.map (·.1))[i]? = some b.1 := by simp [hb]
    rw [hxs, hz] at h2
    rw [h1]
    congr 2
    obtain rfl | rfl | rfl : i = 0 ∨ i = 1 ∨ i = 2 := by omega
    all_goals
     simp at h2
     exact ByteArray.ext (Array.ext' h2.symm)
   ·cases hd2
 refine ⟨⟨⟨World.block_lt_of_cell? W ⟨2, 0, none⟩ (k 0 (by omega)), World.block_lt_of_cell? W ⟨1, 0, none⟩ (f 0 (by omega))⟩, k, f⟩, ?_, ?_⟩
 ·exact World.block_lt_of_cell? W ⟨0, 0, none⟩ ((World.var?_cell gL hv2 0).trans (hS 0 (by omega)))
 ·intro i hi
  exact (World.var?_cell gL hv2 i).trans (hS i hi)
end Go.Proofs.YtabfcaidioohfaaDoor
