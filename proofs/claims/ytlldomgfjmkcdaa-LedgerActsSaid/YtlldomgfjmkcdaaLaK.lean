/- Layer 15: a ledger that is nil. -/
import Derived.RangeFuncNested
import Derived.RangeFuncBound
import Derived.RangeFuncCalls
import Derived.RangeFuncLeaves
import Derived.RangeFuncBox
import Derived.Shelf.Abstract
import Derived.Shelf.RegionOpen
import Derived.WalkKit
import Derived.OwnWalkIn
import Derived.TacticsInMore
import Derived.LoopNIn
import Derived.LoopIn
import Derived.WalkSpells
import Derived.IntWalk
import Derived.Lib.Hide
import Derived.Test.YtlldomgfjmkcdaaRows
import Derived.Test.YtlldomgfjmkcdaaAid
import Derived.Test.YtlldomgfjmkcdaaLgW
import Derived.Test.YtlldomgfjmkcdaaLgA
import Derived.Test.YtlldomgfjmkcdaaLgB
import Derived.Test.YtlldomgfjmkcdaaLgF
import Derived.Test.YtlldomgfjmkcdaaRsF
import Derived.Test.YtlldomgfjmkcdaaLgR
import Derived.Test.YtlldomgfjmkcdaaItM
import Derived.Test.YtlldomgfjmkcdaaLgA
import Derived.Test.YtlldomgfjmkcdaaLgB
import Derived.Test.YtlldomgfjmkcdaaLgC
import Derived.Test.YtlldomgfjmkcdaaLgD
import Derived.Test.YtlldomgfjmkcdaaLgJ
import Derived.Test.YtlldomgfjmkcdaaLgS
namespace Go.Proofs.Ytlldomgfjmkcdaa.Rm
open Go Go.RowKit Go.Shelf
set_option linter.unusedVariables false
set_option linter.unusedSimpArgs false

set_option maxHeartbeats 1000000 in
theorem list_nil (w : World) : Calls Try.prog 12 #[.pointer none] w fun e w' => ∃ v', e = .returned v' ∧ w'.ownsRow w.heap.size 32 5 v' ([] : List PS).length (flatS []) ∧ Below w.heap.size w w' := by
  go_enter Try.func12, Try.ntmps12
  go_wp2
  go_ret
  exact ⟨_, rfl, World.ownsRow_nil _ _ _ _, Below.refl _ _⟩
set_option maxHeartbeats 1000000 in
theorem list_nil0 (w : World) : Calls Try.prog 12 #[.pointer none] w fun e w' => e = .returned (.slice none 0 0) ∧ w = w' := by
  go_enter Try.func12, Try.ntmps12
  go_wp2
  go_ret
  exact ⟨rfl, rfl⟩
set_option maxHeartbeats 1000000 in
theorem next_nil (w : World) : Calls Try.prog 13 #[.pointer none] w fun e w' => e = .returned (.int .i64 0) ∧ w = w' := by
  go_enter Try.func13, Try.ntmps13
  go_wp2
  go_ret
  exact ⟨rfl, rfl⟩
set_option maxHeartbeats 1000000 in
theorem acked_nil (w : World) : Calls Try.prog 18 #[.pointer none] w fun e w' => e = .returned (.int .i64 (-1)) ∧ w = w' := by
  go_enter Try.func18, Try.ntmps18
  go_wp2
  go_ret
  exact ⟨rfl, rfl⟩
set_option maxHeartbeats 1000000 in
theorem ack_nil (w : World) : Calls Try.prog 10 #[.pointer none, .slice none 0 0] w fun e w' => e = .returned (.tuple #[.slice none 0 0, .int .i64 1]) ∧ Below w.heap.size w w' := by
  go_enter Try.func10, Try.ntmps10
  go_wp2
  go_ret2
  exact ⟨rfl, by go_grown⟩
set_option maxHeartbeats 1000000 in
theorem send_nil (w : World) : Calls Try.prog 9 #[.pointer none, .agg #[.int .i64 0, .int .u64 0, .int .i64 0, .bool false, .slice none 0 0]] w fun e w' => e = .returned (.tuple #[.int .i64 0, .int .i64 1]) ∧ Below w.heap.size w w' := by
  go_enter Try.func9, Try.ntmps9
  go_wp2
  go_ret2
  exact ⟨rfl, by go_grown⟩
set_option maxHeartbeats 1000000 in
theorem part_nil (i : Nat) (cap : Array Value) (w : World) : Calls Try.prog 27 #[.pointer none, .func (.func i) #[] cap] w fun e w' => e = .returned (.slice none 0 0) ∧ Below w.heap.size w w' := by
  go_enter Try.func27, Try.ntmps27
  go_wp2
  go_ret
  exact ⟨rfl, by go_grown⟩
set_option maxHeartbeats 1000000 in
theorem flight_nil (w : World) : Calls Try.prog 14 #[.pointer none] w fun e w' => e = .returned (.complex .f64 0 0) ∧ Below w.heap.size w w' := by
  go_enter Try.func14, Try.ntmps14
  go_wp2_with fail
  refine (list_nil0 w).mono ?_
  rintro e w1 ⟨rfl, rfl⟩
  go_wp2
  go_loopw [3, 5, 9] (fun s _ i wr => i = .int .i64 0 ∧ s = .complex .f64 0 0 ∧ wr = w) (fun _ _ _ _ => 0)
  case atStart => exact ⟨rfl, rfl, rfl⟩
  case round =>
    obtain ⟨rfl, rfl, rfl⟩ := hrel
    go_wp2
    go_ret
    exact ⟨rfl, Below.refl _ _⟩
set_option maxHeartbeats 1000000 in
theorem due_nil (w : World) : Calls Try.prog 15 #[.pointer none, .int .u64 0] w fun e w' => e = .returned (.int .u64 18446744073709551615) ∧ Below w.heap.size w w' := by
  go_enter Try.func15, Try.ntmps15
  go_wp2_with fail
  refine (list_nil0 w).mono ?_
  rintro e w1 ⟨rfl, rfl⟩
  go_wp2
  go_loopw [5, 7, 11] (fun t _ i wr => i = .int .i64 0 ∧ t = .int .u64 18446744073709551615 ∧ wr = w) (fun _ _ _ _ => 0)
  case atStart => exact ⟨rfl, rfl, rfl⟩
  case round =>
    obtain ⟨rfl, rfl, rfl⟩ := hrel
    go_wp2
    go_ret
    exact ⟨rfl, Below.refl _ _⟩
set_option maxHeartbeats 1000000 in
theorem drop_nil (w : World) : Calls Try.prog 16 #[.pointer none] w fun e w' => e = .returned (.int .i64 0) ∧ Below w.heap.size w w' := by
  go_enter Try.func16, Try.ntmps16
  go_wp2_with fail
  refine (part_nil _ _ _).mono ?_
  rintro e w1 ⟨rfl, hb⟩
  have HB := Lib.hid hb
  clear hb
  go_wp2
  go_ret
  exact ⟨rfl, HB.out⟩
set_option maxHeartbeats 1000000 in
theorem lost_nil (w : World) : Calls Try.prog 11 #[.pointer none, .int .u64 0, .int .u64 0] w fun e w' => e = .returned (.slice none 0 0) ∧ Below w.heap.size w w' := by
  go_enter Try.func11, Try.ntmps11
  go_wp2_with fail
  refine (part_nil _ _ _).mono ?_
  rintro e w1 ⟨rfl, hb⟩
  have hb0 : Below w.heap.size w (((w.alloc (.cells #[.pointer none] 55)).alloc (.cells #[.int .u64 0] 29)).alloc (.cells #[.int .u64 0] 29)) := by go_grown
  have HB := Lib.hid (hb0.trans (hb.mono hb0.size))
  clear hb hb0
  go_wp2
  go_ret
  exact ⟨rfl, HB.out⟩
set_option maxRecDepth 100000 in
set_option maxHeartbeats 4000000 in
theorem last_nil (w : World) :
    Calls Try.prog 17 #[.pointer none] w fun e w' => e = .returned (.tuple #[.int .u64 ((lastL ([] : List PS)).1 : Int), .bool (lastL ([] : List PS)).2]) ∧ Below w.heap.size w w' := by
  refine (callsIn_wide (n := 3)).1 ?_
  refine callsIn_of_wp_marks Try.func17 rfl trivial ?_ rfl
  simp only [Try.ntmps17, List.size_toArray, List.length_cons, List.length_nil, Nat.reduceAdd, Nat.reduceSub, Array.replicate_succ, Array.replicate_zero, List.push_toArray, List.append_toArray, List.nil_append, List.cons_append]
  refine wpIn_wide.2 ?_
  obtain ⟨B, hB⟩ : ∃ B, w.heap.size = B := ⟨_, rfl⟩
  obtain ⟨W1, hW1⟩ : ∃ W1, (w.alloc (.cells #[.int .u64 0] 29)).alloc (.cells #[.bool false] 4) = W1 := ⟨_, rfl⟩
  have hb1 : Below w.heap.size w W1 := hW1 ▸ ((Below.refl _ w).alloc (Nat.le_refl _) _).alloc (by simp) _
  have o0 : Obj W1 B 29 #[.int .u64 0] := hW1 ▸ hB ▸ (Obj.new w _ _).alloc _
  have o1 : Obj W1 (B + 1) 4 #[.bool false] := by
    have := Obj.new (w.alloc (.cells #[.int .u64 0] 29)) 4 #[.bool false]
    rw [World.size_alloc, hB] at this
    exact hW1 ▸ this
  have hn : ([] : List PS).length ≤ 1000 := by decide
  have HL := Lib.hid (list_nil W1)
  have O0 := Lib.hid o0
  have O1 := Lib.hid o1
  have HB1 := Lib.hid hb1
  obtain ⟨l, hl⟩ : ∃ l, ([] : List PS) = l := ⟨_, rfl⟩
  rw [hl] at HL hn ⊢
  obtain ⟨n, hln⟩ : ∃ n, l.length = n := ⟨_, rfl⟩
  rw [hln] at HL hn
  have HLN := Lib.hid hln
  have HN0 : Hid (n = 0) := by unfold Hid; rw [← hln, ← hl]; rfl
  clear hb1 o0 o1 hln hl
  go_wp2_with fail
  refine HL.out.mono ?_
  rintro e w2 ⟨v2, rfl, ho, hb⟩
  obtain ⟨A, c, rfl, _, _, _, _, _⟩ := ownS_rb ho
  have HO := Lib.hid ho
  have HB := Lib.hid hb
  clear ho hb
  go_wp2_with fail
  refine (backward_any A n c _).mono ?_
  rintro e w3 ⟨rfl, rfl⟩
  go_wp2
  obtain ⟨Bx, hBx⟩ : ∃ Bx, w2.heap.size = Bx := ⟨_, rfl⟩
  obtain ⟨g, hg⟩ : ∃ g, 0 < n → A = some ⟨g, 0, none⟩ ∧ g < w2.heap.size ∧ RowC w2 g l := by
    by_cases hp : 0 < n
    · obtain ⟨g, c', e, _, hgl, _⟩ := ownS_cells HO.out (i := 0) (by rw [HLN.out]; exact hp)
      cases e
      refine ⟨g, fun _ => ⟨rfl, hgl, fun i hi => ?_⟩⟩
      obtain ⟨g', c'', e, _, _, q⟩ := ownS_cells HO.out (i := i) hi
      cases e
      exact q
    · exact ⟨0, fun h => absurd h hp⟩
  have hI0 : LaI w B Bx g n c A l 0 (w2.alloc (.cells #[.slice A n c] 25)) := by
    have hba : Below w2.heap.size w2 (w2.alloc (.cells #[.slice A n c] 25)) := (Below.refl _ w2).alloc (Nat.le_refl _) _
    refine ⟨⟨_, (O0.out.kept HB.out).kept hba⟩, ⟨_, (O1.out.kept HB.out).kept hba⟩, hBx ▸ Obj.new w2 _ _, fun hp => ?_, fun j hj => by omega, HB1.out.trans ((HB.out.trans (hba.mono HB.out.size)).mono HB1.out.size)⟩
    obtain ⟨e, h1, h2⟩ := hg hp
    exact ⟨e, by simp; omega, h2.to (hba.block g h1)⟩
  have hBB : B + 1 < Bx := by have := (O1.out.kept HB.out).lt; omega
  have hgb : 0 < n → g < Bx + 1 := fun hp => by have := (hg hp).2.1; omega
  have hsz : (w2.alloc (.cells #[.slice A n c] 25)).heap.size = Bx + 1 := by simp [hBx]
  rw [hBx]
  have HI0 := Lib.hid hI0
  have HSZ := Lib.hid hsz
  have HBX := Lib.hid hBx
  have HW := Lib.hid hB
  obtain ⟨kf, hkf⟩ : ∃ kf : Nat → Nat, ∀ i, kf i = n - 1 - i := ⟨fun i => n - 1 - i, fun _ => rfl⟩
  have hEnc : encB l = fun i => #[.int .i64 (kf i : Int), agS (l.getD (kf i) default)] := by
    funext i; unfold encB; rw [hkf, HLN.out]
  have hG := back1_gives Fence.wide 2 trivial rfl (by omega) Bx n c A l HLN.out (by omega)
  rw [hEnc] at hG
  obtain ⟨fr, hfr⟩ : ∃ fr : Nat → Nat → Array Value, fr = (fun z i => #[.pointer none, undef, .pointer (some ⟨B, 0, none⟩), .pointer (some ⟨B + 1, 0, none⟩), undef, .pointer (some ⟨z, 0, none⟩), .pointer none, .slice A n c, .func (.func 44) #[] #[.pointer (some ⟨Bx, 0, none⟩)], .int .i64 (kf i : Int), agS (l.getD (kf i) default), undef, undef, undef, undef]) := ⟨_, rfl⟩
  have HFR := Lib.hid hfr
  have HKF := Lib.hid hkf
  clear hI0 hg hEnc hB hW1 hfr hkf
  refine (wpIn_wide (n := 3)).1 ?_
  refine wpIn_rangeFunc_mx (n := 3) rfl (by omega) (gf := 44) (lb := #[.pointer (some ⟨Bx, 0, none⟩)]) rfl trivial (enters_of Try.func44 (by kernel_rfl) rfl)
    hG (fun i => rfl) (LaI w B Bx g n c A l) (LaX w B n l) (LaM w B Bx g n c A l fr (Bx + 1)) ?own ?ownx ?ownm ?tell HI0.out ?assign ?body ?done ?stop
  case own => rw [hsz]; exact LaI.own HW.out (by omega) (by omega) hgb
  case ownx => rw [hsz]; exact LaX.own HW.out (by omega)
  case ownm => rw [hsz]; intro a'; exact LaM.own a' HW.out (by omega) (by omega) hgb
  case tell => intro i V hV; exact ⟨hV.x0.cell 0, fun hp => ⟨g, (hV.row hp).1, (hV.row hp).2.2⟩⟩
  case assign =>
    intro l' i W hI hiN
    exact absurd hiN (by have := HN0.out; omega)
  case body =>
    rintro l' i a' W ⟨hst, z, hz, rfl, ho⟩ hiN
    exact absurd hiN (by have := HN0.out; omega)
  case done =>
    intro D V hD hI hK
    have hI' : LaI w B Bx g n c A l n V := hI
    rw [hsz] at hD
    have hw := HW.out
    obtain ⟨v0, e0⟩ := hI'.r0
    obtain ⟨v1, e1⟩ := hI'.r1
    have c0 : V.cell? ⟨B, 0, none⟩ = some v0 := by rw [e0.cell]; rfl
    have z0 := e0.free 0
    have u1 : Upd B V (V.setCell ⟨B, 0, none⟩ (.int .u64 0)) := (Upd.refl _ V).set 0 _
    have x0 := e0.set 0 (.int .u64 0)
    have x1 := e1.upd u1 (by omega)
    have c1 : (V.setCell ⟨B, 0, none⟩ (.int .u64 0)).cell? ⟨B + 1, 0, none⟩ = some v1 := by rw [x1.cell]; rfl
    have z1 := x1.free 0
    have u2 : Upd (B + 1) (V.setCell ⟨B, 0, none⟩ (.int .u64 0)) ((V.setCell ⟨B, 0, none⟩ (.int .u64 0)).setCell ⟨B + 1, 0, none⟩ (.bool false)) := (Upd.refl _ _).set 0 _
    obtain ⟨V2, hV2⟩ : ∃ V2, (V.setCell ⟨B, 0, none⟩ (.int .u64 0)).setCell ⟨B + 1, 0, none⟩ (.bool false) = V2 := ⟨_, rfl⟩
    have y0 : Obj V2 B 29 #[.int .u64 0] := hV2 ▸ (x0.upd u2 (by omega)).as rfl
    have y1 : Obj V2 (B + 1) 4 #[.bool false] := hV2 ▸ (x1.set 0 _).as rfl
    have hb := hI'.bel
    have yb : Below w.heap.size w V2 := hV2 ▸ ⟨u2.os.trans (u1.os.trans hb.os), u2.tape.trans (u1.tape.trans hb.tape), u2.output.trans (u1.output.trans hb.output), by have := hb.size; have := u1.size; have := u2.size; omega, fun j hj => (u2.block j (by have := hb.size; have := u1.size; omega) (by omega)).trans ((u1.block j (by have := hb.size; omega) (by omega)).trans (hb.block j hj))⟩
    have hK2 : V2.heap[D]? = some (.deferred (some [])) := by
      have hd := (Array.getElem?_eq_some_iff.1 hK).1
      rw [← hV2]; exact (u2.block D (by have := u1.size; omega) (by omega)).trans ((u1.block D hd (by omega)).trans hK)
    have ho : ∀ j, j ≠ D → (V2.putObj D (.deferred none)).heap[j]? = V2.heap[j]? := fun j hj => World.putObj_heap_other (by omega)
    have q0 : Obj (V2.putObj D (.deferred none)) B _ _ := (ho B (by omega)).trans y0
    have q1 : Obj (V2.putObj D (.deferred none)) (B + 1) _ _ := (ho (B + 1) (by omega)).trans y1
    have p0 : (V2.putObj D (.deferred none)).cell? ⟨B, 0, none⟩ = some (.int .u64 0) := by rw [q0.cell]; rfl
    have p1 : (V2.putObj D (.deferred none)).cell? ⟨B + 1, 0, none⟩ = some (.bool false) := by rw [q1.cell]; rfl
    have hgp := grownBy_putObj' V2 D (.deferred none)
    have HFI : Hid (lastL l = (0, false) ∧ Below w.heap.size w (V2.putObj D (.deferred none))) := ⟨last_no HLN.out hI'.none, ⟨hgp.os.trans yb.os, hgp.tape.trans yb.tape, hgp.output.trans yb.output, Nat.le_trans yb.size hgp.size, fun j hj => (ho j (by omega)).trans (yb.block j hj)⟩⟩
    have HK2 := Lib.hid hK2
    clear hI hI' hK q0 q1 hw e0 e1 u1 x0 x1 u2 y0 y1 hb yb ho hgp hG hK2
    go_wp2
    refine ⟨by simp, .inl ⟨_, _, rfl, run_takeDeferred HK2.out, ?_⟩⟩
    exact ⟨.tuple #[.int .u64 0, .bool false], by simp [results, Try.results17, go_sem, p0, p1], by rw [HFI.out.1]; rfl, HFI.out.2⟩
  case stop =>
    rintro D c' i V hD hX hK
    exact absurd hX.lt (by have := HN0.out; omega)
end Go.Proofs.Ytlldomgfjmkcdaa.Rm
