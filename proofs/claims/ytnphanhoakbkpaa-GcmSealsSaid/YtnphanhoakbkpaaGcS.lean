/- Layer 9's gcm, the document's list of bits. -/
import Derived.RangeFuncNested
import Derived.RangeFuncBound
import Derived.RangeFuncCalls
import Derived.RangeFuncLeaves
import Derived.RangeFuncBox
import Derived.Shelf.Abstract
import Derived.Shelf.RegionOpen
import Derived.WalkKit
import Derived.OwnWalkIn
import Derived.TacticsInMore
import Derived.LoopN
import Derived.LoopNIn
import Derived.LoopIn
import Derived.WalkSpells
import Derived.WalkLawsBesides
import Derived.Laws.Rows
import Derived.Laws.EntriesVeiled
import Derived.Laws.BitsAllLaws
import Derived.Handy
import Derived.BigQuiet
import Derived.Deep.QuietTactic
import Derived.IntWalk
import Derived.Lib.Hide
import Derived.Outline
import Derived.Test.YtnphanhoakbkpaaRows
import Derived.Test.YtnphanhoakbkpaaAid
import Derived.Test.YtnphanhoakbkpaaPlainAe
import Derived.Test.YtnphanhoakbkpaaPlainAe2
import Derived.Test.YtnphanhoakbkpaaPlainGc
import Derived.Test.YtnphanhoakbkpaaPlainGc2
import Derived.Test.YtnphanhoakbkpaaAesB
import Derived.Test.YtnphanhoakbkpaaAesBox
import Derived.Test.YtnphanhoakbkpaaAesW
import Derived.Test.YtnphanhoakbkpaaAesE
import Derived.Test.YtnphanhoakbkpaaAesK
import Derived.Test.YtnphanhoakbkpaaAesS
import Derived.Test.YtnphanhoakbkpaaAesT
import Derived.Test.YtnphanhoakbkpaaBl
import Derived.Test.YtnphanhoakbkpaaItF
import Derived.Test.YtnphanhoakbkpaaGcA
import Derived.Test.YtnphanhoakbkpaaGcB
import Derived.Test.YtnphanhoakbkpaaGcD
import Derived.Test.YtnphanhoakbkpaaGcE
import Derived.Test.YtnphanhoakbkpaaGcF
import Derived.Test.YtnphanhoakbkpaaGcG
import Derived.Test.YtnphanhoakbkpaaGcR
import Derived.Test.YtnphanhoakbkpaaPlainGc4
import Derived.Test.YtnphanhoakbkpaaPlainGc5
import Derived.Deep.Onto
namespace Go.Proofs.Ytnphanhoakbkpaa
open Go Go.RowKit Go.Shelf
set_option linter.unusedVariables false
set_option linter.unusedSimpArgs false
def iv (x : Nat) : Value := .int .i64 (x : Int)
theorem infoI : (Try.prog.info? 3).map (fun i => (i.zero, i.size, i.bytes)) = some (some (.int .i64 0), 1, 8) := by kernel_rfl
theorem own_form {w : World} {base n : Nat} {e : TypeId} {v : Value} {xs : List Value} (h : w.ownsRow base e 1 v n xs) : ∃ A c, v = .slice A n c := by
  rcases h.2 with ⟨rfl, rfl⟩ | ⟨g, cap, cur, rfl, _⟩
  · exact ⟨_, _, rfl⟩
  · exact ⟨_, _, rfl⟩
/-- A number that is appended to an own slice of numbers. -/
theorem wpList_appI {ops : Array Oper} {rest : List Oper} {o : Oper} {a : Act} {w : World} {Q : Exit → Act → World → Prop} (hgd : o.guard = none) (s x : Operand)
    (ho : o.op = .call { callee := .builtin .append, args := #[s, x], argTypes := #[49, 49] })
    (base : Nat) (v : Value) (n : Nat) (xs : List Value) (hs : a.eval s = v) (hown : w.ownsRow base 3 1 v n xs)
    (g z : Nat) (hx : a.eval x = .slice (some ⟨g, 0, none⟩) 1 1) (hg : Obj w g 3 #[iv z]) (hm : n + 1 ≤ 100000000) (hbase : base ≤ w.heap.size)
    (h : ∀ v' w', w'.ownsRow base 3 1 v' (n + 1) (xs ++ [iv z]) → w.grownBy w' v.ownBlock → wpList Try.prog ops Q rest (a.put o.dst v') w') : wpList Try.prog ops Q (o :: rest) a w := by
  obtain ⟨i0, hi, hz0, hz1, hz2⟩ := info_parts infoI
  refine wpList_append_own w hgd s x 49 ho base 3 i0 (.int .i64 0) 1 8 Try.underlying49 hi hz0 hz1 hz2 rfl (by decide) v n xs hs hown ⟨g, 0, none⟩ 1 1 [iv z] hx rfl ?_ ?_ ?_ ?_ hbase (fun v' w' h1 h2 _ => h v' w' h1 h2)
  · intro j u hu
    have hj := (List.getElem?_eq_some_iff.1 hu).1
    obtain rfl : j = 0 := by simpa using hj
    rw [Addr.add_mid, hg.cell]
    simpa using hu
  · intro u hu
    obtain rfl : u = iv z := by simpa using hu
    rfl
  · unfold maxLen; omega
  · omega
set_option maxRecDepth 100000 in
set_option maxHeartbeats 2000000 in
theorem list_any (b : List Nat) (w : World) (hl : b.length = 16) (hb : Ae.bytes b) :
    Calls Try.prog 22 #[.agg (cellsN b)] w fun e w' => ∃ v, e = .returned v ∧ w'.ownsRow w.heap.size 3 1 v 128 ((Gc.lbs b 128).map iv) ∧ Below w.heap.size w w' := by
  obtain ⟨B, hB⟩ : ∃ B, w.heap.size = B := ⟨_, rfl⟩
  obtain ⟨W1, hW1⟩ : ∃ W1, w.alloc (.cells (cellsN b) 22) = W1 := ⟨_, rfl⟩
  have HO : Hid (Obj W1 B 22 (cellsN b)) := hW1 ▸ hB ▸ Obj.new w _ _
  have HB : Hid (Below w.heap.size w W1) := hW1 ▸ (Below.refl _ w).alloc (Nat.le_refl _) _
  have HS : Hid (W1.heap.size = B + 1) := by unfold Hid; rw [← hW1]; simp [hB]
  have HW := Lib.hid hW1
  have HBB := Lib.hid hB
  clear hW1
  go_enter Try.func22, Try.ntmps22
  go_wp2
  rw [HW.out]
  go_loopw [3, 4] (fun v i wr => ∃ k : Nat, k ≤ 128 ∧ i = .int .i64 (k : Int) ∧ wr.ownsRow (B + 1) 3 1 v k ((Gc.lbs b k).map iv) ∧ Below (B + 1) W1 wr) (fun _ i _ => 128 - (intOf i).toNat)
  case atStart => exact ⟨0, by omega, rfl, World.ownsRow_nil _ _ _ _, Below.refl _ _⟩
  case round =>
    obtain ⟨k, hk, rfl, hown, hbel⟩ := hrel
    have HOW := Lib.hid hown
    have HBL := Lib.hid hbel
    have hOb := HO.out.below hbel (by omega)
    obtain ⟨A', c', rfl⟩ := own_form hown
    clear hown hbel
    by_cases hlt : k < 128
    · obtain ⟨q, hq⟩ : ∃ q, k / 8 = q := ⟨_, rfl⟩
      obtain ⟨r, hr⟩ : ∃ r, k % 8 = r := ⟨_, rfl⟩
      obtain ⟨s, hs⟩ : ∃ s, 7 - r = s := ⟨_, rfl⟩
      have hqi : (k : Int) / 8 = (q : Int) := by omega
      have hri : (k : Int) % 8 = (r : Int) := by omega
      have hsi : 7 - (r : Int) = (s : Int) := by omega
      have hq16 : q < 16 := by omega
      have hq16i : (q : Int) < 16 := by omega
      have hr8 : (r : Int) < 8 := by omega
      have hk128 : (k : Int) < 128 := by omega
      have hs8 : s ≤ 7 := by omega
      obtain ⟨x, hx⟩ : ∃ x, b.getD q 0 = x := ⟨_, rfl⟩
      have hx8 : x < 256 := by rw [← hx, List.getD_eq_getElem?_getD, List.getElem?_eq_getElem (by omega)]; exact hb _ (List.getElem_mem _)
      have c0 := hOb.getN q (by rw [hl]; exact hq16)
      rw [hx] at c0
      have HLB : Hid (Gc.lb b k = x / 2 ^ s % 2) := by unfold Hid Gc.lb; rw [hq, hr, hs, hx]
      have HSS := Lib.hid hs8
      clear hOb hx hq hr hs
      go_wp2
      go_loopw [5, 6] (fun c i W => ∃ m : Nat, m ≤ s ∧ i = .int .i64 (m : Int) ∧ c = .int .i64 ((x / 2 ^ m : Nat) : Int) ∧ W = wr) (fun _ i _ => s - (intOf i).toNat)
      case atStart => exact ⟨0, by omega, rfl, by simp, rfl⟩
      case round =>
        obtain ⟨m, hm, rfl, rfl, rfl⟩ := hrel
        by_cases hms : m < s
        · have hmsi : (m : Int) < (s : Int) := by omega
          have hy8 : x / 2 ^ m ≤ x := Nat.div_le_self _ _
          have HZ : Hid (x / 2 ^ (m + 1) = x / 2 ^ m / 2) := by unfold Hid; rw [Nat.pow_succ, Nat.div_div_eq_div_mul]
          generalize x / 2 ^ m = y at *
          obtain ⟨z, hz⟩ : ∃ z, y / 2 = z := ⟨_, rfl⟩
          have hzi : (y : Int) / 2 = (z : Int) := by omega
          have HZ2 : Hid (x / 2 ^ (m + 1) = z) := by unfold Hid; rw [HZ.out, hz]
          clear hz HZ
          go_wp2
          go_roundw
          case rel => exact ⟨m + 1, by omega, by go_num, by rw [HZ2.out], by first | rfl | trivial⟩
          case measure => simp [intOf]; omega
        · obtain rfl : s = m := by omega
          have hy8 : x / 2 ^ s ≤ x := Nat.div_le_self _ _
          generalize x / 2 ^ s = y at *
          obtain ⟨z, hz⟩ : ∃ z, y % 2 = z := ⟨_, rfl⟩
          have hzi : (y : Int) % 2 = (z : Int) := by omega
          rw [hz] at HLB
          have hz2 : z < 2 := by omega
          clear hz
          have k1 : Below wr.heap.size wr (wr.alloc (.cells #[.int .i64 (z : Int)] 3)) := (Below.refl _ wr).alloc (Nat.le_refl _) _
          have HOW2 := Lib.hid (own_below HOW.out k1)
          have HBL2 := Lib.hid (HBL.out.trans (k1.mono (by have := HBL.out.size; have := HS.out; omega)))
          have HON : Hid (Obj (wr.alloc (.cells #[.int .i64 (z : Int)] 3)) wr.heap.size 3 #[iv z]) := Obj.new wr _ _
          have HKM : Hid (k + 1 ≤ 100000000) := by unfold Hid; omega
          have HBS : Hid (B + 1 ≤ (wr.alloc (.cells #[.int .i64 (z : Int)] 3)).heap.size) := by unfold Hid; have := HBL2.out.size; have := HS.out; omega
          clear k1
          go_wp2_with (at_builtin; refine wpList_appI rfl _ _ rfl (B + 1) _ _ _ rfl HOW2.out wr.heap.size z rfl HON.out HKM.out HBS.out ?_; intro v2 w2 hown2 hgrow2)
          have HB3 := Lib.hid (Below.grown HBL2.out hgrow2 HBS.out (fun k hk => (HOW2.out.lt k hk).1))
          have e : (Gc.lbs b k).map iv ++ [iv z] = (Gc.lbs b (k + 1)).map iv := by rw [Gc.lbs_succ, List.map_append, HLB.out]; rfl
          rw [e] at hown2
          have HO3 := Lib.hid hown2
          clear hown2 hgrow2 e
          go_wp2
          go_roundw
          case rel => exact ⟨k + 1, by omega, by go_num, HO3.out, HB3.out⟩
          case measure => simp [intOf]; omega
    · obtain rfl : k = 128 := by omega
      go_wp2
      go_ret
      exact ⟨_, rfl, HOW.out.mono (by have := HBB.out; omega), HB.out.trans (HBL.out.mono (by have := HBB.out; omega))⟩
end Go.Proofs.Ytnphanhoakbkpaa
