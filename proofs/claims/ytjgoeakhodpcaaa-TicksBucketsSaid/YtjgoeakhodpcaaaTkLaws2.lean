/- TicksBuckets, walked. -/
import Derived.Test.YtjgoeakhodpcaaaRows
import Derived.Test.YtjgoeakhodpcaaaPlainTk
import Derived.Test.YtjgoeakhodpcaaaPlainPw
import Derived.Test.YtjgoeakhodpcaaaPlainBk
import Derived.Test.YtjgoeakhodpcaaaPlainTk2
import Derived.Test.YtjgoeakhodpcaaaAid
import Derived.Test.YtjgoeakhodpcaaaTicks
import Derived.Test.YtjgoeakhodpcaaaTicks3
import Derived.Test.YtjgoeakhodpcaaaTkBk
import Derived.Test.YtjgoeakhodpcaaaTkBk2
import Derived.Test.YtjgoeakhodpcaaaTkLaws
import Derived.StillTailTactics
import Derived.Deep.RegionHeld3
import Derived.WalkKit
import Derived.WalkSpells
import Derived.WalkLawsBesides
import Derived.Deep.QuietTactic
import Derived.BigQuiet
import Derived.Handy
import Derived.Lib.Hide
namespace Go.Proofs.Ytjgoeakhodpcaaa
open Go.RowKit
set_option linter.unusedVariables false
set_option linter.unusedSimpArgs false

theorem Upd.cell {w w' : World} {b : Nat} (h : Upd b w w') {p : Addr} (hp : p.block < w.heap.size) (hn : p.block ≠ b) : w'.cell? p = w.cell? p := World.cell?_of_block (w := w) (h.block p.block hp hn)

/-- What the test at a round's end reads. -/
def Sees (B o : Nat) (t : Int) (c : Nat) (k : Int) (w : World) : Prop := w.cell? ⟨B, o, none⟩ = some (.int .u64 t) ∧ w.cell? ⟨c, 2, none⟩ = some (.int .u64 k) ∧ B < w.heap.size ∧ c < w.heap.size
theorem Sees.below {B o c : Nat} {t k : Int} {w w' : World} (h : Sees B o t c k w) (hb : Below w.heap.size w w') : Sees B o t c k w' :=
  ⟨(hb.cell (p := ⟨B, o, none⟩) h.2.2.1).trans h.1, (hb.cell (p := ⟨c, 2, none⟩) h.2.2.2).trans h.2.1, Nat.lt_of_lt_of_le h.2.2.1 hb.size, Nat.lt_of_lt_of_le h.2.2.2 hb.size⟩
theorem Sees.upd {B o c x : Nat} {t k : Int} {w w' : World} (h : Sees B o t c k w) (hu : Upd x w w') (h1 : B ≠ x) (h2 : c ≠ x) : Sees B o t c k w' :=
  ⟨(hu.cell (p := ⟨B, o, none⟩) h.2.2.1 h1).trans h.1, (hu.cell (p := ⟨c, 2, none⟩) h.2.2.2 h2).trans h.2.1, Nat.lt_of_lt_of_le h.2.2.1 hu.size, Nat.lt_of_lt_of_le h.2.2.2 hu.size⟩
theorem RbAt.kept {w w' : World} {y : Nat} {b : Bk.Bucket} (h : RbAt w y b) (hb : Below w.heap.size w w') : RbAt w' y b := Obj.kept h hb
theorem RbAt.upd {w w' : World} {y x : Nat} {b : Bk.Bucket} (h : RbAt w y b) (hu : Upd x w w') (hn : y ≠ x) : RbAt w' y b := Obj.upd h hu hn
theorem OwnB.apart {W w w' : World} {x y : Nat} {b : Bk.Bucket} (h : OwnB W x b w) (u : Upd y w w') (hne : x ≠ y) (hy : W.heap.size ≤ y) : OwnB W x b w' :=
  ⟨Obj.upd h.1 u hne, h.2.1, h.2.2.1, Upd.below h.2.2.2 hy u⟩

set_option maxRecDepth 100000 in
set_option maxHeartbeats 4000000 in
theorem ticksBuckets_walk (a0 a1 : Int) (A2 : Option Addr) (n2 c2 : Nat) (l2 : List Int) (w : World) (w0 : (Lit.int .u64 a0).wf = true) (w1 : (Lit.int .u64 a1).wf = true) (i2 : Ints .u64 w A2 n2 l2) (x2 : n2 ≤ maxLen) :
    Calls Try.prog 4 #[.int .u64 a0, .int .u64 a1, .slice A2 n2 c2] w fun e w' => e = .returned (.bool true) ∧ Below w.heap.size w w' := by
  obtain ⟨b0, c0⟩ := bounds_u64 w0
  obtain ⟨b1, c1⟩ := bounds_u64 w1
  unfold maxLen at x2
  clear w0 w1
  by_cases hbig : 100 < n2
  · clear i2
    go_enter Try.func4, Try.ntmps4
    go_wp2_with fail
    refine (alive_true _).mono ?_
    rintro e w1 ⟨rfl, hb1⟩
    have HA := Lib.hid hb1
    clear hb1
    go_wp2
    go_ret
    exact ⟨rfl, HA.out⟩
  have hsm : (n2 : Int) ≤ 100 := by omega
  clear hbig
  by_cases hz : a1 = 0
  · subst hz
    clear i2
    go_enter Try.func4, Try.ntmps4
    go_wp2_with fail
    refine (alive_true _).mono ?_
    rintro e w1 ⟨rfl, hb1⟩
    have HA := Lib.hid hb1
    clear hb1
    go_wp2_with fail
    refine (newBucket_none a0 _).mono ?_
    rintro e wn ⟨rfl, rfl⟩
    go_wp2_with fail
    refine (take_nil 5 _).mono ?_
    rintro e wn ⟨rfl, rfl⟩
    go_wp2_with fail
    refine (left_nil 5 _).mono ?_
    rintro e wn ⟨rfl, rfl⟩
    go_wp2
    go_ret
    exact ⟨rfl, HA.out⟩
  have hz1 : 0 < a1 := by omega
  have hz0 : (a1 == 0) = false := by simp [hz]
  clear hz
  go_enter Try.func4, Try.ntmps4
  go_wp2_with fail
  refine (alive_true _).mono ?_
  rintro e w1 ⟨rfl, hb1⟩
  go_wp2_with fail
  refine (g_new w _ a0 a1 b0 c0 hz1 c1 hb1).mono ?_
  rintro e w2 ⟨x, rfl, h0⟩
  clear hb1
  have hxl := h0.1.lt
  have hwl := h0.below.size
  have hxw := h0.2.2.1
  have HX0 := h0.kept ((Below.refl _ _).alloc (Nat.le_refl _) (.cells (bkCells (Bk.new a0 a1)) 34))
  have HR0 : RbAt _ w2.heap.size (Bk.new a0 a1) := Obj.new w2 34 (bkCells (Bk.new a0 a1))
  clear h0
  go_wp2
  generalize w2.heap.size = y at *
  go_loopw [9] (fun i wr => ∃ (k : Nat) (b : Bk.Bucket), k ≤ n2 ∧ i = .int .i64 k ∧ OwnB w x b wr ∧ RbAt wr y b) (fun i _ => n2 - (intOf i).toNat)
  case atStart => exact ⟨0, _, by omega, rfl, HX0, HR0⟩
  case round =>
    obtain ⟨k, b, hk, rfl, HO, HR⟩ := hrel
    clear HX0 HR0
    by_cases hlt : k < n2
    · obtain ⟨e1, e2, e3⟩ := i2
      obtain ⟨B, off, rfl, hB, hc⟩ := e3 (by omega)
      have G0 := Lib.hid (hc k hlt)
      obtain ⟨rt0, rt1⟩ := bounds_u64 (e2 (l2.getD k 0) (by
        rw [List.getD_eq_getElem?_getD, List.getElem?_eq_getElem (by omega)]; exact List.getElem_mem _))
      clear hc e2 e3 e1
      generalize l2.getD k 0 = t at *
      have hcx : wr.heap.size ≠ x := by have := HO.1.lt; omega
      have hcy : wr.heap.size ≠ y := by have := Obj.lt HR; omega
      have hxy : x ≠ y := by omega
      have hBx : B ≠ x := by omega
      have hBy : B ≠ y := by omega
      have hxr : x < wr.heap.size := HO.1.lt
      have hBc : B < wr.heap.size := by have := HO.below.size; omega
      have HNE := Lib.hid (And.intro hcx (And.intro hcy (And.intro hxy (And.intro hBx hBy))))
      clear hcx hcy hxy hBx hBy
      have G1 := Lib.hid ((HO.below.cell (p := ⟨B, off + k, none⟩) hB).trans G0.out)
      obtain ⟨f0, f1, f2, f3, f4⟩ := HR.facts
      clear f4
      have HO2 := HO.kept ((Below.refl _ _).alloc (Nat.le_refl _) (.cells (bkCells b) 34))
      have HR2 := HR.kept ((Below.refl _ _).alloc (Nat.le_refl _) (.cells (bkCells b) 34))
      have HC2 : RbAt _ wr.heap.size b := Obj.new wr 34 (bkCells b)
      have G2 := ((((Below.refl _ wr).alloc (Nat.le_refl _) (.cells (bkCells b) 34)).cell (p := ⟨B, off + k, none⟩) hBc).trans G1.out)
      have hok := HO.2.1
      have g1 := G1.out
      clear HO HR
      go_wp2_with fail
      refine (refBy_any wr.heap.size b t _ HC2 hok rt0 rt1).mono ?_
      rintro e w5 ⟨rfl, hc5, hu5⟩
      have HO5 := HO2.apart hu5 HNE.out.1.symm (by omega)
      have HR5 := HR2.upd hu5 HNE.out.2.1.symm
      have hs5 : Sees B (off + k) t wr.heap.size (Bk.upto b t).tokens w5 := ⟨(hu5.cell (p := ⟨B, off + k, none⟩) (by simp; omega) (by simp; omega)).trans G2, hc5.cell 2, Nat.lt_of_lt_of_le (by simp; omega) hu5.size, Obj.lt hc5⟩
      clear hc5 hu5 HO2 HR2 HC2 G2 f0 f1 f2 f3 g1
      have HO6 := HO5.kept (Below.refl _ _).drew
      have HR6 := HR5.kept (Below.refl _ _).drew
      have HS6 := hs5.below (Below.refl _ _).drew
      generalize wr.heap.size = cb at *
      clear HO5 HR5 hs5
      generalize hkt : (Bk.upto b t).tokens = kt at *
      have HKT := Lib.hid hkt
      clear hkt
      go_wp2
      go_region_held3 (fun w' => w'.cell? ⟨B, off + k, none⟩ = some (.int .u64 t) ∧ w'.cell? ⟨cb, 2, none⟩ = some (.int .u64 kt) ∧ B < w'.heap.size ∧ cb < w'.heap.size)
        (first | assumption | (exact HS6) | (exact Sees.below (by assumption) (by assumption)))
        (first
          | (go_at_call 22; refine (left_any x b t _ HO6.1 hok rt0 rt1).mono ?_; rintro e w7 ⟨rfl, hb7⟩; rw [HKT.out]; have HO7 := HO6.kept hb7; have HR7 := HR6.kept hb7; have HS7 : Sees B (off + k) t cb kt w7 := HS6.below hb7)
          | (go_at_call 21; refine (take_any x b t _ HO7.1 hok rt0 rt1).mono ?_; rintro e w8 ⟨rfl, hx8, hu8⟩; have HO8 := HO7.upd hx8 (take_ok b t hok rt0 rt1) hu8; have HR8 := HR7.upd hu8 HNE.out.2.2.1.symm; have HS8 : Sees B (off + k) t cb kt w8 := HS7.upd hu8 HNE.out.2.2.2.1 HNE.out.1)
          | (go_at_call 24; refine (refTake_any y b t _ HR8 hok rt0 rt1).mono ?_; rintro e w9 ⟨rfl, hr9, hu9⟩; have HO9 := HO8.apart hu9 HNE.out.2.2.1 (by omega); have HS9 : Sees B (off + k) t cb kt w9 := HS8.upd hu9 HNE.out.2.2.2.2 HNE.out.2.1))
      go_wp2
      go_roundw
      case rel => exact ⟨k + 1, _, by omega, by go_num, HO9, hr9⟩
      case measure => simp [intOf]; omega
    · obtain rfl : k = n2 := by omega
      clear hlt
      go_wp2
      go_ret
      exact ⟨rfl, HO.below⟩

end Go.Proofs.Ytjgoeakhodpcaaa
