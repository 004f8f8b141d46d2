/- Layer 9's gcm, walked: times. -/
import Derived.RangeFuncNested
import Derived.RangeFuncBound
import Derived.RangeFuncCalls
import Derived.RangeFuncLeaves
import Derived.RangeFuncBox
import Derived.Shelf.Abstract
import Derived.Shelf.RegionOpen
import Derived.WalkKit
import Derived.OwnWalkIn
import Derived.TacticsInMore
import Derived.LoopNIn
import Derived.LoopIn
import Derived.WalkSpells
import Derived.WalkLawsBesides
import Derived.Laws.BitsAllLaws
import Derived.BigRegionIn
import Derived.Deep.QuietTactic
import Derived.BigQuiet
import Derived.IntWalk
import Derived.Lib.Hide
import Derived.Outline
import Derived.Test.YtnphanhoakbkpaaRows
import Derived.Test.YtnphanhoakbkpaaAid
import Derived.Test.YtnphanhoakbkpaaPlainAe
import Derived.Test.YtnphanhoakbkpaaPlainAe2
import Derived.Test.YtnphanhoakbkpaaPlainGc
import Derived.Test.YtnphanhoakbkpaaPlainGc2
import Derived.Test.YtnphanhoakbkpaaAesB
import Derived.Test.YtnphanhoakbkpaaAesBox
import Derived.Test.YtnphanhoakbkpaaRsF
import Derived.Test.YtnphanhoakbkpaaHeldP
import Derived.Test.YtnphanhoakbkpaaGcC
namespace Go.Proofs.Ytnphanhoakbkpaa.Rm
open Go Go.RowKit Go.Shelf
set_option linter.unusedVariables false
set_option linter.unusedSimpArgs false
attribute [local go_sem] Oper.semAt_some

/-- A pair's cells. -/
def prs (v : Nat) : Array Value := #[.int .u64 ((Gc.hi v : Nat) : Int), .int .u64 ((Gc.lo v : Nat) : Int)]
/-- The sum so far. -/
def zi (a b i : Nat) : Nat := Gc.xs (fun i => Gc.iff (Gc.bit a i) (Gc.mxN b i)) i
theorem zi_lt {a b : Nat} (h : b < 2 ^ 128) (i : Nat) : zi a b i < 2 ^ 128 := Gc.xs_lt (fun i => Gc.iff_lt (Gc.mxN_lt h i)) i
theorem zi_on {a b i : Nat} (h : Gc.bit a i = true) : zi a b (i + 1) = zi a b i ^^^ Gc.mxN b i := by
  unfold zi; rw [Gc.xs, h]; rfl
theorem zi_off {a b i : Nat} (h : Gc.bit a i = false) : zi a b (i + 1) = zi a b i := by
  unfold zi; rw [Gc.xs, h]; show _ ^^^ 0 = _; rw [Nat.xor_zero]
/-- Between two rounds. -/
structure TmI (w : World) (B Bx a b : Nat) (i : Nat) (V : World) : Prop where
  q : Obj V (B + 1) 45 (prs (Gc.mxN b i))
  r : Obj V (B + 2) 45 (prs 0)
  z : Obj V (B + 3) 45 (prs (zi a b i))
  p : Obj V Bx 45 (prs a)
  bel : Below w.heap.size w V
theorem TmI.own {w : World} {B Bx a b D : Nat} (hw : w.heap.size = B) (h1 : B + 3 < D) (h2 : Bx < D) : OwnFrom D (TmI w B Bx a b) := by
  intro i W V row h hgr hr
  have hk : ∀ j, j < D → j < W.heap.size → V.heap[j]? = W.heap[j]? := fun j hj hl => hgr.block j hl (fun e => by have := (hr j e.symm).1; omega)
  exact ⟨(hk _ (by omega) h.q.lt).trans h.q, (hk _ (by omega) h.r.lt).trans h.r, (hk _ (by omega) h.z.lt).trans h.z, (hk _ h2 h.p.lt).trans h.p, ⟨hgr.os.trans h.bel.os, hgr.tape.trans h.bel.tape, hgr.output.trans h.bel.output, Nat.le_trans h.bel.size hgr.size, fun k hk' => (hk k (by omega) (by have := h.bel.size; omega)).trans (h.bel.block k hk')⟩⟩

theorem TmI.on {w W : World} {B a b i m z : Nat} (h : TmI w B (B + 4) a b i W) (hm : Gc.mxN b i = m) (hz : zi a b i = z) (hb : Gc.bit a i = true) (hw : w.heap.size = B) {zh zo no nh : Nat} (e1 : Gc.hi (z ^^^ m) = zh) (e2 : Gc.lo (z ^^^ m) = zo) (e3 : Gc.lo (Gc.mx m) = no) (e4 : Gc.hi (Gc.mx m) = nh) :
    KeepsFrom (B + 5) W ((((W.setCell ⟨B + 1 + 1 + 1, 0, none⟩ (.int .u64 (zh : Int))).setCell ⟨B + 1 + 1 + 1, 1, none⟩ (.int .u64 (zo : Int))).setCell ⟨B + 1, 1, none⟩ (.int .u64 (no : Int))).setCell ⟨B + 1, 0, none⟩ (.int .u64 (nh : Int))).drew ∧
      TmI w B (B + 4) a b (i + 1) ((((W.setCell ⟨B + 1 + 1 + 1, 0, none⟩ (.int .u64 (zh : Int))).setCell ⟨B + 1 + 1 + 1, 1, none⟩ (.int .u64 (zo : Int))).setCell ⟨B + 1, 1, none⟩ (.int .u64 (no : Int))).setCell ⟨B + 1, 0, none⟩ (.int .u64 (nh : Int))).drew := by
  have u1 : Upd (B + 3) W ((W.setCell ⟨B + 1 + 1 + 1, 0, none⟩ (.int .u64 (zh : Int))).setCell ⟨B + 1 + 1 + 1, 1, none⟩ (.int .u64 (zo : Int))) := ((Upd.refl _ W).set 0 _).set 1 _
  have oz := (h.z.set 0 (.int .u64 (zh : Int))).set 1 (.int .u64 (zo : Int))
  generalize (W.setCell ⟨B + 1 + 1 + 1, 0, none⟩ (.int .u64 (zh : Int))).setCell ⟨B + 1 + 1 + 1, 1, none⟩ (.int .u64 (zo : Int)) = V1 at *
  have oq := ((h.q.upd u1 (by omega)).set 1 (.int .u64 (no : Int))).set 0 (.int .u64 (nh : Int))
  have u2 : Upd (B + 1) V1 ((V1.setCell ⟨B + 1, 1, none⟩ (.int .u64 (no : Int))).setCell ⟨B + 1, 0, none⟩ (.int .u64 (nh : Int))).drew := (((Upd.refl _ V1).set 1 _).set 0 _).drew
  have oq' := oq.drew
  generalize ((V1.setCell ⟨B + 1, 1, none⟩ (.int .u64 (no : Int))).setCell ⟨B + 1, 0, none⟩ (.int .u64 (nh : Int))).drew = V2 at *
  have hk : ∀ j, j < W.heap.size → j ≠ B + 1 → j ≠ B + 3 → V2.heap[j]? = W.heap[j]? := fun j hj h1 h2 => (u2.block j (Nat.lt_of_lt_of_le hj u1.size) h1).trans (u1.block j hj h2)
  refine ⟨⟨Nat.le_trans u1.size u2.size, fun j o hj hjo _ => (hk j (Array.getElem?_eq_some_iff.1 hjo).1 (by omega) (by omega)).trans hjo⟩, oq'.as ?_, (h.r.upd u1 (by omega)).upd u2 (by omega), (oz.upd u2 (by omega)).as ?_, (h.p.upd u1 (by omega)).upd u2 (by omega), ?_⟩
  · rw [Gc.mxN, hm, ← e3, ← e4]; rfl
  · rw [zi_on hb, hm, hz, ← e1, ← e2]; rfl
  · have hbl := h.bel
    exact ⟨u2.os.trans (u1.os.trans hbl.os), u2.tape.trans (u1.tape.trans hbl.tape), u2.output.trans (u1.output.trans hbl.output), Nat.le_trans hbl.size (Nat.le_trans u1.size u2.size), fun j hj => (hk j (by have := hbl.size; omega) (by omega) (by omega)).trans (hbl.block j hj)⟩
theorem TmI.off {w W : World} {B a b i m : Nat} (h : TmI w B (B + 4) a b i W) (hm : Gc.mxN b i = m) (hb : Gc.bit a i = false) (hw : w.heap.size = B) {no nh : Nat} (e3 : Gc.lo (Gc.mx m) = no) (e4 : Gc.hi (Gc.mx m) = nh) :
    KeepsFrom (B + 5) W ((W.setCell ⟨B + 1, 1, none⟩ (.int .u64 (no : Int))).setCell ⟨B + 1, 0, none⟩ (.int .u64 (nh : Int))) ∧
      TmI w B (B + 4) a b (i + 1) ((W.setCell ⟨B + 1, 1, none⟩ (.int .u64 (no : Int))).setCell ⟨B + 1, 0, none⟩ (.int .u64 (nh : Int))) := by
  have oq := (h.q.set 1 (.int .u64 (no : Int))).set 0 (.int .u64 (nh : Int))
  have u2 : Upd (B + 1) W ((W.setCell ⟨B + 1, 1, none⟩ (.int .u64 (no : Int))).setCell ⟨B + 1, 0, none⟩ (.int .u64 (nh : Int))) := ((Upd.refl _ W).set 1 _).set 0 _
  generalize (W.setCell ⟨B + 1, 1, none⟩ (.int .u64 (no : Int))).setCell ⟨B + 1, 0, none⟩ (.int .u64 (nh : Int)) = V2 at *
  refine ⟨⟨u2.size, fun j o hj hjo _ => (u2.block j (Array.getElem?_eq_some_iff.1 hjo).1 (by omega)).trans hjo⟩, oq.as ?_, h.r.upd u2 (by omega), (h.z.upd u2 (by omega)).as ?_, h.p.upd u2 (by omega), Upd.below h.bel (by omega) u2⟩
  · rw [Gc.mxN, hm, ← e3, ← e4]; rfl
  · rw [zi_off hb]
theorem pair5 {w : World} {B : Nat} (hB : w.heap.size = B) (t : TypeId) (c0 c1 c2 c3 c4 : Array Value) : ∃ W5, ((((w.alloc (.cells c0 t)).alloc (.cells c1 t)).alloc (.cells c2 t)).alloc (.cells c3 t)).alloc (.cells c4 t) = W5 ∧ W5.heap.size = B + 5 ∧ Below w.heap.size w W5 ∧ Obj W5 (B + 1) t c1 ∧ Obj W5 (B + 2) t c2 ∧ Obj W5 (B + 3) t c3 ∧ Obj W5 (B + 4) t c4 := by
  refine ⟨_, rfl, by simp [hB], ((((((Below.refl _ w).alloc (Nat.le_refl _) _).alloc (by simp) _).alloc (by simp; omega) _).alloc (by simp; omega) _).alloc (by simp; omega) _), ?_, ?_, ?_, ?_⟩
  · have := (((Obj.new (w.alloc (.cells c0 t)) t c1).alloc (.cells c2 t)).alloc (.cells c3 t)).alloc (.cells c4 t)
    simp only [World.size_alloc, hB] at this; exact this
  · have := ((Obj.new ((w.alloc (.cells c0 t)).alloc (.cells c1 t)) t c2).alloc (.cells c3 t)).alloc (.cells c4 t)
    simp only [World.size_alloc, hB] at this; exact this
  · have := (Obj.new (((w.alloc (.cells c0 t)).alloc (.cells c1 t)).alloc (.cells c2 t)) t c3).alloc (.cells c4 t)
    simp only [World.size_alloc, hB] at this; exact this
  · have := Obj.new ((((w.alloc (.cells c0 t)).alloc (.cells c1 t)).alloc (.cells c2 t)).alloc (.cells c3 t)) t c4
    simp only [World.size_alloc, hB] at this; exact this

set_option maxRecDepth 100000 in
set_option maxHeartbeats 8000000 in
theorem times_any (a b : Nat) (w : World) (ha : a < 2 ^ 128) (hb : b < 2 ^ 128) :
    Calls Try.prog 19 #[.agg (prs a), .agg (prs b)] w fun e w' => e = .returned (.agg (prs (Gc.mul a b))) ∧ Below w.heap.size w w' := by
  obtain ⟨B, hB⟩ : ∃ B, w.heap.size = B := ⟨_, rfl⟩
  refine (callsIn_wide (n := 3)).1 ?_
  refine callsIn_of_wp_marks Try.func19 rfl trivial ?_ rfl
  simp only [Try.ntmps19, List.size_toArray, List.length_cons, List.length_nil, Nat.reduceAdd, Nat.reduceSub, Array.replicate_succ, Array.replicate_zero, List.push_toArray, List.append_toArray, List.nil_append, List.cons_append]
  refine wpIn_wide.2 ?_
  obtain ⟨W5, hW5, hsz, hb5, o1, o2, o3, o4⟩ := pair5 hB 45 (prs a) (prs b) (prs 0) (prs 0) (prs a)
  have hI0 : TmI w B (B + 4) a b 0 W5 := ⟨o1, o2, o3, o4, hb5⟩
  have HI0 := Lib.hid hI0
  have hW5' : ((((w.alloc (.cells #[.int .u64 ((Gc.hi a : Nat) : Int), .int .u64 ((Gc.lo a : Nat) : Int)] 45)).alloc (.cells #[.int .u64 ((Gc.hi b : Nat) : Int), .int .u64 ((Gc.lo b : Nat) : Int)] 45)).alloc (.cells #[.int .u64 0, .int .u64 0] 45)).alloc (.cells #[.int .u64 0, .int .u64 0] 45)).alloc (.cells #[.int .u64 ((Gc.hi a : Nat) : Int), .int .u64 ((Gc.lo a : Nat) : Int)] 45) = W5 := hW5
  have HW5 := Lib.hid hW5'
  have HPA : Hid (prs a = #[.int .u64 ((Gc.hi a : Nat) : Int), .int .u64 ((Gc.lo a : Nat) : Int)]) := rfl
  clear hI0 hW5 hW5' hb5 o1 o2 o3 o4
  unfold prs
  go_wp2_with fail
  refine (bits_any _ _ _).mono ?_
  rintro e w3 ⟨rfl, rfl⟩
  go_wp2
  rw [HW5.out]
  have HSZ := Lib.hid hsz
  have HB := Lib.hid hB
  have hG := bits1_gives Fence.wide 2 trivial rfl (by omega) (B + 4) a ha
  obtain ⟨bf, hbf⟩ : ∃ bf : Nat → Bool, ∀ i, bf i = Gc.bit a i := ⟨fun i => Gc.bit a i, fun _ => rfl⟩
  have hEnc : encT a = fun i => #[.bool (bf i)] := by funext i; unfold encT; rw [hbf]
  rw [hEnc] at hG
  have HBF := Lib.hid hbf
  have hah := Gc.hi_lt ha
  have hal := Gc.lo_lt a
  have hbh := Gc.hi_lt hb
  have hbl := Gc.lo_lt b
  obtain ⟨p, hp⟩ : ∃ p, Gc.hi a = p := ⟨_, rfl⟩
  obtain ⟨q, hq⟩ : ∃ q, Gc.lo a = q := ⟨_, rfl⟩
  obtain ⟨u, hu⟩ : ∃ u, Gc.hi b = u := ⟨_, rfl⟩
  obtain ⟨v, hv⟩ : ∃ v, Gc.lo b = v := ⟨_, rfl⟩
  rw [hp, hq, hu, hv]
  rw [hp, hq] at hG
  have HP := Lib.hid hp
  have HQ := Lib.hid hq
  clear hEnc hbf hah hal hbh hbl hp hq hu hv
  refine (wpIn_wide (n := 3)).1 ?_
  refine wpIn_rangeFunc_ix (n := 3) rfl (by omega) (gf := 43) (lb := #[.pointer (some ⟨B + 4, 0, none⟩)]) rfl trivial (enters_of Try.func43 (by kernel_rfl) rfl)
    hG (fun i => rfl) (TmI w B (B + 4) a b) (fun _ _ _ => False) ?own (fun _ _ _ _ _ hs _ _ => hs) ?tell HI0.out
    (fun i => { tmps := #[.agg #[.int .u64 (p : Int), .int .u64 (q : Int)], .agg #[.int .u64 (u : Int), .int .u64 (v : Int)], .pointer (some ⟨B, 0, none⟩), .pointer (some ⟨B + 1, 0, none⟩), .pointer (some ⟨B + 1 + 1, 0, none⟩), .pointer (some ⟨B + 1 + 1 + 1, 0, none⟩), .bool (bf i), undef, .agg #[.int .u64 (p : Int), .int .u64 (q : Int)], .func (.func 43) #[] #[.pointer (some ⟨B + 4, 0, none⟩)], .bool (bf i), undef, undef, undef, undef, undef, undef, undef, undef, undef, undef, undef, undef, undef, undef, undef, undef, undef, undef, undef, undef, undef, undef, undef, undef, undef, undef, undef, undef, undef, undef, undef, undef], defers := [] }) ?assign ?body ?done ?stop
  case own => rw [hsz]; exact TmI.own HB.out (by omega) (by omega)
  case tell => intro i V hV; exact ⟨by rw [hV.p.cell, ← HP.out]; rfl, by rw [hV.p.cell, ← HQ.out]; rfl⟩
  case assign =>
    intro l i W K hK
    dsimp only at hK ⊢
    generalize bf i = bb at *
    gi_wp2
    simpa using hK
  case body =>
    intro l i W hI hiN
    rw [hsz]
    have hml := Gc.mxN_lt hb i
    have hzl := zi_lt (a := a) hb i
    obtain ⟨m, hm⟩ : ∃ m, Gc.mxN b i = m := ⟨_, rfl⟩
    obtain ⟨z, hz⟩ : ∃ z, zi a b i = z := ⟨_, rfl⟩
    have om := hI.q
    have oz := hI.z
    rw [hm] at om hml
    rw [hz] at oz hzl
    have bmh := Gc.hi_lt hml
    have bml := Gc.lo_lt m
    have bzh := Gc.hi_lt hzl
    have bzl := Gc.lo_lt z
    obtain ⟨mh, hmh⟩ : ∃ x, Gc.hi m = x := ⟨_, rfl⟩
    obtain ⟨mo, hmo⟩ : ∃ x, Gc.lo m = x := ⟨_, rfl⟩
    obtain ⟨zh, hzh⟩ : ∃ x, Gc.hi z = x := ⟨_, rfl⟩
    obtain ⟨zo, hzo⟩ : ∃ x, Gc.lo z = x := ⟨_, rfl⟩
    rw [hmh] at bmh
    rw [hmo] at bml
    rw [hzh] at bzh
    rw [hzo] at bzl
    have m0 : W.cell? ⟨B + 1, 0, none⟩ = some (.int .u64 (mh : Int)) := by rw [om.cell, ← hmh]; rfl
    have m1 : W.cell? ⟨B + 1, 1, none⟩ = some (.int .u64 (mo : Int)) := by rw [om.cell, ← hmo]; rfl
    have z0 : W.cell? ⟨B + 1 + 1 + 1, 0, none⟩ = some (.int .u64 (zh : Int)) := by rw [oz.cell, ← hzh]; rfl
    have z1 : W.cell? ⟨B + 1 + 1 + 1, 1, none⟩ = some (.int .u64 (zo : Int)) := by rw [oz.cell, ← hzo]; rfl
    have y0 := om.free 0
    have y1 := om.free 1
    have y2 := oz.free 0
    have y3 := oz.free 1
    obtain ⟨nh, hnh⟩ : ∃ x, Gc.hi (Gc.mx m) = x := ⟨_, rfl⟩
    obtain ⟨no, hno⟩ : ∃ x, Gc.lo (Gc.mx m) = x := ⟨_, rfl⟩
    obtain ⟨o, ho⟩ : ∃ o, mo % 2 = o := ⟨_, rfl⟩
    have hnh' : (mh / 2) ^^^ (o * 16212958658533785600) = nh := by rw [← hnh, Gc.hi_mx, hmh, hmo, ho]
    have hno' : mo / 2 + mh % 2 * 9223372036854775808 = no := by rw [← hno, Gc.lo_mx, hmh, hmo]
    have bo : o ≤ 1 := by omega
    have xa : bits .and .u64 (mo : Int) 1 = (o : Int) := by
      have := u64_and_nat mo 1 bml (by decide)
      rw [Nat.and_one_is_mod, ho] at this
      exact this
    have xo : bits .or .u64 ((mo : Int) / 2) (IntKind.u64.wrap ((mh : Int) * 9223372036854775808)) = (no : Int) := by
      have h1 : (mo : Int) / 2 = ((mo / 2 : Nat) : Int) := by simp
      have h2 : IntKind.u64.wrap ((mh : Int) * 9223372036854775808) = ((2 ^ 63 * (mh % 2) : Nat) : Int) := by rw [IntKind.wrap_u64]; omega
      rw [h1, h2, u64_or_nat (mo / 2) (2 ^ 63 * (mh % 2)) (by omega) (by omega), Nat.or_comm, ← Nat.two_pow_add_eq_or_of_lt (by omega)]
      omega
    have xx : bits .xor .u64 ((mh : Int) / 2) ((o : Int) * 16212958658533785600) = (nh : Int) := by
      have := u64_xor_nat (mh / 2) (o * 16212958658533785600) (by omega) (by omega)
      rw [hnh'] at this
      rw [← this]
      simp
    have HI := Lib.hid hI
    clear om oz hI hnh' hno' ho
    by_cases hbt : Gc.bit a i = true
    · rw [HBF.out i, hbt]
      have xh := u64_xor_nat zh mh bzh bmh
      have xl := u64_xor_nat zo mo bzl bml
      have n1 : (W.setCell ⟨B + 1 + 1 + 1, 0, none⟩ (.int .u64 ((zh ^^^ mh : Nat) : Int))).cell? ⟨B + 1, 1, none⟩ = some (.int .u64 (mo : Int)) := by rw [World.cell?_setCell_far _ _ _ _ (by simp; omega)]; exact m1
      have HFI := Lib.hid (TmI.on HI.out hm hz hbt HB.out (by rw [Gc.hi_xor, hzh, hmh]) (by rw [Gc.lo_xor, hzo, hmo]) hno hnh)
      clear hm hz hbt hmh hmo hzh hzo hnh hno
      gi_wp2
      refine Pr.wpIn_region_P [(11, (fun wq => wq.cell? ⟨B + 1 + 1 + 1, 0, none⟩ = some (.int .u64 (zh : Int)) ∧ wq.cell? ⟨B + 1 + 1 + 1, 1, none⟩ = some (.int .u64 (zo : Int)) ∧ wq.cell? ⟨B + 1, 0, none⟩ = some (.int .u64 (mh : Int)))), (13, (fun wq => wq.cell? ⟨B + 1, 1, none⟩ = some (.int .u64 (mo : Int))))] (by kernel_rfl) (by kernel_rfl) (Pr.held2 (fun _ => ⟨z0, z1, m0⟩) (fun _ => m1)) (fun hHeld => ?_)
      refine Pr.wpAnyP_take 11 (fun wq => wq.cell? ⟨B + 1 + 1 + 1, 0, none⟩ = some (.int .u64 (zh : Int)) ∧ wq.cell? ⟨B + 1 + 1 + 1, 1, none⟩ = some (.int .u64 (zo : Int)) ∧ wq.cell? ⟨B + 1, 0, none⟩ = some (.int .u64 (mh : Int))) (i := 0) (oi := ?_) (v := ?_) (List.Mem.head _) ?_ ?_ ?_ ?_ ?_ ?_ ?_ ?_ ?_ (by assumption) (fun _ => ?_)
      rotate_left 2
      · simp only [List.getElem?_toArray, List.getElem?_cons_zero, List.getElem?_cons_succ]
        rfl
      · kernel_rfl
      · kernel_rfl
      · kernel_rfl
      · kernel_rfl
      · kernel_rfl
      · kernel_rfl
      · exact fun _ _ _ h => h
      · refine Or.inl ⟨by rfl, ?_⟩
        intro w hSw
        (try dsimp only at hSw)
        
        go_simp
        all_goals with_reducible rfl
      simp only [Act.put, List.setIfInBounds_toArray, List.set_cons_zero, List.set_cons_succ]
      refine Pr.wpAnyP_take 11 (fun wq => wq.cell? ⟨B + 1 + 1 + 1, 0, none⟩ = some (.int .u64 (zh : Int)) ∧ wq.cell? ⟨B + 1 + 1 + 1, 1, none⟩ = some (.int .u64 (zo : Int)) ∧ wq.cell? ⟨B + 1, 0, none⟩ = some (.int .u64 (mh : Int))) (i := 1) (oi := ?_) (v := ?_) (List.Mem.head _) ?_ ?_ ?_ ?_ ?_ ?_ ?_ ?_ ?_ (by assumption) (fun _ => ?_)
      rotate_left 2
      · simp only [List.getElem?_toArray, List.getElem?_cons_zero, List.getElem?_cons_succ]
        rfl
      · kernel_rfl
      · kernel_rfl
      · kernel_rfl
      · kernel_rfl
      · kernel_rfl
      · kernel_rfl
      · exact fun _ _ _ h => h
      · refine Or.inl ⟨by rfl, ?_⟩
        intro w hSw
        (try dsimp only at hSw)
        obtain ⟨q0, q1, q2⟩ := hSw
        go_simp
        all_goals with_reducible rfl
      simp only [Act.put, List.setIfInBounds_toArray, List.set_cons_zero, List.set_cons_succ]
      refine Pr.wpAnyP_take 11 (fun wq => wq.cell? ⟨B + 1 + 1 + 1, 0, none⟩ = some (.int .u64 (zh : Int)) ∧ wq.cell? ⟨B + 1 + 1 + 1, 1, none⟩ = some (.int .u64 (zo : Int)) ∧ wq.cell? ⟨B + 1, 0, none⟩ = some (.int .u64 (mh : Int))) (i := 2) (oi := ?_) (v := ?_) (List.Mem.head _) ?_ ?_ ?_ ?_ ?_ ?_ ?_ ?_ ?_ (by assumption) (fun _ => ?_)
      rotate_left 2
      · simp only [List.getElem?_toArray, List.getElem?_cons_zero, List.getElem?_cons_succ]
        rfl
      · kernel_rfl
      · kernel_rfl
      · kernel_rfl
      · kernel_rfl
      · kernel_rfl
      · kernel_rfl
      · exact fun _ _ _ h => h
      · refine Or.inl ⟨by rfl, ?_⟩
        intro w hSw
        (try dsimp only at hSw)
        
        go_simp
        all_goals with_reducible rfl
      simp only [Act.put, List.setIfInBounds_toArray, List.set_cons_zero, List.set_cons_succ]
      refine Pr.wpAnyP_take 11 (fun wq => wq.cell? ⟨B + 1 + 1 + 1, 0, none⟩ = some (.int .u64 (zh : Int)) ∧ wq.cell? ⟨B + 1 + 1 + 1, 1, none⟩ = some (.int .u64 (zo : Int)) ∧ wq.cell? ⟨B + 1, 0, none⟩ = some (.int .u64 (mh : Int))) (i := 3) (oi := ?_) (v := ?_) (List.Mem.head _) ?_ ?_ ?_ ?_ ?_ ?_ ?_ ?_ ?_ (by assumption) (fun _ => ?_)
      rotate_left 2
      · simp only [List.getElem?_toArray, List.getElem?_cons_zero, List.getElem?_cons_succ]
        rfl
      · kernel_rfl
      · kernel_rfl
      · kernel_rfl
      · kernel_rfl
      · kernel_rfl
      · kernel_rfl
      · exact fun _ _ _ h => h
      · refine Or.inl ⟨by rfl, ?_⟩
        intro w hSw
        (try dsimp only at hSw)
        obtain ⟨q0, q1, q2⟩ := hSw
        go_simp
        all_goals with_reducible rfl
      simp only [Act.put, List.setIfInBounds_toArray, List.set_cons_zero, List.set_cons_succ]
      refine Pr.wpAnyP_take 11 (fun wq => wq.cell? ⟨B + 1 + 1 + 1, 0, none⟩ = some (.int .u64 (zh : Int)) ∧ wq.cell? ⟨B + 1 + 1 + 1, 1, none⟩ = some (.int .u64 (zo : Int)) ∧ wq.cell? ⟨B + 1, 0, none⟩ = some (.int .u64 (mh : Int))) (i := 4) (oi := ?_) (v := ?_) (List.Mem.head _) ?_ ?_ ?_ ?_ ?_ ?_ ?_ ?_ ?_ (by assumption) (fun _ => ?_)
      rotate_left 2
      · simp only [List.getElem?_toArray, List.getElem?_cons_zero, List.getElem?_cons_succ]
        rfl
      · kernel_rfl
      · kernel_rfl
      · kernel_rfl
      · kernel_rfl
      · kernel_rfl
      · kernel_rfl
      · exact fun _ _ _ h => h
      · refine Or.inl ⟨by rfl, ?_⟩
        intro w hSw
        (try dsimp only at hSw)
        
        go_simp
        all_goals with_reducible rfl
      simp only [Act.put, List.setIfInBounds_toArray, List.set_cons_zero, List.set_cons_succ]
      refine Pr.wpAnyP_take 11 (fun wq => wq.cell? ⟨B + 1 + 1 + 1, 0, none⟩ = some (.int .u64 (zh : Int)) ∧ wq.cell? ⟨B + 1 + 1 + 1, 1, none⟩ = some (.int .u64 (zo : Int)) ∧ wq.cell? ⟨B + 1, 0, none⟩ = some (.int .u64 (mh : Int))) (i := 5) (oi := ?_) (v := ?_) (List.Mem.head _) ?_ ?_ ?_ ?_ ?_ ?_ ?_ ?_ ?_ (by assumption) (fun _ => ?_)
      rotate_left 2
      · simp only [List.getElem?_toArray, List.getElem?_cons_zero, List.getElem?_cons_succ]
        rfl
      · kernel_rfl
      · kernel_rfl
      · kernel_rfl
      · kernel_rfl
      · kernel_rfl
      · kernel_rfl
      · exact fun _ _ _ h => h
      · refine Or.inl ⟨by rfl, ?_⟩
        intro w hSw
        (try dsimp only at hSw)
        
        go_simp
        all_goals with_reducible rfl
      simp only [Act.put, List.setIfInBounds_toArray, List.set_cons_zero, List.set_cons_succ]
      refine Pr.wpAnyP_take 11 (fun wq => wq.cell? ⟨B + 1 + 1 + 1, 0, none⟩ = some (.int .u64 (zh : Int)) ∧ wq.cell? ⟨B + 1 + 1 + 1, 1, none⟩ = some (.int .u64 (zo : Int)) ∧ wq.cell? ⟨B + 1, 0, none⟩ = some (.int .u64 (mh : Int))) (i := 6) (oi := ?_) (v := ?_) (List.Mem.head _) ?_ ?_ ?_ ?_ ?_ ?_ ?_ ?_ ?_ (by assumption) (fun _ => ?_)
      rotate_left 2
      · simp only [List.getElem?_toArray, List.getElem?_cons_zero, List.getElem?_cons_succ]
        rfl
      · kernel_rfl
      · kernel_rfl
      · kernel_rfl
      · kernel_rfl
      · kernel_rfl
      · kernel_rfl
      · exact fun _ _ _ h => h
      · refine Or.inl ⟨by rfl, ?_⟩
        intro w hSw
        (try dsimp only at hSw)
        obtain ⟨q0, q1, q2⟩ := hSw
        go_simp
        all_goals with_reducible rfl
      simp only [Act.put, List.setIfInBounds_toArray, List.set_cons_zero, List.set_cons_succ]
      refine Pr.wpAnyP_take 13 (fun wq => wq.cell? ⟨B + 1, 1, none⟩ = some (.int .u64 (mo : Int))) (i := 7) (oi := ?_) (v := ?_) (List.Mem.tail _ (List.Mem.head _)) ?_ ?_ ?_ ?_ ?_ ?_ ?_ ?_ ?_ (by assumption) (fun _ => ?_)
      rotate_left 2
      · simp only [List.getElem?_toArray, List.getElem?_cons_zero, List.getElem?_cons_succ]
        rfl
      · kernel_rfl
      · kernel_rfl
      · kernel_rfl
      · kernel_rfl
      · kernel_rfl
      · kernel_rfl
      · exact fun _ _ _ h => h
      · refine Or.inl ⟨by rfl, ?_⟩
        intro w hSw
        (try dsimp only at hSw)
        
        go_simp
        all_goals with_reducible rfl
      simp only [Act.put, List.setIfInBounds_toArray, List.set_cons_zero, List.set_cons_succ]
      refine Pr.wpAnyP_take 13 (fun wq => wq.cell? ⟨B + 1, 1, none⟩ = some (.int .u64 (mo : Int))) (i := 8) (oi := ?_) (v := ?_) (List.Mem.tail _ (List.Mem.head _)) ?_ ?_ ?_ ?_ ?_ ?_ ?_ ?_ ?_ (by assumption) (fun _ => ?_)
      rotate_left 2
      · simp only [List.getElem?_toArray, List.getElem?_cons_zero, List.getElem?_cons_succ]
        rfl
      · kernel_rfl
      · kernel_rfl
      · kernel_rfl
      · kernel_rfl
      · kernel_rfl
      · kernel_rfl
      · exact fun _ _ _ h => h
      · refine Or.inl ⟨by rfl, ?_⟩
        intro w hSw
        (try dsimp only at hSw)
        
        go_simp
        all_goals with_reducible rfl
      simp only [Act.put, List.setIfInBounds_toArray, List.set_cons_zero, List.set_cons_succ]
      refine Pr.wpAnyP_take 13 (fun wq => wq.cell? ⟨B + 1, 1, none⟩ = some (.int .u64 (mo : Int))) (i := 9) (oi := ?_) (v := ?_) (List.Mem.tail _ (List.Mem.head _)) ?_ ?_ ?_ ?_ ?_ ?_ ?_ ?_ ?_ (by assumption) (fun _ => ?_)
      rotate_left 2
      · simp only [List.getElem?_toArray, List.getElem?_cons_zero, List.getElem?_cons_succ]
        rfl
      · kernel_rfl
      · kernel_rfl
      · kernel_rfl
      · kernel_rfl
      · kernel_rfl
      · kernel_rfl
      · exact fun _ _ _ h => h
      · refine Or.inl ⟨by rfl, ?_⟩
        intro w hSw
        (try dsimp only at hSw)
        
        go_simp
        all_goals with_reducible rfl
      simp only [Act.put, List.setIfInBounds_toArray, List.set_cons_zero, List.set_cons_succ]
      refine Pr.wpAnyP_one (i := 10) (o := ?_) (by kernel_rfl) ?_ (fun KK hKK => ?_)
      rotate_left
      · simp only [List.getElem?_toArray, List.getElem?_cons_zero, List.getElem?_cons_succ]
        rfl
      go_simp
      refine hKK.out _ _ ?_ (fun hh10 => ?_)
      · (try dsimp only)
        exact Pr.held2 (fun _ => ⟨z0, z1, m0⟩) (fun _ => m1)
      clear hKK KK
      try simp only [Act.put, List.setIfInBounds_toArray, List.set_cons_zero, List.set_cons_succ]
      refine Pr.wpAnyP_one (i := 11) (o := ?_) (by kernel_rfl) ?_ (fun KK hKK => ?_)
      rotate_left
      · simp only [List.getElem?_toArray, List.getElem?_cons_zero, List.getElem?_cons_succ]
        rfl
      go_simp
      refine hKK.out _ _ ?_ (fun hh11 => ?_)
      · (try dsimp only)
        exact Pr.held2 (fun h => absurd h (by decide)) (fun _ => n1)
      clear hKK KK
      try simp only [Act.put, List.setIfInBounds_toArray, List.set_cons_zero, List.set_cons_succ]
      refine Pr.wpAnyP_one (i := 12) (o := ?_) (by kernel_rfl) ?_ (fun KK hKK => ?_)
      rotate_left
      · simp only [List.getElem?_toArray, List.getElem?_cons_zero, List.getElem?_cons_succ]
        rfl
      go_simp
      refine hKK.out _ _ ?_ (fun hh12 => ?_)
      · (try dsimp only)
        exact Pr.held2 (fun h => absurd h (by decide)) (fun _ => n1)
      clear hKK KK
      try simp only [Act.put, List.setIfInBounds_toArray, List.set_cons_zero, List.set_cons_succ]
      refine Pr.wpAnyP_one (i := 13) (o := ?_) (by kernel_rfl) ?_ (fun KK hKK => ?_)
      rotate_left
      · simp only [List.getElem?_toArray, List.getElem?_cons_zero, List.getElem?_cons_succ]
        rfl
      go_simp
      refine hKK.out _ _ ?_ (fun hh13 => ?_)
      · (try dsimp only)
        exact Pr.held2 (fun h => absurd h (by decide)) (fun h => absurd h (by decide))
      clear hKK KK
      try simp only [Act.put, List.setIfInBounds_toArray, List.set_cons_zero, List.set_cons_succ]
      refine Pr.wpAnyP_done (by kernel_rfl) ?_ _
      gi_wp2
      exact HFI.out
    · have hbf : Gc.bit a i = false := by simpa using hbt
      have HFI := Lib.hid (TmI.off HI.out hm hbf HB.out hno hnh)
      rw [HBF.out i, hbf]
      clear hm hz hbt hmh hmo hzh hzo hnh hno hbf z0 z1 y2 y3
      gi_wp2
      exact HFI.out
  case done =>
    intro D V hD hI hK
    have hI' : TmI w B (B + 4) a b 128 V := hI
    rw [hsz] at hD
    have hw := HB.out
    have hmul : zi a b 128 = Gc.mul a b := rfl
    obtain ⟨m, hm⟩ : ∃ m, Gc.mul a b = m := ⟨_, rfl⟩
    have oz := hI'.z
    rw [hmul, hm] at oz
    obtain ⟨zh, hzh⟩ : ∃ x, Gc.hi m = x := ⟨_, rfl⟩
    obtain ⟨zo, hzo⟩ : ∃ x, Gc.lo m = x := ⟨_, rfl⟩
    have z0 : V.cell? ⟨B + 1 + 1 + 1, 0, none⟩ = some (.int .u64 (zh : Int)) := by rw [oz.cell, ← hzh]; rfl
    have z1 : V.cell? ⟨B + 1 + 1 + 1, 1, none⟩ = some (.int .u64 (zo : Int)) := by rw [oz.cell, ← hzo]; rfl
    have or0 := hI'.r
    have c0 : V.cell? ⟨B + 1 + 1, 0, none⟩ = some (.int .u64 ((Gc.hi 0 : Nat) : Int)) := by rw [or0.cell]; rfl
    have y0 := or0.free 0
    have y1 := or0.free 1
    have or1 := or0.set 0 (.int .u64 (zh : Int))
    have c1 : (V.setCell ⟨B + 1 + 1, 0, none⟩ (.int .u64 (zh : Int))).cell? ⟨B + 1 + 1, 1, none⟩ = some (.int .u64 ((Gc.lo 0 : Nat) : Int)) := by rw [or1.cell]; rfl
    have or2 := or1.set 1 (.int .u64 (zo : Int))
    have u2 : Upd (B + 2) V ((V.setCell ⟨B + 1 + 1, 0, none⟩ (.int .u64 (zh : Int))).setCell ⟨B + 1 + 1, 1, none⟩ (.int .u64 (zo : Int))) := ((Upd.refl _ V).set 0 _).set 1 _
    obtain ⟨V2, hV2⟩ : ∃ V2, (V.setCell ⟨B + 1 + 1, 0, none⟩ (.int .u64 (zh : Int))).setCell ⟨B + 1 + 1, 1, none⟩ (.int .u64 (zo : Int)) = V2 := ⟨_, rfl⟩
    have yb : Below w.heap.size w V2 := hV2 ▸ Upd.below hI'.bel (by omega) u2
    have yo : Obj V2 (B + 2) 45 #[.int .u64 (zh : Int), .int .u64 (zo : Int)] := hV2 ▸ or2.as rfl
    have hK2 : V2.heap[D]? = some (.deferred (some [])) := by
      have hd := (Array.getElem?_eq_some_iff.1 hK).1
      rw [← hV2]; exact (u2.block D hd (by omega)).trans hK
    have ho : ∀ j, j ≠ D → (V2.putObj D (.deferred none)).heap[j]? = V2.heap[j]? := fun j hj => World.putObj_heap_other (by omega)
    have q0 : Obj (V2.putObj D (.deferred none)) (B + 2) _ _ := (ho (B + 2) (by omega)).trans yo
    have p0 : (V2.putObj D (.deferred none)).cell? ⟨B + 1 + 1, 0, none⟩ = some (.int .u64 (zh : Int)) := by rw [q0.cell]; rfl
    have p1 : (V2.putObj D (.deferred none)).cell? ⟨B + 1 + 1, 1, none⟩ = some (.int .u64 (zo : Int)) := by rw [q0.cell]; rfl
    have hgp := grownBy_putObj' V2 D (.deferred none)
    have HFI : Hid (Ending.returned (.agg #[.int .u64 (zh : Int), .int .u64 (zo : Int)]) = Ending.returned (.agg (prs (Gc.mul a b))) ∧ Below w.heap.size w (V2.putObj D (.deferred none))) := ⟨by rw [hm, ← hzh, ← hzo]; rfl, ⟨hgp.os.trans yb.os, hgp.tape.trans yb.tape, hgp.output.trans yb.output, Nat.le_trans yb.size hgp.size, fun j hj => (ho j (by omega)).trans (yb.block j hj)⟩⟩
    have HK2 := Lib.hid hK2
    clear hI hI' hK oz or0 or1 or2 u2 yb yo ho q0 hgp hK2 hG hw hm hzh hzo hmul
    go_wp2
    refine ⟨by simp, .inl ⟨_, _, rfl, run_takeDeferred HK2.out, ?_⟩⟩
    exact ⟨.agg #[.int .u64 (zh : Int), .int .u64 (zo : Int)], by simp [results, Try.results19, go_sem, p0, p1], HFI.out.1, HFI.out.2⟩
  case stop =>
    rintro D c i V hD h _
    exact h.elim
end Go.Proofs.Ytnphanhoakbkpaa.Rm
