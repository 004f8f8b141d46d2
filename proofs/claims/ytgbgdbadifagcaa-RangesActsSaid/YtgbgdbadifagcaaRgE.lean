/- Layer 13's document, walked: Ranges. -/
import Derived.Test.YtgbgdbadifagcaaRows
import Derived.Test.YtgbgdbadifagcaaAid
import Derived.Test.YtgbgdbadifagcaaPlainRg
import Derived.Test.YtgbgdbadifagcaaPlainRg2
import Derived.Test.YtgbgdbadifagcaaPlainRg3
import Derived.Test.YtgbgdbadifagcaaPlainRg4
import Derived.Test.YtgbgdbadifagcaaRgW
import Derived.Test.YtgbgdbadifagcaaRgX
import Derived.Test.YtgbgdbadifagcaaRgI
import Derived.Test.YtgbgdbadifagcaaRgJ
import Derived.Test.YtgbgdbadifagcaaRgF
import Derived.Test.YtgbgdbadifagcaaRgA
import Derived.Test.YtgbgdbadifagcaaRgB
import Derived.Test.YtgbgdbadifagcaaRgL
import Derived.Test.YtgbgdbadifagcaaRgD
import Derived.WalkKit
import Derived.OwnWalk
import Derived.Laws.Rows
import Derived.Laws.Tables
import Derived.Laws.AppendOwn
import Derived.Laws.OwnMore
import Derived.WalkSpells
import Derived.WalkLawsBesides
import Derived.BigQuiet
import Derived.Handy
import Derived.StillTailTactics
import Derived.Lib.Hide
import Derived.IntWalk
namespace Go.Proofs.Ytgbgdbadifagcaa
open Go.RowKit Go.Shelf Go.Lib Go.Sort
set_option linter.unusedVariables false
set_option linter.unusedSimpArgs false

theorem stepR_len (out : List Rg.R) (n : Nat) : (Rg.stepR out n).length ≤ out.length + 1 := by
  unfold Rg.stepR; split <;> simp
theorem outs_len (L : List Nat) : ∀ k, k ≤ L.length → (Rg.outs L (L.length - k)).length ≤ k := by
  intro k
  induction k with
  | zero => intro _; rw [Nat.sub_zero, Rg.outs_end]; exact Nat.le_refl _
  | succ k ih =>
    intro hk
    rw [← Rg.outs_step L _ (by omega), show L.length - (k + 1) + 1 = L.length - k by omega]
    have := stepR_len (Rg.outs L (L.length - k)) (L.getD (L.length - (k + 1)) 0)
    have := ih (by omega)
    omega
theorem flat_snoc (l : List Rg.R) (r : Rg.R) : flat l ++ flat [r] = flat (l ++ [r]) := (flat_append _ _).symm

/-- One range, appended to a row of the call's own. -/
theorem wpList_appR {ops : Array Oper} {rest : List Oper} {o : Oper} {a : Act} {w : World} {Q : Exit → Act → World → Prop} (hgd : o.guard = none) (s x : Operand)
    (ho : o.op = .call { callee := .builtin .append, args := #[s, x], argTypes := #[27, 27] })
    (base : Nat) (v : Value) (O : List Rg.R) (hs : a.eval s = v) (hown : w.ownsRow base 41 2 v O.length (flat O)) (r : Rg.R) (vb : Nat) (hx : a.eval x = .slice (some ⟨vb, 0, none⟩) 1 1)
    (hV : Obj w vb 41 #[u64v r.1, u64v r.2]) (hm : O.length ≤ 100000) (hbase : base ≤ w.heap.size)
    (h : ∀ v' w', w'.ownsRow base 41 2 v' (O ++ [r]).length (flat (O ++ [r])) → w.grownBy w' v.ownBlock → wpList Try.prog ops Q rest (a.put o.dst v') w') : wpList Try.prog ops Q (o :: rest) a w := by
  obtain ⟨i0, hi, hz0, hz1, hz2⟩ := infoR
  refine wpList_append_own w hgd s x 27 ho base 41 i0 (.agg #[u64v 0, u64v 0]) 2 16 Try.underlying27 hi hz0 hz1 hz2 rfl (by decide) v O.length (flat O) hs hown ⟨vb, 0, none⟩ 1 1 (flat [r]) hx rfl (src_one hV) (flat_one _) (by simp only [maxLen]; omega) (by omega) hbase (fun v' w' h1 h2 _ => ?_)
  refine h v' w' ?_ h2
  rw [flat_append]
  simpa using h1
theorem Below.own {B : Nat} {a w w' : World} {v : Value} {n size : Nat} {e : TypeId} {xs : List Value} (h : Below B a w) (ho : w.ownsRow B e size v n xs) (hB : B ≤ w.heap.size) (hg : w.grownBy w' v.ownBlock) : Below B a w' :=
  h.grown hg hB fun k hk => (ho.lt k hk).1

set_option maxHeartbeats 4000000 in
theorem refRanges_any (N M a : Nat) (s : Rg.S) (w : World) (hM : M ≤ 1000) (h : DocAt N M w a s) :
    Calls Try.prog 20 #[.pointer (some ⟨a, 0, none⟩)] w fun e w' => ∃ v g', e = .returned v ∧ RowR w' v g' s.l ∧ (s.l ≠ [] → w.heap.size ≤ g') ∧ Below w.heap.size w w' := by
  obtain ⟨_, L, v, hlM, hO, hR, hT⟩ := h
  obtain ⟨g, base, c, rfl, _, hcm, hc⟩ := own_u64 hR
  have hs := Rg.tie_outs hT
  have hal := hO.lt
  have HF : Hid (∀ W, Below w.heap.size w W → W.cell? ⟨a, 0, none⟩ = some (.slice base L.length c)) := fun W hb => by
    rw [hb.cell (p := ⟨a, 0, none⟩) hal, hO.cell]; rfl
  have HC : Hid (∀ W, Below w.heap.size w W → ∀ i, i < L.length → base = some ⟨g, 0, none⟩ ∧ W.cell? ⟨g, i, none⟩ = some (.int .u64 ((L.getD i 0 : Nat) : Int))) := fun W hb i hi => by
    obtain ⟨e1, e2⟩ := hc i hi
    exact ⟨e1, (hb.cell (p := ⟨g, i, none⟩) (block_lt_of_cell e2)).trans e2⟩
  have HX : Hid (∀ i, i < L.length → L.getD i 0 ≤ 4611686018427387903) := fun i hi => hT.ok.le _ ((hT.mem _).2 (by
    rw [List.getD_eq_getElem?_getD, List.getElem?_eq_getElem hi]; exact List.getElem_mem _))
  have HLN := Lib.hid (outs_len L)
  have HST := Lib.hid (Rg.outs_step L)
  have HEND := Lib.hid (Rg.outs_end L)
  have HS := Lib.hid hs
  rw [← hs]
  have hl1000 : L.length ≤ 1000 := by omega
  have f0 := HF.out w (Below.refl _ _)
  clear hO hR hc hT hs hcm hlM
  generalize hm : L.length = m at *
  have HLM := Lib.hid hm
  clear hm
  go_enter Try.func20, Try.ntmps20
  go_wp2
  clear f0
  go_loopw [3, 4] (fun o i wr => ∃ j : Nat, j ≤ m ∧ i = .int .i64 ((j : Int) - 1) ∧ wr.ownsRow w.heap.size 41 2 o (Rg.outs L j).length (flat (Rg.outs L j)) ∧ Below w.heap.size w wr) (fun o i _ => (intOf i + 1).toNat)
  case atStart =>
    refine ⟨m, Nat.le_refl _, rfl, ?_, Below.refl _ _⟩
    rw [HEND.out]
    exact World.ownsRow_nil _ _ _ _
  case round =>
    obtain ⟨j, hj, rfl, hown, hL⟩ := hrel
    cases j with
    | zero =>
      have HO := Lib.hid hown
      have HL := Lib.hid hL
      clear hown hL
      go_wp2
      go_ret
      obtain ⟨g', k1, k2, _⟩ := own_row HO.out
      exact ⟨_, g', rfl, k1, k2, HL.out⟩
    | succ k =>
      have hkm : k < m := by omega
      obtain ⟨rfl, e1⟩ := HC.out wr hL k hkm
      have f0 := HF.out wr hL
      have hstep := HST.out k hkm
      have hxx := HX.out k hkm
      have hlen := HLN.out (m - (k + 1)) (by omega)
      rw [show m - (m - (k + 1)) = k + 1 by omega] at hlen
      have hkz : (k : Int) < (m : Int) := by omega
      have HO := Lib.hid hown
      have HL := Lib.hid hL
      generalize Rg.outs L (k + 1) = O at *
      generalize hO' : Rg.outs L k = O' at *
      have HO' := Lib.hid hO'
      clear hO' hL
      generalize L.getD k 0 = x at *
      have z1 : (k : Int) + 1 - 1 = (k : Int) := by omega
      have hw : IntKind.u64.wrap ((x : Int) + 1) = (x : Int) + 1 := by rw [IntKind.wrap_u64]; omega
      have HRO := Lib.hid (own_row HO.out)
      obtain ⟨g3, hr3, hb3, _⟩ := own_row HO.out
      obtain ⟨base3, c3, hov, hb3', _⟩ := hr3.nilOr
      by_cases hc : 0 < O.length ∧ (O.getD (O.length - 1) (0, 0)).1 = x + 1
      · obtain ⟨hpos, hlo⟩ := hc
        obtain ⟨t, ht⟩ : ∃ t, O.length = t + 1 := ⟨O.length - 1, by omega⟩
        have hstep' : O.set t (x, (O.getD t (0, 0)).2) = O' := by
          rw [← hstep]; unfold Rg.stepR; rw [if_pos ⟨hpos, hlo⟩, ht, Nat.add_sub_cancel]
        rw [ht, Nat.add_sub_cancel] at hlo
        obtain ⟨c4, e4, f4, f5⟩ := hr3.cells (i := t) (by omega)
        rw [hlo] at f4
        subst hov
        simp only [Value.slice.injEq] at e4
        obtain ⟨rfl, -, -⟩ := e4
        have hst := World.ownsRow.stored HO.out (t * 2) (u64v x)
        have HST2 := Lib.hid hst
        have HFL : Hid ((flat O).set (t * 2) (u64v x) = flat O') := by unfold Hid; rw [flat_set_lo O t x (by omega), hstep']
        have HLE : Hid (O'.length = O.length) := by unfold Hid; rw [← hstep']; simp
        have z3 : wr.frozen? ⟨g3, t * 2, none⟩ = false := by
          rcases hr3 with ⟨h, _⟩ | ⟨_, _, _, _, _, _, h⟩
          · cases h
          · exact h.free _
        have HGB : Hid (w.heap.size ≤ g3) := hb3 (by intro h; rw [h] at ht; simp at ht)
        have k1 : ((t + 1 : Nat) : Int) - 1 = (t : Int) := by omega
        have k2 : (t : Int) + 1 - 1 = (t : Int) := by omega
        have k5 : (t : Int) < (t : Int) + 1 := by omega
        have k6 : (0 : Int) < (t : Int) + 1 := by omega
        unfold u64v at f4
        rw [show ((x + 1 : Nat) : Int) = (x : Int) + 1 by omega] at f4
        have ht1000 : t ≤ 1000 := by omega
        rw [ht] at HLE HST2
        clear hr3 hb3 hb3' f5 hlo hstep hstep' hpos hlen hst HO
        rw [ht]
        clear ht HRO hown
        go_wp2
        go_roundw
        case rel => exact ⟨k, by omega, rfl, by rw [HO'.out, HLE.out, ← HFL.out]; exact HST2.out.1, HL.out.setCell HGB.out _⟩
        case measure => simp [intOf]
      · have hstep' : O ++ [(x, x)] = O' := by rw [← hstep]; unfold Rg.stepR; rw [if_neg hc]
        have HSP := Lib.hid hstep'
        have HVA : Hid (Obj (wr.alloc (.cells #[.int .u64 (x : Int), .int .u64 (x : Int)] 41)) wr.heap.size 41 #[u64v (x, x).1, u64v (x, x).2]) := Obj.new wr _ _
        have HL1 : Hid (O.length ≤ 100000) := by unfold Hid; omega
        have HSZ : Hid (w.heap.size ≤ (wr.alloc (.cells #[.int .u64 (x : Int), .int .u64 (x : Int)] 41)).heap.size) := by
          have := HL.out.size; unfold Hid; simp; omega
        subst hov
        obtain ⟨q, hq⟩ : ∃ q, O.length = q := ⟨_, rfl⟩
        have HOA : Hid ((wr.alloc (.cells #[.int .u64 (x : Int), .int .u64 (x : Int)] 41)).ownsRow w.heap.size 41 2 (.slice base3 q c3) O.length (flat O)) := by
          unfold Hid; rw [← hq]; exact HO.out.alloc _
        by_cases h0 : O.length = 0
        · obtain rfl : q = 0 := by omega
          rw [h0]
          have HO0 := Lib.hid h0
          clear hr3 hb3 hb3' hstep hstep' hlen h0 HRO hown hc hq HO
          go_wp2_with (at_builtin; refine wpList_appR rfl _ _ rfl w.heap.size _ O rfl HOA.out (x, x) wr.heap.size rfl HVA.out HL1.out HSZ.out ?_)
          intro v' w' hown' hgr'
          have HOW := Lib.hid hown'
          have HBE : Hid (Below w.heap.size w w') := Below.own (HL.out.alloc HL.out.size _) HOA.out HSZ.out hgr'
          clear hown' hgr'
          go_wp2
          go_roundw
          case rel => exact ⟨k, by omega, rfl, by rw [HO'.out, ← HSP.out, List.length_append]; exact HOW.out, HBE.out⟩
          case measure => simp [intOf]
        · obtain ⟨t, ht⟩ : ∃ t, O.length = t + 1 := ⟨O.length - 1, by omega⟩
          obtain ⟨c4, e4, f4, f5⟩ := hr3.cells (i := t) (by omega)
          have hlo : (O.getD t (0, 0)).1 ≠ x + 1 := fun h => hc ⟨by omega, by rw [ht, Nat.add_sub_cancel]; exact h⟩
          simp only [Value.slice.injEq] at e4
          obtain ⟨rfl, -, -⟩ := e4
          generalize (O.getD t (0, 0)).1 = y at *
          have hne : ((y : Int) == (x : Int) + 1) = false := by simp; omega
          have k1 : ((t + 1 : Nat) : Int) - 1 = (t : Int) := by omega
          have k2 : (t : Int) + 1 - 1 = (t : Int) := by omega
          have k5 : (t : Int) < (t : Int) + 1 := by omega
          have k6 : (0 : Int) < (t : Int) + 1 := by omega
          have ht1000 : t ≤ 1000 := by omega
          unfold u64v at f4
          rw [ht]
          obtain rfl : q = t + 1 := by omega
          have HT := Lib.hid ht
          clear hr3 hb3 hb3' f5 hlo hstep hstep' hlen h0 ht HRO hown hc hq HO
          go_wp2_with (at_builtin; refine wpList_appR rfl _ _ rfl w.heap.size _ O rfl HOA.out (x, x) wr.heap.size rfl HVA.out HL1.out HSZ.out ?_)
          intro v' w' hown' hgr'
          have HOW := Lib.hid hown'
          have HBE : Hid (Below w.heap.size w w') := Below.own (HL.out.alloc HL.out.size _) HOA.out HSZ.out hgr'
          clear hown' hgr'
          go_wp2
          go_roundw
          case rel => exact ⟨k, by omega, rfl, by rw [HO'.out, ← HSP.out, List.length_append]; exact HOW.out, HBE.out⟩
          case measure => simp [intOf]
end Go.Proofs.Ytgbgdbadifagcaa
