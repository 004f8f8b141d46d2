/- Layer 13's document, walked: Add. -/
import Derived.Test.YtgbgdbadifagcaaRows
import Derived.Test.YtgbgdbadifagcaaAid
import Derived.Test.YtgbgdbadifagcaaPlainRg
import Derived.Test.YtgbgdbadifagcaaPlainRg2
import Derived.Test.YtgbgdbadifagcaaPlainRg3
import Derived.Test.YtgbgdbadifagcaaPlainRg4
import Derived.Test.YtgbgdbadifagcaaRgW
import Derived.Test.YtgbgdbadifagcaaRgX
import Derived.Test.YtgbgdbadifagcaaRgI
import Derived.Test.YtgbgdbadifagcaaRgJ
import Derived.Test.YtgbgdbadifagcaaRgF
import Derived.Test.YtgbgdbadifagcaaRgA
import Derived.Test.YtgbgdbadifagcaaRgB
import Derived.Test.YtgbgdbadifagcaaRgL
import Derived.Test.YtgbgdbadifagcaaRgD
import Derived.Test.YtgbgdbadifagcaaRgE
import Derived.Test.YtgbgdbadifagcaaRgH
import Derived.Test.YtgbgdbadifagcaaHeldT
import Derived.WalkKit
import Derived.OwnWalk
import Derived.Laws.Rows
import Derived.Laws.Tables
import Derived.Laws.AppendOwn
import Derived.Laws.OwnMore
import Derived.Lib.AppendZeros
import Derived.WalkSpells
import Derived.WalkLawsBesides
import Derived.BigQuiet
import Derived.Handy
import Derived.StillTailTactics
import Derived.Deep.RegionHeld3
import Derived.Lib.Hide
import Derived.IntWalk
namespace Go.Proofs.Ytgbgdbadifagcaa
open Go.RowKit Go.Shelf Go.Lib
set_option linter.unusedVariables false
set_option linter.unusedSimpArgs false

/-- What a second argument of append holds. -/
def SrcU (w : World) (x : Value) (X : List Nat) : Prop :=
  (x = .slice none 0 0 ∧ X = []) ∨ ∃ ad c, x = .slice (some ad) X.length c ∧ ∀ j u, (X.map u64v)[j]? = some u → w.cell? (ad.add j) = some u
theorem wp_appS {o : Oper} {a : Act} {K : Act → World → Prop} {Q : Exit → Act → World → Prop} {w : World} (s x : Operand)
    (ho : o.op = .call { callee := .builtin .append, args := #[s, x], argTypes := #[33, 33] })
    (base : Nat) (v : Value) (O : List Nat) (hs : a.eval s = v) (hown : w.ownsRow base 26 1 v O.length (O.map u64v)) (X : List Nat) (vx : Value) (hx : a.eval x = vx) (hX : SrcU w vx X)
    (hm : O.length + X.length ≤ 100000) (hbase : base ≤ w.heap.size)
    (h : ∀ v' w', w'.ownsRow base 26 1 v' (O ++ X).length ((O ++ X).map u64v) → w.grownBy w' v.ownBlock → K (a.put o.dst v') w') : o.wp Try.prog a w K Q := by
  obtain ⟨i0, hi, hz0, hz1, hz2⟩ := info_parts infoU
  rcases hX with ⟨rfl, rfl⟩ | ⟨ad, c, rfl, hc⟩
  · refine Lib.wp_append_run w s x 33 33 ho _ _ hs hx _ _ (run_append_owned_none w base 33 o.type 26 i0 1 Try.underlying33 hi v O.length (O.map u64v) hown) ?_
    exact h v w (by simpa using hown) ⟨rfl, rfl, rfl, Nat.le_refl _, fun _ _ _ => rfl⟩
  · refine wp_append_own w s x 33 ho base 26 i0 (.int .u64 0) 1 8 Try.underlying33 hi hz0 hz1 hz2 rfl (by decide) v O.length (O.map u64v) hs hown ad X.length c (X.map u64v) hx (by simp) hc ?_ (by simp only [maxLen]; omega) (by omega) hbase (fun v' w' h1 h2 _ => ?_)
    · intro u hu
      obtain ⟨y, _, rfl⟩ := List.mem_map.1 hu
      rfl
    · refine h v' w' ?_ h2
      rw [List.map_append]
      simpa using h1
theorem SrcU.one {w : World} {b n : Nat} (h : Obj w b 26 #[u64v n]) : SrcU w (.slice (some ⟨b, 0, none⟩) 1 1) [n] :=
  Or.inr ⟨⟨b, 0, none⟩, 1, rfl, fun j u hj => by rw [add_zero_lit, h.cell]; simpa using hj⟩
theorem Obj.grown {w w' : World} {b : Nat} {t : TypeId} {cs : Array Value} {row : Option Nat} (h : Obj w b t cs) (hg : w.grownBy w' row) (hne : some b ≠ row) : Obj w' b t cs := (hg.block b h.lt hne).trans h

section
variable {P : Program} {ops : Array Oper} {md : Region.Mode} {Q : Exit → Act → World → Prop} {S : World → Prop} {T : Nat}
/-- Two may come up, neither of them T. -/
theorem wpAnyT_two {i j : Nat} {oi oj : Oper} {fuel : Nat} {listed : Array Bool} {a : Act} {w : World} (hr : Region.ready md ops listed = [i, j]) (hoi : ops[i]? = some oi) (hoj : ops[j]? = some oj)
    (hi : ∀ K' : Act → World → Prop, Shut (∀ a w, S w → (S w → wpAnyT P md ops Q S T fuel (listed.setIfInBounds i true) a w) → K' a w) → if Region.wanted oi (yielded ops a.tmps) = true then Oper.wp P oi a w K' Q else K' (a.put oi.dst undef) w)
    (hj : ∀ K' : Act → World → Prop, Shut (∀ a w, S w → (S w → wpAnyT P md ops Q S T fuel (listed.setIfInBounds j true) a w) → K' a w) → if Region.wanted oj (yielded ops a.tmps) = true then Oper.wp P oj a w K' Q else K' (a.put oj.dst undef) w) :
    wpAnyT P md ops Q S T (fuel + 1) listed a w :=
  ⟨fun h0 => (by rw [h0] at hr; cases hr), fun k hk => by
    rw [hr] at hk
    rcases (by simpa using hk : k = i ∨ k = j) with rfl | rfl
    · exact wpOp_step hoi (fun K' hK => hi K' (fun a w hS hW => hK a w ⟨fun _ => hS, hW hS⟩))
    · exact wpOp_step hoj (fun K' hK => hj K' (fun a w hS hW => hK a w ⟨fun _ => hS, hW hS⟩))⟩
end
theorem own_keep {w w' : World} {b : Nat} {e : TypeId} {size n : Nat} {v : Value} {xs : List Value} (h : w.ownsRow b e size v n xs) (hb : Below w.heap.size w w') : w'.ownsRow b e size v n xs :=
  h.kept (row := none) ⟨hb.os, hb.tape, hb.output, hb.size, fun k hk _ => hb.block k hk⟩ (by cases hv : v.ownBlock <;> simp)
theorem DocAt.kept {N M a : Nat} {s : Rg.S} {w w' : World} (h : DocAt N M w a s) (hb : Below w.heap.size w w') : DocAt N M w' a s := by
  obtain ⟨h1, L, v, h2, h3, h4, h5⟩ := h
  exact ⟨h1, L, v, h2, h3.kept hb, own_keep h4 hb, h5⟩
theorem DocV.kept {N M a : Nat} {s : Rg.S} {w w' : World} {v : Value} (h : DocV N M w a s v) (hb : Below w.heap.size w w') : DocV N M w' a s v := by
  obtain ⟨h1, L, h2, h3, h4, h5⟩ := h
  exact ⟨h1, L, h2, h3.kept hb, own_keep h4 hb, h5⟩
theorem own_form {w : World} {N : Nat} {v : Value} {L : List Nat} (h : w.ownsRow N 26 1 v L.length (L.map u64v)) : (v = .slice none 0 0 ∧ L = []) ∨ ∃ g c, v = .slice (some ⟨g, 0, none⟩) L.length c ∧ L.length ≤ c ∧ c ≤ maxLen ∧ ∀ i, i < L.length → w.cell? ⟨g, i, none⟩ = some (u64v (L.getD i 0)) := by
  rcases h.2 with ⟨rfl, h0⟩ | ⟨g, cap, cur, rfl, hb, hg, hnc, hcm, hcs, ht⟩
  · exact Or.inl ⟨rfl, List.length_eq_zero_iff.1 h0⟩
  · refine Or.inr ⟨g, cap, rfl, hnc, hcm, fun i hi => ?_⟩
    rw [h.cellAt i (by omega)]
    simp [List.getD_eq_getElem?_getD, hi]

set_option maxHeartbeats 16000000 in
theorem refAdd_any (N M a n : Nat) (s : Rg.S) (w : World) (hM : M + 1 ≤ 1000) (hN : N ≤ w.heap.size) (hok : Rg.Ok s) (v0 : Value) (h : DocV N M w a s v0) :
    Calls Try.prog 15 #[.pointer (some ⟨a, 0, none⟩), .int .u64 (n : Int)] w fun e w' => e = .returned (.bool (Rg.add n s).1) ∧ (∃ v', DocV N (M + 1) w' a (Rg.add n s).2 v' ∧ (v' = v0 ∨ ∀ k, v'.ownBlock = some k → w.heap.size ≤ k)) ∧ Upd a w w' := by
  have hD : DocV N (M + 1) w a s v0 := by
    obtain ⟨h1, L, h2, h3⟩ := h
    exact ⟨h1, L, by omega, h3⟩
  have HD := Lib.hid hD
  have HHAS := Lib.hid (refHas_any N M a n s w h.at)
  obtain ⟨hNa, L, hlM, hO, hR, hT⟩ := h
  have f1 : w.cell? ⟨a, 1, none⟩ = some (.int .u64 (s.old : Int)) := by rw [hO.cell]; rfl
  by_cases h1 : 4611686018427387903 < n
  · have HA : Hid (Rg.add n s = (false, s)) := Rg.add_no hok (Or.inl h1)
    have h1' : decide ((4611686018427387903 : Int) < (n : Int)) = true := by rw [decide_eq_true_eq]; omega
    clear hO hR hT
    go_enter Try.func15, Try.ntmps15
    go_wp2
    go_ret
    rw [HA.out]
    exact ⟨rfl, ⟨_, HD.out, Or.inl rfl⟩, Upd.refl _ _⟩
  have h1' : decide ((4611686018427387903 : Int) < (n : Int)) = false := by rw [decide_eq_false_iff_not]; omega
  by_cases h2 : n < s.old
  · have HA : Hid (Rg.add n s = (false, s)) := Rg.add_no hok (Or.inr (Or.inl h2))
    have h2' : decide (n < s.old) = true := by simpa using h2
    clear hO hR hT
    go_enter Try.func15, Try.ntmps15
    go_wp2
    go_ret
    rw [HA.out]
    exact ⟨rfl, ⟨_, HD.out, Or.inl rfl⟩, Upd.refl _ _⟩
  have h2' : decide (n < s.old) = false := by simpa using h2
  by_cases h3 : Rg.has n s.l = true
  · have HA : Hid (Rg.add n s = (false, s)) := Rg.add_no hok (Or.inr (Or.inr ((Rg.has_iff hok.norm n).1 h3)))
    rw [h3] at HHAS
    clear hO hR hT h3
    go_enter Try.func15, Try.ntmps15
    go_wp2_with fail
    refine HHAS.out.mono ?_
    rintro e w1 ⟨rfl, rfl⟩
    go_wp2
    go_ret
    rw [HA.out]
    exact ⟨rfl, ⟨_, HD.out, Or.inl rfl⟩, Upd.refl _ _⟩
  have h3' : Rg.has n s.l = false := by simpa using h3
  have hnL : n ∉ L := fun hm => by rw [Rg.tie_has hT n, decide_eq_true hm] at h3'; cases h3'
  obtain ⟨t1, t2⟩ := Rg.tie_add hok hT (by unfold Rg.top; omega) (by omega) hnL
  have hform := own_form hR
  obtain ⟨g, base, c, rfl, hlc, hcm, hc⟩ := own_u64 hR
  obtain ⟨P, hP⟩ : ∃ P, Rg.place n L = P := ⟨_, rfl⟩
  have hPL : P ≤ L.length := by rw [← hP]; exact Rg.place_le n L
  have HPH : Hid (∀ i, P ≤ i → i < L.length → n < L.getD i 0) := fun i hi hl => Rg.place_high hT.inc (by rw [hP]; exact hi) hl hnL
  have HPL : Hid (∀ i, i < P → L.getD i 0 < n) := fun i hi => Rg.place_low hT.inc (by rw [hP]; exact hi)
  have HINS : Hid ((([] ++ L.take P) ++ [n]) ++ L.drop P = Rg.insL n L) := by unfold Hid Rg.insL; rw [hP]; simp
  have HIL : Hid ((Rg.insL n L).length ≤ M + 1) := by have := Rg.place_le n L; unfold Hid Rg.insL; simp; omega
  have hal := hO.lt
  have HF : Hid (∀ W, Below w.heap.size w W → W.cell? ⟨a, 0, none⟩ = some (.slice base L.length c) ∧ Obj W a 35 #[.slice base L.length c, u64v s.old]) := fun W hb => by
    refine ⟨?_, hO.kept hb⟩
    rw [hb.cell (p := ⟨a, 0, none⟩) hal, hO.cell]; rfl
  have HC : Hid (∀ W, Below w.heap.size w W → ∀ i, i < L.length → base = some ⟨g, 0, none⟩ ∧ W.cell? ⟨g, i, none⟩ = some (.int .u64 ((L.getD i 0 : Nat) : Int))) := fun W hb i hi => by
    obtain ⟨e1, e2⟩ := hc i hi
    exact ⟨e1, (hb.cell (p := ⟨g, i, none⟩) (block_lt_of_cell e2)).trans e2⟩
  have HFM : Hid ((base = none ∧ c = 0 ∧ L.length = 0) ∨ ∃ g', base = some ⟨g', 0, none⟩ ∧ (0 < L.length → g' = g)) := by
    rcases hform with ⟨e, h0⟩ | ⟨g', c', e, _⟩
    · simp only [Value.slice.injEq] at e; exact Or.inl ⟨e.1, e.2.2, e.2.1⟩
    · cases e
      refine Or.inr ⟨g', rfl, fun hp => ?_⟩
      have := (hc 0 hp).1
      cases this; rfl
  have hl1000 : L.length ≤ 1000 := by omega
  have HLL := Lib.hid hl1000
  have HT1 := Lib.hid t1
  have HADD := Lib.hid t2
  have HRG := Lib.hid (fun W (hW : DocAt N (M + 1) W a ⟨Rg.addL n s.l, s.old⟩) => refRanges_any N (M + 1) a ⟨Rg.addL n s.l, s.old⟩ W hM hW)
  have HFG := Lib.hid (fun W (hNW : N ≤ W.heap.size) (hW : DocAt N (M + 1) W a ⟨Rg.addL n s.l, s.old⟩) => refForget_any N (M + 1) a ((Rg.addL n s.l).getD 16 (0, 0)).2 ⟨Rg.addL n s.l, s.old⟩ W hM hNW hW)
  rw [h3'] at HHAS
  have HNN : Hid (N ≤ w.heap.size ∧ N ≤ a ∧ a < w.heap.size) := ⟨hN, hNa, hal⟩
  have HLM : Hid (L.length ≤ M) := hlM
  have f0 := (HF.out w (Below.refl _ _)).1
  clear hO hR hT hc h3 h3' hnL t1 t2 hD hok hP hlM hform
  generalize Rg.add n s = RES at *
  generalize Rg.addL n s.l = S1 at *
  generalize hml : L.length = ml at *
  have HML := Lib.hid hml
  clear hml
  go_enter Try.func15, Try.ntmps15
  go_wp2_with fail
  refine HHAS.out.mono ?_
  rintro e w1 ⟨rfl, rfl⟩
  go_wp2
  go_loopw [5] (fun i wr => ∃ j : Nat, P ≤ j ∧ j ≤ ml ∧ i = .int .i64 j ∧ w = wr) (fun i _ => (intOf i).toNat)
  case atStart => exact ⟨ml, hPL, Nat.le_refl _, rfl, rfl⟩
  case round =>
    obtain ⟨j, hPj, hj, rfl, rfl⟩ := hrel
    by_cases hjP : P < j
    · obtain ⟨k, rfl⟩ : ∃ k, j = k + 1 := ⟨j - 1, by omega⟩
      obtain ⟨rfl, e1⟩ := HC.out w (Below.refl _ _) k (by omega)
      have hgt := HPH.out k (by omega) (by omega)
      generalize L.getD k 0 = x at *
      have hd : decide (n < x) = true := by simpa using hgt
      have k1 : ((k + 1 : Nat) : Int) - 1 = (k : Int) := by omega
      have k2 : (k : Int) + 1 - 1 = (k : Int) := by omega
      have k5 : (k : Int) < (ml : Int) := by omega
      have k6 : (0 : Int) < (k : Int) + 1 := by omega
      clear hgt
      go_wp2
      go_roundw
      case rel => exact ⟨k, by omega, by omega, by go_num, by trivial⟩
      case measure => simp [intOf]
    · obtain rfl : P = j := by omega
      clear hjP hPj hj
      have HTK : Hid ((L.take P).length = P) := by unfold Hid; rw [List.length_take, HML.out]; omega
      have HDR : Hid ((L.drop P).length = ml - P) := by unfold Hid; rw [List.length_drop, HML.out]
      rcases HFM.out with ⟨rfl, rfl, rfl⟩ | ⟨gb, rfl, hgb⟩
      · have hP0 : P = 0 := by omega
        subst hP0
        have HSH : Hid (∀ W, Below w.heap.size w W → SrcU W (.slice none 0 0) (L.take 0)) := fun W hb => Or.inl ⟨rfl, rfl⟩
        have HST : Hid (∀ W, Below w.heap.size w W → SrcU W (.slice none 0 0) (L.drop 0)) := fun W hb => Or.inl ⟨rfl, List.length_eq_zero_iff.1 HML.out⟩
        go_wp2
        refine wp_region_T 21 (fun w' => Below w.heap.size w w') (by kernel_rfl) (below_drewN (Below.refl _ _) 1) (fun hHeld => ?_)
        refine wpAnyT_take (i := 0) (oi := ?_) (v := ?_) ?_ ?_ ?_ ?_ ?_ ?_ ?_ (by assumption) ?_
        rotate_left 2
        · simp only [List.getElem?_toArray, List.getElem?_cons_zero, List.getElem?_cons_succ]
          rfl
        · kernel_rfl
        · kernel_rfl
        · kernel_rfl
        · kernel_rfl
        · exact fun _ _ _ h => h
        · refine Or.inl ⟨by rfl, ?_⟩
          intro w hSw
          (try dsimp only at hSw)
          go_simp
          all_goals with_reducible rfl
        simp only [Act.put, List.setIfInBounds_toArray, List.set_cons_zero, List.set_cons_succ]
        refine wpAnyT_take (i := 2) (oi := ?_) (v := ?_) ?_ ?_ ?_ ?_ ?_ ?_ ?_ (by assumption) ?_
        rotate_left 2
        · simp only [List.getElem?_toArray, List.getElem?_cons_zero, List.getElem?_cons_succ]
          rfl
        · kernel_rfl
        · kernel_rfl
        · kernel_rfl
        · kernel_rfl
        · exact fun _ _ _ h => h
        · refine Or.inl ⟨by rfl, ?_⟩
          intro w hSw
          (try dsimp only at hSw)
          go_simp
          all_goals with_reducible rfl
        simp only [Act.put, List.setIfInBounds_toArray, List.set_cons_zero, List.set_cons_succ]
        refine wpAnyT_take (i := 3) (oi := ?_) (v := ?_) ?_ ?_ ?_ ?_ ?_ ?_ ?_ (by assumption) ?_
        rotate_left 2
        · simp only [List.getElem?_toArray, List.getElem?_cons_zero, List.getElem?_cons_succ]
          rfl
        · kernel_rfl
        · kernel_rfl
        · kernel_rfl
        · kernel_rfl
        · exact fun _ _ _ h => h
        · refine Or.inl ⟨by rfl, ?_⟩
          intro w hSw
          (try dsimp only at hSw)
          go_simp
          all_goals with_reducible rfl
        simp only [Act.put, List.setIfInBounds_toArray, List.set_cons_zero, List.set_cons_succ]
        refine wpAnyT_take (i := 4) (oi := ?_) (v := ?_) ?_ ?_ ?_ ?_ ?_ ?_ ?_ (by assumption) ?_
        rotate_left 2
        · simp only [List.getElem?_toArray, List.getElem?_cons_zero, List.getElem?_cons_succ]
          rfl
        · kernel_rfl
        · kernel_rfl
        · kernel_rfl
        · kernel_rfl
        · exact fun _ _ _ h => h
        · refine Or.inl ⟨by rfl, ?_⟩
          intro w hSw
          (try dsimp only at hSw)
          go_simp
          all_goals with_reducible rfl
        simp only [Act.put, List.setIfInBounds_toArray, List.set_cons_zero, List.set_cons_succ]
        refine wpAnyT_take (i := 5) (oi := ?_) (v := ?_) ?_ ?_ ?_ ?_ ?_ ?_ ?_ (by assumption) ?_
        rotate_left 2
        · simp only [List.getElem?_toArray, List.getElem?_cons_zero, List.getElem?_cons_succ]
          rfl
        · kernel_rfl
        · kernel_rfl
        · kernel_rfl
        · kernel_rfl
        · exact fun _ _ _ h => h
        · refine Or.inl ⟨by rfl, ?_⟩
          intro w' hSw
          have q := (HF.out w' hSw).1
          go_simp
          all_goals with_reducible rfl
        simp only [Act.put, List.setIfInBounds_toArray, List.set_cons_zero, List.set_cons_succ]
        refine wpAnyT_take (i := 6) (oi := ?_) (v := ?_) ?_ ?_ ?_ ?_ ?_ ?_ ?_ (by assumption) ?_
        rotate_left 2
        · simp only [List.getElem?_toArray, List.getElem?_cons_zero, List.getElem?_cons_succ]
          rfl
        · kernel_rfl
        · kernel_rfl
        · kernel_rfl
        · kernel_rfl
        · exact fun _ _ _ h => h
        · refine Or.inl ⟨by rfl, ?_⟩
          intro w hSw
          (try dsimp only at hSw)
          go_simp
          all_goals with_reducible rfl
        simp only [Act.put, List.setIfInBounds_toArray, List.set_cons_zero, List.set_cons_succ]
        refine wpAnyT_take (i := 7) (oi := ?_) (v := ?_) ?_ ?_ ?_ ?_ ?_ ?_ ?_ (by assumption) ?_
        rotate_left 2
        · simp only [List.getElem?_toArray, List.getElem?_cons_zero, List.getElem?_cons_succ]
          rfl
        · kernel_rfl
        · kernel_rfl
        · kernel_rfl
        · kernel_rfl
        · exact fun _ _ _ h => h
        · refine Or.inl ⟨by rfl, ?_⟩
          intro w hSw
          (try dsimp only at hSw)
          go_simp
          all_goals with_reducible rfl
        simp only [Act.put, List.setIfInBounds_toArray, List.set_cons_zero, List.set_cons_succ]
        refine wpAnyT_take (i := 9) (oi := ?_) (v := ?_) ?_ ?_ ?_ ?_ ?_ ?_ ?_ (by assumption) ?_
        rotate_left 2
        · simp only [List.getElem?_toArray, List.getElem?_cons_zero, List.getElem?_cons_succ]
          rfl
        · kernel_rfl
        · kernel_rfl
        · kernel_rfl
        · kernel_rfl
        · exact fun _ _ _ h => h
        · refine Or.inl ⟨by rfl, ?_⟩
          intro w hSw
          (try dsimp only at hSw)
          go_simp
          all_goals with_reducible rfl
        simp only [Act.put, List.setIfInBounds_toArray, List.set_cons_zero, List.set_cons_succ]
        refine wpAnyT_take (i := 12) (oi := ?_) (v := ?_) ?_ ?_ ?_ ?_ ?_ ?_ ?_ (by assumption) ?_
        rotate_left 2
        · simp only [List.getElem?_toArray, List.getElem?_cons_zero, List.getElem?_cons_succ]
          rfl
        · kernel_rfl
        · kernel_rfl
        · kernel_rfl
        · kernel_rfl
        · exact fun _ _ _ h => h
        · refine Or.inl ⟨by rfl, ?_⟩
          intro w hSw
          (try dsimp only at hSw)
          go_simp
          all_goals with_reducible rfl
        simp only [Act.put, List.setIfInBounds_toArray, List.set_cons_zero, List.set_cons_succ]
        refine wpAnyT_take (i := 13) (oi := ?_) (v := ?_) ?_ ?_ ?_ ?_ ?_ ?_ ?_ (by assumption) ?_
        rotate_left 2
        · simp only [List.getElem?_toArray, List.getElem?_cons_zero, List.getElem?_cons_succ]
          rfl
        · kernel_rfl
        · kernel_rfl
        · kernel_rfl
        · kernel_rfl
        · exact fun _ _ _ h => h
        · refine Or.inl ⟨by rfl, ?_⟩
          intro w hSw
          (try dsimp only at hSw)
          go_simp
          all_goals with_reducible rfl
        simp only [Act.put, List.setIfInBounds_toArray, List.set_cons_zero, List.set_cons_succ]
        refine wpAnyT_take (i := 14) (oi := ?_) (v := ?_) ?_ ?_ ?_ ?_ ?_ ?_ ?_ (by assumption) ?_
        rotate_left 2
        · simp only [List.getElem?_toArray, List.getElem?_cons_zero, List.getElem?_cons_succ]
          rfl
        · kernel_rfl
        · kernel_rfl
        · kernel_rfl
        · kernel_rfl
        · exact fun _ _ _ h => h
        · refine Or.inl ⟨by rfl, ?_⟩
          intro w hSw
          (try dsimp only at hSw)
          go_simp
          all_goals with_reducible rfl
        simp only [Act.put, List.setIfInBounds_toArray, List.set_cons_zero, List.set_cons_succ]
        refine wpAnyT_take (i := 15) (oi := ?_) (v := ?_) ?_ ?_ ?_ ?_ ?_ ?_ ?_ (by assumption) ?_
        rotate_left 2
        · simp only [List.getElem?_toArray, List.getElem?_cons_zero, List.getElem?_cons_succ]
          rfl
        · kernel_rfl
        · kernel_rfl
        · kernel_rfl
        · kernel_rfl
        · exact fun _ _ _ h => h
        · refine Or.inl ⟨by rfl, ?_⟩
          intro w' hSw
          have q := (HF.out w' hSw).1
          go_simp
          all_goals with_reducible rfl
        simp only [Act.put, List.setIfInBounds_toArray, List.set_cons_zero, List.set_cons_succ]
        refine wpAnyT_take (i := 16) (oi := ?_) (v := ?_) ?_ ?_ ?_ ?_ ?_ ?_ ?_ (by assumption) ?_
        rotate_left 2
        · simp only [List.getElem?_toArray, List.getElem?_cons_zero, List.getElem?_cons_succ]
          rfl
        · kernel_rfl
        · kernel_rfl
        · kernel_rfl
        · kernel_rfl
        · exact fun _ _ _ h => h
        · refine Or.inl ⟨by rfl, ?_⟩
          intro w hSw
          (try dsimp only at hSw)
          go_simp
          all_goals with_reducible rfl
        simp only [Act.put, List.setIfInBounds_toArray, List.set_cons_zero, List.set_cons_succ]
        refine wpAnyT_take (i := 17) (oi := ?_) (v := ?_) ?_ ?_ ?_ ?_ ?_ ?_ ?_ (by assumption) ?_
        rotate_left 2
        · simp only [List.getElem?_toArray, List.getElem?_cons_zero, List.getElem?_cons_succ]
          rfl
        · kernel_rfl
        · kernel_rfl
        · kernel_rfl
        · kernel_rfl
        · exact fun _ _ _ h => h
        · refine Or.inl ⟨by rfl, ?_⟩
          intro w hSw
          (try dsimp only at hSw)
          go_simp
          all_goals with_reducible rfl
        simp only [Act.put, List.setIfInBounds_toArray, List.set_cons_zero, List.set_cons_succ]
        refine wpAnyT_two (i := 1) (j := 10) (oi := ?_) (oj := ?_) (by kernel_rfl) ?_ ?_ (fun KK hKK => ?_) (fun KK hKK => ?_)
        rotate_left 2
        · simp only [List.getElem?_toArray, List.getElem?_cons_zero, List.getElem?_cons_succ]
          rfl
        · simp only [List.getElem?_toArray, List.getElem?_cons_zero, List.getElem?_cons_succ]
          rfl
        · go_simp
          refine hKK.out _ _ ?_ (fun h1 => ?_)
          · (try dsimp only)
            exact Below.alloc hHeld (Below.size hHeld) _
          clear hKK KK
          try simp only [Act.put, List.setIfInBounds_toArray, List.set_cons_zero, List.set_cons_succ]
          have hz1 : w.drew.heap.size = w.heap.size := by simp
          have HO1 : Hid ((w.drew.alloc (.cells #[] 26)).ownsRow w.heap.size 26 1 (.slice (some ⟨w.heap.size, 0, none⟩) 0 0) ([] : List Nat).length (([] : List Nat).map u64v)) := by
            have := World.ownsRow_made (base := w.heap.size) (e := 26) (size := 1) w.drew #[] 0 (Below.size hHeld) (Nat.zero_le _) (by simp)
            rw [hz1] at this; exact this
          refine wpAnyT_two (i := 8) (j := 10) (oi := ?_) (oj := ?_) (by kernel_rfl) ?_ ?_ (fun KK hKK => ?_) (fun KK hKK => ?_)
          rotate_left 2
          · simp only [List.getElem?_toArray, List.getElem?_cons_zero, List.getElem?_cons_succ]
            rfl
          · simp only [List.getElem?_toArray, List.getElem?_cons_zero, List.getElem?_cons_succ]
            rfl
          · rw [if_pos (by rfl)]
            refine wp_appS _ _ rfl w.heap.size _ ([] : List Nat) rfl HO1.out (L.take 0) _ rfl (HSH.out _ h1) (by have hh := HLL.out; have hk := HML.out; simp only [List.length_append, List.length_nil, List.length_cons, List.length_take, List.length_drop]; omega) (Below.size h1) ?_
            intro v8 w8 hown8 hgr8
            refine hKK.out _ _ ?_ (fun h8 => ?_)
            · (try dsimp only)
              exact Below.own h1 HO1.out (Below.size h1) hgr8
            clear hKK KK
            try simp only [Act.put, List.setIfInBounds_toArray, List.set_cons_zero, List.set_cons_succ]
            have HO8 := Lib.hid hown8
            clear hown8 hgr8
            refine wpAnyT_one (i := 10) (o := ?_) (by kernel_rfl) ?_ (fun KK hKK => ?_)
            rotate_left
            · simp only [List.getElem?_toArray, List.getElem?_cons_zero, List.getElem?_cons_succ]
              rfl
            go_simp
            refine hKK.out _ _ ?_ (fun h10 => ?_)
            · (try dsimp only)
              exact Below.alloc h8 (Below.size h8) _
            clear hKK KK
            try simp only [Act.put, List.setIfInBounds_toArray, List.set_cons_zero, List.set_cons_succ]
            have hz10 : w8.heap.size = w8.heap.size := by simp
            have HV : Hid (Obj (w8.alloc (.cells #[.int .u64 (n : Int)] 26)) (w8.heap.size) 26 #[u64v n]) := by
              have := Obj.new w8 26 #[u64v n]
              rw [hz10] at this; exact this
            have HOx := Lib.hid (HO8.out.alloc (.cells #[.int .u64 (n : Int)] 26))
            refine wpAnyT_one (i := 11) (o := ?_) (by kernel_rfl) ?_ (fun KK hKK => ?_)
            rotate_left
            · simp only [List.getElem?_toArray, List.getElem?_cons_zero, List.getElem?_cons_succ]
              rfl
            rw [if_pos (by rfl)]
            refine wp_appS _ _ rfl w.heap.size _ ([] ++ L.take 0) rfl HOx.out [n] _ rfl (SrcU.one HV.out) (by have hh := HLL.out; have hk := HML.out; simp only [List.length_append, List.length_nil, List.length_cons, List.length_take, List.length_drop]; omega) (Below.size h10) ?_
            intro v11 w11 hown11 hgr11
            refine hKK.out _ _ ?_ (fun h11 => ?_)
            · (try dsimp only)
              exact Below.own h10 HOx.out (Below.size h10) hgr11
            clear hKK KK
            try simp only [Act.put, List.setIfInBounds_toArray, List.set_cons_zero, List.set_cons_succ]
            have HO11 := Lib.hid hown11
            clear hown11 hgr11
            refine wpAnyT_one (i := 18) (o := ?_) (by kernel_rfl) ?_ (fun KK hKK => ?_)
            rotate_left
            · simp only [List.getElem?_toArray, List.getElem?_cons_zero, List.getElem?_cons_succ]
              rfl
            rw [if_pos (by rfl)]
            refine wp_appS _ _ rfl w.heap.size _ (([] ++ L.take 0) ++ [n]) rfl HO11.out (L.drop 0) _ rfl (HST.out _ h11) (by have hh := HLL.out; have hk := HML.out; simp only [List.length_append, List.length_nil, List.length_cons, List.length_take, List.length_drop]; omega) (Below.size h11) ?_
            intro v18 w18 hown18 hgr18
            refine hKK.out _ _ ?_ (fun h18 => ?_)
            · (try dsimp only)
              exact Below.own h11 HO11.out (Below.size h11) hgr18
            clear hKK KK
            try simp only [Act.put, List.setIfInBounds_toArray, List.set_cons_zero, List.set_cons_succ]
            have HO18 := Lib.hid hown18
            clear hown18 hgr18
            refine wpAnyT_one (i := 19) (o := ?_) (by kernel_rfl) ?_ (fun KK hKK => ?_)
            rotate_left
            · simp only [List.getElem?_toArray, List.getElem?_cons_zero, List.getElem?_cons_succ]
              rfl
            go_simp
            refine hKK.out _ _ ?_ (fun h19 => ?_)
            · (try dsimp only)
              exact h18
            clear hKK KK
            try simp only [Act.put, List.setIfInBounds_toArray, List.set_cons_zero, List.set_cons_succ]
            refine wpAnyT_one (i := 20) (o := ?_) (by kernel_rfl) ?_ (fun KK hKK => ?_)
            rotate_left
            · simp only [List.getElem?_toArray, List.getElem?_cons_zero, List.getElem?_cons_succ]
              rfl
            go_simp
            refine hKK.out _ _ ?_ (fun h20 => ?_)
            · (try dsimp only)
              exact h18
            clear hKK KK
            try simp only [Act.put, List.setIfInBounds_toArray, List.set_cons_zero, List.set_cons_succ]
            have HOI : Hid (w18.ownsRow w.heap.size 26 1 v18 (Rg.insL n L).length ((Rg.insL n L).map u64v)) := by have := HO18.out; rw [HINS.out] at this; exact this
            obtain ⟨g9, base9, c9, rfl, _, _, _⟩ := own_u64 HOI.out
            obtain ⟨f9, o9⟩ := HF.out w18 h18
            have z9 := o9.free 0
            have HO9 := Lib.hid o9
            have H18 := Lib.hid h18
            clear o9
            refine wpAnyT_last (o := ?_) (by kernel_rfl) ?_ (fun KK hKK => ?_)
            rotate_left
            · simp only [List.getElem?_toArray, List.getElem?_cons_zero, List.getElem?_cons_succ]
              rfl
            go_simp
            refine hKK.out _ _ ?_
            clear hKK KK
            try simp only [Act.put, List.setIfInBounds_toArray, List.set_cons_zero, List.set_cons_succ]
            refine wpAnyT_done (by kernel_rfl) ?_ _
            have HDA : Hid (DocAt N (M + 1) (w18.setCell ⟨a, 0, none⟩ (.slice base9 (Rg.insL n L).length c9)) a ⟨S1, s.old⟩) :=
              ⟨HNN.out.2.1, Rg.insL n L, _, HIL.out, (HO9.out.set 0 _).as rfl, own_base (own_set HOI.out HNN.out.2.2 0 _) HNN.out.1, HT1.out⟩
            have HDV : Hid (DocV N (M + 1) (w18.setCell ⟨a, 0, none⟩ (.slice base9 (Rg.insL n L).length c9)) a ⟨S1, s.old⟩ (.slice base9 (Rg.insL n L).length c9)) :=
              ⟨HNN.out.2.1, Rg.insL n L, HIL.out, (HO9.out.set 0 _).as rfl, own_base (own_set HOI.out HNN.out.2.2 0 _) HNN.out.1, HT1.out⟩
            have HNB : Hid (∀ k, (Value.slice base9 (Rg.insL n L).length c9).ownBlock = some k → w.heap.size ≤ k) := fun k hk => (HOI.out.lt k hk).1
            have HUA : Hid (Upd a w (w18.setCell ⟨a, 0, none⟩ (.slice base9 (Rg.insL n L).length c9))) := (Upd.of_below H18.out a).set 0 _
            clear f9 z9
            generalize w18.setCell ⟨a, 0, none⟩ (.slice base9 (Rg.insL n L).length c9) = W9 at *
            go_wp2_with fail
            refine (HRG.out _ HDA.out).mono ?_
            rintro e w10 ⟨v10, g10, rfl, hr10, -, hb10⟩
            have HDB := Lib.hid (HDA.out.kept hb10)
            have HDVB := Lib.hid (HDV.out.kept hb10)
            have HUB := Lib.hid (HUA.out.trans (Upd.of_below hb10 a))
            by_cases h17 : 16 < S1.length
            · obtain ⟨c10, rfl, _, e10⟩ := hr10.cells (i := 16) h17
              have HA2 : Hid (RES = (true, (Rg.forget (S1.getD 16 (0, 0)).2 ⟨S1, s.old⟩).2)) := by unfold Hid; rw [HADD.out, if_pos h17]
              have hz17 : (16 : Int) < (S1.length : Int) := by omega
              have hd17 : decide ((16 : Int) < (S1.length : Int)) = true := by rw [decide_eq_true_eq]; omega
              have HNW : Hid (N ≤ w10.heap.size) := Nat.le_trans HNN.out.1 HUB.out.size
              have HFX := Lib.hid (HFG.out w10 HNW.out HDB.out)
              generalize (S1.getD 16 (0, 0)).2 = la at *
              unfold u64v at e10
              clear hr10 hb10 h17
              generalize S1.length = q at *
              go_wp2_with fail
              refine HFX.out.mono ?_
              rintro e w11 ⟨rfl, ⟨v11, hd11, hn11⟩, hu11⟩
              have HN11 := Lib.hid hn11
              have HD11 := Lib.hid hd11
              have HU11 := Lib.hid hu11
              clear hd11 hu11 hn11
              go_wp2
              go_ret
              rw [HA2.out]
              exact ⟨rfl, ⟨v11, HD11.out, Or.inr fun k hk => Nat.le_trans HUB.out.size (HN11.out k hk)⟩, HUB.out.trans HU11.out⟩
            · obtain ⟨base10, c10, rfl, _, _⟩ := hr10.nilOr
              have HA2 : Hid (RES = (true, ⟨S1, s.old⟩)) := by unfold Hid; rw [HADD.out, if_neg h17]
              have hd17 : decide ((16 : Int) < (S1.length : Int)) = false := by rw [decide_eq_false_iff_not]; omega
              clear hr10 hb10 h17
              generalize S1.length = q at *
              go_wp2
              go_ret
              rw [HA2.out]
              exact ⟨rfl, ⟨_, HDVB.out, Or.inr HNB.out⟩, HUB.out⟩
          · go_simp
            refine hKK.out _ _ ?_ (fun h10 => ?_)
            · (try dsimp only)
              exact Below.alloc h1 (Below.size h1) _
            clear hKK KK
            try simp only [Act.put, List.setIfInBounds_toArray, List.set_cons_zero, List.set_cons_succ]
            have hz10 : (w.drew.alloc (.cells #[] 26)).heap.size = w.heap.size + 1 := by simp
            have HV : Hid (Obj ((w.drew.alloc (.cells #[] 26)).alloc (.cells #[.int .u64 (n : Int)] 26)) (w.heap.size + 1) 26 #[u64v n]) := by
              have := Obj.new (w.drew.alloc (.cells #[] 26)) 26 #[u64v n]
              rw [hz10] at this; exact this
            have HOx := Lib.hid (HO1.out.alloc (.cells #[.int .u64 (n : Int)] 26))
            refine wpAnyT_one (i := 8) (o := ?_) (by kernel_rfl) ?_ (fun KK hKK => ?_)
            rotate_left
            · simp only [List.getElem?_toArray, List.getElem?_cons_zero, List.getElem?_cons_succ]
              rfl
            rw [if_pos (by rfl)]
            refine wp_appS _ _ rfl w.heap.size _ ([] : List Nat) rfl HOx.out (L.take 0) _ rfl (HSH.out _ h10) (by have hh := HLL.out; have hk := HML.out; simp only [List.length_append, List.length_nil, List.length_cons, List.length_take, List.length_drop]; omega) (Below.size h10) ?_
            intro v8 w8 hown8 hgr8
            refine hKK.out _ _ ?_ (fun h8 => ?_)
            · (try dsimp only)
              exact Below.own h10 HOx.out (Below.size h10) hgr8
            clear hKK KK
            try simp only [Act.put, List.setIfInBounds_toArray, List.set_cons_zero, List.set_cons_succ]
            have HO8 := Lib.hid hown8
            have HV8 : Hid (Obj w8 (w.heap.size + 1) 26 #[u64v n]) := HV.out.grown hgr8 (show some (w.heap.size + 1) ≠ some (w.heap.size) by simp)
            have HV := HV8
            clear hown8 hgr8
            refine wpAnyT_one (i := 11) (o := ?_) (by kernel_rfl) ?_ (fun KK hKK => ?_)
            rotate_left
            · simp only [List.getElem?_toArray, List.getElem?_cons_zero, List.getElem?_cons_succ]
              rfl
            rw [if_pos (by rfl)]
            refine wp_appS _ _ rfl w.heap.size _ ([] ++ L.take 0) rfl HO8.out [n] _ rfl (SrcU.one HV.out) (by have hh := HLL.out; have hk := HML.out; simp only [List.length_append, List.length_nil, List.length_cons, List.length_take, List.length_drop]; omega) (Below.size h8) ?_
            intro v11 w11 hown11 hgr11
            refine hKK.out _ _ ?_ (fun h11 => ?_)
            · (try dsimp only)
              exact Below.own h8 HO8.out (Below.size h8) hgr11
            clear hKK KK
            try simp only [Act.put, List.setIfInBounds_toArray, List.set_cons_zero, List.set_cons_succ]
            have HO11 := Lib.hid hown11
            clear hown11 hgr11
            refine wpAnyT_one (i := 18) (o := ?_) (by kernel_rfl) ?_ (fun KK hKK => ?_)
            rotate_left
            · simp only [List.getElem?_toArray, List.getElem?_cons_zero, List.getElem?_cons_succ]
              rfl
            rw [if_pos (by rfl)]
            refine wp_appS _ _ rfl w.heap.size _ (([] ++ L.take 0) ++ [n]) rfl HO11.out (L.drop 0) _ rfl (HST.out _ h11) (by have hh := HLL.out; have hk := HML.out; simp only [List.length_append, List.length_nil, List.length_cons, List.length_take, List.length_drop]; omega) (Below.size h11) ?_
            intro v18 w18 hown18 hgr18
            refine hKK.out _ _ ?_ (fun h18 => ?_)
            · (try dsimp only)
              exact Below.own h11 HO11.out (Below.size h11) hgr18
            clear hKK KK
            try simp only [Act.put, List.setIfInBounds_toArray, List.set_cons_zero, List.set_cons_succ]
            have HO18 := Lib.hid hown18
            clear hown18 hgr18
            refine wpAnyT_one (i := 19) (o := ?_) (by kernel_rfl) ?_ (fun KK hKK => ?_)
            rotate_left
            · simp only [List.getElem?_toArray, List.getElem?_cons_zero, List.getElem?_cons_succ]
              rfl
            go_simp
            refine hKK.out _ _ ?_ (fun h19 => ?_)
            · (try dsimp only)
              exact h18
            clear hKK KK
            try simp only [Act.put, List.setIfInBounds_toArray, List.set_cons_zero, List.set_cons_succ]
            refine wpAnyT_one (i := 20) (o := ?_) (by kernel_rfl) ?_ (fun KK hKK => ?_)
            rotate_left
            · simp only [List.getElem?_toArray, List.getElem?_cons_zero, List.getElem?_cons_succ]
              rfl
            go_simp
            refine hKK.out _ _ ?_ (fun h20 => ?_)
            · (try dsimp only)
              exact h18
            clear hKK KK
            try simp only [Act.put, List.setIfInBounds_toArray, List.set_cons_zero, List.set_cons_succ]
            have HOI : Hid (w18.ownsRow w.heap.size 26 1 v18 (Rg.insL n L).length ((Rg.insL n L).map u64v)) := by have := HO18.out; rw [HINS.out] at this; exact this
            obtain ⟨g9, base9, c9, rfl, _, _, _⟩ := own_u64 HOI.out
            obtain ⟨f9, o9⟩ := HF.out w18 h18
            have z9 := o9.free 0
            have HO9 := Lib.hid o9
            have H18 := Lib.hid h18
            clear o9
            refine wpAnyT_last (o := ?_) (by kernel_rfl) ?_ (fun KK hKK => ?_)
            rotate_left
            · simp only [List.getElem?_toArray, List.getElem?_cons_zero, List.getElem?_cons_succ]
              rfl
            go_simp
            refine hKK.out _ _ ?_
            clear hKK KK
            try simp only [Act.put, List.setIfInBounds_toArray, List.set_cons_zero, List.set_cons_succ]
            refine wpAnyT_done (by kernel_rfl) ?_ _
            have HDA : Hid (DocAt N (M + 1) (w18.setCell ⟨a, 0, none⟩ (.slice base9 (Rg.insL n L).length c9)) a ⟨S1, s.old⟩) :=
              ⟨HNN.out.2.1, Rg.insL n L, _, HIL.out, (HO9.out.set 0 _).as rfl, own_base (own_set HOI.out HNN.out.2.2 0 _) HNN.out.1, HT1.out⟩
            have HDV : Hid (DocV N (M + 1) (w18.setCell ⟨a, 0, none⟩ (.slice base9 (Rg.insL n L).length c9)) a ⟨S1, s.old⟩ (.slice base9 (Rg.insL n L).length c9)) :=
              ⟨HNN.out.2.1, Rg.insL n L, HIL.out, (HO9.out.set 0 _).as rfl, own_base (own_set HOI.out HNN.out.2.2 0 _) HNN.out.1, HT1.out⟩
            have HNB : Hid (∀ k, (Value.slice base9 (Rg.insL n L).length c9).ownBlock = some k → w.heap.size ≤ k) := fun k hk => (HOI.out.lt k hk).1
            have HUA : Hid (Upd a w (w18.setCell ⟨a, 0, none⟩ (.slice base9 (Rg.insL n L).length c9))) := (Upd.of_below H18.out a).set 0 _
            clear f9 z9
            generalize w18.setCell ⟨a, 0, none⟩ (.slice base9 (Rg.insL n L).length c9) = W9 at *
            go_wp2_with fail
            refine (HRG.out _ HDA.out).mono ?_
            rintro e w10 ⟨v10, g10, rfl, hr10, -, hb10⟩
            have HDB := Lib.hid (HDA.out.kept hb10)
            have HDVB := Lib.hid (HDV.out.kept hb10)
            have HUB := Lib.hid (HUA.out.trans (Upd.of_below hb10 a))
            by_cases h17 : 16 < S1.length
            · obtain ⟨c10, rfl, _, e10⟩ := hr10.cells (i := 16) h17
              have HA2 : Hid (RES = (true, (Rg.forget (S1.getD 16 (0, 0)).2 ⟨S1, s.old⟩).2)) := by unfold Hid; rw [HADD.out, if_pos h17]
              have hz17 : (16 : Int) < (S1.length : Int) := by omega
              have hd17 : decide ((16 : Int) < (S1.length : Int)) = true := by rw [decide_eq_true_eq]; omega
              have HNW : Hid (N ≤ w10.heap.size) := Nat.le_trans HNN.out.1 HUB.out.size
              have HFX := Lib.hid (HFG.out w10 HNW.out HDB.out)
              generalize (S1.getD 16 (0, 0)).2 = la at *
              unfold u64v at e10
              clear hr10 hb10 h17
              generalize S1.length = q at *
              go_wp2_with fail
              refine HFX.out.mono ?_
              rintro e w11 ⟨rfl, ⟨v11, hd11, hn11⟩, hu11⟩
              have HN11 := Lib.hid hn11
              have HD11 := Lib.hid hd11
              have HU11 := Lib.hid hu11
              clear hd11 hu11 hn11
              go_wp2
              go_ret
              rw [HA2.out]
              exact ⟨rfl, ⟨v11, HD11.out, Or.inr fun k hk => Nat.le_trans HUB.out.size (HN11.out k hk)⟩, HUB.out.trans HU11.out⟩
            · obtain ⟨base10, c10, rfl, _, _⟩ := hr10.nilOr
              have HA2 : Hid (RES = (true, ⟨S1, s.old⟩)) := by unfold Hid; rw [HADD.out, if_neg h17]
              have hd17 : decide ((16 : Int) < (S1.length : Int)) = false := by rw [decide_eq_false_iff_not]; omega
              clear hr10 hb10 h17
              generalize S1.length = q at *
              go_wp2
              go_ret
              rw [HA2.out]
              exact ⟨rfl, ⟨_, HDVB.out, Or.inr HNB.out⟩, HUB.out⟩
        · go_simp
          refine hKK.out _ _ ?_ (fun h10 => ?_)
          · (try dsimp only)
            exact Below.alloc hHeld (Below.size hHeld) _
          clear hKK KK
          try simp only [Act.put, List.setIfInBounds_toArray, List.set_cons_zero, List.set_cons_succ]
          have hz10 : w.drew.heap.size = w.heap.size := by simp
          have HV : Hid (Obj (w.drew.alloc (.cells #[.int .u64 (n : Int)] 26)) (w.heap.size) 26 #[u64v n]) := by
            have := Obj.new w.drew 26 #[u64v n]
            rw [hz10] at this; exact this
          refine wpAnyT_one (i := 1) (o := ?_) (by kernel_rfl) ?_ (fun KK hKK => ?_)
          rotate_left
          · simp only [List.getElem?_toArray, List.getElem?_cons_zero, List.getElem?_cons_succ]
            rfl
          go_simp
          refine hKK.out _ _ ?_ (fun h1 => ?_)
          · (try dsimp only)
            exact Below.alloc h10 (Below.size h10) _
          clear hKK KK
          try simp only [Act.put, List.setIfInBounds_toArray, List.set_cons_zero, List.set_cons_succ]
          have hz1 : (w.drew.alloc (.cells #[.int .u64 (n : Int)] 26)).heap.size = w.heap.size + 1 := by simp
          have HO1 : Hid (((w.drew.alloc (.cells #[.int .u64 (n : Int)] 26)).alloc (.cells #[] 26)).ownsRow w.heap.size 26 1 (.slice (some ⟨w.heap.size + 1, 0, none⟩) 0 0) ([] : List Nat).length (([] : List Nat).map u64v)) := by
            have := World.ownsRow_made (base := w.heap.size) (e := 26) (size := 1) (w.drew.alloc (.cells #[.int .u64 (n : Int)] 26)) #[] 0 (Below.size h10) (Nat.zero_le _) (by simp)
            rw [hz1] at this; exact this
          have HV1 : Hid (Obj ((w.drew.alloc (.cells #[.int .u64 (n : Int)] 26)).alloc (.cells #[] 26)) (w.heap.size) 26 #[u64v n]) := HV.out.alloc _
          have HV := HV1
          refine wpAnyT_one (i := 8) (o := ?_) (by kernel_rfl) ?_ (fun KK hKK => ?_)
          rotate_left
          · simp only [List.getElem?_toArray, List.getElem?_cons_zero, List.getElem?_cons_succ]
            rfl
          rw [if_pos (by rfl)]
          refine wp_appS _ _ rfl w.heap.size _ ([] : List Nat) rfl HO1.out (L.take 0) _ rfl (HSH.out _ h1) (by have hh := HLL.out; have hk := HML.out; simp only [List.length_append, List.length_nil, List.length_cons, List.length_take, List.length_drop]; omega) (Below.size h1) ?_
          intro v8 w8 hown8 hgr8
          refine hKK.out _ _ ?_ (fun h8 => ?_)
          · (try dsimp only)
            exact Below.own h1 HO1.out (Below.size h1) hgr8
          clear hKK KK
          try simp only [Act.put, List.setIfInBounds_toArray, List.set_cons_zero, List.set_cons_succ]
          have HO8 := Lib.hid hown8
          have HV8 : Hid (Obj w8 (w.heap.size) 26 #[u64v n]) := HV.out.grown hgr8 (show some (w.heap.size) ≠ some (w.heap.size + 1) by simp)
          have HV := HV8
          clear hown8 hgr8
          refine wpAnyT_one (i := 11) (o := ?_) (by kernel_rfl) ?_ (fun KK hKK => ?_)
          rotate_left
          · simp only [List.getElem?_toArray, List.getElem?_cons_zero, List.getElem?_cons_succ]
            rfl
          rw [if_pos (by rfl)]
          refine wp_appS _ _ rfl w.heap.size _ ([] ++ L.take 0) rfl HO8.out [n] _ rfl (SrcU.one HV.out) (by have hh := HLL.out; have hk := HML.out; simp only [List.length_append, List.length_nil, List.length_cons, List.length_take, List.length_drop]; omega) (Below.size h8) ?_
          intro v11 w11 hown11 hgr11
          refine hKK.out _ _ ?_ (fun h11 => ?_)
          · (try dsimp only)
            exact Below.own h8 HO8.out (Below.size h8) hgr11
          clear hKK KK
          try simp only [Act.put, List.setIfInBounds_toArray, List.set_cons_zero, List.set_cons_succ]
          have HO11 := Lib.hid hown11
          clear hown11 hgr11
          refine wpAnyT_one (i := 18) (o := ?_) (by kernel_rfl) ?_ (fun KK hKK => ?_)
          rotate_left
          · simp only [List.getElem?_toArray, List.getElem?_cons_zero, List.getElem?_cons_succ]
            rfl
          rw [if_pos (by rfl)]
          refine wp_appS _ _ rfl w.heap.size _ (([] ++ L.take 0) ++ [n]) rfl HO11.out (L.drop 0) _ rfl (HST.out _ h11) (by have hh := HLL.out; have hk := HML.out; simp only [List.length_append, List.length_nil, List.length_cons, List.length_take, List.length_drop]; omega) (Below.size h11) ?_
          intro v18 w18 hown18 hgr18
          refine hKK.out _ _ ?_ (fun h18 => ?_)
          · (try dsimp only)
            exact Below.own h11 HO11.out (Below.size h11) hgr18
          clear hKK KK
          try simp only [Act.put, List.setIfInBounds_toArray, List.set_cons_zero, List.set_cons_succ]
          have HO18 := Lib.hid hown18
          clear hown18 hgr18
          refine wpAnyT_one (i := 19) (o := ?_) (by kernel_rfl) ?_ (fun KK hKK => ?_)
          rotate_left
          · simp only [List.getElem?_toArray, List.getElem?_cons_zero, List.getElem?_cons_succ]
            rfl
          go_simp
          refine hKK.out _ _ ?_ (fun h19 => ?_)
          · (try dsimp only)
            exact h18
          clear hKK KK
          try simp only [Act.put, List.setIfInBounds_toArray, List.set_cons_zero, List.set_cons_succ]
          refine wpAnyT_one (i := 20) (o := ?_) (by kernel_rfl) ?_ (fun KK hKK => ?_)
          rotate_left
          · simp only [List.getElem?_toArray, List.getElem?_cons_zero, List.getElem?_cons_succ]
            rfl
          go_simp
          refine hKK.out _ _ ?_ (fun h20 => ?_)
          · (try dsimp only)
            exact h18
          clear hKK KK
          try simp only [Act.put, List.setIfInBounds_toArray, List.set_cons_zero, List.set_cons_succ]
          have HOI : Hid (w18.ownsRow w.heap.size 26 1 v18 (Rg.insL n L).length ((Rg.insL n L).map u64v)) := by have := HO18.out; rw [HINS.out] at this; exact this
          obtain ⟨g9, base9, c9, rfl, _, _, _⟩ := own_u64 HOI.out
          obtain ⟨f9, o9⟩ := HF.out w18 h18
          have z9 := o9.free 0
          have HO9 := Lib.hid o9
          have H18 := Lib.hid h18
          clear o9
          refine wpAnyT_last (o := ?_) (by kernel_rfl) ?_ (fun KK hKK => ?_)
          rotate_left
          · simp only [List.getElem?_toArray, List.getElem?_cons_zero, List.getElem?_cons_succ]
            rfl
          go_simp
          refine hKK.out _ _ ?_
          clear hKK KK
          try simp only [Act.put, List.setIfInBounds_toArray, List.set_cons_zero, List.set_cons_succ]
          refine wpAnyT_done (by kernel_rfl) ?_ _
          have HDA : Hid (DocAt N (M + 1) (w18.setCell ⟨a, 0, none⟩ (.slice base9 (Rg.insL n L).length c9)) a ⟨S1, s.old⟩) :=
            ⟨HNN.out.2.1, Rg.insL n L, _, HIL.out, (HO9.out.set 0 _).as rfl, own_base (own_set HOI.out HNN.out.2.2 0 _) HNN.out.1, HT1.out⟩
          have HDV : Hid (DocV N (M + 1) (w18.setCell ⟨a, 0, none⟩ (.slice base9 (Rg.insL n L).length c9)) a ⟨S1, s.old⟩ (.slice base9 (Rg.insL n L).length c9)) :=
            ⟨HNN.out.2.1, Rg.insL n L, HIL.out, (HO9.out.set 0 _).as rfl, own_base (own_set HOI.out HNN.out.2.2 0 _) HNN.out.1, HT1.out⟩
          have HNB : Hid (∀ k, (Value.slice base9 (Rg.insL n L).length c9).ownBlock = some k → w.heap.size ≤ k) := fun k hk => (HOI.out.lt k hk).1
          have HUA : Hid (Upd a w (w18.setCell ⟨a, 0, none⟩ (.slice base9 (Rg.insL n L).length c9))) := (Upd.of_below H18.out a).set 0 _
          clear f9 z9
          generalize w18.setCell ⟨a, 0, none⟩ (.slice base9 (Rg.insL n L).length c9) = W9 at *
          go_wp2_with fail
          refine (HRG.out _ HDA.out).mono ?_
          rintro e w10 ⟨v10, g10, rfl, hr10, -, hb10⟩
          have HDB := Lib.hid (HDA.out.kept hb10)
          have HDVB := Lib.hid (HDV.out.kept hb10)
          have HUB := Lib.hid (HUA.out.trans (Upd.of_below hb10 a))
          by_cases h17 : 16 < S1.length
          · obtain ⟨c10, rfl, _, e10⟩ := hr10.cells (i := 16) h17
            have HA2 : Hid (RES = (true, (Rg.forget (S1.getD 16 (0, 0)).2 ⟨S1, s.old⟩).2)) := by unfold Hid; rw [HADD.out, if_pos h17]
            have hz17 : (16 : Int) < (S1.length : Int) := by omega
            have hd17 : decide ((16 : Int) < (S1.length : Int)) = true := by rw [decide_eq_true_eq]; omega
            have HNW : Hid (N ≤ w10.heap.size) := Nat.le_trans HNN.out.1 HUB.out.size
            have HFX := Lib.hid (HFG.out w10 HNW.out HDB.out)
            generalize (S1.getD 16 (0, 0)).2 = la at *
            unfold u64v at e10
            clear hr10 hb10 h17
            generalize S1.length = q at *
            go_wp2_with fail
            refine HFX.out.mono ?_
            rintro e w11 ⟨rfl, ⟨v11, hd11, hn11⟩, hu11⟩
            have HN11 := Lib.hid hn11
            have HD11 := Lib.hid hd11
            have HU11 := Lib.hid hu11
            clear hd11 hu11 hn11
            go_wp2
            go_ret
            rw [HA2.out]
            exact ⟨rfl, ⟨v11, HD11.out, Or.inr fun k hk => Nat.le_trans HUB.out.size (HN11.out k hk)⟩, HUB.out.trans HU11.out⟩
          · obtain ⟨base10, c10, rfl, _, _⟩ := hr10.nilOr
            have HA2 : Hid (RES = (true, ⟨S1, s.old⟩)) := by unfold Hid; rw [HADD.out, if_neg h17]
            have hd17 : decide ((16 : Int) < (S1.length : Int)) = false := by rw [decide_eq_false_iff_not]; omega
            clear hr10 hb10 h17
            generalize S1.length = q at *
            go_wp2
            go_ret
            rw [HA2.out]
            exact ⟨rfl, ⟨_, HDVB.out, Or.inr HNB.out⟩, HUB.out⟩
      · have hgg : ∀ i, i < ml → gb = g := fun i hi => hgb (by omega)
        have HSH : Hid (∀ W, Below w.heap.size w W → SrcU W (.slice (some ⟨gb, 0, none⟩) P c) (L.take P)) := fun W hb => by
          refine Or.inr ⟨⟨gb, 0, none⟩, c, by rw [HTK.out], fun j u hj => ?_⟩
          rw [add_zero_lit]
          rw [List.getElem?_map, List.getElem?_take] at hj
          split at hj
          · rename_i hjP
            rw [hgg j (by omega), (HC.out W hb j (by omega)).2]
            rw [List.getElem?_eq_getElem (by rw [HML.out]; omega)] at hj
            simp only [Option.map_some, Option.some.injEq] at hj
            rw [← hj, List.getD_eq_getElem?_getD, List.getElem?_eq_getElem (by rw [HML.out]; omega)]
            rfl
          · cases hj
        have hPz : (P : Int) ≤ (ml : Int) := by omega
        have hPc : (P : Int) ≤ (c : Int) := by omega
        have hcz : c ≤ 9223372036854775807 := by simp only [maxLen] at hcm; omega
        by_cases hcP : P = c
        · have hmp : P = ml := by omega
          subst hmp
          subst hcP
          have HST : Hid (∀ W, Below w.heap.size w W → SrcU W (.slice (some ⟨gb, 0, none⟩) 0 0) (L.drop P)) := fun W hb => by
            have h0 : L.drop P = [] := List.drop_of_length_le (by rw [HML.out]; exact Nat.le_refl _)
            exact Or.inr ⟨⟨gb, 0, none⟩, 0, by rw [h0]; rfl, fun j u hj => by rw [h0] at hj; simp at hj⟩
          rcases Nat.eq_zero_or_pos P with hc0 | hcp
          · subst hc0
            go_wp2
            refine wp_region_T 21 (fun w' => Below w.heap.size w w') (by kernel_rfl) (below_drewN (Below.refl _ _) 1) (fun hHeld => ?_)
            refine wpAnyT_take (i := 0) (oi := ?_) (v := ?_) ?_ ?_ ?_ ?_ ?_ ?_ ?_ (by assumption) ?_
            rotate_left 2
            · simp only [List.getElem?_toArray, List.getElem?_cons_zero, List.getElem?_cons_succ]
              rfl
            · kernel_rfl
            · kernel_rfl
            · kernel_rfl
            · kernel_rfl
            · exact fun _ _ _ h => h
            · refine Or.inl ⟨by rfl, ?_⟩
              intro w hSw
              (try dsimp only at hSw)
              go_simp
              all_goals with_reducible rfl
            simp only [Act.put, List.setIfInBounds_toArray, List.set_cons_zero, List.set_cons_succ]
            refine wpAnyT_take (i := 2) (oi := ?_) (v := ?_) ?_ ?_ ?_ ?_ ?_ ?_ ?_ (by assumption) ?_
            rotate_left 2
            · simp only [List.getElem?_toArray, List.getElem?_cons_zero, List.getElem?_cons_succ]
              rfl
            · kernel_rfl
            · kernel_rfl
            · kernel_rfl
            · kernel_rfl
            · exact fun _ _ _ h => h
            · refine Or.inl ⟨by rfl, ?_⟩
              intro w hSw
              (try dsimp only at hSw)
              go_simp
              all_goals with_reducible rfl
            simp only [Act.put, List.setIfInBounds_toArray, List.set_cons_zero, List.set_cons_succ]
            refine wpAnyT_take (i := 3) (oi := ?_) (v := ?_) ?_ ?_ ?_ ?_ ?_ ?_ ?_ (by assumption) ?_
            rotate_left 2
            · simp only [List.getElem?_toArray, List.getElem?_cons_zero, List.getElem?_cons_succ]
              rfl
            · kernel_rfl
            · kernel_rfl
            · kernel_rfl
            · kernel_rfl
            · exact fun _ _ _ h => h
            · refine Or.inl ⟨by rfl, ?_⟩
              intro w hSw
              (try dsimp only at hSw)
              go_simp
              all_goals with_reducible rfl
            simp only [Act.put, List.setIfInBounds_toArray, List.set_cons_zero, List.set_cons_succ]
            refine wpAnyT_take (i := 4) (oi := ?_) (v := ?_) ?_ ?_ ?_ ?_ ?_ ?_ ?_ (by assumption) ?_
            rotate_left 2
            · simp only [List.getElem?_toArray, List.getElem?_cons_zero, List.getElem?_cons_succ]
              rfl
            · kernel_rfl
            · kernel_rfl
            · kernel_rfl
            · kernel_rfl
            · exact fun _ _ _ h => h
            · refine Or.inl ⟨by rfl, ?_⟩
              intro w hSw
              (try dsimp only at hSw)
              go_simp
              all_goals with_reducible rfl
            simp only [Act.put, List.setIfInBounds_toArray, List.set_cons_zero, List.set_cons_succ]
            refine wpAnyT_take (i := 5) (oi := ?_) (v := ?_) ?_ ?_ ?_ ?_ ?_ ?_ ?_ (by assumption) ?_
            rotate_left 2
            · simp only [List.getElem?_toArray, List.getElem?_cons_zero, List.getElem?_cons_succ]
              rfl
            · kernel_rfl
            · kernel_rfl
            · kernel_rfl
            · kernel_rfl
            · exact fun _ _ _ h => h
            · refine Or.inl ⟨by rfl, ?_⟩
              intro w' hSw
              have q := (HF.out w' hSw).1
              go_simp
              all_goals with_reducible rfl
            simp only [Act.put, List.setIfInBounds_toArray, List.set_cons_zero, List.set_cons_succ]
            refine wpAnyT_take (i := 6) (oi := ?_) (v := ?_) ?_ ?_ ?_ ?_ ?_ ?_ ?_ (by assumption) ?_
            rotate_left 2
            · simp only [List.getElem?_toArray, List.getElem?_cons_zero, List.getElem?_cons_succ]
              rfl
            · kernel_rfl
            · kernel_rfl
            · kernel_rfl
            · kernel_rfl
            · exact fun _ _ _ h => h
            · refine Or.inl ⟨by rfl, ?_⟩
              intro w hSw
              (try dsimp only at hSw)
              go_simp
              all_goals with_reducible rfl
            simp only [Act.put, List.setIfInBounds_toArray, List.set_cons_zero, List.set_cons_succ]
            refine wpAnyT_take (i := 7) (oi := ?_) (v := ?_) ?_ ?_ ?_ ?_ ?_ ?_ ?_ (by assumption) ?_
            rotate_left 2
            · simp only [List.getElem?_toArray, List.getElem?_cons_zero, List.getElem?_cons_succ]
              rfl
            · kernel_rfl
            · kernel_rfl
            · kernel_rfl
            · kernel_rfl
            · exact fun _ _ _ h => h
            · refine Or.inl ⟨by rfl, ?_⟩
              intro w hSw
              (try dsimp only at hSw)
              go_simp
              all_goals with_reducible rfl
            simp only [Act.put, List.setIfInBounds_toArray, List.set_cons_zero, List.set_cons_succ]
            refine wpAnyT_take (i := 9) (oi := ?_) (v := ?_) ?_ ?_ ?_ ?_ ?_ ?_ ?_ (by assumption) ?_
            rotate_left 2
            · simp only [List.getElem?_toArray, List.getElem?_cons_zero, List.getElem?_cons_succ]
              rfl
            · kernel_rfl
            · kernel_rfl
            · kernel_rfl
            · kernel_rfl
            · exact fun _ _ _ h => h
            · refine Or.inl ⟨by rfl, ?_⟩
              intro w hSw
              (try dsimp only at hSw)
              go_simp
              all_goals with_reducible rfl
            simp only [Act.put, List.setIfInBounds_toArray, List.set_cons_zero, List.set_cons_succ]
            refine wpAnyT_take (i := 12) (oi := ?_) (v := ?_) ?_ ?_ ?_ ?_ ?_ ?_ ?_ (by assumption) ?_
            rotate_left 2
            · simp only [List.getElem?_toArray, List.getElem?_cons_zero, List.getElem?_cons_succ]
              rfl
            · kernel_rfl
            · kernel_rfl
            · kernel_rfl
            · kernel_rfl
            · exact fun _ _ _ h => h
            · refine Or.inl ⟨by rfl, ?_⟩
              intro w hSw
              (try dsimp only at hSw)
              go_simp
              all_goals with_reducible rfl
            simp only [Act.put, List.setIfInBounds_toArray, List.set_cons_zero, List.set_cons_succ]
            refine wpAnyT_take (i := 13) (oi := ?_) (v := ?_) ?_ ?_ ?_ ?_ ?_ ?_ ?_ (by assumption) ?_
            rotate_left 2
            · simp only [List.getElem?_toArray, List.getElem?_cons_zero, List.getElem?_cons_succ]
              rfl
            · kernel_rfl
            · kernel_rfl
            · kernel_rfl
            · kernel_rfl
            · exact fun _ _ _ h => h
            · refine Or.inl ⟨by rfl, ?_⟩
              intro w hSw
              (try dsimp only at hSw)
              go_simp
              all_goals with_reducible rfl
            simp only [Act.put, List.setIfInBounds_toArray, List.set_cons_zero, List.set_cons_succ]
            refine wpAnyT_take (i := 14) (oi := ?_) (v := ?_) ?_ ?_ ?_ ?_ ?_ ?_ ?_ (by assumption) ?_
            rotate_left 2
            · simp only [List.getElem?_toArray, List.getElem?_cons_zero, List.getElem?_cons_succ]
              rfl
            · kernel_rfl
            · kernel_rfl
            · kernel_rfl
            · kernel_rfl
            · exact fun _ _ _ h => h
            · refine Or.inl ⟨by rfl, ?_⟩
              intro w hSw
              (try dsimp only at hSw)
              go_simp
              all_goals with_reducible rfl
            simp only [Act.put, List.setIfInBounds_toArray, List.set_cons_zero, List.set_cons_succ]
            refine wpAnyT_take (i := 15) (oi := ?_) (v := ?_) ?_ ?_ ?_ ?_ ?_ ?_ ?_ (by assumption) ?_
            rotate_left 2
            · simp only [List.getElem?_toArray, List.getElem?_cons_zero, List.getElem?_cons_succ]
              rfl
            · kernel_rfl
            · kernel_rfl
            · kernel_rfl
            · kernel_rfl
            · exact fun _ _ _ h => h
            · refine Or.inl ⟨by rfl, ?_⟩
              intro w' hSw
              have q := (HF.out w' hSw).1
              go_simp
              all_goals with_reducible rfl
            simp only [Act.put, List.setIfInBounds_toArray, List.set_cons_zero, List.set_cons_succ]
            refine wpAnyT_take (i := 16) (oi := ?_) (v := ?_) ?_ ?_ ?_ ?_ ?_ ?_ ?_ (by assumption) ?_
            rotate_left 2
            · simp only [List.getElem?_toArray, List.getElem?_cons_zero, List.getElem?_cons_succ]
              rfl
            · kernel_rfl
            · kernel_rfl
            · kernel_rfl
            · kernel_rfl
            · exact fun _ _ _ h => h
            · refine Or.inl ⟨by rfl, ?_⟩
              intro w hSw
              (try dsimp only at hSw)
              go_simp
              all_goals with_reducible rfl
            simp only [Act.put, List.setIfInBounds_toArray, List.set_cons_zero, List.set_cons_succ]
            refine wpAnyT_take (i := 17) (oi := ?_) (v := ?_) ?_ ?_ ?_ ?_ ?_ ?_ ?_ (by assumption) ?_
            rotate_left 2
            · simp only [List.getElem?_toArray, List.getElem?_cons_zero, List.getElem?_cons_succ]
              rfl
            · kernel_rfl
            · kernel_rfl
            · kernel_rfl
            · kernel_rfl
            · exact fun _ _ _ h => h
            · refine Or.inl ⟨by rfl, ?_⟩
              intro w hSw
              (try dsimp only at hSw)
              go_simp
              all_goals with_reducible rfl
            simp only [Act.put, List.setIfInBounds_toArray, List.set_cons_zero, List.set_cons_succ]
            refine wpAnyT_two (i := 1) (j := 10) (oi := ?_) (oj := ?_) (by kernel_rfl) ?_ ?_ (fun KK hKK => ?_) (fun KK hKK => ?_)
            rotate_left 2
            · simp only [List.getElem?_toArray, List.getElem?_cons_zero, List.getElem?_cons_succ]
              rfl
            · simp only [List.getElem?_toArray, List.getElem?_cons_zero, List.getElem?_cons_succ]
              rfl
            · go_simp
              refine hKK.out _ _ ?_ (fun h1 => ?_)
              · (try dsimp only)
                exact Below.alloc hHeld (Below.size hHeld) _
              clear hKK KK
              try simp only [Act.put, List.setIfInBounds_toArray, List.set_cons_zero, List.set_cons_succ]
              have hz1 : w.drew.heap.size = w.heap.size := by simp
              have HO1 : Hid ((w.drew.alloc (.cells #[] 26)).ownsRow w.heap.size 26 1 (.slice (some ⟨w.heap.size, 0, none⟩) 0 0) ([] : List Nat).length (([] : List Nat).map u64v)) := by
                have := World.ownsRow_made (base := w.heap.size) (e := 26) (size := 1) w.drew #[] 0 (Below.size hHeld) (Nat.zero_le _) (by simp)
                rw [hz1] at this; exact this
              refine wpAnyT_two (i := 8) (j := 10) (oi := ?_) (oj := ?_) (by kernel_rfl) ?_ ?_ (fun KK hKK => ?_) (fun KK hKK => ?_)
              rotate_left 2
              · simp only [List.getElem?_toArray, List.getElem?_cons_zero, List.getElem?_cons_succ]
                rfl
              · simp only [List.getElem?_toArray, List.getElem?_cons_zero, List.getElem?_cons_succ]
                rfl
              · rw [if_pos (by rfl)]
                refine wp_appS _ _ rfl w.heap.size _ ([] : List Nat) rfl HO1.out (L.take 0) _ rfl (HSH.out _ h1) (by have hh := HLL.out; have hk := HML.out; simp only [List.length_append, List.length_nil, List.length_cons, List.length_take, List.length_drop]; omega) (Below.size h1) ?_
                intro v8 w8 hown8 hgr8
                refine hKK.out _ _ ?_ (fun h8 => ?_)
                · (try dsimp only)
                  exact Below.own h1 HO1.out (Below.size h1) hgr8
                clear hKK KK
                try simp only [Act.put, List.setIfInBounds_toArray, List.set_cons_zero, List.set_cons_succ]
                have HO8 := Lib.hid hown8
                clear hown8 hgr8
                refine wpAnyT_one (i := 10) (o := ?_) (by kernel_rfl) ?_ (fun KK hKK => ?_)
                rotate_left
                · simp only [List.getElem?_toArray, List.getElem?_cons_zero, List.getElem?_cons_succ]
                  rfl
                go_simp
                refine hKK.out _ _ ?_ (fun h10 => ?_)
                · (try dsimp only)
                  exact Below.alloc h8 (Below.size h8) _
                clear hKK KK
                try simp only [Act.put, List.setIfInBounds_toArray, List.set_cons_zero, List.set_cons_succ]
                have hz10 : w8.heap.size = w8.heap.size := by simp
                have HV : Hid (Obj (w8.alloc (.cells #[.int .u64 (n : Int)] 26)) (w8.heap.size) 26 #[u64v n]) := by
                  have := Obj.new w8 26 #[u64v n]
                  rw [hz10] at this; exact this
                have HOx := Lib.hid (HO8.out.alloc (.cells #[.int .u64 (n : Int)] 26))
                refine wpAnyT_one (i := 11) (o := ?_) (by kernel_rfl) ?_ (fun KK hKK => ?_)
                rotate_left
                · simp only [List.getElem?_toArray, List.getElem?_cons_zero, List.getElem?_cons_succ]
                  rfl
                rw [if_pos (by rfl)]
                refine wp_appS _ _ rfl w.heap.size _ ([] ++ L.take 0) rfl HOx.out [n] _ rfl (SrcU.one HV.out) (by have hh := HLL.out; have hk := HML.out; simp only [List.length_append, List.length_nil, List.length_cons, List.length_take, List.length_drop]; omega) (Below.size h10) ?_
                intro v11 w11 hown11 hgr11
                refine hKK.out _ _ ?_ (fun h11 => ?_)
                · (try dsimp only)
                  exact Below.own h10 HOx.out (Below.size h10) hgr11
                clear hKK KK
                try simp only [Act.put, List.setIfInBounds_toArray, List.set_cons_zero, List.set_cons_succ]
                have HO11 := Lib.hid hown11
                clear hown11 hgr11
                refine wpAnyT_one (i := 18) (o := ?_) (by kernel_rfl) ?_ (fun KK hKK => ?_)
                rotate_left
                · simp only [List.getElem?_toArray, List.getElem?_cons_zero, List.getElem?_cons_succ]
                  rfl
                rw [if_pos (by rfl)]
                refine wp_appS _ _ rfl w.heap.size _ (([] ++ L.take 0) ++ [n]) rfl HO11.out (L.drop 0) _ rfl (HST.out _ h11) (by have hh := HLL.out; have hk := HML.out; simp only [List.length_append, List.length_nil, List.length_cons, List.length_take, List.length_drop]; omega) (Below.size h11) ?_
                intro v18 w18 hown18 hgr18
                refine hKK.out _ _ ?_ (fun h18 => ?_)
                · (try dsimp only)
                  exact Below.own h11 HO11.out (Below.size h11) hgr18
                clear hKK KK
                try simp only [Act.put, List.setIfInBounds_toArray, List.set_cons_zero, List.set_cons_succ]
                have HO18 := Lib.hid hown18
                clear hown18 hgr18
                refine wpAnyT_one (i := 19) (o := ?_) (by kernel_rfl) ?_ (fun KK hKK => ?_)
                rotate_left
                · simp only [List.getElem?_toArray, List.getElem?_cons_zero, List.getElem?_cons_succ]
                  rfl
                go_simp
                refine hKK.out _ _ ?_ (fun h19 => ?_)
                · (try dsimp only)
                  exact h18
                clear hKK KK
                try simp only [Act.put, List.setIfInBounds_toArray, List.set_cons_zero, List.set_cons_succ]
                refine wpAnyT_one (i := 20) (o := ?_) (by kernel_rfl) ?_ (fun KK hKK => ?_)
                rotate_left
                · simp only [List.getElem?_toArray, List.getElem?_cons_zero, List.getElem?_cons_succ]
                  rfl
                go_simp
                refine hKK.out _ _ ?_ (fun h20 => ?_)
                · (try dsimp only)
                  exact h18
                clear hKK KK
                try simp only [Act.put, List.setIfInBounds_toArray, List.set_cons_zero, List.set_cons_succ]
                have HOI : Hid (w18.ownsRow w.heap.size 26 1 v18 (Rg.insL n L).length ((Rg.insL n L).map u64v)) := by have := HO18.out; rw [HINS.out] at this; exact this
                obtain ⟨g9, base9, c9, rfl, _, _, _⟩ := own_u64 HOI.out
                obtain ⟨f9, o9⟩ := HF.out w18 h18
                have z9 := o9.free 0
                have HO9 := Lib.hid o9
                have H18 := Lib.hid h18
                clear o9
                refine wpAnyT_last (o := ?_) (by kernel_rfl) ?_ (fun KK hKK => ?_)
                rotate_left
                · simp only [List.getElem?_toArray, List.getElem?_cons_zero, List.getElem?_cons_succ]
                  rfl
                go_simp
                refine hKK.out _ _ ?_
                clear hKK KK
                try simp only [Act.put, List.setIfInBounds_toArray, List.set_cons_zero, List.set_cons_succ]
                refine wpAnyT_done (by kernel_rfl) ?_ _
                have HDA : Hid (DocAt N (M + 1) (w18.setCell ⟨a, 0, none⟩ (.slice base9 (Rg.insL n L).length c9)) a ⟨S1, s.old⟩) :=
                  ⟨HNN.out.2.1, Rg.insL n L, _, HIL.out, (HO9.out.set 0 _).as rfl, own_base (own_set HOI.out HNN.out.2.2 0 _) HNN.out.1, HT1.out⟩
                have HDV : Hid (DocV N (M + 1) (w18.setCell ⟨a, 0, none⟩ (.slice base9 (Rg.insL n L).length c9)) a ⟨S1, s.old⟩ (.slice base9 (Rg.insL n L).length c9)) :=
                  ⟨HNN.out.2.1, Rg.insL n L, HIL.out, (HO9.out.set 0 _).as rfl, own_base (own_set HOI.out HNN.out.2.2 0 _) HNN.out.1, HT1.out⟩
                have HNB : Hid (∀ k, (Value.slice base9 (Rg.insL n L).length c9).ownBlock = some k → w.heap.size ≤ k) := fun k hk => (HOI.out.lt k hk).1
                have HUA : Hid (Upd a w (w18.setCell ⟨a, 0, none⟩ (.slice base9 (Rg.insL n L).length c9))) := (Upd.of_below H18.out a).set 0 _
                clear f9 z9
                generalize w18.setCell ⟨a, 0, none⟩ (.slice base9 (Rg.insL n L).length c9) = W9 at *
                go_wp2_with fail
                refine (HRG.out _ HDA.out).mono ?_
                rintro e w10 ⟨v10, g10, rfl, hr10, -, hb10⟩
                have HDB := Lib.hid (HDA.out.kept hb10)
                have HDVB := Lib.hid (HDV.out.kept hb10)
                have HUB := Lib.hid (HUA.out.trans (Upd.of_below hb10 a))
                by_cases h17 : 16 < S1.length
                · obtain ⟨c10, rfl, _, e10⟩ := hr10.cells (i := 16) h17
                  have HA2 : Hid (RES = (true, (Rg.forget (S1.getD 16 (0, 0)).2 ⟨S1, s.old⟩).2)) := by unfold Hid; rw [HADD.out, if_pos h17]
                  have hz17 : (16 : Int) < (S1.length : Int) := by omega
                  have hd17 : decide ((16 : Int) < (S1.length : Int)) = true := by rw [decide_eq_true_eq]; omega
                  have HNW : Hid (N ≤ w10.heap.size) := Nat.le_trans HNN.out.1 HUB.out.size
                  have HFX := Lib.hid (HFG.out w10 HNW.out HDB.out)
                  generalize (S1.getD 16 (0, 0)).2 = la at *
                  unfold u64v at e10
                  clear hr10 hb10 h17
                  generalize S1.length = q at *
                  go_wp2_with fail
                  refine HFX.out.mono ?_
                  rintro e w11 ⟨rfl, ⟨v11, hd11, hn11⟩, hu11⟩
                  have HN11 := Lib.hid hn11
                  have HD11 := Lib.hid hd11
                  have HU11 := Lib.hid hu11
                  clear hd11 hu11 hn11
                  go_wp2
                  go_ret
                  rw [HA2.out]
                  exact ⟨rfl, ⟨v11, HD11.out, Or.inr fun k hk => Nat.le_trans HUB.out.size (HN11.out k hk)⟩, HUB.out.trans HU11.out⟩
                · obtain ⟨base10, c10, rfl, _, _⟩ := hr10.nilOr
                  have HA2 : Hid (RES = (true, ⟨S1, s.old⟩)) := by unfold Hid; rw [HADD.out, if_neg h17]
                  have hd17 : decide ((16 : Int) < (S1.length : Int)) = false := by rw [decide_eq_false_iff_not]; omega
                  clear hr10 hb10 h17
                  generalize S1.length = q at *
                  go_wp2
                  go_ret
                  rw [HA2.out]
                  exact ⟨rfl, ⟨_, HDVB.out, Or.inr HNB.out⟩, HUB.out⟩
              · go_simp
                refine hKK.out _ _ ?_ (fun h10 => ?_)
                · (try dsimp only)
                  exact Below.alloc h1 (Below.size h1) _
                clear hKK KK
                try simp only [Act.put, List.setIfInBounds_toArray, List.set_cons_zero, List.set_cons_succ]
                have hz10 : (w.drew.alloc (.cells #[] 26)).heap.size = w.heap.size + 1 := by simp
                have HV : Hid (Obj ((w.drew.alloc (.cells #[] 26)).alloc (.cells #[.int .u64 (n : Int)] 26)) (w.heap.size + 1) 26 #[u64v n]) := by
                  have := Obj.new (w.drew.alloc (.cells #[] 26)) 26 #[u64v n]
                  rw [hz10] at this; exact this
                have HOx := Lib.hid (HO1.out.alloc (.cells #[.int .u64 (n : Int)] 26))
                refine wpAnyT_one (i := 8) (o := ?_) (by kernel_rfl) ?_ (fun KK hKK => ?_)
                rotate_left
                · simp only [List.getElem?_toArray, List.getElem?_cons_zero, List.getElem?_cons_succ]
                  rfl
                rw [if_pos (by rfl)]
                refine wp_appS _ _ rfl w.heap.size _ ([] : List Nat) rfl HOx.out (L.take 0) _ rfl (HSH.out _ h10) (by have hh := HLL.out; have hk := HML.out; simp only [List.length_append, List.length_nil, List.length_cons, List.length_take, List.length_drop]; omega) (Below.size h10) ?_
                intro v8 w8 hown8 hgr8
                refine hKK.out _ _ ?_ (fun h8 => ?_)
                · (try dsimp only)
                  exact Below.own h10 HOx.out (Below.size h10) hgr8
                clear hKK KK
                try simp only [Act.put, List.setIfInBounds_toArray, List.set_cons_zero, List.set_cons_succ]
                have HO8 := Lib.hid hown8
                have HV8 : Hid (Obj w8 (w.heap.size + 1) 26 #[u64v n]) := HV.out.grown hgr8 (show some (w.heap.size + 1) ≠ some (w.heap.size) by simp)
                have HV := HV8
                clear hown8 hgr8
                refine wpAnyT_one (i := 11) (o := ?_) (by kernel_rfl) ?_ (fun KK hKK => ?_)
                rotate_left
                · simp only [List.getElem?_toArray, List.getElem?_cons_zero, List.getElem?_cons_succ]
                  rfl
                rw [if_pos (by rfl)]
                refine wp_appS _ _ rfl w.heap.size _ ([] ++ L.take 0) rfl HO8.out [n] _ rfl (SrcU.one HV.out) (by have hh := HLL.out; have hk := HML.out; simp only [List.length_append, List.length_nil, List.length_cons, List.length_take, List.length_drop]; omega) (Below.size h8) ?_
                intro v11 w11 hown11 hgr11
                refine hKK.out _ _ ?_ (fun h11 => ?_)
                · (try dsimp only)
                  exact Below.own h8 HO8.out (Below.size h8) hgr11
                clear hKK KK
                try simp only [Act.put, List.setIfInBounds_toArray, List.set_cons_zero, List.set_cons_succ]
                have HO11 := Lib.hid hown11
                clear hown11 hgr11
                refine wpAnyT_one (i := 18) (o := ?_) (by kernel_rfl) ?_ (fun KK hKK => ?_)
                rotate_left
                · simp only [List.getElem?_toArray, List.getElem?_cons_zero, List.getElem?_cons_succ]
                  rfl
                rw [if_pos (by rfl)]
                refine wp_appS _ _ rfl w.heap.size _ (([] ++ L.take 0) ++ [n]) rfl HO11.out (L.drop 0) _ rfl (HST.out _ h11) (by have hh := HLL.out; have hk := HML.out; simp only [List.length_append, List.length_nil, List.length_cons, List.length_take, List.length_drop]; omega) (Below.size h11) ?_
                intro v18 w18 hown18 hgr18
                refine hKK.out _ _ ?_ (fun h18 => ?_)
                · (try dsimp only)
                  exact Below.own h11 HO11.out (Below.size h11) hgr18
                clear hKK KK
                try simp only [Act.put, List.setIfInBounds_toArray, List.set_cons_zero, List.set_cons_succ]
                have HO18 := Lib.hid hown18
                clear hown18 hgr18
                refine wpAnyT_one (i := 19) (o := ?_) (by kernel_rfl) ?_ (fun KK hKK => ?_)
                rotate_left
                · simp only [List.getElem?_toArray, List.getElem?_cons_zero, List.getElem?_cons_succ]
                  rfl
                go_simp
                refine hKK.out _ _ ?_ (fun h19 => ?_)
                · (try dsimp only)
                  exact h18
                clear hKK KK
                try simp only [Act.put, List.setIfInBounds_toArray, List.set_cons_zero, List.set_cons_succ]
                refine wpAnyT_one (i := 20) (o := ?_) (by kernel_rfl) ?_ (fun KK hKK => ?_)
                rotate_left
                · simp only [List.getElem?_toArray, List.getElem?_cons_zero, List.getElem?_cons_succ]
                  rfl
                go_simp
                refine hKK.out _ _ ?_ (fun h20 => ?_)
                · (try dsimp only)
                  exact h18
                clear hKK KK
                try simp only [Act.put, List.setIfInBounds_toArray, List.set_cons_zero, List.set_cons_succ]
                have HOI : Hid (w18.ownsRow w.heap.size 26 1 v18 (Rg.insL n L).length ((Rg.insL n L).map u64v)) := by have := HO18.out; rw [HINS.out] at this; exact this
                obtain ⟨g9, base9, c9, rfl, _, _, _⟩ := own_u64 HOI.out
                obtain ⟨f9, o9⟩ := HF.out w18 h18
                have z9 := o9.free 0
                have HO9 := Lib.hid o9
                have H18 := Lib.hid h18
                clear o9
                refine wpAnyT_last (o := ?_) (by kernel_rfl) ?_ (fun KK hKK => ?_)
                rotate_left
                · simp only [List.getElem?_toArray, List.getElem?_cons_zero, List.getElem?_cons_succ]
                  rfl
                go_simp
                refine hKK.out _ _ ?_
                clear hKK KK
                try simp only [Act.put, List.setIfInBounds_toArray, List.set_cons_zero, List.set_cons_succ]
                refine wpAnyT_done (by kernel_rfl) ?_ _
                have HDA : Hid (DocAt N (M + 1) (w18.setCell ⟨a, 0, none⟩ (.slice base9 (Rg.insL n L).length c9)) a ⟨S1, s.old⟩) :=
                  ⟨HNN.out.2.1, Rg.insL n L, _, HIL.out, (HO9.out.set 0 _).as rfl, own_base (own_set HOI.out HNN.out.2.2 0 _) HNN.out.1, HT1.out⟩
                have HDV : Hid (DocV N (M + 1) (w18.setCell ⟨a, 0, none⟩ (.slice base9 (Rg.insL n L).length c9)) a ⟨S1, s.old⟩ (.slice base9 (Rg.insL n L).length c9)) :=
                  ⟨HNN.out.2.1, Rg.insL n L, HIL.out, (HO9.out.set 0 _).as rfl, own_base (own_set HOI.out HNN.out.2.2 0 _) HNN.out.1, HT1.out⟩
                have HNB : Hid (∀ k, (Value.slice base9 (Rg.insL n L).length c9).ownBlock = some k → w.heap.size ≤ k) := fun k hk => (HOI.out.lt k hk).1
                have HUA : Hid (Upd a w (w18.setCell ⟨a, 0, none⟩ (.slice base9 (Rg.insL n L).length c9))) := (Upd.of_below H18.out a).set 0 _
                clear f9 z9
                generalize w18.setCell ⟨a, 0, none⟩ (.slice base9 (Rg.insL n L).length c9) = W9 at *
                go_wp2_with fail
                refine (HRG.out _ HDA.out).mono ?_
                rintro e w10 ⟨v10, g10, rfl, hr10, -, hb10⟩
                have HDB := Lib.hid (HDA.out.kept hb10)
                have HDVB := Lib.hid (HDV.out.kept hb10)
                have HUB := Lib.hid (HUA.out.trans (Upd.of_below hb10 a))
                by_cases h17 : 16 < S1.length
                · obtain ⟨c10, rfl, _, e10⟩ := hr10.cells (i := 16) h17
                  have HA2 : Hid (RES = (true, (Rg.forget (S1.getD 16 (0, 0)).2 ⟨S1, s.old⟩).2)) := by unfold Hid; rw [HADD.out, if_pos h17]
                  have hz17 : (16 : Int) < (S1.length : Int) := by omega
                  have hd17 : decide ((16 : Int) < (S1.length : Int)) = true := by rw [decide_eq_true_eq]; omega
                  have HNW : Hid (N ≤ w10.heap.size) := Nat.le_trans HNN.out.1 HUB.out.size
                  have HFX := Lib.hid (HFG.out w10 HNW.out HDB.out)
                  generalize (S1.getD 16 (0, 0)).2 = la at *
                  unfold u64v at e10
                  clear hr10 hb10 h17
                  generalize S1.length = q at *
                  go_wp2_with fail
                  refine HFX.out.mono ?_
                  rintro e w11 ⟨rfl, ⟨v11, hd11, hn11⟩, hu11⟩
                  have HN11 := Lib.hid hn11
                  have HD11 := Lib.hid hd11
                  have HU11 := Lib.hid hu11
                  clear hd11 hu11 hn11
                  go_wp2
                  go_ret
                  rw [HA2.out]
                  exact ⟨rfl, ⟨v11, HD11.out, Or.inr fun k hk => Nat.le_trans HUB.out.size (HN11.out k hk)⟩, HUB.out.trans HU11.out⟩
                · obtain ⟨base10, c10, rfl, _, _⟩ := hr10.nilOr
                  have HA2 : Hid (RES = (true, ⟨S1, s.old⟩)) := by unfold Hid; rw [HADD.out, if_neg h17]
                  have hd17 : decide ((16 : Int) < (S1.length : Int)) = false := by rw [decide_eq_false_iff_not]; omega
                  clear hr10 hb10 h17
                  generalize S1.length = q at *
                  go_wp2
                  go_ret
                  rw [HA2.out]
                  exact ⟨rfl, ⟨_, HDVB.out, Or.inr HNB.out⟩, HUB.out⟩
            · go_simp
              refine hKK.out _ _ ?_ (fun h10 => ?_)
              · (try dsimp only)
                exact Below.alloc hHeld (Below.size hHeld) _
              clear hKK KK
              try simp only [Act.put, List.setIfInBounds_toArray, List.set_cons_zero, List.set_cons_succ]
              have hz10 : w.drew.heap.size = w.heap.size := by simp
              have HV : Hid (Obj (w.drew.alloc (.cells #[.int .u64 (n : Int)] 26)) (w.heap.size) 26 #[u64v n]) := by
                have := Obj.new w.drew 26 #[u64v n]
                rw [hz10] at this; exact this
              refine wpAnyT_one (i := 1) (o := ?_) (by kernel_rfl) ?_ (fun KK hKK => ?_)
              rotate_left
              · simp only [List.getElem?_toArray, List.getElem?_cons_zero, List.getElem?_cons_succ]
                rfl
              go_simp
              refine hKK.out _ _ ?_ (fun h1 => ?_)
              · (try dsimp only)
                exact Below.alloc h10 (Below.size h10) _
              clear hKK KK
              try simp only [Act.put, List.setIfInBounds_toArray, List.set_cons_zero, List.set_cons_succ]
              have hz1 : (w.drew.alloc (.cells #[.int .u64 (n : Int)] 26)).heap.size = w.heap.size + 1 := by simp
              have HO1 : Hid (((w.drew.alloc (.cells #[.int .u64 (n : Int)] 26)).alloc (.cells #[] 26)).ownsRow w.heap.size 26 1 (.slice (some ⟨w.heap.size + 1, 0, none⟩) 0 0) ([] : List Nat).length (([] : List Nat).map u64v)) := by
                have := World.ownsRow_made (base := w.heap.size) (e := 26) (size := 1) (w.drew.alloc (.cells #[.int .u64 (n : Int)] 26)) #[] 0 (Below.size h10) (Nat.zero_le _) (by simp)
                rw [hz1] at this; exact this
              have HV1 : Hid (Obj ((w.drew.alloc (.cells #[.int .u64 (n : Int)] 26)).alloc (.cells #[] 26)) (w.heap.size) 26 #[u64v n]) := HV.out.alloc _
              have HV := HV1
              refine wpAnyT_one (i := 8) (o := ?_) (by kernel_rfl) ?_ (fun KK hKK => ?_)
              rotate_left
              · simp only [List.getElem?_toArray, List.getElem?_cons_zero, List.getElem?_cons_succ]
                rfl
              rw [if_pos (by rfl)]
              refine wp_appS _ _ rfl w.heap.size _ ([] : List Nat) rfl HO1.out (L.take 0) _ rfl (HSH.out _ h1) (by have hh := HLL.out; have hk := HML.out; simp only [List.length_append, List.length_nil, List.length_cons, List.length_take, List.length_drop]; omega) (Below.size h1) ?_
              intro v8 w8 hown8 hgr8
              refine hKK.out _ _ ?_ (fun h8 => ?_)
              · (try dsimp only)
                exact Below.own h1 HO1.out (Below.size h1) hgr8
              clear hKK KK
              try simp only [Act.put, List.setIfInBounds_toArray, List.set_cons_zero, List.set_cons_succ]
              have HO8 := Lib.hid hown8
              have HV8 : Hid (Obj w8 (w.heap.size) 26 #[u64v n]) := HV.out.grown hgr8 (show some (w.heap.size) ≠ some (w.heap.size + 1) by simp)
              have HV := HV8
              clear hown8 hgr8
              refine wpAnyT_one (i := 11) (o := ?_) (by kernel_rfl) ?_ (fun KK hKK => ?_)
              rotate_left
              · simp only [List.getElem?_toArray, List.getElem?_cons_zero, List.getElem?_cons_succ]
                rfl
              rw [if_pos (by rfl)]
              refine wp_appS _ _ rfl w.heap.size _ ([] ++ L.take 0) rfl HO8.out [n] _ rfl (SrcU.one HV.out) (by have hh := HLL.out; have hk := HML.out; simp only [List.length_append, List.length_nil, List.length_cons, List.length_take, List.length_drop]; omega) (Below.size h8) ?_
              intro v11 w11 hown11 hgr11
              refine hKK.out _ _ ?_ (fun h11 => ?_)
              · (try dsimp only)
                exact Below.own h8 HO8.out (Below.size h8) hgr11
              clear hKK KK
              try simp only [Act.put, List.setIfInBounds_toArray, List.set_cons_zero, List.set_cons_succ]
              have HO11 := Lib.hid hown11
              clear hown11 hgr11
              refine wpAnyT_one (i := 18) (o := ?_) (by kernel_rfl) ?_ (fun KK hKK => ?_)
              rotate_left
              · simp only [List.getElem?_toArray, List.getElem?_cons_zero, List.getElem?_cons_succ]
                rfl
              rw [if_pos (by rfl)]
              refine wp_appS _ _ rfl w.heap.size _ (([] ++ L.take 0) ++ [n]) rfl HO11.out (L.drop 0) _ rfl (HST.out _ h11) (by have hh := HLL.out; have hk := HML.out; simp only [List.length_append, List.length_nil, List.length_cons, List.length_take, List.length_drop]; omega) (Below.size h11) ?_
              intro v18 w18 hown18 hgr18
              refine hKK.out _ _ ?_ (fun h18 => ?_)
              · (try dsimp only)
                exact Below.own h11 HO11.out (Below.size h11) hgr18
              clear hKK KK
              try simp only [Act.put, List.setIfInBounds_toArray, List.set_cons_zero, List.set_cons_succ]
              have HO18 := Lib.hid hown18
              clear hown18 hgr18
              refine wpAnyT_one (i := 19) (o := ?_) (by kernel_rfl) ?_ (fun KK hKK => ?_)
              rotate_left
              · simp only [List.getElem?_toArray, List.getElem?_cons_zero, List.getElem?_cons_succ]
                rfl
              go_simp
              refine hKK.out _ _ ?_ (fun h19 => ?_)
              · (try dsimp only)
                exact h18
              clear hKK KK
              try simp only [Act.put, List.setIfInBounds_toArray, List.set_cons_zero, List.set_cons_succ]
              refine wpAnyT_one (i := 20) (o := ?_) (by kernel_rfl) ?_ (fun KK hKK => ?_)
              rotate_left
              · simp only [List.getElem?_toArray, List.getElem?_cons_zero, List.getElem?_cons_succ]
                rfl
              go_simp
              refine hKK.out _ _ ?_ (fun h20 => ?_)
              · (try dsimp only)
                exact h18
              clear hKK KK
              try simp only [Act.put, List.setIfInBounds_toArray, List.set_cons_zero, List.set_cons_succ]
              have HOI : Hid (w18.ownsRow w.heap.size 26 1 v18 (Rg.insL n L).length ((Rg.insL n L).map u64v)) := by have := HO18.out; rw [HINS.out] at this; exact this
              obtain ⟨g9, base9, c9, rfl, _, _, _⟩ := own_u64 HOI.out
              obtain ⟨f9, o9⟩ := HF.out w18 h18
              have z9 := o9.free 0
              have HO9 := Lib.hid o9
              have H18 := Lib.hid h18
              clear o9
              refine wpAnyT_last (o := ?_) (by kernel_rfl) ?_ (fun KK hKK => ?_)
              rotate_left
              · simp only [List.getElem?_toArray, List.getElem?_cons_zero, List.getElem?_cons_succ]
                rfl
              go_simp
              refine hKK.out _ _ ?_
              clear hKK KK
              try simp only [Act.put, List.setIfInBounds_toArray, List.set_cons_zero, List.set_cons_succ]
              refine wpAnyT_done (by kernel_rfl) ?_ _
              have HDA : Hid (DocAt N (M + 1) (w18.setCell ⟨a, 0, none⟩ (.slice base9 (Rg.insL n L).length c9)) a ⟨S1, s.old⟩) :=
                ⟨HNN.out.2.1, Rg.insL n L, _, HIL.out, (HO9.out.set 0 _).as rfl, own_base (own_set HOI.out HNN.out.2.2 0 _) HNN.out.1, HT1.out⟩
              have HDV : Hid (DocV N (M + 1) (w18.setCell ⟨a, 0, none⟩ (.slice base9 (Rg.insL n L).length c9)) a ⟨S1, s.old⟩ (.slice base9 (Rg.insL n L).length c9)) :=
                ⟨HNN.out.2.1, Rg.insL n L, HIL.out, (HO9.out.set 0 _).as rfl, own_base (own_set HOI.out HNN.out.2.2 0 _) HNN.out.1, HT1.out⟩
              have HNB : Hid (∀ k, (Value.slice base9 (Rg.insL n L).length c9).ownBlock = some k → w.heap.size ≤ k) := fun k hk => (HOI.out.lt k hk).1
              have HUA : Hid (Upd a w (w18.setCell ⟨a, 0, none⟩ (.slice base9 (Rg.insL n L).length c9))) := (Upd.of_below H18.out a).set 0 _
              clear f9 z9
              generalize w18.setCell ⟨a, 0, none⟩ (.slice base9 (Rg.insL n L).length c9) = W9 at *
              go_wp2_with fail
              refine (HRG.out _ HDA.out).mono ?_
              rintro e w10 ⟨v10, g10, rfl, hr10, -, hb10⟩
              have HDB := Lib.hid (HDA.out.kept hb10)
              have HDVB := Lib.hid (HDV.out.kept hb10)
              have HUB := Lib.hid (HUA.out.trans (Upd.of_below hb10 a))
              by_cases h17 : 16 < S1.length
              · obtain ⟨c10, rfl, _, e10⟩ := hr10.cells (i := 16) h17
                have HA2 : Hid (RES = (true, (Rg.forget (S1.getD 16 (0, 0)).2 ⟨S1, s.old⟩).2)) := by unfold Hid; rw [HADD.out, if_pos h17]
                have hz17 : (16 : Int) < (S1.length : Int) := by omega
                have hd17 : decide ((16 : Int) < (S1.length : Int)) = true := by rw [decide_eq_true_eq]; omega
                have HNW : Hid (N ≤ w10.heap.size) := Nat.le_trans HNN.out.1 HUB.out.size
                have HFX := Lib.hid (HFG.out w10 HNW.out HDB.out)
                generalize (S1.getD 16 (0, 0)).2 = la at *
                unfold u64v at e10
                clear hr10 hb10 h17
                generalize S1.length = q at *
                go_wp2_with fail
                refine HFX.out.mono ?_
                rintro e w11 ⟨rfl, ⟨v11, hd11, hn11⟩, hu11⟩
                have HN11 := Lib.hid hn11
                have HD11 := Lib.hid hd11
                have HU11 := Lib.hid hu11
                clear hd11 hu11 hn11
                go_wp2
                go_ret
                rw [HA2.out]
                exact ⟨rfl, ⟨v11, HD11.out, Or.inr fun k hk => Nat.le_trans HUB.out.size (HN11.out k hk)⟩, HUB.out.trans HU11.out⟩
              · obtain ⟨base10, c10, rfl, _, _⟩ := hr10.nilOr
                have HA2 : Hid (RES = (true, ⟨S1, s.old⟩)) := by unfold Hid; rw [HADD.out, if_neg h17]
                have hd17 : decide ((16 : Int) < (S1.length : Int)) = false := by rw [decide_eq_false_iff_not]; omega
                clear hr10 hb10 h17
                generalize S1.length = q at *
                go_wp2
                go_ret
                rw [HA2.out]
                exact ⟨rfl, ⟨_, HDVB.out, Or.inr HNB.out⟩, HUB.out⟩
          · obtain ⟨k, rfl⟩ : ∃ k, P = k + 1 := ⟨P - 1, by omega⟩
            obtain ⟨hbg, e1⟩ := HC.out w (Below.refl _ _) k (by omega)
            cases hbg
            have hlo := HPL.out k (by omega)
            generalize L.getD k 0 = x at *
            have hd : decide (n < x) = false := by rw [decide_eq_false_iff_not]; omega
            have k2 : (k : Int) + 1 - 1 = (k : Int) := by omega
            have k5 : (k : Int) < (k : Int) + 1 := by omega
            have k6 : (0 : Int) < (k : Int) + 1 := by omega
            have k7 : ((k : Int) + 1).toNat = k + 1 := by omega
            have k8 : (0 : Int) ≤ (k : Int) + 1 := by omega
            clear hlo
            go_wp2
            refine wp_region_T 21 (fun w' => Below w.heap.size w w') (by kernel_rfl) (below_drewN (Below.refl _ _) 1) (fun hHeld => ?_)
            refine wpAnyT_take (i := 0) (oi := ?_) (v := ?_) ?_ ?_ ?_ ?_ ?_ ?_ ?_ (by assumption) ?_
            rotate_left 2
            · simp only [List.getElem?_toArray, List.getElem?_cons_zero, List.getElem?_cons_succ]
              rfl
            · kernel_rfl
            · kernel_rfl
            · kernel_rfl
            · kernel_rfl
            · exact fun _ _ _ h => h
            · refine Or.inl ⟨by rfl, ?_⟩
              intro w hSw
              (try dsimp only at hSw)
              go_simp
              all_goals with_reducible rfl
            simp only [Act.put, List.setIfInBounds_toArray, List.set_cons_zero, List.set_cons_succ]
            refine wpAnyT_take (i := 2) (oi := ?_) (v := ?_) ?_ ?_ ?_ ?_ ?_ ?_ ?_ (by assumption) ?_
            rotate_left 2
            · simp only [List.getElem?_toArray, List.getElem?_cons_zero, List.getElem?_cons_succ]
              rfl
            · kernel_rfl
            · kernel_rfl
            · kernel_rfl
            · kernel_rfl
            · exact fun _ _ _ h => h
            · refine Or.inl ⟨by rfl, ?_⟩
              intro w hSw
              (try dsimp only at hSw)
              go_simp
              all_goals with_reducible rfl
            simp only [Act.put, List.setIfInBounds_toArray, List.set_cons_zero, List.set_cons_succ]
            refine wpAnyT_take (i := 3) (oi := ?_) (v := ?_) ?_ ?_ ?_ ?_ ?_ ?_ ?_ (by assumption) ?_
            rotate_left 2
            · simp only [List.getElem?_toArray, List.getElem?_cons_zero, List.getElem?_cons_succ]
              rfl
            · kernel_rfl
            · kernel_rfl
            · kernel_rfl
            · kernel_rfl
            · exact fun _ _ _ h => h
            · refine Or.inl ⟨by rfl, ?_⟩
              intro w hSw
              (try dsimp only at hSw)
              go_simp
              all_goals with_reducible rfl
            simp only [Act.put, List.setIfInBounds_toArray, List.set_cons_zero, List.set_cons_succ]
            refine wpAnyT_take (i := 4) (oi := ?_) (v := ?_) ?_ ?_ ?_ ?_ ?_ ?_ ?_ (by assumption) ?_
            rotate_left 2
            · simp only [List.getElem?_toArray, List.getElem?_cons_zero, List.getElem?_cons_succ]
              rfl
            · kernel_rfl
            · kernel_rfl
            · kernel_rfl
            · kernel_rfl
            · exact fun _ _ _ h => h
            · refine Or.inl ⟨by rfl, ?_⟩
              intro w hSw
              (try dsimp only at hSw)
              go_simp
              all_goals with_reducible rfl
            simp only [Act.put, List.setIfInBounds_toArray, List.set_cons_zero, List.set_cons_succ]
            refine wpAnyT_take (i := 5) (oi := ?_) (v := ?_) ?_ ?_ ?_ ?_ ?_ ?_ ?_ (by assumption) ?_
            rotate_left 2
            · simp only [List.getElem?_toArray, List.getElem?_cons_zero, List.getElem?_cons_succ]
              rfl
            · kernel_rfl
            · kernel_rfl
            · kernel_rfl
            · kernel_rfl
            · exact fun _ _ _ h => h
            · refine Or.inl ⟨by rfl, ?_⟩
              intro w' hSw
              have q := (HF.out w' hSw).1
              go_simp
              all_goals with_reducible rfl
            simp only [Act.put, List.setIfInBounds_toArray, List.set_cons_zero, List.set_cons_succ]
            refine wpAnyT_take (i := 6) (oi := ?_) (v := ?_) ?_ ?_ ?_ ?_ ?_ ?_ ?_ (by assumption) ?_
            rotate_left 2
            · simp only [List.getElem?_toArray, List.getElem?_cons_zero, List.getElem?_cons_succ]
              rfl
            · kernel_rfl
            · kernel_rfl
            · kernel_rfl
            · kernel_rfl
            · exact fun _ _ _ h => h
            · refine Or.inl ⟨by rfl, ?_⟩
              intro w hSw
              (try dsimp only at hSw)
              go_simp
              all_goals with_reducible rfl
            simp only [Act.put, List.setIfInBounds_toArray, List.set_cons_zero, List.set_cons_succ]
            refine wpAnyT_take (i := 7) (oi := ?_) (v := ?_) ?_ ?_ ?_ ?_ ?_ ?_ ?_ (by assumption) ?_
            rotate_left 2
            · simp only [List.getElem?_toArray, List.getElem?_cons_zero, List.getElem?_cons_succ]
              rfl
            · kernel_rfl
            · kernel_rfl
            · kernel_rfl
            · kernel_rfl
            · exact fun _ _ _ h => h
            · refine Or.inl ⟨by rfl, ?_⟩
              intro w hSw
              (try dsimp only at hSw)
              go_simp
              all_goals with_reducible rfl
            simp only [Act.put, List.setIfInBounds_toArray, List.set_cons_zero, List.set_cons_succ]
            refine wpAnyT_take (i := 9) (oi := ?_) (v := ?_) ?_ ?_ ?_ ?_ ?_ ?_ ?_ (by assumption) ?_
            rotate_left 2
            · simp only [List.getElem?_toArray, List.getElem?_cons_zero, List.getElem?_cons_succ]
              rfl
            · kernel_rfl
            · kernel_rfl
            · kernel_rfl
            · kernel_rfl
            · exact fun _ _ _ h => h
            · refine Or.inl ⟨by rfl, ?_⟩
              intro w hSw
              (try dsimp only at hSw)
              go_simp
              all_goals with_reducible rfl
            simp only [Act.put, List.setIfInBounds_toArray, List.set_cons_zero, List.set_cons_succ]
            refine wpAnyT_take (i := 12) (oi := ?_) (v := ?_) ?_ ?_ ?_ ?_ ?_ ?_ ?_ (by assumption) ?_
            rotate_left 2
            · simp only [List.getElem?_toArray, List.getElem?_cons_zero, List.getElem?_cons_succ]
              rfl
            · kernel_rfl
            · kernel_rfl
            · kernel_rfl
            · kernel_rfl
            · exact fun _ _ _ h => h
            · refine Or.inl ⟨by rfl, ?_⟩
              intro w hSw
              (try dsimp only at hSw)
              go_simp
              all_goals with_reducible rfl
            simp only [Act.put, List.setIfInBounds_toArray, List.set_cons_zero, List.set_cons_succ]
            refine wpAnyT_take (i := 13) (oi := ?_) (v := ?_) ?_ ?_ ?_ ?_ ?_ ?_ ?_ (by assumption) ?_
            rotate_left 2
            · simp only [List.getElem?_toArray, List.getElem?_cons_zero, List.getElem?_cons_succ]
              rfl
            · kernel_rfl
            · kernel_rfl
            · kernel_rfl
            · kernel_rfl
            · exact fun _ _ _ h => h
            · refine Or.inl ⟨by rfl, ?_⟩
              intro w hSw
              (try dsimp only at hSw)
              go_simp
              all_goals with_reducible rfl
            simp only [Act.put, List.setIfInBounds_toArray, List.set_cons_zero, List.set_cons_succ]
            refine wpAnyT_take (i := 14) (oi := ?_) (v := ?_) ?_ ?_ ?_ ?_ ?_ ?_ ?_ (by assumption) ?_
            rotate_left 2
            · simp only [List.getElem?_toArray, List.getElem?_cons_zero, List.getElem?_cons_succ]
              rfl
            · kernel_rfl
            · kernel_rfl
            · kernel_rfl
            · kernel_rfl
            · exact fun _ _ _ h => h
            · refine Or.inl ⟨by rfl, ?_⟩
              intro w hSw
              (try dsimp only at hSw)
              go_simp
              all_goals with_reducible rfl
            simp only [Act.put, List.setIfInBounds_toArray, List.set_cons_zero, List.set_cons_succ]
            refine wpAnyT_take (i := 15) (oi := ?_) (v := ?_) ?_ ?_ ?_ ?_ ?_ ?_ ?_ (by assumption) ?_
            rotate_left 2
            · simp only [List.getElem?_toArray, List.getElem?_cons_zero, List.getElem?_cons_succ]
              rfl
            · kernel_rfl
            · kernel_rfl
            · kernel_rfl
            · kernel_rfl
            · exact fun _ _ _ h => h
            · refine Or.inl ⟨by rfl, ?_⟩
              intro w' hSw
              have q := (HF.out w' hSw).1
              go_simp
              all_goals with_reducible rfl
            simp only [Act.put, List.setIfInBounds_toArray, List.set_cons_zero, List.set_cons_succ]
            refine wpAnyT_take (i := 16) (oi := ?_) (v := ?_) ?_ ?_ ?_ ?_ ?_ ?_ ?_ (by assumption) ?_
            rotate_left 2
            · simp only [List.getElem?_toArray, List.getElem?_cons_zero, List.getElem?_cons_succ]
              rfl
            · kernel_rfl
            · kernel_rfl
            · kernel_rfl
            · kernel_rfl
            · exact fun _ _ _ h => h
            · refine Or.inl ⟨by rfl, ?_⟩
              intro w hSw
              (try dsimp only at hSw)
              go_simp
              all_goals with_reducible rfl
            simp only [Act.put, List.setIfInBounds_toArray, List.set_cons_zero, List.set_cons_succ]
            refine wpAnyT_take (i := 17) (oi := ?_) (v := ?_) ?_ ?_ ?_ ?_ ?_ ?_ ?_ (by assumption) ?_
            rotate_left 2
            · simp only [List.getElem?_toArray, List.getElem?_cons_zero, List.getElem?_cons_succ]
              rfl
            · kernel_rfl
            · kernel_rfl
            · kernel_rfl
            · kernel_rfl
            · exact fun _ _ _ h => h
            · refine Or.inl ⟨by rfl, ?_⟩
              intro w hSw
              (try dsimp only at hSw)
              go_simp
              all_goals with_reducible rfl
            simp only [Act.put, List.setIfInBounds_toArray, List.set_cons_zero, List.set_cons_succ]
            refine wpAnyT_two (i := 1) (j := 10) (oi := ?_) (oj := ?_) (by kernel_rfl) ?_ ?_ (fun KK hKK => ?_) (fun KK hKK => ?_)
            rotate_left 2
            · simp only [List.getElem?_toArray, List.getElem?_cons_zero, List.getElem?_cons_succ]
              rfl
            · simp only [List.getElem?_toArray, List.getElem?_cons_zero, List.getElem?_cons_succ]
              rfl
            · go_simp
              refine hKK.out _ _ ?_ (fun h1 => ?_)
              · (try dsimp only)
                exact Below.alloc hHeld (Below.size hHeld) _
              clear hKK KK
              try simp only [Act.put, List.setIfInBounds_toArray, List.set_cons_zero, List.set_cons_succ]
              have hz1 : w.drew.heap.size = w.heap.size := by simp
              have HO1 : Hid ((w.drew.alloc (.cells #[] 26)).ownsRow w.heap.size 26 1 (.slice (some ⟨w.heap.size, 0, none⟩) 0 0) ([] : List Nat).length (([] : List Nat).map u64v)) := by
                have := World.ownsRow_made (base := w.heap.size) (e := 26) (size := 1) w.drew #[] 0 (Below.size hHeld) (Nat.zero_le _) (by simp)
                rw [hz1] at this; exact this
              refine wpAnyT_two (i := 8) (j := 10) (oi := ?_) (oj := ?_) (by kernel_rfl) ?_ ?_ (fun KK hKK => ?_) (fun KK hKK => ?_)
              rotate_left 2
              · simp only [List.getElem?_toArray, List.getElem?_cons_zero, List.getElem?_cons_succ]
                rfl
              · simp only [List.getElem?_toArray, List.getElem?_cons_zero, List.getElem?_cons_succ]
                rfl
              · rw [if_pos (by rfl)]
                refine wp_appS _ _ rfl w.heap.size _ ([] : List Nat) rfl HO1.out (L.take (k + 1)) _ rfl (HSH.out _ h1) (by have hh := HLL.out; have hk := HML.out; simp only [List.length_append, List.length_nil, List.length_cons, List.length_take, List.length_drop]; omega) (Below.size h1) ?_
                intro v8 w8 hown8 hgr8
                refine hKK.out _ _ ?_ (fun h8 => ?_)
                · (try dsimp only)
                  exact Below.own h1 HO1.out (Below.size h1) hgr8
                clear hKK KK
                try simp only [Act.put, List.setIfInBounds_toArray, List.set_cons_zero, List.set_cons_succ]
                have HO8 := Lib.hid hown8
                clear hown8 hgr8
                refine wpAnyT_one (i := 10) (o := ?_) (by kernel_rfl) ?_ (fun KK hKK => ?_)
                rotate_left
                · simp only [List.getElem?_toArray, List.getElem?_cons_zero, List.getElem?_cons_succ]
                  rfl
                go_simp
                refine hKK.out _ _ ?_ (fun h10 => ?_)
                · (try dsimp only)
                  exact Below.alloc h8 (Below.size h8) _
                clear hKK KK
                try simp only [Act.put, List.setIfInBounds_toArray, List.set_cons_zero, List.set_cons_succ]
                have hz10 : w8.heap.size = w8.heap.size := by simp
                have HV : Hid (Obj (w8.alloc (.cells #[.int .u64 (n : Int)] 26)) (w8.heap.size) 26 #[u64v n]) := by
                  have := Obj.new w8 26 #[u64v n]
                  rw [hz10] at this; exact this
                have HOx := Lib.hid (HO8.out.alloc (.cells #[.int .u64 (n : Int)] 26))
                refine wpAnyT_one (i := 11) (o := ?_) (by kernel_rfl) ?_ (fun KK hKK => ?_)
                rotate_left
                · simp only [List.getElem?_toArray, List.getElem?_cons_zero, List.getElem?_cons_succ]
                  rfl
                rw [if_pos (by rfl)]
                refine wp_appS _ _ rfl w.heap.size _ ([] ++ L.take (k + 1)) rfl HOx.out [n] _ rfl (SrcU.one HV.out) (by have hh := HLL.out; have hk := HML.out; simp only [List.length_append, List.length_nil, List.length_cons, List.length_take, List.length_drop]; omega) (Below.size h10) ?_
                intro v11 w11 hown11 hgr11
                refine hKK.out _ _ ?_ (fun h11 => ?_)
                · (try dsimp only)
                  exact Below.own h10 HOx.out (Below.size h10) hgr11
                clear hKK KK
                try simp only [Act.put, List.setIfInBounds_toArray, List.set_cons_zero, List.set_cons_succ]
                have HO11 := Lib.hid hown11
                clear hown11 hgr11
                refine wpAnyT_one (i := 18) (o := ?_) (by kernel_rfl) ?_ (fun KK hKK => ?_)
                rotate_left
                · simp only [List.getElem?_toArray, List.getElem?_cons_zero, List.getElem?_cons_succ]
                  rfl
                rw [if_pos (by rfl)]
                refine wp_appS _ _ rfl w.heap.size _ (([] ++ L.take (k + 1)) ++ [n]) rfl HO11.out (L.drop (k + 1)) _ rfl (HST.out _ h11) (by have hh := HLL.out; have hk := HML.out; simp only [List.length_append, List.length_nil, List.length_cons, List.length_take, List.length_drop]; omega) (Below.size h11) ?_
                intro v18 w18 hown18 hgr18
                refine hKK.out _ _ ?_ (fun h18 => ?_)
                · (try dsimp only)
                  exact Below.own h11 HO11.out (Below.size h11) hgr18
                clear hKK KK
                try simp only [Act.put, List.setIfInBounds_toArray, List.set_cons_zero, List.set_cons_succ]
                have HO18 := Lib.hid hown18
                clear hown18 hgr18
                refine wpAnyT_one (i := 19) (o := ?_) (by kernel_rfl) ?_ (fun KK hKK => ?_)
                rotate_left
                · simp only [List.getElem?_toArray, List.getElem?_cons_zero, List.getElem?_cons_succ]
                  rfl
                go_simp
                refine hKK.out _ _ ?_ (fun h19 => ?_)
                · (try dsimp only)
                  exact h18
                clear hKK KK
                try simp only [Act.put, List.setIfInBounds_toArray, List.set_cons_zero, List.set_cons_succ]
                refine wpAnyT_one (i := 20) (o := ?_) (by kernel_rfl) ?_ (fun KK hKK => ?_)
                rotate_left
                · simp only [List.getElem?_toArray, List.getElem?_cons_zero, List.getElem?_cons_succ]
                  rfl
                go_simp
                refine hKK.out _ _ ?_ (fun h20 => ?_)
                · (try dsimp only)
                  exact h18
                clear hKK KK
                try simp only [Act.put, List.setIfInBounds_toArray, List.set_cons_zero, List.set_cons_succ]
                have HOI : Hid (w18.ownsRow w.heap.size 26 1 v18 (Rg.insL n L).length ((Rg.insL n L).map u64v)) := by have := HO18.out; rw [HINS.out] at this; exact this
                obtain ⟨g9, base9, c9, rfl, _, _, _⟩ := own_u64 HOI.out
                obtain ⟨f9, o9⟩ := HF.out w18 h18
                have z9 := o9.free 0
                have HO9 := Lib.hid o9
                have H18 := Lib.hid h18
                clear o9
                refine wpAnyT_last (o := ?_) (by kernel_rfl) ?_ (fun KK hKK => ?_)
                rotate_left
                · simp only [List.getElem?_toArray, List.getElem?_cons_zero, List.getElem?_cons_succ]
                  rfl
                go_simp
                refine hKK.out _ _ ?_
                clear hKK KK
                try simp only [Act.put, List.setIfInBounds_toArray, List.set_cons_zero, List.set_cons_succ]
                refine wpAnyT_done (by kernel_rfl) ?_ _
                have HDA : Hid (DocAt N (M + 1) (w18.setCell ⟨a, 0, none⟩ (.slice base9 (Rg.insL n L).length c9)) a ⟨S1, s.old⟩) :=
                  ⟨HNN.out.2.1, Rg.insL n L, _, HIL.out, (HO9.out.set 0 _).as rfl, own_base (own_set HOI.out HNN.out.2.2 0 _) HNN.out.1, HT1.out⟩
                have HDV : Hid (DocV N (M + 1) (w18.setCell ⟨a, 0, none⟩ (.slice base9 (Rg.insL n L).length c9)) a ⟨S1, s.old⟩ (.slice base9 (Rg.insL n L).length c9)) :=
                  ⟨HNN.out.2.1, Rg.insL n L, HIL.out, (HO9.out.set 0 _).as rfl, own_base (own_set HOI.out HNN.out.2.2 0 _) HNN.out.1, HT1.out⟩
                have HNB : Hid (∀ k, (Value.slice base9 (Rg.insL n L).length c9).ownBlock = some k → w.heap.size ≤ k) := fun k hk => (HOI.out.lt k hk).1
                have HUA : Hid (Upd a w (w18.setCell ⟨a, 0, none⟩ (.slice base9 (Rg.insL n L).length c9))) := (Upd.of_below H18.out a).set 0 _
                clear f9 z9
                generalize w18.setCell ⟨a, 0, none⟩ (.slice base9 (Rg.insL n L).length c9) = W9 at *
                go_wp2_with fail
                refine (HRG.out _ HDA.out).mono ?_
                rintro e w10 ⟨v10, g10, rfl, hr10, -, hb10⟩
                have HDB := Lib.hid (HDA.out.kept hb10)
                have HDVB := Lib.hid (HDV.out.kept hb10)
                have HUB := Lib.hid (HUA.out.trans (Upd.of_below hb10 a))
                by_cases h17 : 16 < S1.length
                · obtain ⟨c10, rfl, _, e10⟩ := hr10.cells (i := 16) h17
                  have HA2 : Hid (RES = (true, (Rg.forget (S1.getD 16 (0, 0)).2 ⟨S1, s.old⟩).2)) := by unfold Hid; rw [HADD.out, if_pos h17]
                  have hz17 : (16 : Int) < (S1.length : Int) := by omega
                  have hd17 : decide ((16 : Int) < (S1.length : Int)) = true := by rw [decide_eq_true_eq]; omega
                  have HNW : Hid (N ≤ w10.heap.size) := Nat.le_trans HNN.out.1 HUB.out.size
                  have HFX := Lib.hid (HFG.out w10 HNW.out HDB.out)
                  generalize (S1.getD 16 (0, 0)).2 = la at *
                  unfold u64v at e10
                  clear hr10 hb10 h17
                  generalize S1.length = q at *
                  go_wp2_with fail
                  refine HFX.out.mono ?_
                  rintro e w11 ⟨rfl, ⟨v11, hd11, hn11⟩, hu11⟩
                  have HN11 := Lib.hid hn11
                  have HD11 := Lib.hid hd11
                  have HU11 := Lib.hid hu11
                  clear hd11 hu11 hn11
                  go_wp2
                  go_ret
                  rw [HA2.out]
                  exact ⟨rfl, ⟨v11, HD11.out, Or.inr fun k hk => Nat.le_trans HUB.out.size (HN11.out k hk)⟩, HUB.out.trans HU11.out⟩
                · obtain ⟨base10, c10, rfl, _, _⟩ := hr10.nilOr
                  have HA2 : Hid (RES = (true, ⟨S1, s.old⟩)) := by unfold Hid; rw [HADD.out, if_neg h17]
                  have hd17 : decide ((16 : Int) < (S1.length : Int)) = false := by rw [decide_eq_false_iff_not]; omega
                  clear hr10 hb10 h17
                  generalize S1.length = q at *
                  go_wp2
                  go_ret
                  rw [HA2.out]
                  exact ⟨rfl, ⟨_, HDVB.out, Or.inr HNB.out⟩, HUB.out⟩
              · go_simp
                refine hKK.out _ _ ?_ (fun h10 => ?_)
                · (try dsimp only)
                  exact Below.alloc h1 (Below.size h1) _
                clear hKK KK
                try simp only [Act.put, List.setIfInBounds_toArray, List.set_cons_zero, List.set_cons_succ]
                have hz10 : (w.drew.alloc (.cells #[] 26)).heap.size = w.heap.size + 1 := by simp
                have HV : Hid (Obj ((w.drew.alloc (.cells #[] 26)).alloc (.cells #[.int .u64 (n : Int)] 26)) (w.heap.size + 1) 26 #[u64v n]) := by
                  have := Obj.new (w.drew.alloc (.cells #[] 26)) 26 #[u64v n]
                  rw [hz10] at this; exact this
                have HOx := Lib.hid (HO1.out.alloc (.cells #[.int .u64 (n : Int)] 26))
                refine wpAnyT_one (i := 8) (o := ?_) (by kernel_rfl) ?_ (fun KK hKK => ?_)
                rotate_left
                · simp only [List.getElem?_toArray, List.getElem?_cons_zero, List.getElem?_cons_succ]
                  rfl
                rw [if_pos (by rfl)]
                refine wp_appS _ _ rfl w.heap.size _ ([] : List Nat) rfl HOx.out (L.take (k + 1)) _ rfl (HSH.out _ h10) (by have hh := HLL.out; have hk := HML.out; simp only [List.length_append, List.length_nil, List.length_cons, List.length_take, List.length_drop]; omega) (Below.size h10) ?_
                intro v8 w8 hown8 hgr8
                refine hKK.out _ _ ?_ (fun h8 => ?_)
                · (try dsimp only)
                  exact Below.own h10 HOx.out (Below.size h10) hgr8
                clear hKK KK
                try simp only [Act.put, List.setIfInBounds_toArray, List.set_cons_zero, List.set_cons_succ]
                have HO8 := Lib.hid hown8
                have HV8 : Hid (Obj w8 (w.heap.size + 1) 26 #[u64v n]) := HV.out.grown hgr8 (show some (w.heap.size + 1) ≠ some (w.heap.size) by simp)
                have HV := HV8
                clear hown8 hgr8
                refine wpAnyT_one (i := 11) (o := ?_) (by kernel_rfl) ?_ (fun KK hKK => ?_)
                rotate_left
                · simp only [List.getElem?_toArray, List.getElem?_cons_zero, List.getElem?_cons_succ]
                  rfl
                rw [if_pos (by rfl)]
                refine wp_appS _ _ rfl w.heap.size _ ([] ++ L.take (k + 1)) rfl HO8.out [n] _ rfl (SrcU.one HV.out) (by have hh := HLL.out; have hk := HML.out; simp only [List.length_append, List.length_nil, List.length_cons, List.length_take, List.length_drop]; omega) (Below.size h8) ?_
                intro v11 w11 hown11 hgr11
                refine hKK.out _ _ ?_ (fun h11 => ?_)
                · (try dsimp only)
                  exact Below.own h8 HO8.out (Below.size h8) hgr11
                clear hKK KK
                try simp only [Act.put, List.setIfInBounds_toArray, List.set_cons_zero, List.set_cons_succ]
                have HO11 := Lib.hid hown11
                clear hown11 hgr11
                refine wpAnyT_one (i := 18) (o := ?_) (by kernel_rfl) ?_ (fun KK hKK => ?_)
                rotate_left
                · simp only [List.getElem?_toArray, List.getElem?_cons_zero, List.getElem?_cons_succ]
                  rfl
                rw [if_pos (by rfl)]
                refine wp_appS _ _ rfl w.heap.size _ (([] ++ L.take (k + 1)) ++ [n]) rfl HO11.out (L.drop (k + 1)) _ rfl (HST.out _ h11) (by have hh := HLL.out; have hk := HML.out; simp only [List.length_append, List.length_nil, List.length_cons, List.length_take, List.length_drop]; omega) (Below.size h11) ?_
                intro v18 w18 hown18 hgr18
                refine hKK.out _ _ ?_ (fun h18 => ?_)
                · (try dsimp only)
                  exact Below.own h11 HO11.out (Below.size h11) hgr18
                clear hKK KK
                try simp only [Act.put, List.setIfInBounds_toArray, List.set_cons_zero, List.set_cons_succ]
                have HO18 := Lib.hid hown18
                clear hown18 hgr18
                refine wpAnyT_one (i := 19) (o := ?_) (by kernel_rfl) ?_ (fun KK hKK => ?_)
                rotate_left
                · simp only [List.getElem?_toArray, List.getElem?_cons_zero, List.getElem?_cons_succ]
                  rfl
                go_simp
                refine hKK.out _ _ ?_ (fun h19 => ?_)
                · (try dsimp only)
                  exact h18
                clear hKK KK
                try simp only [Act.put, List.setIfInBounds_toArray, List.set_cons_zero, List.set_cons_succ]
                refine wpAnyT_one (i := 20) (o := ?_) (by kernel_rfl) ?_ (fun KK hKK => ?_)
                rotate_left
                · simp only [List.getElem?_toArray, List.getElem?_cons_zero, List.getElem?_cons_succ]
                  rfl
                go_simp
                refine hKK.out _ _ ?_ (fun h20 => ?_)
                · (try dsimp only)
                  exact h18
                clear hKK KK
                try simp only [Act.put, List.setIfInBounds_toArray, List.set_cons_zero, List.set_cons_succ]
                have HOI : Hid (w18.ownsRow w.heap.size 26 1 v18 (Rg.insL n L).length ((Rg.insL n L).map u64v)) := by have := HO18.out; rw [HINS.out] at this; exact this
                obtain ⟨g9, base9, c9, rfl, _, _, _⟩ := own_u64 HOI.out
                obtain ⟨f9, o9⟩ := HF.out w18 h18
                have z9 := o9.free 0
                have HO9 := Lib.hid o9
                have H18 := Lib.hid h18
                clear o9
                refine wpAnyT_last (o := ?_) (by kernel_rfl) ?_ (fun KK hKK => ?_)
                rotate_left
                · simp only [List.getElem?_toArray, List.getElem?_cons_zero, List.getElem?_cons_succ]
                  rfl
                go_simp
                refine hKK.out _ _ ?_
                clear hKK KK
                try simp only [Act.put, List.setIfInBounds_toArray, List.set_cons_zero, List.set_cons_succ]
                refine wpAnyT_done (by kernel_rfl) ?_ _
                have HDA : Hid (DocAt N (M + 1) (w18.setCell ⟨a, 0, none⟩ (.slice base9 (Rg.insL n L).length c9)) a ⟨S1, s.old⟩) :=
                  ⟨HNN.out.2.1, Rg.insL n L, _, HIL.out, (HO9.out.set 0 _).as rfl, own_base (own_set HOI.out HNN.out.2.2 0 _) HNN.out.1, HT1.out⟩
                have HDV : Hid (DocV N (M + 1) (w18.setCell ⟨a, 0, none⟩ (.slice base9 (Rg.insL n L).length c9)) a ⟨S1, s.old⟩ (.slice base9 (Rg.insL n L).length c9)) :=
                  ⟨HNN.out.2.1, Rg.insL n L, HIL.out, (HO9.out.set 0 _).as rfl, own_base (own_set HOI.out HNN.out.2.2 0 _) HNN.out.1, HT1.out⟩
                have HNB : Hid (∀ k, (Value.slice base9 (Rg.insL n L).length c9).ownBlock = some k → w.heap.size ≤ k) := fun k hk => (HOI.out.lt k hk).1
                have HUA : Hid (Upd a w (w18.setCell ⟨a, 0, none⟩ (.slice base9 (Rg.insL n L).length c9))) := (Upd.of_below H18.out a).set 0 _
                clear f9 z9
                generalize w18.setCell ⟨a, 0, none⟩ (.slice base9 (Rg.insL n L).length c9) = W9 at *
                go_wp2_with fail
                refine (HRG.out _ HDA.out).mono ?_
                rintro e w10 ⟨v10, g10, rfl, hr10, -, hb10⟩
                have HDB := Lib.hid (HDA.out.kept hb10)
                have HDVB := Lib.hid (HDV.out.kept hb10)
                have HUB := Lib.hid (HUA.out.trans (Upd.of_below hb10 a))
                by_cases h17 : 16 < S1.length
                · obtain ⟨c10, rfl, _, e10⟩ := hr10.cells (i := 16) h17
                  have HA2 : Hid (RES = (true, (Rg.forget (S1.getD 16 (0, 0)).2 ⟨S1, s.old⟩).2)) := by unfold Hid; rw [HADD.out, if_pos h17]
                  have hz17 : (16 : Int) < (S1.length : Int) := by omega
                  have hd17 : decide ((16 : Int) < (S1.length : Int)) = true := by rw [decide_eq_true_eq]; omega
                  have HNW : Hid (N ≤ w10.heap.size) := Nat.le_trans HNN.out.1 HUB.out.size
                  have HFX := Lib.hid (HFG.out w10 HNW.out HDB.out)
                  generalize (S1.getD 16 (0, 0)).2 = la at *
                  unfold u64v at e10
                  clear hr10 hb10 h17
                  generalize S1.length = q at *
                  go_wp2_with fail
                  refine HFX.out.mono ?_
                  rintro e w11 ⟨rfl, ⟨v11, hd11, hn11⟩, hu11⟩
                  have HN11 := Lib.hid hn11
                  have HD11 := Lib.hid hd11
                  have HU11 := Lib.hid hu11
                  clear hd11 hu11 hn11
                  go_wp2
                  go_ret
                  rw [HA2.out]
                  exact ⟨rfl, ⟨v11, HD11.out, Or.inr fun k hk => Nat.le_trans HUB.out.size (HN11.out k hk)⟩, HUB.out.trans HU11.out⟩
                · obtain ⟨base10, c10, rfl, _, _⟩ := hr10.nilOr
                  have HA2 : Hid (RES = (true, ⟨S1, s.old⟩)) := by unfold Hid; rw [HADD.out, if_neg h17]
                  have hd17 : decide ((16 : Int) < (S1.length : Int)) = false := by rw [decide_eq_false_iff_not]; omega
                  clear hr10 hb10 h17
                  generalize S1.length = q at *
                  go_wp2
                  go_ret
                  rw [HA2.out]
                  exact ⟨rfl, ⟨_, HDVB.out, Or.inr HNB.out⟩, HUB.out⟩
            · go_simp
              refine hKK.out _ _ ?_ (fun h10 => ?_)
              · (try dsimp only)
                exact Below.alloc hHeld (Below.size hHeld) _
              clear hKK KK
              try simp only [Act.put, List.setIfInBounds_toArray, List.set_cons_zero, List.set_cons_succ]
              have hz10 : w.drew.heap.size = w.heap.size := by simp
              have HV : Hid (Obj (w.drew.alloc (.cells #[.int .u64 (n : Int)] 26)) (w.heap.size) 26 #[u64v n]) := by
                have := Obj.new w.drew 26 #[u64v n]
                rw [hz10] at this; exact this
              refine wpAnyT_one (i := 1) (o := ?_) (by kernel_rfl) ?_ (fun KK hKK => ?_)
              rotate_left
              · simp only [List.getElem?_toArray, List.getElem?_cons_zero, List.getElem?_cons_succ]
                rfl
              go_simp
              refine hKK.out _ _ ?_ (fun h1 => ?_)
              · (try dsimp only)
                exact Below.alloc h10 (Below.size h10) _
              clear hKK KK
              try simp only [Act.put, List.setIfInBounds_toArray, List.set_cons_zero, List.set_cons_succ]
              have hz1 : (w.drew.alloc (.cells #[.int .u64 (n : Int)] 26)).heap.size = w.heap.size + 1 := by simp
              have HO1 : Hid (((w.drew.alloc (.cells #[.int .u64 (n : Int)] 26)).alloc (.cells #[] 26)).ownsRow w.heap.size 26 1 (.slice (some ⟨w.heap.size + 1, 0, none⟩) 0 0) ([] : List Nat).length (([] : List Nat).map u64v)) := by
                have := World.ownsRow_made (base := w.heap.size) (e := 26) (size := 1) (w.drew.alloc (.cells #[.int .u64 (n : Int)] 26)) #[] 0 (Below.size h10) (Nat.zero_le _) (by simp)
                rw [hz1] at this; exact this
              have HV1 : Hid (Obj ((w.drew.alloc (.cells #[.int .u64 (n : Int)] 26)).alloc (.cells #[] 26)) (w.heap.size) 26 #[u64v n]) := HV.out.alloc _
              have HV := HV1
              refine wpAnyT_one (i := 8) (o := ?_) (by kernel_rfl) ?_ (fun KK hKK => ?_)
              rotate_left
              · simp only [List.getElem?_toArray, List.getElem?_cons_zero, List.getElem?_cons_succ]
                rfl
              rw [if_pos (by rfl)]
              refine wp_appS _ _ rfl w.heap.size _ ([] : List Nat) rfl HO1.out (L.take (k + 1)) _ rfl (HSH.out _ h1) (by have hh := HLL.out; have hk := HML.out; simp only [List.length_append, List.length_nil, List.length_cons, List.length_take, List.length_drop]; omega) (Below.size h1) ?_
              intro v8 w8 hown8 hgr8
              refine hKK.out _ _ ?_ (fun h8 => ?_)
              · (try dsimp only)
                exact Below.own h1 HO1.out (Below.size h1) hgr8
              clear hKK KK
              try simp only [Act.put, List.setIfInBounds_toArray, List.set_cons_zero, List.set_cons_succ]
              have HO8 := Lib.hid hown8
              have HV8 : Hid (Obj w8 (w.heap.size) 26 #[u64v n]) := HV.out.grown hgr8 (show some (w.heap.size) ≠ some (w.heap.size + 1) by simp)
              have HV := HV8
              clear hown8 hgr8
              refine wpAnyT_one (i := 11) (o := ?_) (by kernel_rfl) ?_ (fun KK hKK => ?_)
              rotate_left
              · simp only [List.getElem?_toArray, List.getElem?_cons_zero, List.getElem?_cons_succ]
                rfl
              rw [if_pos (by rfl)]
              refine wp_appS _ _ rfl w.heap.size _ ([] ++ L.take (k + 1)) rfl HO8.out [n] _ rfl (SrcU.one HV.out) (by have hh := HLL.out; have hk := HML.out; simp only [List.length_append, List.length_nil, List.length_cons, List.length_take, List.length_drop]; omega) (Below.size h8) ?_
              intro v11 w11 hown11 hgr11
              refine hKK.out _ _ ?_ (fun h11 => ?_)
              · (try dsimp only)
                exact Below.own h8 HO8.out (Below.size h8) hgr11
              clear hKK KK
              try simp only [Act.put, List.setIfInBounds_toArray, List.set_cons_zero, List.set_cons_succ]
              have HO11 := Lib.hid hown11
              clear hown11 hgr11
              refine wpAnyT_one (i := 18) (o := ?_) (by kernel_rfl) ?_ (fun KK hKK => ?_)
              rotate_left
              · simp only [List.getElem?_toArray, List.getElem?_cons_zero, List.getElem?_cons_succ]
                rfl
              rw [if_pos (by rfl)]
              refine wp_appS _ _ rfl w.heap.size _ (([] ++ L.take (k + 1)) ++ [n]) rfl HO11.out (L.drop (k + 1)) _ rfl (HST.out _ h11) (by have hh := HLL.out; have hk := HML.out; simp only [List.length_append, List.length_nil, List.length_cons, List.length_take, List.length_drop]; omega) (Below.size h11) ?_
              intro v18 w18 hown18 hgr18
              refine hKK.out _ _ ?_ (fun h18 => ?_)
              · (try dsimp only)
                exact Below.own h11 HO11.out (Below.size h11) hgr18
              clear hKK KK
              try simp only [Act.put, List.setIfInBounds_toArray, List.set_cons_zero, List.set_cons_succ]
              have HO18 := Lib.hid hown18
              clear hown18 hgr18
              refine wpAnyT_one (i := 19) (o := ?_) (by kernel_rfl) ?_ (fun KK hKK => ?_)
              rotate_left
              · simp only [List.getElem?_toArray, List.getElem?_cons_zero, List.getElem?_cons_succ]
                rfl
              go_simp
              refine hKK.out _ _ ?_ (fun h19 => ?_)
              · (try dsimp only)
                exact h18
              clear hKK KK
              try simp only [Act.put, List.setIfInBounds_toArray, List.set_cons_zero, List.set_cons_succ]
              refine wpAnyT_one (i := 20) (o := ?_) (by kernel_rfl) ?_ (fun KK hKK => ?_)
              rotate_left
              · simp only [List.getElem?_toArray, List.getElem?_cons_zero, List.getElem?_cons_succ]
                rfl
              go_simp
              refine hKK.out _ _ ?_ (fun h20 => ?_)
              · (try dsimp only)
                exact h18
              clear hKK KK
              try simp only [Act.put, List.setIfInBounds_toArray, List.set_cons_zero, List.set_cons_succ]
              have HOI : Hid (w18.ownsRow w.heap.size 26 1 v18 (Rg.insL n L).length ((Rg.insL n L).map u64v)) := by have := HO18.out; rw [HINS.out] at this; exact this
              obtain ⟨g9, base9, c9, rfl, _, _, _⟩ := own_u64 HOI.out
              obtain ⟨f9, o9⟩ := HF.out w18 h18
              have z9 := o9.free 0
              have HO9 := Lib.hid o9
              have H18 := Lib.hid h18
              clear o9
              refine wpAnyT_last (o := ?_) (by kernel_rfl) ?_ (fun KK hKK => ?_)
              rotate_left
              · simp only [List.getElem?_toArray, List.getElem?_cons_zero, List.getElem?_cons_succ]
                rfl
              go_simp
              refine hKK.out _ _ ?_
              clear hKK KK
              try simp only [Act.put, List.setIfInBounds_toArray, List.set_cons_zero, List.set_cons_succ]
              refine wpAnyT_done (by kernel_rfl) ?_ _
              have HDA : Hid (DocAt N (M + 1) (w18.setCell ⟨a, 0, none⟩ (.slice base9 (Rg.insL n L).length c9)) a ⟨S1, s.old⟩) :=
                ⟨HNN.out.2.1, Rg.insL n L, _, HIL.out, (HO9.out.set 0 _).as rfl, own_base (own_set HOI.out HNN.out.2.2 0 _) HNN.out.1, HT1.out⟩
              have HDV : Hid (DocV N (M + 1) (w18.setCell ⟨a, 0, none⟩ (.slice base9 (Rg.insL n L).length c9)) a ⟨S1, s.old⟩ (.slice base9 (Rg.insL n L).length c9)) :=
                ⟨HNN.out.2.1, Rg.insL n L, HIL.out, (HO9.out.set 0 _).as rfl, own_base (own_set HOI.out HNN.out.2.2 0 _) HNN.out.1, HT1.out⟩
              have HNB : Hid (∀ k, (Value.slice base9 (Rg.insL n L).length c9).ownBlock = some k → w.heap.size ≤ k) := fun k hk => (HOI.out.lt k hk).1
              have HUA : Hid (Upd a w (w18.setCell ⟨a, 0, none⟩ (.slice base9 (Rg.insL n L).length c9))) := (Upd.of_below H18.out a).set 0 _
              clear f9 z9
              generalize w18.setCell ⟨a, 0, none⟩ (.slice base9 (Rg.insL n L).length c9) = W9 at *
              go_wp2_with fail
              refine (HRG.out _ HDA.out).mono ?_
              rintro e w10 ⟨v10, g10, rfl, hr10, -, hb10⟩
              have HDB := Lib.hid (HDA.out.kept hb10)
              have HDVB := Lib.hid (HDV.out.kept hb10)
              have HUB := Lib.hid (HUA.out.trans (Upd.of_below hb10 a))
              by_cases h17 : 16 < S1.length
              · obtain ⟨c10, rfl, _, e10⟩ := hr10.cells (i := 16) h17
                have HA2 : Hid (RES = (true, (Rg.forget (S1.getD 16 (0, 0)).2 ⟨S1, s.old⟩).2)) := by unfold Hid; rw [HADD.out, if_pos h17]
                have hz17 : (16 : Int) < (S1.length : Int) := by omega
                have hd17 : decide ((16 : Int) < (S1.length : Int)) = true := by rw [decide_eq_true_eq]; omega
                have HNW : Hid (N ≤ w10.heap.size) := Nat.le_trans HNN.out.1 HUB.out.size
                have HFX := Lib.hid (HFG.out w10 HNW.out HDB.out)
                generalize (S1.getD 16 (0, 0)).2 = la at *
                unfold u64v at e10
                clear hr10 hb10 h17
                generalize S1.length = q at *
                go_wp2_with fail
                refine HFX.out.mono ?_
                rintro e w11 ⟨rfl, ⟨v11, hd11, hn11⟩, hu11⟩
                have HN11 := Lib.hid hn11
                have HD11 := Lib.hid hd11
                have HU11 := Lib.hid hu11
                clear hd11 hu11 hn11
                go_wp2
                go_ret
                rw [HA2.out]
                exact ⟨rfl, ⟨v11, HD11.out, Or.inr fun k hk => Nat.le_trans HUB.out.size (HN11.out k hk)⟩, HUB.out.trans HU11.out⟩
              · obtain ⟨base10, c10, rfl, _, _⟩ := hr10.nilOr
                have HA2 : Hid (RES = (true, ⟨S1, s.old⟩)) := by unfold Hid; rw [HADD.out, if_neg h17]
                have hd17 : decide ((16 : Int) < (S1.length : Int)) = false := by rw [decide_eq_false_iff_not]; omega
                clear hr10 hb10 h17
                generalize S1.length = q at *
                go_wp2
                go_ret
                rw [HA2.out]
                exact ⟨rfl, ⟨_, HDVB.out, Or.inr HNB.out⟩, HUB.out⟩
        · have HST : Hid (∀ W, Below w.heap.size w W → SrcU W (.slice (some ⟨gb, P, none⟩) (ml - P) (c - P)) (L.drop P)) := fun W hb => by
            refine Or.inr ⟨⟨gb, P, none⟩, c - P, by rw [HDR.out], fun j u hj => ?_⟩
            rw [Addr.add_mid]
            rw [List.getElem?_map, List.getElem?_drop] at hj
            have hlt : P + j < ml := by
              rcases Nat.lt_or_ge (P + j) ml with h | h
              · exact h
              · rw [List.getElem?_eq_none (by rw [HML.out]; exact h)] at hj; cases hj
            rw [hgg (P + j) hlt, (HC.out W hb (P + j) hlt).2]
            rw [List.getElem?_eq_getElem (by rw [HML.out]; omega)] at hj
            simp only [Option.map_some, Option.some.injEq] at hj
            rw [← hj, List.getD_eq_getElem?_getD, List.getElem?_eq_getElem (by rw [HML.out]; omega)]
            rfl
          have hcm2 : ¬ c = P := fun h => hcP h.symm
          rcases Nat.eq_zero_or_pos P with hc0 | hcp
          · subst hc0
            go_wp2
            refine wp_region_T 21 (fun w' => Below w.heap.size w w') (by kernel_rfl) (below_drewN (Below.refl _ _) 1) (fun hHeld => ?_)
            refine wpAnyT_take (i := 0) (oi := ?_) (v := ?_) ?_ ?_ ?_ ?_ ?_ ?_ ?_ (by assumption) ?_
            rotate_left 2
            · simp only [List.getElem?_toArray, List.getElem?_cons_zero, List.getElem?_cons_succ]
              rfl
            · kernel_rfl
            · kernel_rfl
            · kernel_rfl
            · kernel_rfl
            · exact fun _ _ _ h => h
            · refine Or.inl ⟨by rfl, ?_⟩
              intro w hSw
              (try dsimp only at hSw)
              go_simp
              all_goals with_reducible rfl
            simp only [Act.put, List.setIfInBounds_toArray, List.set_cons_zero, List.set_cons_succ]
            refine wpAnyT_take (i := 2) (oi := ?_) (v := ?_) ?_ ?_ ?_ ?_ ?_ ?_ ?_ (by assumption) ?_
            rotate_left 2
            · simp only [List.getElem?_toArray, List.getElem?_cons_zero, List.getElem?_cons_succ]
              rfl
            · kernel_rfl
            · kernel_rfl
            · kernel_rfl
            · kernel_rfl
            · exact fun _ _ _ h => h
            · refine Or.inl ⟨by rfl, ?_⟩
              intro w hSw
              (try dsimp only at hSw)
              go_simp
              all_goals with_reducible rfl
            simp only [Act.put, List.setIfInBounds_toArray, List.set_cons_zero, List.set_cons_succ]
            refine wpAnyT_take (i := 3) (oi := ?_) (v := ?_) ?_ ?_ ?_ ?_ ?_ ?_ ?_ (by assumption) ?_
            rotate_left 2
            · simp only [List.getElem?_toArray, List.getElem?_cons_zero, List.getElem?_cons_succ]
              rfl
            · kernel_rfl
            · kernel_rfl
            · kernel_rfl
            · kernel_rfl
            · exact fun _ _ _ h => h
            · refine Or.inl ⟨by rfl, ?_⟩
              intro w hSw
              (try dsimp only at hSw)
              go_simp
              all_goals with_reducible rfl
            simp only [Act.put, List.setIfInBounds_toArray, List.set_cons_zero, List.set_cons_succ]
            refine wpAnyT_take (i := 4) (oi := ?_) (v := ?_) ?_ ?_ ?_ ?_ ?_ ?_ ?_ (by assumption) ?_
            rotate_left 2
            · simp only [List.getElem?_toArray, List.getElem?_cons_zero, List.getElem?_cons_succ]
              rfl
            · kernel_rfl
            · kernel_rfl
            · kernel_rfl
            · kernel_rfl
            · exact fun _ _ _ h => h
            · refine Or.inl ⟨by rfl, ?_⟩
              intro w hSw
              (try dsimp only at hSw)
              go_simp
              all_goals with_reducible rfl
            simp only [Act.put, List.setIfInBounds_toArray, List.set_cons_zero, List.set_cons_succ]
            refine wpAnyT_take (i := 5) (oi := ?_) (v := ?_) ?_ ?_ ?_ ?_ ?_ ?_ ?_ (by assumption) ?_
            rotate_left 2
            · simp only [List.getElem?_toArray, List.getElem?_cons_zero, List.getElem?_cons_succ]
              rfl
            · kernel_rfl
            · kernel_rfl
            · kernel_rfl
            · kernel_rfl
            · exact fun _ _ _ h => h
            · refine Or.inl ⟨by rfl, ?_⟩
              intro w' hSw
              have q := (HF.out w' hSw).1
              go_simp
              all_goals with_reducible rfl
            simp only [Act.put, List.setIfInBounds_toArray, List.set_cons_zero, List.set_cons_succ]
            refine wpAnyT_take (i := 6) (oi := ?_) (v := ?_) ?_ ?_ ?_ ?_ ?_ ?_ ?_ (by assumption) ?_
            rotate_left 2
            · simp only [List.getElem?_toArray, List.getElem?_cons_zero, List.getElem?_cons_succ]
              rfl
            · kernel_rfl
            · kernel_rfl
            · kernel_rfl
            · kernel_rfl
            · exact fun _ _ _ h => h
            · refine Or.inl ⟨by rfl, ?_⟩
              intro w hSw
              (try dsimp only at hSw)
              go_simp
              all_goals with_reducible rfl
            simp only [Act.put, List.setIfInBounds_toArray, List.set_cons_zero, List.set_cons_succ]
            refine wpAnyT_take (i := 7) (oi := ?_) (v := ?_) ?_ ?_ ?_ ?_ ?_ ?_ ?_ (by assumption) ?_
            rotate_left 2
            · simp only [List.getElem?_toArray, List.getElem?_cons_zero, List.getElem?_cons_succ]
              rfl
            · kernel_rfl
            · kernel_rfl
            · kernel_rfl
            · kernel_rfl
            · exact fun _ _ _ h => h
            · refine Or.inl ⟨by rfl, ?_⟩
              intro w hSw
              (try dsimp only at hSw)
              go_simp
              all_goals with_reducible rfl
            simp only [Act.put, List.setIfInBounds_toArray, List.set_cons_zero, List.set_cons_succ]
            refine wpAnyT_take (i := 9) (oi := ?_) (v := ?_) ?_ ?_ ?_ ?_ ?_ ?_ ?_ (by assumption) ?_
            rotate_left 2
            · simp only [List.getElem?_toArray, List.getElem?_cons_zero, List.getElem?_cons_succ]
              rfl
            · kernel_rfl
            · kernel_rfl
            · kernel_rfl
            · kernel_rfl
            · exact fun _ _ _ h => h
            · refine Or.inl ⟨by rfl, ?_⟩
              intro w hSw
              (try dsimp only at hSw)
              go_simp
              all_goals with_reducible rfl
            simp only [Act.put, List.setIfInBounds_toArray, List.set_cons_zero, List.set_cons_succ]
            refine wpAnyT_take (i := 12) (oi := ?_) (v := ?_) ?_ ?_ ?_ ?_ ?_ ?_ ?_ (by assumption) ?_
            rotate_left 2
            · simp only [List.getElem?_toArray, List.getElem?_cons_zero, List.getElem?_cons_succ]
              rfl
            · kernel_rfl
            · kernel_rfl
            · kernel_rfl
            · kernel_rfl
            · exact fun _ _ _ h => h
            · refine Or.inl ⟨by rfl, ?_⟩
              intro w hSw
              (try dsimp only at hSw)
              go_simp
              all_goals with_reducible rfl
            simp only [Act.put, List.setIfInBounds_toArray, List.set_cons_zero, List.set_cons_succ]
            refine wpAnyT_take (i := 13) (oi := ?_) (v := ?_) ?_ ?_ ?_ ?_ ?_ ?_ ?_ (by assumption) ?_
            rotate_left 2
            · simp only [List.getElem?_toArray, List.getElem?_cons_zero, List.getElem?_cons_succ]
              rfl
            · kernel_rfl
            · kernel_rfl
            · kernel_rfl
            · kernel_rfl
            · exact fun _ _ _ h => h
            · refine Or.inl ⟨by rfl, ?_⟩
              intro w hSw
              (try dsimp only at hSw)
              go_simp
              all_goals with_reducible rfl
            simp only [Act.put, List.setIfInBounds_toArray, List.set_cons_zero, List.set_cons_succ]
            refine wpAnyT_take (i := 14) (oi := ?_) (v := ?_) ?_ ?_ ?_ ?_ ?_ ?_ ?_ (by assumption) ?_
            rotate_left 2
            · simp only [List.getElem?_toArray, List.getElem?_cons_zero, List.getElem?_cons_succ]
              rfl
            · kernel_rfl
            · kernel_rfl
            · kernel_rfl
            · kernel_rfl
            · exact fun _ _ _ h => h
            · refine Or.inl ⟨by rfl, ?_⟩
              intro w hSw
              (try dsimp only at hSw)
              go_simp
              all_goals with_reducible rfl
            simp only [Act.put, List.setIfInBounds_toArray, List.set_cons_zero, List.set_cons_succ]
            refine wpAnyT_take (i := 15) (oi := ?_) (v := ?_) ?_ ?_ ?_ ?_ ?_ ?_ ?_ (by assumption) ?_
            rotate_left 2
            · simp only [List.getElem?_toArray, List.getElem?_cons_zero, List.getElem?_cons_succ]
              rfl
            · kernel_rfl
            · kernel_rfl
            · kernel_rfl
            · kernel_rfl
            · exact fun _ _ _ h => h
            · refine Or.inl ⟨by rfl, ?_⟩
              intro w' hSw
              have q := (HF.out w' hSw).1
              go_simp
              all_goals with_reducible rfl
            simp only [Act.put, List.setIfInBounds_toArray, List.set_cons_zero, List.set_cons_succ]
            refine wpAnyT_take (i := 16) (oi := ?_) (v := ?_) ?_ ?_ ?_ ?_ ?_ ?_ ?_ (by assumption) ?_
            rotate_left 2
            · simp only [List.getElem?_toArray, List.getElem?_cons_zero, List.getElem?_cons_succ]
              rfl
            · kernel_rfl
            · kernel_rfl
            · kernel_rfl
            · kernel_rfl
            · exact fun _ _ _ h => h
            · refine Or.inl ⟨by rfl, ?_⟩
              intro w hSw
              (try dsimp only at hSw)
              go_simp
              all_goals with_reducible rfl
            simp only [Act.put, List.setIfInBounds_toArray, List.set_cons_zero, List.set_cons_succ]
            refine wpAnyT_take (i := 17) (oi := ?_) (v := ?_) ?_ ?_ ?_ ?_ ?_ ?_ ?_ (by assumption) ?_
            rotate_left 2
            · simp only [List.getElem?_toArray, List.getElem?_cons_zero, List.getElem?_cons_succ]
              rfl
            · kernel_rfl
            · kernel_rfl
            · kernel_rfl
            · kernel_rfl
            · exact fun _ _ _ h => h
            · refine Or.inl ⟨by rfl, ?_⟩
              intro w hSw
              (try dsimp only at hSw)
              go_simp
              all_goals with_reducible rfl
            simp only [Act.put, List.setIfInBounds_toArray, List.set_cons_zero, List.set_cons_succ]
            refine wpAnyT_two (i := 1) (j := 10) (oi := ?_) (oj := ?_) (by kernel_rfl) ?_ ?_ (fun KK hKK => ?_) (fun KK hKK => ?_)
            rotate_left 2
            · simp only [List.getElem?_toArray, List.getElem?_cons_zero, List.getElem?_cons_succ]
              rfl
            · simp only [List.getElem?_toArray, List.getElem?_cons_zero, List.getElem?_cons_succ]
              rfl
            · go_simp
              refine hKK.out _ _ ?_ (fun h1 => ?_)
              · (try dsimp only)
                exact Below.alloc hHeld (Below.size hHeld) _
              clear hKK KK
              try simp only [Act.put, List.setIfInBounds_toArray, List.set_cons_zero, List.set_cons_succ]
              have hz1 : w.drew.heap.size = w.heap.size := by simp
              have HO1 : Hid ((w.drew.alloc (.cells #[] 26)).ownsRow w.heap.size 26 1 (.slice (some ⟨w.heap.size, 0, none⟩) 0 0) ([] : List Nat).length (([] : List Nat).map u64v)) := by
                have := World.ownsRow_made (base := w.heap.size) (e := 26) (size := 1) w.drew #[] 0 (Below.size hHeld) (Nat.zero_le _) (by simp)
                rw [hz1] at this; exact this
              refine wpAnyT_two (i := 8) (j := 10) (oi := ?_) (oj := ?_) (by kernel_rfl) ?_ ?_ (fun KK hKK => ?_) (fun KK hKK => ?_)
              rotate_left 2
              · simp only [List.getElem?_toArray, List.getElem?_cons_zero, List.getElem?_cons_succ]
                rfl
              · simp only [List.getElem?_toArray, List.getElem?_cons_zero, List.getElem?_cons_succ]
                rfl
              · rw [if_pos (by rfl)]
                refine wp_appS _ _ rfl w.heap.size _ ([] : List Nat) rfl HO1.out (L.take 0) _ rfl (HSH.out _ h1) (by have hh := HLL.out; have hk := HML.out; simp only [List.length_append, List.length_nil, List.length_cons, List.length_take, List.length_drop]; omega) (Below.size h1) ?_
                intro v8 w8 hown8 hgr8
                refine hKK.out _ _ ?_ (fun h8 => ?_)
                · (try dsimp only)
                  exact Below.own h1 HO1.out (Below.size h1) hgr8
                clear hKK KK
                try simp only [Act.put, List.setIfInBounds_toArray, List.set_cons_zero, List.set_cons_succ]
                have HO8 := Lib.hid hown8
                clear hown8 hgr8
                refine wpAnyT_one (i := 10) (o := ?_) (by kernel_rfl) ?_ (fun KK hKK => ?_)
                rotate_left
                · simp only [List.getElem?_toArray, List.getElem?_cons_zero, List.getElem?_cons_succ]
                  rfl
                go_simp
                refine hKK.out _ _ ?_ (fun h10 => ?_)
                · (try dsimp only)
                  exact Below.alloc h8 (Below.size h8) _
                clear hKK KK
                try simp only [Act.put, List.setIfInBounds_toArray, List.set_cons_zero, List.set_cons_succ]
                have hz10 : w8.heap.size = w8.heap.size := by simp
                have HV : Hid (Obj (w8.alloc (.cells #[.int .u64 (n : Int)] 26)) (w8.heap.size) 26 #[u64v n]) := by
                  have := Obj.new w8 26 #[u64v n]
                  rw [hz10] at this; exact this
                have HOx := Lib.hid (HO8.out.alloc (.cells #[.int .u64 (n : Int)] 26))
                refine wpAnyT_one (i := 11) (o := ?_) (by kernel_rfl) ?_ (fun KK hKK => ?_)
                rotate_left
                · simp only [List.getElem?_toArray, List.getElem?_cons_zero, List.getElem?_cons_succ]
                  rfl
                rw [if_pos (by rfl)]
                refine wp_appS _ _ rfl w.heap.size _ ([] ++ L.take 0) rfl HOx.out [n] _ rfl (SrcU.one HV.out) (by have hh := HLL.out; have hk := HML.out; simp only [List.length_append, List.length_nil, List.length_cons, List.length_take, List.length_drop]; omega) (Below.size h10) ?_
                intro v11 w11 hown11 hgr11
                refine hKK.out _ _ ?_ (fun h11 => ?_)
                · (try dsimp only)
                  exact Below.own h10 HOx.out (Below.size h10) hgr11
                clear hKK KK
                try simp only [Act.put, List.setIfInBounds_toArray, List.set_cons_zero, List.set_cons_succ]
                have HO11 := Lib.hid hown11
                clear hown11 hgr11
                refine wpAnyT_one (i := 18) (o := ?_) (by kernel_rfl) ?_ (fun KK hKK => ?_)
                rotate_left
                · simp only [List.getElem?_toArray, List.getElem?_cons_zero, List.getElem?_cons_succ]
                  rfl
                rw [if_pos (by rfl)]
                refine wp_appS _ _ rfl w.heap.size _ (([] ++ L.take 0) ++ [n]) rfl HO11.out (L.drop 0) _ rfl (HST.out _ h11) (by have hh := HLL.out; have hk := HML.out; simp only [List.length_append, List.length_nil, List.length_cons, List.length_take, List.length_drop]; omega) (Below.size h11) ?_
                intro v18 w18 hown18 hgr18
                refine hKK.out _ _ ?_ (fun h18 => ?_)
                · (try dsimp only)
                  exact Below.own h11 HO11.out (Below.size h11) hgr18
                clear hKK KK
                try simp only [Act.put, List.setIfInBounds_toArray, List.set_cons_zero, List.set_cons_succ]
                have HO18 := Lib.hid hown18
                clear hown18 hgr18
                refine wpAnyT_one (i := 19) (o := ?_) (by kernel_rfl) ?_ (fun KK hKK => ?_)
                rotate_left
                · simp only [List.getElem?_toArray, List.getElem?_cons_zero, List.getElem?_cons_succ]
                  rfl
                go_simp
                refine hKK.out _ _ ?_ (fun h19 => ?_)
                · (try dsimp only)
                  exact h18
                clear hKK KK
                try simp only [Act.put, List.setIfInBounds_toArray, List.set_cons_zero, List.set_cons_succ]
                refine wpAnyT_one (i := 20) (o := ?_) (by kernel_rfl) ?_ (fun KK hKK => ?_)
                rotate_left
                · simp only [List.getElem?_toArray, List.getElem?_cons_zero, List.getElem?_cons_succ]
                  rfl
                go_simp
                refine hKK.out _ _ ?_ (fun h20 => ?_)
                · (try dsimp only)
                  exact h18
                clear hKK KK
                try simp only [Act.put, List.setIfInBounds_toArray, List.set_cons_zero, List.set_cons_succ]
                have HOI : Hid (w18.ownsRow w.heap.size 26 1 v18 (Rg.insL n L).length ((Rg.insL n L).map u64v)) := by have := HO18.out; rw [HINS.out] at this; exact this
                obtain ⟨g9, base9, c9, rfl, _, _, _⟩ := own_u64 HOI.out
                obtain ⟨f9, o9⟩ := HF.out w18 h18
                have z9 := o9.free 0
                have HO9 := Lib.hid o9
                have H18 := Lib.hid h18
                clear o9
                refine wpAnyT_last (o := ?_) (by kernel_rfl) ?_ (fun KK hKK => ?_)
                rotate_left
                · simp only [List.getElem?_toArray, List.getElem?_cons_zero, List.getElem?_cons_succ]
                  rfl
                go_simp
                refine hKK.out _ _ ?_
                clear hKK KK
                try simp only [Act.put, List.setIfInBounds_toArray, List.set_cons_zero, List.set_cons_succ]
                refine wpAnyT_done (by kernel_rfl) ?_ _
                have HDA : Hid (DocAt N (M + 1) (w18.setCell ⟨a, 0, none⟩ (.slice base9 (Rg.insL n L).length c9)) a ⟨S1, s.old⟩) :=
                  ⟨HNN.out.2.1, Rg.insL n L, _, HIL.out, (HO9.out.set 0 _).as rfl, own_base (own_set HOI.out HNN.out.2.2 0 _) HNN.out.1, HT1.out⟩
                have HDV : Hid (DocV N (M + 1) (w18.setCell ⟨a, 0, none⟩ (.slice base9 (Rg.insL n L).length c9)) a ⟨S1, s.old⟩ (.slice base9 (Rg.insL n L).length c9)) :=
                  ⟨HNN.out.2.1, Rg.insL n L, HIL.out, (HO9.out.set 0 _).as rfl, own_base (own_set HOI.out HNN.out.2.2 0 _) HNN.out.1, HT1.out⟩
                have HNB : Hid (∀ k, (Value.slice base9 (Rg.insL n L).length c9).ownBlock = some k → w.heap.size ≤ k) := fun k hk => (HOI.out.lt k hk).1
                have HUA : Hid (Upd a w (w18.setCell ⟨a, 0, none⟩ (.slice base9 (Rg.insL n L).length c9))) := (Upd.of_below H18.out a).set 0 _
                clear f9 z9
                generalize w18.setCell ⟨a, 0, none⟩ (.slice base9 (Rg.insL n L).length c9) = W9 at *
                go_wp2_with fail
                refine (HRG.out _ HDA.out).mono ?_
                rintro e w10 ⟨v10, g10, rfl, hr10, -, hb10⟩
                have HDB := Lib.hid (HDA.out.kept hb10)
                have HDVB := Lib.hid (HDV.out.kept hb10)
                have HUB := Lib.hid (HUA.out.trans (Upd.of_below hb10 a))
                by_cases h17 : 16 < S1.length
                · obtain ⟨c10, rfl, _, e10⟩ := hr10.cells (i := 16) h17
                  have HA2 : Hid (RES = (true, (Rg.forget (S1.getD 16 (0, 0)).2 ⟨S1, s.old⟩).2)) := by unfold Hid; rw [HADD.out, if_pos h17]
                  have hz17 : (16 : Int) < (S1.length : Int) := by omega
                  have hd17 : decide ((16 : Int) < (S1.length : Int)) = true := by rw [decide_eq_true_eq]; omega
                  have HNW : Hid (N ≤ w10.heap.size) := Nat.le_trans HNN.out.1 HUB.out.size
                  have HFX := Lib.hid (HFG.out w10 HNW.out HDB.out)
                  generalize (S1.getD 16 (0, 0)).2 = la at *
                  unfold u64v at e10
                  clear hr10 hb10 h17
                  generalize S1.length = q at *
                  go_wp2_with fail
                  refine HFX.out.mono ?_
                  rintro e w11 ⟨rfl, ⟨v11, hd11, hn11⟩, hu11⟩
                  have HN11 := Lib.hid hn11
                  have HD11 := Lib.hid hd11
                  have HU11 := Lib.hid hu11
                  clear hd11 hu11 hn11
                  go_wp2
                  go_ret
                  rw [HA2.out]
                  exact ⟨rfl, ⟨v11, HD11.out, Or.inr fun k hk => Nat.le_trans HUB.out.size (HN11.out k hk)⟩, HUB.out.trans HU11.out⟩
                · obtain ⟨base10, c10, rfl, _, _⟩ := hr10.nilOr
                  have HA2 : Hid (RES = (true, ⟨S1, s.old⟩)) := by unfold Hid; rw [HADD.out, if_neg h17]
                  have hd17 : decide ((16 : Int) < (S1.length : Int)) = false := by rw [decide_eq_false_iff_not]; omega
                  clear hr10 hb10 h17
                  generalize S1.length = q at *
                  go_wp2
                  go_ret
                  rw [HA2.out]
                  exact ⟨rfl, ⟨_, HDVB.out, Or.inr HNB.out⟩, HUB.out⟩
              · go_simp
                refine hKK.out _ _ ?_ (fun h10 => ?_)
                · (try dsimp only)
                  exact Below.alloc h1 (Below.size h1) _
                clear hKK KK
                try simp only [Act.put, List.setIfInBounds_toArray, List.set_cons_zero, List.set_cons_succ]
                have hz10 : (w.drew.alloc (.cells #[] 26)).heap.size = w.heap.size + 1 := by simp
                have HV : Hid (Obj ((w.drew.alloc (.cells #[] 26)).alloc (.cells #[.int .u64 (n : Int)] 26)) (w.heap.size + 1) 26 #[u64v n]) := by
                  have := Obj.new (w.drew.alloc (.cells #[] 26)) 26 #[u64v n]
                  rw [hz10] at this; exact this
                have HOx := Lib.hid (HO1.out.alloc (.cells #[.int .u64 (n : Int)] 26))
                refine wpAnyT_one (i := 8) (o := ?_) (by kernel_rfl) ?_ (fun KK hKK => ?_)
                rotate_left
                · simp only [List.getElem?_toArray, List.getElem?_cons_zero, List.getElem?_cons_succ]
                  rfl
                rw [if_pos (by rfl)]
                refine wp_appS _ _ rfl w.heap.size _ ([] : List Nat) rfl HOx.out (L.take 0) _ rfl (HSH.out _ h10) (by have hh := HLL.out; have hk := HML.out; simp only [List.length_append, List.length_nil, List.length_cons, List.length_take, List.length_drop]; omega) (Below.size h10) ?_
                intro v8 w8 hown8 hgr8
                refine hKK.out _ _ ?_ (fun h8 => ?_)
                · (try dsimp only)
                  exact Below.own h10 HOx.out (Below.size h10) hgr8
                clear hKK KK
                try simp only [Act.put, List.setIfInBounds_toArray, List.set_cons_zero, List.set_cons_succ]
                have HO8 := Lib.hid hown8
                have HV8 : Hid (Obj w8 (w.heap.size + 1) 26 #[u64v n]) := HV.out.grown hgr8 (show some (w.heap.size + 1) ≠ some (w.heap.size) by simp)
                have HV := HV8
                clear hown8 hgr8
                refine wpAnyT_one (i := 11) (o := ?_) (by kernel_rfl) ?_ (fun KK hKK => ?_)
                rotate_left
                · simp only [List.getElem?_toArray, List.getElem?_cons_zero, List.getElem?_cons_succ]
                  rfl
                rw [if_pos (by rfl)]
                refine wp_appS _ _ rfl w.heap.size _ ([] ++ L.take 0) rfl HO8.out [n] _ rfl (SrcU.one HV.out) (by have hh := HLL.out; have hk := HML.out; simp only [List.length_append, List.length_nil, List.length_cons, List.length_take, List.length_drop]; omega) (Below.size h8) ?_
                intro v11 w11 hown11 hgr11
                refine hKK.out _ _ ?_ (fun h11 => ?_)
                · (try dsimp only)
                  exact Below.own h8 HO8.out (Below.size h8) hgr11
                clear hKK KK
                try simp only [Act.put, List.setIfInBounds_toArray, List.set_cons_zero, List.set_cons_succ]
                have HO11 := Lib.hid hown11
                clear hown11 hgr11
                refine wpAnyT_one (i := 18) (o := ?_) (by kernel_rfl) ?_ (fun KK hKK => ?_)
                rotate_left
                · simp only [List.getElem?_toArray, List.getElem?_cons_zero, List.getElem?_cons_succ]
                  rfl
                rw [if_pos (by rfl)]
                refine wp_appS _ _ rfl w.heap.size _ (([] ++ L.take 0) ++ [n]) rfl HO11.out (L.drop 0) _ rfl (HST.out _ h11) (by have hh := HLL.out; have hk := HML.out; simp only [List.length_append, List.length_nil, List.length_cons, List.length_take, List.length_drop]; omega) (Below.size h11) ?_
                intro v18 w18 hown18 hgr18
                refine hKK.out _ _ ?_ (fun h18 => ?_)
                · (try dsimp only)
                  exact Below.own h11 HO11.out (Below.size h11) hgr18
                clear hKK KK
                try simp only [Act.put, List.setIfInBounds_toArray, List.set_cons_zero, List.set_cons_succ]
                have HO18 := Lib.hid hown18
                clear hown18 hgr18
                refine wpAnyT_one (i := 19) (o := ?_) (by kernel_rfl) ?_ (fun KK hKK => ?_)
                rotate_left
                · simp only [List.getElem?_toArray, List.getElem?_cons_zero, List.getElem?_cons_succ]
                  rfl
                go_simp
                refine hKK.out _ _ ?_ (fun h19 => ?_)
                · (try dsimp only)
                  exact h18
                clear hKK KK
                try simp only [Act.put, List.setIfInBounds_toArray, List.set_cons_zero, List.set_cons_succ]
                refine wpAnyT_one (i := 20) (o := ?_) (by kernel_rfl) ?_ (fun KK hKK => ?_)
                rotate_left
                · simp only [List.getElem?_toArray, List.getElem?_cons_zero, List.getElem?_cons_succ]
                  rfl
                go_simp
                refine hKK.out _ _ ?_ (fun h20 => ?_)
                · (try dsimp only)
                  exact h18
                clear hKK KK
                try simp only [Act.put, List.setIfInBounds_toArray, List.set_cons_zero, List.set_cons_succ]
                have HOI : Hid (w18.ownsRow w.heap.size 26 1 v18 (Rg.insL n L).length ((Rg.insL n L).map u64v)) := by have := HO18.out; rw [HINS.out] at this; exact this
                obtain ⟨g9, base9, c9, rfl, _, _, _⟩ := own_u64 HOI.out
                obtain ⟨f9, o9⟩ := HF.out w18 h18
                have z9 := o9.free 0
                have HO9 := Lib.hid o9
                have H18 := Lib.hid h18
                clear o9
                refine wpAnyT_last (o := ?_) (by kernel_rfl) ?_ (fun KK hKK => ?_)
                rotate_left
                · simp only [List.getElem?_toArray, List.getElem?_cons_zero, List.getElem?_cons_succ]
                  rfl
                go_simp
                refine hKK.out _ _ ?_
                clear hKK KK
                try simp only [Act.put, List.setIfInBounds_toArray, List.set_cons_zero, List.set_cons_succ]
                refine wpAnyT_done (by kernel_rfl) ?_ _
                have HDA : Hid (DocAt N (M + 1) (w18.setCell ⟨a, 0, none⟩ (.slice base9 (Rg.insL n L).length c9)) a ⟨S1, s.old⟩) :=
                  ⟨HNN.out.2.1, Rg.insL n L, _, HIL.out, (HO9.out.set 0 _).as rfl, own_base (own_set HOI.out HNN.out.2.2 0 _) HNN.out.1, HT1.out⟩
                have HDV : Hid (DocV N (M + 1) (w18.setCell ⟨a, 0, none⟩ (.slice base9 (Rg.insL n L).length c9)) a ⟨S1, s.old⟩ (.slice base9 (Rg.insL n L).length c9)) :=
                  ⟨HNN.out.2.1, Rg.insL n L, HIL.out, (HO9.out.set 0 _).as rfl, own_base (own_set HOI.out HNN.out.2.2 0 _) HNN.out.1, HT1.out⟩
                have HNB : Hid (∀ k, (Value.slice base9 (Rg.insL n L).length c9).ownBlock = some k → w.heap.size ≤ k) := fun k hk => (HOI.out.lt k hk).1
                have HUA : Hid (Upd a w (w18.setCell ⟨a, 0, none⟩ (.slice base9 (Rg.insL n L).length c9))) := (Upd.of_below H18.out a).set 0 _
                clear f9 z9
                generalize w18.setCell ⟨a, 0, none⟩ (.slice base9 (Rg.insL n L).length c9) = W9 at *
                go_wp2_with fail
                refine (HRG.out _ HDA.out).mono ?_
                rintro e w10 ⟨v10, g10, rfl, hr10, -, hb10⟩
                have HDB := Lib.hid (HDA.out.kept hb10)
                have HDVB := Lib.hid (HDV.out.kept hb10)
                have HUB := Lib.hid (HUA.out.trans (Upd.of_below hb10 a))
                by_cases h17 : 16 < S1.length
                · obtain ⟨c10, rfl, _, e10⟩ := hr10.cells (i := 16) h17
                  have HA2 : Hid (RES = (true, (Rg.forget (S1.getD 16 (0, 0)).2 ⟨S1, s.old⟩).2)) := by unfold Hid; rw [HADD.out, if_pos h17]
                  have hz17 : (16 : Int) < (S1.length : Int) := by omega
                  have hd17 : decide ((16 : Int) < (S1.length : Int)) = true := by rw [decide_eq_true_eq]; omega
                  have HNW : Hid (N ≤ w10.heap.size) := Nat.le_trans HNN.out.1 HUB.out.size
                  have HFX := Lib.hid (HFG.out w10 HNW.out HDB.out)
                  generalize (S1.getD 16 (0, 0)).2 = la at *
                  unfold u64v at e10
                  clear hr10 hb10 h17
                  generalize S1.length = q at *
                  go_wp2_with fail
                  refine HFX.out.mono ?_
                  rintro e w11 ⟨rfl, ⟨v11, hd11, hn11⟩, hu11⟩
                  have HN11 := Lib.hid hn11
                  have HD11 := Lib.hid hd11
                  have HU11 := Lib.hid hu11
                  clear hd11 hu11 hn11
                  go_wp2
                  go_ret
                  rw [HA2.out]
                  exact ⟨rfl, ⟨v11, HD11.out, Or.inr fun k hk => Nat.le_trans HUB.out.size (HN11.out k hk)⟩, HUB.out.trans HU11.out⟩
                · obtain ⟨base10, c10, rfl, _, _⟩ := hr10.nilOr
                  have HA2 : Hid (RES = (true, ⟨S1, s.old⟩)) := by unfold Hid; rw [HADD.out, if_neg h17]
                  have hd17 : decide ((16 : Int) < (S1.length : Int)) = false := by rw [decide_eq_false_iff_not]; omega
                  clear hr10 hb10 h17
                  generalize S1.length = q at *
                  go_wp2
                  go_ret
                  rw [HA2.out]
                  exact ⟨rfl, ⟨_, HDVB.out, Or.inr HNB.out⟩, HUB.out⟩
            · go_simp
              refine hKK.out _ _ ?_ (fun h10 => ?_)
              · (try dsimp only)
                exact Below.alloc hHeld (Below.size hHeld) _
              clear hKK KK
              try simp only [Act.put, List.setIfInBounds_toArray, List.set_cons_zero, List.set_cons_succ]
              have hz10 : w.drew.heap.size = w.heap.size := by simp
              have HV : Hid (Obj (w.drew.alloc (.cells #[.int .u64 (n : Int)] 26)) (w.heap.size) 26 #[u64v n]) := by
                have := Obj.new w.drew 26 #[u64v n]
                rw [hz10] at this; exact this
              refine wpAnyT_one (i := 1) (o := ?_) (by kernel_rfl) ?_ (fun KK hKK => ?_)
              rotate_left
              · simp only [List.getElem?_toArray, List.getElem?_cons_zero, List.getElem?_cons_succ]
                rfl
              go_simp
              refine hKK.out _ _ ?_ (fun h1 => ?_)
              · (try dsimp only)
                exact Below.alloc h10 (Below.size h10) _
              clear hKK KK
              try simp only [Act.put, List.setIfInBounds_toArray, List.set_cons_zero, List.set_cons_succ]
              have hz1 : (w.drew.alloc (.cells #[.int .u64 (n : Int)] 26)).heap.size = w.heap.size + 1 := by simp
              have HO1 : Hid (((w.drew.alloc (.cells #[.int .u64 (n : Int)] 26)).alloc (.cells #[] 26)).ownsRow w.heap.size 26 1 (.slice (some ⟨w.heap.size + 1, 0, none⟩) 0 0) ([] : List Nat).length (([] : List Nat).map u64v)) := by
                have := World.ownsRow_made (base := w.heap.size) (e := 26) (size := 1) (w.drew.alloc (.cells #[.int .u64 (n : Int)] 26)) #[] 0 (Below.size h10) (Nat.zero_le _) (by simp)
                rw [hz1] at this; exact this
              have HV1 : Hid (Obj ((w.drew.alloc (.cells #[.int .u64 (n : Int)] 26)).alloc (.cells #[] 26)) (w.heap.size) 26 #[u64v n]) := HV.out.alloc _
              have HV := HV1
              refine wpAnyT_one (i := 8) (o := ?_) (by kernel_rfl) ?_ (fun KK hKK => ?_)
              rotate_left
              · simp only [List.getElem?_toArray, List.getElem?_cons_zero, List.getElem?_cons_succ]
                rfl
              rw [if_pos (by rfl)]
              refine wp_appS _ _ rfl w.heap.size _ ([] : List Nat) rfl HO1.out (L.take 0) _ rfl (HSH.out _ h1) (by have hh := HLL.out; have hk := HML.out; simp only [List.length_append, List.length_nil, List.length_cons, List.length_take, List.length_drop]; omega) (Below.size h1) ?_
              intro v8 w8 hown8 hgr8
              refine hKK.out _ _ ?_ (fun h8 => ?_)
              · (try dsimp only)
                exact Below.own h1 HO1.out (Below.size h1) hgr8
              clear hKK KK
              try simp only [Act.put, List.setIfInBounds_toArray, List.set_cons_zero, List.set_cons_succ]
              have HO8 := Lib.hid hown8
              have HV8 : Hid (Obj w8 (w.heap.size) 26 #[u64v n]) := HV.out.grown hgr8 (show some (w.heap.size) ≠ some (w.heap.size + 1) by simp)
              have HV := HV8
              clear hown8 hgr8
              refine wpAnyT_one (i := 11) (o := ?_) (by kernel_rfl) ?_ (fun KK hKK => ?_)
              rotate_left
              · simp only [List.getElem?_toArray, List.getElem?_cons_zero, List.getElem?_cons_succ]
                rfl
              rw [if_pos (by rfl)]
              refine wp_appS _ _ rfl w.heap.size _ ([] ++ L.take 0) rfl HO8.out [n] _ rfl (SrcU.one HV.out) (by have hh := HLL.out; have hk := HML.out; simp only [List.length_append, List.length_nil, List.length_cons, List.length_take, List.length_drop]; omega) (Below.size h8) ?_
              intro v11 w11 hown11 hgr11
              refine hKK.out _ _ ?_ (fun h11 => ?_)
              · (try dsimp only)
                exact Below.own h8 HO8.out (Below.size h8) hgr11
              clear hKK KK
              try simp only [Act.put, List.setIfInBounds_toArray, List.set_cons_zero, List.set_cons_succ]
              have HO11 := Lib.hid hown11
              clear hown11 hgr11
              refine wpAnyT_one (i := 18) (o := ?_) (by kernel_rfl) ?_ (fun KK hKK => ?_)
              rotate_left
              · simp only [List.getElem?_toArray, List.getElem?_cons_zero, List.getElem?_cons_succ]
                rfl
              rw [if_pos (by rfl)]
              refine wp_appS _ _ rfl w.heap.size _ (([] ++ L.take 0) ++ [n]) rfl HO11.out (L.drop 0) _ rfl (HST.out _ h11) (by have hh := HLL.out; have hk := HML.out; simp only [List.length_append, List.length_nil, List.length_cons, List.length_take, List.length_drop]; omega) (Below.size h11) ?_
              intro v18 w18 hown18 hgr18
              refine hKK.out _ _ ?_ (fun h18 => ?_)
              · (try dsimp only)
                exact Below.own h11 HO11.out (Below.size h11) hgr18
              clear hKK KK
              try simp only [Act.put, List.setIfInBounds_toArray, List.set_cons_zero, List.set_cons_succ]
              have HO18 := Lib.hid hown18
              clear hown18 hgr18
              refine wpAnyT_one (i := 19) (o := ?_) (by kernel_rfl) ?_ (fun KK hKK => ?_)
              rotate_left
              · simp only [List.getElem?_toArray, List.getElem?_cons_zero, List.getElem?_cons_succ]
                rfl
              go_simp
              refine hKK.out _ _ ?_ (fun h19 => ?_)
              · (try dsimp only)
                exact h18
              clear hKK KK
              try simp only [Act.put, List.setIfInBounds_toArray, List.set_cons_zero, List.set_cons_succ]
              refine wpAnyT_one (i := 20) (o := ?_) (by kernel_rfl) ?_ (fun KK hKK => ?_)
              rotate_left
              · simp only [List.getElem?_toArray, List.getElem?_cons_zero, List.getElem?_cons_succ]
                rfl
              go_simp
              refine hKK.out _ _ ?_ (fun h20 => ?_)
              · (try dsimp only)
                exact h18
              clear hKK KK
              try simp only [Act.put, List.setIfInBounds_toArray, List.set_cons_zero, List.set_cons_succ]
              have HOI : Hid (w18.ownsRow w.heap.size 26 1 v18 (Rg.insL n L).length ((Rg.insL n L).map u64v)) := by have := HO18.out; rw [HINS.out] at this; exact this
              obtain ⟨g9, base9, c9, rfl, _, _, _⟩ := own_u64 HOI.out
              obtain ⟨f9, o9⟩ := HF.out w18 h18
              have z9 := o9.free 0
              have HO9 := Lib.hid o9
              have H18 := Lib.hid h18
              clear o9
              refine wpAnyT_last (o := ?_) (by kernel_rfl) ?_ (fun KK hKK => ?_)
              rotate_left
              · simp only [List.getElem?_toArray, List.getElem?_cons_zero, List.getElem?_cons_succ]
                rfl
              go_simp
              refine hKK.out _ _ ?_
              clear hKK KK
              try simp only [Act.put, List.setIfInBounds_toArray, List.set_cons_zero, List.set_cons_succ]
              refine wpAnyT_done (by kernel_rfl) ?_ _
              have HDA : Hid (DocAt N (M + 1) (w18.setCell ⟨a, 0, none⟩ (.slice base9 (Rg.insL n L).length c9)) a ⟨S1, s.old⟩) :=
                ⟨HNN.out.2.1, Rg.insL n L, _, HIL.out, (HO9.out.set 0 _).as rfl, own_base (own_set HOI.out HNN.out.2.2 0 _) HNN.out.1, HT1.out⟩
              have HDV : Hid (DocV N (M + 1) (w18.setCell ⟨a, 0, none⟩ (.slice base9 (Rg.insL n L).length c9)) a ⟨S1, s.old⟩ (.slice base9 (Rg.insL n L).length c9)) :=
                ⟨HNN.out.2.1, Rg.insL n L, HIL.out, (HO9.out.set 0 _).as rfl, own_base (own_set HOI.out HNN.out.2.2 0 _) HNN.out.1, HT1.out⟩
              have HNB : Hid (∀ k, (Value.slice base9 (Rg.insL n L).length c9).ownBlock = some k → w.heap.size ≤ k) := fun k hk => (HOI.out.lt k hk).1
              have HUA : Hid (Upd a w (w18.setCell ⟨a, 0, none⟩ (.slice base9 (Rg.insL n L).length c9))) := (Upd.of_below H18.out a).set 0 _
              clear f9 z9
              generalize w18.setCell ⟨a, 0, none⟩ (.slice base9 (Rg.insL n L).length c9) = W9 at *
              go_wp2_with fail
              refine (HRG.out _ HDA.out).mono ?_
              rintro e w10 ⟨v10, g10, rfl, hr10, -, hb10⟩
              have HDB := Lib.hid (HDA.out.kept hb10)
              have HDVB := Lib.hid (HDV.out.kept hb10)
              have HUB := Lib.hid (HUA.out.trans (Upd.of_below hb10 a))
              by_cases h17 : 16 < S1.length
              · obtain ⟨c10, rfl, _, e10⟩ := hr10.cells (i := 16) h17
                have HA2 : Hid (RES = (true, (Rg.forget (S1.getD 16 (0, 0)).2 ⟨S1, s.old⟩).2)) := by unfold Hid; rw [HADD.out, if_pos h17]
                have hz17 : (16 : Int) < (S1.length : Int) := by omega
                have hd17 : decide ((16 : Int) < (S1.length : Int)) = true := by rw [decide_eq_true_eq]; omega
                have HNW : Hid (N ≤ w10.heap.size) := Nat.le_trans HNN.out.1 HUB.out.size
                have HFX := Lib.hid (HFG.out w10 HNW.out HDB.out)
                generalize (S1.getD 16 (0, 0)).2 = la at *
                unfold u64v at e10
                clear hr10 hb10 h17
                generalize S1.length = q at *
                go_wp2_with fail
                refine HFX.out.mono ?_
                rintro e w11 ⟨rfl, ⟨v11, hd11, hn11⟩, hu11⟩
                have HN11 := Lib.hid hn11
                have HD11 := Lib.hid hd11
                have HU11 := Lib.hid hu11
                clear hd11 hu11 hn11
                go_wp2
                go_ret
                rw [HA2.out]
                exact ⟨rfl, ⟨v11, HD11.out, Or.inr fun k hk => Nat.le_trans HUB.out.size (HN11.out k hk)⟩, HUB.out.trans HU11.out⟩
              · obtain ⟨base10, c10, rfl, _, _⟩ := hr10.nilOr
                have HA2 : Hid (RES = (true, ⟨S1, s.old⟩)) := by unfold Hid; rw [HADD.out, if_neg h17]
                have hd17 : decide ((16 : Int) < (S1.length : Int)) = false := by rw [decide_eq_false_iff_not]; omega
                clear hr10 hb10 h17
                generalize S1.length = q at *
                go_wp2
                go_ret
                rw [HA2.out]
                exact ⟨rfl, ⟨_, HDVB.out, Or.inr HNB.out⟩, HUB.out⟩
          · obtain ⟨k, rfl⟩ : ∃ k, P = k + 1 := ⟨P - 1, by omega⟩
            obtain ⟨hbg, e1⟩ := HC.out w (Below.refl _ _) k (by omega)
            cases hbg
            have hlo := HPL.out k (by omega)
            generalize L.getD k 0 = x at *
            have hd : decide (n < x) = false := by rw [decide_eq_false_iff_not]; omega
            have k2 : (k : Int) + 1 - 1 = (k : Int) := by omega
            have k5 : (k : Int) < (ml : Int) := by omega
            have k6 : (0 : Int) < (k : Int) + 1 := by omega
            have k7 : ((k : Int) + 1).toNat = k + 1 := by omega
            have k8 : (0 : Int) ≤ (k : Int) + 1 := by omega
            have k9 : (k : Int) + 1 ≤ (c : Int) := by omega
            have k10 : (k : Int) + 1 ≤ (ml : Int) := by omega
            clear hlo
            go_wp2
            refine wp_region_T 21 (fun w' => Below w.heap.size w w') (by kernel_rfl) (below_drewN (Below.refl _ _) 1) (fun hHeld => ?_)
            refine wpAnyT_take (i := 0) (oi := ?_) (v := ?_) ?_ ?_ ?_ ?_ ?_ ?_ ?_ (by assumption) ?_
            rotate_left 2
            · simp only [List.getElem?_toArray, List.getElem?_cons_zero, List.getElem?_cons_succ]
              rfl
            · kernel_rfl
            · kernel_rfl
            · kernel_rfl
            · kernel_rfl
            · exact fun _ _ _ h => h
            · refine Or.inl ⟨by rfl, ?_⟩
              intro w hSw
              (try dsimp only at hSw)
              go_simp
              all_goals with_reducible rfl
            simp only [Act.put, List.setIfInBounds_toArray, List.set_cons_zero, List.set_cons_succ]
            refine wpAnyT_take (i := 2) (oi := ?_) (v := ?_) ?_ ?_ ?_ ?_ ?_ ?_ ?_ (by assumption) ?_
            rotate_left 2
            · simp only [List.getElem?_toArray, List.getElem?_cons_zero, List.getElem?_cons_succ]
              rfl
            · kernel_rfl
            · kernel_rfl
            · kernel_rfl
            · kernel_rfl
            · exact fun _ _ _ h => h
            · refine Or.inl ⟨by rfl, ?_⟩
              intro w hSw
              (try dsimp only at hSw)
              go_simp
              all_goals with_reducible rfl
            simp only [Act.put, List.setIfInBounds_toArray, List.set_cons_zero, List.set_cons_succ]
            refine wpAnyT_take (i := 3) (oi := ?_) (v := ?_) ?_ ?_ ?_ ?_ ?_ ?_ ?_ (by assumption) ?_
            rotate_left 2
            · simp only [List.getElem?_toArray, List.getElem?_cons_zero, List.getElem?_cons_succ]
              rfl
            · kernel_rfl
            · kernel_rfl
            · kernel_rfl
            · kernel_rfl
            · exact fun _ _ _ h => h
            · refine Or.inl ⟨by rfl, ?_⟩
              intro w hSw
              (try dsimp only at hSw)
              go_simp
              all_goals with_reducible rfl
            simp only [Act.put, List.setIfInBounds_toArray, List.set_cons_zero, List.set_cons_succ]
            refine wpAnyT_take (i := 4) (oi := ?_) (v := ?_) ?_ ?_ ?_ ?_ ?_ ?_ ?_ (by assumption) ?_
            rotate_left 2
            · simp only [List.getElem?_toArray, List.getElem?_cons_zero, List.getElem?_cons_succ]
              rfl
            · kernel_rfl
            · kernel_rfl
            · kernel_rfl
            · kernel_rfl
            · exact fun _ _ _ h => h
            · refine Or.inl ⟨by rfl, ?_⟩
              intro w hSw
              (try dsimp only at hSw)
              go_simp
              all_goals with_reducible rfl
            simp only [Act.put, List.setIfInBounds_toArray, List.set_cons_zero, List.set_cons_succ]
            refine wpAnyT_take (i := 5) (oi := ?_) (v := ?_) ?_ ?_ ?_ ?_ ?_ ?_ ?_ (by assumption) ?_
            rotate_left 2
            · simp only [List.getElem?_toArray, List.getElem?_cons_zero, List.getElem?_cons_succ]
              rfl
            · kernel_rfl
            · kernel_rfl
            · kernel_rfl
            · kernel_rfl
            · exact fun _ _ _ h => h
            · refine Or.inl ⟨by rfl, ?_⟩
              intro w' hSw
              have q := (HF.out w' hSw).1
              go_simp
              all_goals with_reducible rfl
            simp only [Act.put, List.setIfInBounds_toArray, List.set_cons_zero, List.set_cons_succ]
            refine wpAnyT_take (i := 6) (oi := ?_) (v := ?_) ?_ ?_ ?_ ?_ ?_ ?_ ?_ (by assumption) ?_
            rotate_left 2
            · simp only [List.getElem?_toArray, List.getElem?_cons_zero, List.getElem?_cons_succ]
              rfl
            · kernel_rfl
            · kernel_rfl
            · kernel_rfl
            · kernel_rfl
            · exact fun _ _ _ h => h
            · refine Or.inl ⟨by rfl, ?_⟩
              intro w hSw
              (try dsimp only at hSw)
              go_simp
              all_goals with_reducible rfl
            simp only [Act.put, List.setIfInBounds_toArray, List.set_cons_zero, List.set_cons_succ]
            refine wpAnyT_take (i := 7) (oi := ?_) (v := ?_) ?_ ?_ ?_ ?_ ?_ ?_ ?_ (by assumption) ?_
            rotate_left 2
            · simp only [List.getElem?_toArray, List.getElem?_cons_zero, List.getElem?_cons_succ]
              rfl
            · kernel_rfl
            · kernel_rfl
            · kernel_rfl
            · kernel_rfl
            · exact fun _ _ _ h => h
            · refine Or.inl ⟨by rfl, ?_⟩
              intro w hSw
              (try dsimp only at hSw)
              go_simp
              all_goals with_reducible rfl
            simp only [Act.put, List.setIfInBounds_toArray, List.set_cons_zero, List.set_cons_succ]
            refine wpAnyT_take (i := 9) (oi := ?_) (v := ?_) ?_ ?_ ?_ ?_ ?_ ?_ ?_ (by assumption) ?_
            rotate_left 2
            · simp only [List.getElem?_toArray, List.getElem?_cons_zero, List.getElem?_cons_succ]
              rfl
            · kernel_rfl
            · kernel_rfl
            · kernel_rfl
            · kernel_rfl
            · exact fun _ _ _ h => h
            · refine Or.inl ⟨by rfl, ?_⟩
              intro w hSw
              (try dsimp only at hSw)
              go_simp
              all_goals with_reducible rfl
            simp only [Act.put, List.setIfInBounds_toArray, List.set_cons_zero, List.set_cons_succ]
            refine wpAnyT_take (i := 12) (oi := ?_) (v := ?_) ?_ ?_ ?_ ?_ ?_ ?_ ?_ (by assumption) ?_
            rotate_left 2
            · simp only [List.getElem?_toArray, List.getElem?_cons_zero, List.getElem?_cons_succ]
              rfl
            · kernel_rfl
            · kernel_rfl
            · kernel_rfl
            · kernel_rfl
            · exact fun _ _ _ h => h
            · refine Or.inl ⟨by rfl, ?_⟩
              intro w hSw
              (try dsimp only at hSw)
              go_simp
              all_goals with_reducible rfl
            simp only [Act.put, List.setIfInBounds_toArray, List.set_cons_zero, List.set_cons_succ]
            refine wpAnyT_take (i := 13) (oi := ?_) (v := ?_) ?_ ?_ ?_ ?_ ?_ ?_ ?_ (by assumption) ?_
            rotate_left 2
            · simp only [List.getElem?_toArray, List.getElem?_cons_zero, List.getElem?_cons_succ]
              rfl
            · kernel_rfl
            · kernel_rfl
            · kernel_rfl
            · kernel_rfl
            · exact fun _ _ _ h => h
            · refine Or.inl ⟨by rfl, ?_⟩
              intro w hSw
              (try dsimp only at hSw)
              go_simp
              all_goals with_reducible rfl
            simp only [Act.put, List.setIfInBounds_toArray, List.set_cons_zero, List.set_cons_succ]
            refine wpAnyT_take (i := 14) (oi := ?_) (v := ?_) ?_ ?_ ?_ ?_ ?_ ?_ ?_ (by assumption) ?_
            rotate_left 2
            · simp only [List.getElem?_toArray, List.getElem?_cons_zero, List.getElem?_cons_succ]
              rfl
            · kernel_rfl
            · kernel_rfl
            · kernel_rfl
            · kernel_rfl
            · exact fun _ _ _ h => h
            · refine Or.inl ⟨by rfl, ?_⟩
              intro w hSw
              (try dsimp only at hSw)
              go_simp
              all_goals with_reducible rfl
            simp only [Act.put, List.setIfInBounds_toArray, List.set_cons_zero, List.set_cons_succ]
            refine wpAnyT_take (i := 15) (oi := ?_) (v := ?_) ?_ ?_ ?_ ?_ ?_ ?_ ?_ (by assumption) ?_
            rotate_left 2
            · simp only [List.getElem?_toArray, List.getElem?_cons_zero, List.getElem?_cons_succ]
              rfl
            · kernel_rfl
            · kernel_rfl
            · kernel_rfl
            · kernel_rfl
            · exact fun _ _ _ h => h
            · refine Or.inl ⟨by rfl, ?_⟩
              intro w' hSw
              have q := (HF.out w' hSw).1
              go_simp
              all_goals with_reducible rfl
            simp only [Act.put, List.setIfInBounds_toArray, List.set_cons_zero, List.set_cons_succ]
            refine wpAnyT_take (i := 16) (oi := ?_) (v := ?_) ?_ ?_ ?_ ?_ ?_ ?_ ?_ (by assumption) ?_
            rotate_left 2
            · simp only [List.getElem?_toArray, List.getElem?_cons_zero, List.getElem?_cons_succ]
              rfl
            · kernel_rfl
            · kernel_rfl
            · kernel_rfl
            · kernel_rfl
            · exact fun _ _ _ h => h
            · refine Or.inl ⟨by rfl, ?_⟩
              intro w hSw
              (try dsimp only at hSw)
              go_simp
              all_goals with_reducible rfl
            simp only [Act.put, List.setIfInBounds_toArray, List.set_cons_zero, List.set_cons_succ]
            refine wpAnyT_take (i := 17) (oi := ?_) (v := ?_) ?_ ?_ ?_ ?_ ?_ ?_ ?_ (by assumption) ?_
            rotate_left 2
            · simp only [List.getElem?_toArray, List.getElem?_cons_zero, List.getElem?_cons_succ]
              rfl
            · kernel_rfl
            · kernel_rfl
            · kernel_rfl
            · kernel_rfl
            · exact fun _ _ _ h => h
            · refine Or.inl ⟨by rfl, ?_⟩
              intro w hSw
              (try dsimp only at hSw)
              go_simp
              all_goals with_reducible rfl
            simp only [Act.put, List.setIfInBounds_toArray, List.set_cons_zero, List.set_cons_succ]
            refine wpAnyT_two (i := 1) (j := 10) (oi := ?_) (oj := ?_) (by kernel_rfl) ?_ ?_ (fun KK hKK => ?_) (fun KK hKK => ?_)
            rotate_left 2
            · simp only [List.getElem?_toArray, List.getElem?_cons_zero, List.getElem?_cons_succ]
              rfl
            · simp only [List.getElem?_toArray, List.getElem?_cons_zero, List.getElem?_cons_succ]
              rfl
            · go_simp
              refine hKK.out _ _ ?_ (fun h1 => ?_)
              · (try dsimp only)
                exact Below.alloc hHeld (Below.size hHeld) _
              clear hKK KK
              try simp only [Act.put, List.setIfInBounds_toArray, List.set_cons_zero, List.set_cons_succ]
              have hz1 : w.drew.heap.size = w.heap.size := by simp
              have HO1 : Hid ((w.drew.alloc (.cells #[] 26)).ownsRow w.heap.size 26 1 (.slice (some ⟨w.heap.size, 0, none⟩) 0 0) ([] : List Nat).length (([] : List Nat).map u64v)) := by
                have := World.ownsRow_made (base := w.heap.size) (e := 26) (size := 1) w.drew #[] 0 (Below.size hHeld) (Nat.zero_le _) (by simp)
                rw [hz1] at this; exact this
              refine wpAnyT_two (i := 8) (j := 10) (oi := ?_) (oj := ?_) (by kernel_rfl) ?_ ?_ (fun KK hKK => ?_) (fun KK hKK => ?_)
              rotate_left 2
              · simp only [List.getElem?_toArray, List.getElem?_cons_zero, List.getElem?_cons_succ]
                rfl
              · simp only [List.getElem?_toArray, List.getElem?_cons_zero, List.getElem?_cons_succ]
                rfl
              · rw [if_pos (by rfl)]
                refine wp_appS _ _ rfl w.heap.size _ ([] : List Nat) rfl HO1.out (L.take (k + 1)) _ rfl (HSH.out _ h1) (by have hh := HLL.out; have hk := HML.out; simp only [List.length_append, List.length_nil, List.length_cons, List.length_take, List.length_drop]; omega) (Below.size h1) ?_
                intro v8 w8 hown8 hgr8
                refine hKK.out _ _ ?_ (fun h8 => ?_)
                · (try dsimp only)
                  exact Below.own h1 HO1.out (Below.size h1) hgr8
                clear hKK KK
                try simp only [Act.put, List.setIfInBounds_toArray, List.set_cons_zero, List.set_cons_succ]
                have HO8 := Lib.hid hown8
                clear hown8 hgr8
                refine wpAnyT_one (i := 10) (o := ?_) (by kernel_rfl) ?_ (fun KK hKK => ?_)
                rotate_left
                · simp only [List.getElem?_toArray, List.getElem?_cons_zero, List.getElem?_cons_succ]
                  rfl
                go_simp
                refine hKK.out _ _ ?_ (fun h10 => ?_)
                · (try dsimp only)
                  exact Below.alloc h8 (Below.size h8) _
                clear hKK KK
                try simp only [Act.put, List.setIfInBounds_toArray, List.set_cons_zero, List.set_cons_succ]
                have hz10 : w8.heap.size = w8.heap.size := by simp
                have HV : Hid (Obj (w8.alloc (.cells #[.int .u64 (n : Int)] 26)) (w8.heap.size) 26 #[u64v n]) := by
                  have := Obj.new w8 26 #[u64v n]
                  rw [hz10] at this; exact this
                have HOx := Lib.hid (HO8.out.alloc (.cells #[.int .u64 (n : Int)] 26))
                refine wpAnyT_one (i := 11) (o := ?_) (by kernel_rfl) ?_ (fun KK hKK => ?_)
                rotate_left
                · simp only [List.getElem?_toArray, List.getElem?_cons_zero, List.getElem?_cons_succ]
                  rfl
                rw [if_pos (by rfl)]
                refine wp_appS _ _ rfl w.heap.size _ ([] ++ L.take (k + 1)) rfl HOx.out [n] _ rfl (SrcU.one HV.out) (by have hh := HLL.out; have hk := HML.out; simp only [List.length_append, List.length_nil, List.length_cons, List.length_take, List.length_drop]; omega) (Below.size h10) ?_
                intro v11 w11 hown11 hgr11
                refine hKK.out _ _ ?_ (fun h11 => ?_)
                · (try dsimp only)
                  exact Below.own h10 HOx.out (Below.size h10) hgr11
                clear hKK KK
                try simp only [Act.put, List.setIfInBounds_toArray, List.set_cons_zero, List.set_cons_succ]
                have HO11 := Lib.hid hown11
                clear hown11 hgr11
                refine wpAnyT_one (i := 18) (o := ?_) (by kernel_rfl) ?_ (fun KK hKK => ?_)
                rotate_left
                · simp only [List.getElem?_toArray, List.getElem?_cons_zero, List.getElem?_cons_succ]
                  rfl
                rw [if_pos (by rfl)]
                refine wp_appS _ _ rfl w.heap.size _ (([] ++ L.take (k + 1)) ++ [n]) rfl HO11.out (L.drop (k + 1)) _ rfl (HST.out _ h11) (by have hh := HLL.out; have hk := HML.out; simp only [List.length_append, List.length_nil, List.length_cons, List.length_take, List.length_drop]; omega) (Below.size h11) ?_
                intro v18 w18 hown18 hgr18
                refine hKK.out _ _ ?_ (fun h18 => ?_)
                · (try dsimp only)
                  exact Below.own h11 HO11.out (Below.size h11) hgr18
                clear hKK KK
                try simp only [Act.put, List.setIfInBounds_toArray, List.set_cons_zero, List.set_cons_succ]
                have HO18 := Lib.hid hown18
                clear hown18 hgr18
                refine wpAnyT_one (i := 19) (o := ?_) (by kernel_rfl) ?_ (fun KK hKK => ?_)
                rotate_left
                · simp only [List.getElem?_toArray, List.getElem?_cons_zero, List.getElem?_cons_succ]
                  rfl
                go_simp
                refine hKK.out _ _ ?_ (fun h19 => ?_)
                · (try dsimp only)
                  exact h18
                clear hKK KK
                try simp only [Act.put, List.setIfInBounds_toArray, List.set_cons_zero, List.set_cons_succ]
                refine wpAnyT_one (i := 20) (o := ?_) (by kernel_rfl) ?_ (fun KK hKK => ?_)
                rotate_left
                · simp only [List.getElem?_toArray, List.getElem?_cons_zero, List.getElem?_cons_succ]
                  rfl
                go_simp
                refine hKK.out _ _ ?_ (fun h20 => ?_)
                · (try dsimp only)
                  exact h18
                clear hKK KK
                try simp only [Act.put, List.setIfInBounds_toArray, List.set_cons_zero, List.set_cons_succ]
                have HOI : Hid (w18.ownsRow w.heap.size 26 1 v18 (Rg.insL n L).length ((Rg.insL n L).map u64v)) := by have := HO18.out; rw [HINS.out] at this; exact this
                obtain ⟨g9, base9, c9, rfl, _, _, _⟩ := own_u64 HOI.out
                obtain ⟨f9, o9⟩ := HF.out w18 h18
                have z9 := o9.free 0
                have HO9 := Lib.hid o9
                have H18 := Lib.hid h18
                clear o9
                refine wpAnyT_last (o := ?_) (by kernel_rfl) ?_ (fun KK hKK => ?_)
                rotate_left
                · simp only [List.getElem?_toArray, List.getElem?_cons_zero, List.getElem?_cons_succ]
                  rfl
                go_simp
                refine hKK.out _ _ ?_
                clear hKK KK
                try simp only [Act.put, List.setIfInBounds_toArray, List.set_cons_zero, List.set_cons_succ]
                refine wpAnyT_done (by kernel_rfl) ?_ _
                have HDA : Hid (DocAt N (M + 1) (w18.setCell ⟨a, 0, none⟩ (.slice base9 (Rg.insL n L).length c9)) a ⟨S1, s.old⟩) :=
                  ⟨HNN.out.2.1, Rg.insL n L, _, HIL.out, (HO9.out.set 0 _).as rfl, own_base (own_set HOI.out HNN.out.2.2 0 _) HNN.out.1, HT1.out⟩
                have HDV : Hid (DocV N (M + 1) (w18.setCell ⟨a, 0, none⟩ (.slice base9 (Rg.insL n L).length c9)) a ⟨S1, s.old⟩ (.slice base9 (Rg.insL n L).length c9)) :=
                  ⟨HNN.out.2.1, Rg.insL n L, HIL.out, (HO9.out.set 0 _).as rfl, own_base (own_set HOI.out HNN.out.2.2 0 _) HNN.out.1, HT1.out⟩
                have HNB : Hid (∀ k, (Value.slice base9 (Rg.insL n L).length c9).ownBlock = some k → w.heap.size ≤ k) := fun k hk => (HOI.out.lt k hk).1
                have HUA : Hid (Upd a w (w18.setCell ⟨a, 0, none⟩ (.slice base9 (Rg.insL n L).length c9))) := (Upd.of_below H18.out a).set 0 _
                clear f9 z9
                generalize w18.setCell ⟨a, 0, none⟩ (.slice base9 (Rg.insL n L).length c9) = W9 at *
                go_wp2_with fail
                refine (HRG.out _ HDA.out).mono ?_
                rintro e w10 ⟨v10, g10, rfl, hr10, -, hb10⟩
                have HDB := Lib.hid (HDA.out.kept hb10)
                have HDVB := Lib.hid (HDV.out.kept hb10)
                have HUB := Lib.hid (HUA.out.trans (Upd.of_below hb10 a))
                by_cases h17 : 16 < S1.length
                · obtain ⟨c10, rfl, _, e10⟩ := hr10.cells (i := 16) h17
                  have HA2 : Hid (RES = (true, (Rg.forget (S1.getD 16 (0, 0)).2 ⟨S1, s.old⟩).2)) := by unfold Hid; rw [HADD.out, if_pos h17]
                  have hz17 : (16 : Int) < (S1.length : Int) := by omega
                  have hd17 : decide ((16 : Int) < (S1.length : Int)) = true := by rw [decide_eq_true_eq]; omega
                  have HNW : Hid (N ≤ w10.heap.size) := Nat.le_trans HNN.out.1 HUB.out.size
                  have HFX := Lib.hid (HFG.out w10 HNW.out HDB.out)
                  generalize (S1.getD 16 (0, 0)).2 = la at *
                  unfold u64v at e10
                  clear hr10 hb10 h17
                  generalize S1.length = q at *
                  go_wp2_with fail
                  refine HFX.out.mono ?_
                  rintro e w11 ⟨rfl, ⟨v11, hd11, hn11⟩, hu11⟩
                  have HN11 := Lib.hid hn11
                  have HD11 := Lib.hid hd11
                  have HU11 := Lib.hid hu11
                  clear hd11 hu11 hn11
                  go_wp2
                  go_ret
                  rw [HA2.out]
                  exact ⟨rfl, ⟨v11, HD11.out, Or.inr fun k hk => Nat.le_trans HUB.out.size (HN11.out k hk)⟩, HUB.out.trans HU11.out⟩
                · obtain ⟨base10, c10, rfl, _, _⟩ := hr10.nilOr
                  have HA2 : Hid (RES = (true, ⟨S1, s.old⟩)) := by unfold Hid; rw [HADD.out, if_neg h17]
                  have hd17 : decide ((16 : Int) < (S1.length : Int)) = false := by rw [decide_eq_false_iff_not]; omega
                  clear hr10 hb10 h17
                  generalize S1.length = q at *
                  go_wp2
                  go_ret
                  rw [HA2.out]
                  exact ⟨rfl, ⟨_, HDVB.out, Or.inr HNB.out⟩, HUB.out⟩
              · go_simp
                refine hKK.out _ _ ?_ (fun h10 => ?_)
                · (try dsimp only)
                  exact Below.alloc h1 (Below.size h1) _
                clear hKK KK
                try simp only [Act.put, List.setIfInBounds_toArray, List.set_cons_zero, List.set_cons_succ]
                have hz10 : (w.drew.alloc (.cells #[] 26)).heap.size = w.heap.size + 1 := by simp
                have HV : Hid (Obj ((w.drew.alloc (.cells #[] 26)).alloc (.cells #[.int .u64 (n : Int)] 26)) (w.heap.size + 1) 26 #[u64v n]) := by
                  have := Obj.new (w.drew.alloc (.cells #[] 26)) 26 #[u64v n]
                  rw [hz10] at this; exact this
                have HOx := Lib.hid (HO1.out.alloc (.cells #[.int .u64 (n : Int)] 26))
                refine wpAnyT_one (i := 8) (o := ?_) (by kernel_rfl) ?_ (fun KK hKK => ?_)
                rotate_left
                · simp only [List.getElem?_toArray, List.getElem?_cons_zero, List.getElem?_cons_succ]
                  rfl
                rw [if_pos (by rfl)]
                refine wp_appS _ _ rfl w.heap.size _ ([] : List Nat) rfl HOx.out (L.take (k + 1)) _ rfl (HSH.out _ h10) (by have hh := HLL.out; have hk := HML.out; simp only [List.length_append, List.length_nil, List.length_cons, List.length_take, List.length_drop]; omega) (Below.size h10) ?_
                intro v8 w8 hown8 hgr8
                refine hKK.out _ _ ?_ (fun h8 => ?_)
                · (try dsimp only)
                  exact Below.own h10 HOx.out (Below.size h10) hgr8
                clear hKK KK
                try simp only [Act.put, List.setIfInBounds_toArray, List.set_cons_zero, List.set_cons_succ]
                have HO8 := Lib.hid hown8
                have HV8 : Hid (Obj w8 (w.heap.size + 1) 26 #[u64v n]) := HV.out.grown hgr8 (show some (w.heap.size + 1) ≠ some (w.heap.size) by simp)
                have HV := HV8
                clear hown8 hgr8
                refine wpAnyT_one (i := 11) (o := ?_) (by kernel_rfl) ?_ (fun KK hKK => ?_)
                rotate_left
                · simp only [List.getElem?_toArray, List.getElem?_cons_zero, List.getElem?_cons_succ]
                  rfl
                rw [if_pos (by rfl)]
                refine wp_appS _ _ rfl w.heap.size _ ([] ++ L.take (k + 1)) rfl HO8.out [n] _ rfl (SrcU.one HV.out) (by have hh := HLL.out; have hk := HML.out; simp only [List.length_append, List.length_nil, List.length_cons, List.length_take, List.length_drop]; omega) (Below.size h8) ?_
                intro v11 w11 hown11 hgr11
                refine hKK.out _ _ ?_ (fun h11 => ?_)
                · (try dsimp only)
                  exact Below.own h8 HO8.out (Below.size h8) hgr11
                clear hKK KK
                try simp only [Act.put, List.setIfInBounds_toArray, List.set_cons_zero, List.set_cons_succ]
                have HO11 := Lib.hid hown11
                clear hown11 hgr11
                refine wpAnyT_one (i := 18) (o := ?_) (by kernel_rfl) ?_ (fun KK hKK => ?_)
                rotate_left
                · simp only [List.getElem?_toArray, List.getElem?_cons_zero, List.getElem?_cons_succ]
                  rfl
                rw [if_pos (by rfl)]
                refine wp_appS _ _ rfl w.heap.size _ (([] ++ L.take (k + 1)) ++ [n]) rfl HO11.out (L.drop (k + 1)) _ rfl (HST.out _ h11) (by have hh := HLL.out; have hk := HML.out; simp only [List.length_append, List.length_nil, List.length_cons, List.length_take, List.length_drop]; omega) (Below.size h11) ?_
                intro v18 w18 hown18 hgr18
                refine hKK.out _ _ ?_ (fun h18 => ?_)
                · (try dsimp only)
                  exact Below.own h11 HO11.out (Below.size h11) hgr18
                clear hKK KK
                try simp only [Act.put, List.setIfInBounds_toArray, List.set_cons_zero, List.set_cons_succ]
                have HO18 := Lib.hid hown18
                clear hown18 hgr18
                refine wpAnyT_one (i := 19) (o := ?_) (by kernel_rfl) ?_ (fun KK hKK => ?_)
                rotate_left
                · simp only [List.getElem?_toArray, List.getElem?_cons_zero, List.getElem?_cons_succ]
                  rfl
                go_simp
                refine hKK.out _ _ ?_ (fun h19 => ?_)
                · (try dsimp only)
                  exact h18
                clear hKK KK
                try simp only [Act.put, List.setIfInBounds_toArray, List.set_cons_zero, List.set_cons_succ]
                refine wpAnyT_one (i := 20) (o := ?_) (by kernel_rfl) ?_ (fun KK hKK => ?_)
                rotate_left
                · simp only [List.getElem?_toArray, List.getElem?_cons_zero, List.getElem?_cons_succ]
                  rfl
                go_simp
                refine hKK.out _ _ ?_ (fun h20 => ?_)
                · (try dsimp only)
                  exact h18
                clear hKK KK
                try simp only [Act.put, List.setIfInBounds_toArray, List.set_cons_zero, List.set_cons_succ]
                have HOI : Hid (w18.ownsRow w.heap.size 26 1 v18 (Rg.insL n L).length ((Rg.insL n L).map u64v)) := by have := HO18.out; rw [HINS.out] at this; exact this
                obtain ⟨g9, base9, c9, rfl, _, _, _⟩ := own_u64 HOI.out
                obtain ⟨f9, o9⟩ := HF.out w18 h18
                have z9 := o9.free 0
                have HO9 := Lib.hid o9
                have H18 := Lib.hid h18
                clear o9
                refine wpAnyT_last (o := ?_) (by kernel_rfl) ?_ (fun KK hKK => ?_)
                rotate_left
                · simp only [List.getElem?_toArray, List.getElem?_cons_zero, List.getElem?_cons_succ]
                  rfl
                go_simp
                refine hKK.out _ _ ?_
                clear hKK KK
                try simp only [Act.put, List.setIfInBounds_toArray, List.set_cons_zero, List.set_cons_succ]
                refine wpAnyT_done (by kernel_rfl) ?_ _
                have HDA : Hid (DocAt N (M + 1) (w18.setCell ⟨a, 0, none⟩ (.slice base9 (Rg.insL n L).length c9)) a ⟨S1, s.old⟩) :=
                  ⟨HNN.out.2.1, Rg.insL n L, _, HIL.out, (HO9.out.set 0 _).as rfl, own_base (own_set HOI.out HNN.out.2.2 0 _) HNN.out.1, HT1.out⟩
                have HDV : Hid (DocV N (M + 1) (w18.setCell ⟨a, 0, none⟩ (.slice base9 (Rg.insL n L).length c9)) a ⟨S1, s.old⟩ (.slice base9 (Rg.insL n L).length c9)) :=
                  ⟨HNN.out.2.1, Rg.insL n L, HIL.out, (HO9.out.set 0 _).as rfl, own_base (own_set HOI.out HNN.out.2.2 0 _) HNN.out.1, HT1.out⟩
                have HNB : Hid (∀ k, (Value.slice base9 (Rg.insL n L).length c9).ownBlock = some k → w.heap.size ≤ k) := fun k hk => (HOI.out.lt k hk).1
                have HUA : Hid (Upd a w (w18.setCell ⟨a, 0, none⟩ (.slice base9 (Rg.insL n L).length c9))) := (Upd.of_below H18.out a).set 0 _
                clear f9 z9
                generalize w18.setCell ⟨a, 0, none⟩ (.slice base9 (Rg.insL n L).length c9) = W9 at *
                go_wp2_with fail
                refine (HRG.out _ HDA.out).mono ?_
                rintro e w10 ⟨v10, g10, rfl, hr10, -, hb10⟩
                have HDB := Lib.hid (HDA.out.kept hb10)
                have HDVB := Lib.hid (HDV.out.kept hb10)
                have HUB := Lib.hid (HUA.out.trans (Upd.of_below hb10 a))
                by_cases h17 : 16 < S1.length
                · obtain ⟨c10, rfl, _, e10⟩ := hr10.cells (i := 16) h17
                  have HA2 : Hid (RES = (true, (Rg.forget (S1.getD 16 (0, 0)).2 ⟨S1, s.old⟩).2)) := by unfold Hid; rw [HADD.out, if_pos h17]
                  have hz17 : (16 : Int) < (S1.length : Int) := by omega
                  have hd17 : decide ((16 : Int) < (S1.length : Int)) = true := by rw [decide_eq_true_eq]; omega
                  have HNW : Hid (N ≤ w10.heap.size) := Nat.le_trans HNN.out.1 HUB.out.size
                  have HFX := Lib.hid (HFG.out w10 HNW.out HDB.out)
                  generalize (S1.getD 16 (0, 0)).2 = la at *
                  unfold u64v at e10
                  clear hr10 hb10 h17
                  generalize S1.length = q at *
                  go_wp2_with fail
                  refine HFX.out.mono ?_
                  rintro e w11 ⟨rfl, ⟨v11, hd11, hn11⟩, hu11⟩
                  have HN11 := Lib.hid hn11
                  have HD11 := Lib.hid hd11
                  have HU11 := Lib.hid hu11
                  clear hd11 hu11 hn11
                  go_wp2
                  go_ret
                  rw [HA2.out]
                  exact ⟨rfl, ⟨v11, HD11.out, Or.inr fun k hk => Nat.le_trans HUB.out.size (HN11.out k hk)⟩, HUB.out.trans HU11.out⟩
                · obtain ⟨base10, c10, rfl, _, _⟩ := hr10.nilOr
                  have HA2 : Hid (RES = (true, ⟨S1, s.old⟩)) := by unfold Hid; rw [HADD.out, if_neg h17]
                  have hd17 : decide ((16 : Int) < (S1.length : Int)) = false := by rw [decide_eq_false_iff_not]; omega
                  clear hr10 hb10 h17
                  generalize S1.length = q at *
                  go_wp2
                  go_ret
                  rw [HA2.out]
                  exact ⟨rfl, ⟨_, HDVB.out, Or.inr HNB.out⟩, HUB.out⟩
            · go_simp
              refine hKK.out _ _ ?_ (fun h10 => ?_)
              · (try dsimp only)
                exact Below.alloc hHeld (Below.size hHeld) _
              clear hKK KK
              try simp only [Act.put, List.setIfInBounds_toArray, List.set_cons_zero, List.set_cons_succ]
              have hz10 : w.drew.heap.size = w.heap.size := by simp
              have HV : Hid (Obj (w.drew.alloc (.cells #[.int .u64 (n : Int)] 26)) (w.heap.size) 26 #[u64v n]) := by
                have := Obj.new w.drew 26 #[u64v n]
                rw [hz10] at this; exact this
              refine wpAnyT_one (i := 1) (o := ?_) (by kernel_rfl) ?_ (fun KK hKK => ?_)
              rotate_left
              · simp only [List.getElem?_toArray, List.getElem?_cons_zero, List.getElem?_cons_succ]
                rfl
              go_simp
              refine hKK.out _ _ ?_ (fun h1 => ?_)
              · (try dsimp only)
                exact Below.alloc h10 (Below.size h10) _
              clear hKK KK
              try simp only [Act.put, List.setIfInBounds_toArray, List.set_cons_zero, List.set_cons_succ]
              have hz1 : (w.drew.alloc (.cells #[.int .u64 (n : Int)] 26)).heap.size = w.heap.size + 1 := by simp
              have HO1 : Hid (((w.drew.alloc (.cells #[.int .u64 (n : Int)] 26)).alloc (.cells #[] 26)).ownsRow w.heap.size 26 1 (.slice (some ⟨w.heap.size + 1, 0, none⟩) 0 0) ([] : List Nat).length (([] : List Nat).map u64v)) := by
                have := World.ownsRow_made (base := w.heap.size) (e := 26) (size := 1) (w.drew.alloc (.cells #[.int .u64 (n : Int)] 26)) #[] 0 (Below.size h10) (Nat.zero_le _) (by simp)
                rw [hz1] at this; exact this
              have HV1 : Hid (Obj ((w.drew.alloc (.cells #[.int .u64 (n : Int)] 26)).alloc (.cells #[] 26)) (w.heap.size) 26 #[u64v n]) := HV.out.alloc _
              have HV := HV1
              refine wpAnyT_one (i := 8) (o := ?_) (by kernel_rfl) ?_ (fun KK hKK => ?_)
              rotate_left
              · simp only [List.getElem?_toArray, List.getElem?_cons_zero, List.getElem?_cons_succ]
                rfl
              rw [if_pos (by rfl)]
              refine wp_appS _ _ rfl w.heap.size _ ([] : List Nat) rfl HO1.out (L.take (k + 1)) _ rfl (HSH.out _ h1) (by have hh := HLL.out; have hk := HML.out; simp only [List.length_append, List.length_nil, List.length_cons, List.length_take, List.length_drop]; omega) (Below.size h1) ?_
              intro v8 w8 hown8 hgr8
              refine hKK.out _ _ ?_ (fun h8 => ?_)
              · (try dsimp only)
                exact Below.own h1 HO1.out (Below.size h1) hgr8
              clear hKK KK
              try simp only [Act.put, List.setIfInBounds_toArray, List.set_cons_zero, List.set_cons_succ]
              have HO8 := Lib.hid hown8
              have HV8 : Hid (Obj w8 (w.heap.size) 26 #[u64v n]) := HV.out.grown hgr8 (show some (w.heap.size) ≠ some (w.heap.size + 1) by simp)
              have HV := HV8
              clear hown8 hgr8
              refine wpAnyT_one (i := 11) (o := ?_) (by kernel_rfl) ?_ (fun KK hKK => ?_)
              rotate_left
              · simp only [List.getElem?_toArray, List.getElem?_cons_zero, List.getElem?_cons_succ]
                rfl
              rw [if_pos (by rfl)]
              refine wp_appS _ _ rfl w.heap.size _ ([] ++ L.take (k + 1)) rfl HO8.out [n] _ rfl (SrcU.one HV.out) (by have hh := HLL.out; have hk := HML.out; simp only [List.length_append, List.length_nil, List.length_cons, List.length_take, List.length_drop]; omega) (Below.size h8) ?_
              intro v11 w11 hown11 hgr11
              refine hKK.out _ _ ?_ (fun h11 => ?_)
              · (try dsimp only)
                exact Below.own h8 HO8.out (Below.size h8) hgr11
              clear hKK KK
              try simp only [Act.put, List.setIfInBounds_toArray, List.set_cons_zero, List.set_cons_succ]
              have HO11 := Lib.hid hown11
              clear hown11 hgr11
              refine wpAnyT_one (i := 18) (o := ?_) (by kernel_rfl) ?_ (fun KK hKK => ?_)
              rotate_left
              · simp only [List.getElem?_toArray, List.getElem?_cons_zero, List.getElem?_cons_succ]
                rfl
              rw [if_pos (by rfl)]
              refine wp_appS _ _ rfl w.heap.size _ (([] ++ L.take (k + 1)) ++ [n]) rfl HO11.out (L.drop (k + 1)) _ rfl (HST.out _ h11) (by have hh := HLL.out; have hk := HML.out; simp only [List.length_append, List.length_nil, List.length_cons, List.length_take, List.length_drop]; omega) (Below.size h11) ?_
              intro v18 w18 hown18 hgr18
              refine hKK.out _ _ ?_ (fun h18 => ?_)
              · (try dsimp only)
                exact Below.own h11 HO11.out (Below.size h11) hgr18
              clear hKK KK
              try simp only [Act.put, List.setIfInBounds_toArray, List.set_cons_zero, List.set_cons_succ]
              have HO18 := Lib.hid hown18
              clear hown18 hgr18
              refine wpAnyT_one (i := 19) (o := ?_) (by kernel_rfl) ?_ (fun KK hKK => ?_)
              rotate_left
              · simp only [List.getElem?_toArray, List.getElem?_cons_zero, List.getElem?_cons_succ]
                rfl
              go_simp
              refine hKK.out _ _ ?_ (fun h19 => ?_)
              · (try dsimp only)
                exact h18
              clear hKK KK
              try simp only [Act.put, List.setIfInBounds_toArray, List.set_cons_zero, List.set_cons_succ]
              refine wpAnyT_one (i := 20) (o := ?_) (by kernel_rfl) ?_ (fun KK hKK => ?_)
              rotate_left
              · simp only [List.getElem?_toArray, List.getElem?_cons_zero, List.getElem?_cons_succ]
                rfl
              go_simp
              refine hKK.out _ _ ?_ (fun h20 => ?_)
              · (try dsimp only)
                exact h18
              clear hKK KK
              try simp only [Act.put, List.setIfInBounds_toArray, List.set_cons_zero, List.set_cons_succ]
              have HOI : Hid (w18.ownsRow w.heap.size 26 1 v18 (Rg.insL n L).length ((Rg.insL n L).map u64v)) := by have := HO18.out; rw [HINS.out] at this; exact this
              obtain ⟨g9, base9, c9, rfl, _, _, _⟩ := own_u64 HOI.out
              obtain ⟨f9, o9⟩ := HF.out w18 h18
              have z9 := o9.free 0
              have HO9 := Lib.hid o9
              have H18 := Lib.hid h18
              clear o9
              refine wpAnyT_last (o := ?_) (by kernel_rfl) ?_ (fun KK hKK => ?_)
              rotate_left
              · simp only [List.getElem?_toArray, List.getElem?_cons_zero, List.getElem?_cons_succ]
                rfl
              go_simp
              refine hKK.out _ _ ?_
              clear hKK KK
              try simp only [Act.put, List.setIfInBounds_toArray, List.set_cons_zero, List.set_cons_succ]
              refine wpAnyT_done (by kernel_rfl) ?_ _
              have HDA : Hid (DocAt N (M + 1) (w18.setCell ⟨a, 0, none⟩ (.slice base9 (Rg.insL n L).length c9)) a ⟨S1, s.old⟩) :=
                ⟨HNN.out.2.1, Rg.insL n L, _, HIL.out, (HO9.out.set 0 _).as rfl, own_base (own_set HOI.out HNN.out.2.2 0 _) HNN.out.1, HT1.out⟩
              have HDV : Hid (DocV N (M + 1) (w18.setCell ⟨a, 0, none⟩ (.slice base9 (Rg.insL n L).length c9)) a ⟨S1, s.old⟩ (.slice base9 (Rg.insL n L).length c9)) :=
                ⟨HNN.out.2.1, Rg.insL n L, HIL.out, (HO9.out.set 0 _).as rfl, own_base (own_set HOI.out HNN.out.2.2 0 _) HNN.out.1, HT1.out⟩
              have HNB : Hid (∀ k, (Value.slice base9 (Rg.insL n L).length c9).ownBlock = some k → w.heap.size ≤ k) := fun k hk => (HOI.out.lt k hk).1
              have HUA : Hid (Upd a w (w18.setCell ⟨a, 0, none⟩ (.slice base9 (Rg.insL n L).length c9))) := (Upd.of_below H18.out a).set 0 _
              clear f9 z9
              generalize w18.setCell ⟨a, 0, none⟩ (.slice base9 (Rg.insL n L).length c9) = W9 at *
              go_wp2_with fail
              refine (HRG.out _ HDA.out).mono ?_
              rintro e w10 ⟨v10, g10, rfl, hr10, -, hb10⟩
              have HDB := Lib.hid (HDA.out.kept hb10)
              have HDVB := Lib.hid (HDV.out.kept hb10)
              have HUB := Lib.hid (HUA.out.trans (Upd.of_below hb10 a))
              by_cases h17 : 16 < S1.length
              · obtain ⟨c10, rfl, _, e10⟩ := hr10.cells (i := 16) h17
                have HA2 : Hid (RES = (true, (Rg.forget (S1.getD 16 (0, 0)).2 ⟨S1, s.old⟩).2)) := by unfold Hid; rw [HADD.out, if_pos h17]
                have hz17 : (16 : Int) < (S1.length : Int) := by omega
                have hd17 : decide ((16 : Int) < (S1.length : Int)) = true := by rw [decide_eq_true_eq]; omega
                have HNW : Hid (N ≤ w10.heap.size) := Nat.le_trans HNN.out.1 HUB.out.size
                have HFX := Lib.hid (HFG.out w10 HNW.out HDB.out)
                generalize (S1.getD 16 (0, 0)).2 = la at *
                unfold u64v at e10
                clear hr10 hb10 h17
                generalize S1.length = q at *
                go_wp2_with fail
                refine HFX.out.mono ?_
                rintro e w11 ⟨rfl, ⟨v11, hd11, hn11⟩, hu11⟩
                have HN11 := Lib.hid hn11
                have HD11 := Lib.hid hd11
                have HU11 := Lib.hid hu11
                clear hd11 hu11 hn11
                go_wp2
                go_ret
                rw [HA2.out]
                exact ⟨rfl, ⟨v11, HD11.out, Or.inr fun k hk => Nat.le_trans HUB.out.size (HN11.out k hk)⟩, HUB.out.trans HU11.out⟩
              · obtain ⟨base10, c10, rfl, _, _⟩ := hr10.nilOr
                have HA2 : Hid (RES = (true, ⟨S1, s.old⟩)) := by unfold Hid; rw [HADD.out, if_neg h17]
                have hd17 : decide ((16 : Int) < (S1.length : Int)) = false := by rw [decide_eq_false_iff_not]; omega
                clear hr10 hb10 h17
                generalize S1.length = q at *
                go_wp2
                go_ret
                rw [HA2.out]
                exact ⟨rfl, ⟨_, HDVB.out, Or.inr HNB.out⟩, HUB.out⟩
end Go.Proofs.Ytgbgdbadifagcaa
