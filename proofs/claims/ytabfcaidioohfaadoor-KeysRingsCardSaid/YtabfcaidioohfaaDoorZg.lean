/- Joined: A loop over an iterator whose rounds turn what the iterator reads: the rounds are counted; what holds between two rounds is told to the iterator. | A region that draws its order, with promises: (T, S) says that S holds of the world as long as operation number T has not come up. A region without calls, walked outside of any fence, serves inside every fence. | Layer 9's gcm, walked: a block's halves, and back. | Layer 9's gcm, walked: a pair's block. | Layer 9's gcm: a block's bits, as an iterator. | Layer 9's gcm, walked: times. | Layer 9's gcm, walked: Times. | Layer 9's gcm, walked: Sum's closure, which takes one block more. | slices.Chunk of a slice of bytes by 16, as an iterator: parts of 16 bytes, the last one perhaps shorter. | Layer 9's gcm, walked: Sum. | Layer 9's gcm, walked: begin and tag. | Layer 9's gcm, walked: tag and Seal. | Layer 9's gcm, walked: Same and slices.Equal. | Layer 9's gcm, walked: Open. | Layer 9's gcm, walked: alive. -/
import Derived.Test.YtabfcaidioohfaaDoorRows
import Derived.RangeFuncNested
import Derived.RangeFuncBound
import Derived.RangeFuncCalls
import Derived.RangeFuncLeaves
import Derived.Deep.RegionHeld3
import Derived.StillTail
import Derived.OrdersIn
import Derived.OwnWalkIn
import Derived.Test.YtabfcaidioohfaaDoorZp
import Derived.Test.YtabfcaidioohfaaDoorZa
import Derived.WalkKit
import Derived.WalkSpells
import Derived.WalkLawsBesides
import Derived.Laws.BitsAllLaws
import Derived.Handy
import Derived.Lib.Hide
import Derived.IntWalk
import Derived.RangeFuncBox
import Derived.Shelf.Abstract
import Derived.Shelf.RegionOpen
import Derived.TacticsInMore
import Derived.LoopNIn
import Derived.LoopIn
import Derived.BigRegionIn
import Derived.Deep.QuietTactic
import Derived.BigQuiet
import Derived.Outline
import Derived.Laws.Rows
import Derived.Laws.CopyOwn
import Derived.Test.YtabfcaidioohfaaDoorZt
import Derived.LoopN
import Derived.Laws.EntriesVeiled
import Derived.Lib.SlBytesConst
import Derived.Laws.BytesArg
namespace Go.Proofs.YtabfcaidioohfaaDoor.Rm
open List (getElem?_toArray getElem?_cons_zero getElem?_cons_succ setIfInBounds_toArray set_cons_zero set_cons_succ)
set_option maxRecDepth 100000
open Go Go.RowKit
set_option linter.unusedVariables false
section
variable {F : Fence} {n : Nat} {P : Program}
/-- How round number i may be left. -/
def roundEnd (B : Nat) (I : Nat → World → Prop) (Ix : Code → Nat → World → Prop) (i : Nat) (W : World) : Exit → Act → World → Prop
 | .normal, _, V => KeepsFrom B W V ∧ I (i + 1) V
 | .ret, _, V => KeepsFrom B W V ∧ Ix .ret i V
 | .exit c, _, V => KeepsFrom B W V ∧ Ix (.exit c) i V
 | .goto t, _, V => KeepsFrom B W V ∧ Ix (.goto t) i V
 | .panic _, _, _ => False
 | .outgrown, _, _ => False
/-- An iterator's contract: it gives enc 0, enc 1, .. up to N, as long as a round says 'more'; between two rounds Mp holds. -/
def Gives (F : Fence) (n : Nat) (P : Program) (g : Nat) (lb : Array Value) (enc : Nat → Array Value) (Mp : Nat → World → Prop) (N : Nat) : Prop :=
 ∀ (l : Nat) (J Jx : Nat → World → Prop) (W : World), (∀ i V, J i V → Mp i V) →
  (∀ i V, J i V → i < N → YieldAt F (n - 1) P l (enc i) V fun e V' => (e = .returned (.bool true) ∧ J (i + 1) V') ∨ (e = .returned (.bool false) ∧ Jx i V')) →
  J 0 W → CallsIn F n P g (#[.func (.yield l) #[] #[]] ++ lb) W fun e V => (∃ v, e = .returned v) ∧ (J N V ∨ ∃ i, Jx i V)
theorem wpIn_rangeFunc_ix {g : Operand} {ps : Array Tmp} {assign body : Code} {Q : Exit → Act → World → Prop} {a : Act} {w : World}
  (hro : F.round = none) (h1 : 1 ≤ n) {gf : Nat} {lb : Array Value} (hg : a.eval g = .func (.func gf) #[] lb) (hFg : F.fn gf) (eg : ∀ args w, (callFunc gf args).run P w = .ok (.enter gf args) w)
  {enc : Nat → Array Value} {Mp : Nat → World → Prop} {N : Nat} (hseq : Gives F (n - 1) P gf lb enc Mp N) (hps : ∀ i, (enc i).size = ps.size)
  (I : Nat → World → Prop) (Ix : Code → Nat → World → Prop) (hI : OwnFrom w.heap.size I) (hIx : ∀ c, OwnFrom w.heap.size (Ix c)) (hM : ∀ i V, I i V → Mp i V) (h0 : I 0 w) (a₁ : Nat → Act)
  (hassign : ∀ (l i : Nat) (W : World) (K : Act → World → Prop), K (a₁ i) W →
   assign.wpIn (F.inRound l) (n - 1 - 1) P (Exit.then K (fun _ _ _ => False)) { tmps := (ps.zip (enc i)).foldl (fun t (p, v) => t.setIfInBounds p v) a.tmps, defers := [] } W)
  (hbody : ∀ (l i : Nat) (W : World), I i W → i < N → body.wpIn (F.inRound l) (n - 1 - 1) P (roundEnd w.heap.size I Ix i W) (a₁ i) W)
  (hdone : ∀ (D : Nat) (W : World), w.heap.size ≤ D → I N W → W.heap[D]? = some (.deferred (some [])) → Q .normal { a with defers := { target := .collected D, args := #[] } :: a.defers } W)
  (hstop : ∀ (D : Nat) (c : Code) (i : Nat) (W : World), w.heap.size ≤ D → Ix c i W → W.heap[D]? = some (.deferred (some [])) → c.wpIn F n P Q { a with defers := { target := .collected D, args := #[] } :: a.defers } W) :
  (Code.rangeFunc g ps assign body).wpIn F n P Q a w := by
 refine wpIn_rangeFunc fun fn hfn => ?_
 rw [hro]
 obtain ⟨rc, hrc⟩ : ∃ rc : LoopState → Option Code → Loop, rc = fun st pe => { state := st, pending := pe, fn, tmps := a.tmps, params := ps, assign, body, defers := w.heap.size } := ⟨_, rfl⟩
 -- the two blocks of book-keeping: d (the rounds' deferred calls), d + 1 (the loop's record)
 obtain ⟨d, hd⟩ : ∃ d, w.heap.size = d := ⟨_, rfl⟩
 obtain ⟨V, hV⟩ : ∃ V, (w.alloc (.deferred (some []))).alloc (.loop (rc .ready none)) = V := ⟨_, rfl⟩
 have hrec : V.heap[d + 1]? = some (.loop (rc .ready none)) := by
  rw [← hV, ← hd]
  have := World.alloc_heap_new (w.alloc (.deferred (some []))) (.loop (rc .ready none))
  rwa [World.size_alloc] at this
 have hdef : V.heap[d]? = some (.deferred (some [])) := by
  rw [← hV, ← hd]; exact (Below.heap_alloc _ _ _ (by simp)).trans (World.alloc_heap_new w _)
 have hIV : I 0 V := by rw [← hV]; exact hI.alloc _ (hI.alloc _ h0)
 refine ⟨d + 1, [{ target := .collected d, args := #[] }], V, { target := .fn (.func gf) lb, args := #[.func (.yield (d + 1)) #[] #[]] }, V, gf, #[.func (.yield (d + 1)) #[] #[]] ++ lb, V, ?_, ?_, ?_, ?_, fun _ => h1, ?_⟩
 ·rw [← hV, hrc, ← hd]; exact run_enterLoop_outer _ _ _ _ _
 ·simp only [resolve, hg]
  simp [go_sem]
 ·intro f' hf'; simp [Target.leads] at hf'; subst hf'; exact hFg
 ·simp [invoke, go_sem, eg]
 have hB : w.heap.size ≤ d + 1 := by omega
 refine (hseq (d + 1)
  (fun i X => I i X ∧ X.heap[d + 1]? = some (.loop (rc .ready none)) ∧ X.heap[d]? = some (.deferred (some [])))
  (fun i X => ∃ c, Ix c i X ∧ X.heap[d + 1]? = some (.loop (rc .done (some c))) ∧ X.heap[d]? = some (.deferred (some [])))
  V (fun i X h => hM i X h.1) ?_ ⟨hIV, hrec, hdef⟩).mono ?_
 · -- a round
  rintro i X ⟨hi, hl, hk⟩ hlt
  have hsz : d + 1 < X.heap.size := (Array.getElem?_eq_some_iff.1 hl).1
  have hy := run_yield (P := P) (args := enc i) hl (by rw [hrc]; exact hps i)
  rw [hrc] at hy
  refine ⟨fn, _, assign, body, hy, roundIn_of_wpIn hfn (hassign _ i X _ ⟨_, run_beginRound hl (by rw [hrc]), ?_⟩)⟩
  have bl : (X.putObj (d + 1) (.loop { rc .ready none with state := .busy })).heap[d + 1]? = some (.loop { rc .ready none with state := .busy }) := World.putObj_heap_same hsz
  have bk : (X.putObj (d + 1) (.loop { rc .ready none with state := .busy })).heap[d]? = some (.deferred (some [])) := (World.putObj_heap_other (by omega)).trans hk
  refine wpIn_mono (hbody _ i _ (hI.putObj _ hi hB hl rfl) hlt) ?_
  have fin : ∀ (jump : Option Code) (Y : World), KeepsFrom w.heap.size (X.putObj (d + 1) (.loop { rc .ready none with state := .busy })) Y →
    (Instr.endRound (d + 1) jump).run P Y = .ok (.bool jump.isNone) (Y.putObj (d + 1) (.loop (rc (if jump.isNone then .ready else .done) jump))) ∧
    Y.heap[d + 1]? = some (.loop { rc .ready none with state := .busy }) ∧
    (Y.putObj (d + 1) (.loop (rc (if jump.isNone then .ready else .done) jump))).heap[d + 1]? = some (.loop (rc (if jump.isNone then .ready else .done) jump)) ∧
    (Y.putObj (d + 1) (.loop (rc (if jump.isNone then .ready else .done) jump))).heap[d]? = some (.deferred (some [])) := fun jump Y hY => by
   have yl := hY.same _ _ hB bl rfl
   have yk := hY.same _ _ (by omega) bk rfl
   have := run_endRound (P := P) jump yl
   rw [hrc] at this ⊢
   exact ⟨this, by rw [hrc] at yl; exact yl, World.putObj_heap_same (Array.getElem?_eq_some_iff.1 yl).1, (World.putObj_heap_other (by omega)).trans yk⟩
  have out : ∀ (c : Code) (Y : World), KeepsFrom w.heap.size (X.putObj (d + 1) (.loop { rc .ready none with state := .busy })) Y → Ix c i Y →
    (Instr.endRound (d + 1) (some c)).run P Y = .ok (.bool false) (Y.putObj (d + 1) (.loop (rc .done (some c)))) ∧ Ix c i (Y.putObj (d + 1) (.loop (rc .done (some c)))) ∧
    (Y.putObj (d + 1) (.loop (rc .done (some c)))).heap[d + 1]? = some (.loop (rc .done (some c))) ∧ (Y.putObj (d + 1) (.loop (rc .done (some c)))).heap[d]? = some (.deferred (some [])) := fun c Y hY hx => by
   obtain ⟨e1, e2, e3, e4⟩ := fin (some c) Y hY
   exact ⟨e1, (hIx c).putObj _ hx hB e2 rfl, e3, e4⟩
  rintro e a3 Y hp
  cases e with
  | normal =>
   obtain ⟨hY, hi'⟩ := hp
   obtain ⟨e1, e2, e3, e4⟩ := fin none Y hY
   exact ⟨_, _, e1, .inl ⟨rfl, hI.putObj _ hi' hB e2 rfl, e3, e4⟩⟩
  | ret =>
   obtain ⟨e1, e2⟩ := out .ret Y hp.1 hp.2
   exact ⟨_, _, e1, .inr ⟨rfl, .ret, e2⟩⟩
  | exit c =>
   obtain ⟨e1, e2⟩ := out (.exit c) Y hp.1 hp.2
   exact ⟨_, _, e1, .inr ⟨rfl, .exit c, e2⟩⟩
  | goto t =>
   obtain ⟨e1, e2⟩ := out (.goto t) Y hp.1 hp.2
   exact ⟨_, _, e1, .inr ⟨rfl, .goto t, e2⟩⟩
  | panic ch => exact hp.elim
  | outgrown => exact hp.elim
 · -- behind the iterator
  rintro e X ⟨⟨v, rfl⟩, (⟨hi, hl, hk⟩ | ⟨i, c, hi, hl, hk⟩)⟩
  ·have := run_endLoop (P := P) hl (by rw [hrc]; simp)
   rw [hrc] at this
   exact ⟨none, _, this, hdone _ _ (by omega) (hI.putObj _ hi hB hl rfl) ((World.putObj_heap_other (by omega)).trans hk)⟩
  ·have := run_endLoop (P := P) hl (by rw [hrc]; simp)
   rw [hrc] at this
   exact ⟨some c, _, this, hstop _ c i _ (by omega) ((hIx c).putObj _ hi hB hl rfl) ((World.putObj_heap_other (by omega)).trans hk)⟩
end
end Go.Proofs.YtabfcaidioohfaaDoor.Rm
namespace Go.Proofs.YtabfcaidioohfaaDoor.Pr
open List (getElem?_toArray getElem?_cons_zero getElem?_cons_succ setIfInBounds_toArray set_cons_zero set_cons_succ)
set_option maxRecDepth 100000
open Go
set_option linter.unusedVariables false
section
variable {P : Program} {ops : Array Oper} {md : Region.Mode} {Q : Exit → Act → World → Prop} {R : List (Nat × (World → Prop))}
/-- All promises that still run. -/
def Held (R : List (Nat × (World → Prop))) (listed : Array Bool) (w : World) : Prop := ∀ p ∈ R, listed.getD p.1 true = false → p.2 w
/-- Whatever order is picked from here on; the promises are kept. -/
def wpAnyP (P : Program) (md : Region.Mode) (ops : Array Oper) (Q : Exit → Act → World → Prop) (R : List (Nat × (World → Prop))) : Nat → Array Bool → Act → World → Prop
 | 0, listed, a, w => Region.ready md ops listed = [] ∧ Q .normal a w
 | fuel + 1, listed, a, w =>
  (Region.ready md ops listed = [] → Q .normal a w) ∧
  ∀ i ∈ Region.ready md ops listed, wpOp P ops Q i (fun a' w' => Held R (listed.setIfInBounds i true) w' ∧ wpAnyP P md ops Q R fuel (listed.setIfInBounds i true) a' w') a w
theorem wpAny_of_P : ∀ (fuel : Nat) (listed : Array Bool) (a : Act) (w : World), wpAnyP P md ops Q R fuel listed a w → wpAny P md ops Q fuel listed a w
 | 0, _, _, _, h => h
 | fuel + 1, _, _, _, h => ⟨h.1, fun i hi => wpOp_mono (fun a' w' h' => wpAny_of_P fuel _ a' w' h'.2) (h.2 i hi)⟩
/-- What has not come up does not let those come up that wait for it. -/
theorem unready {i j : Nat} {oj : Oper} {listed : Array Bool} (hi : i ∈ Region.ready md ops listed) (hj : j ∈ Region.ready md ops listed) (hoj : ops[j]? = some oj) :
  ∀ e ∈ oj.after, Region.binds md e = true → e.on ≠ i := by
 rintro e he hb rfl
 obtain ⟨_, oj', hoj', hall⟩ := mem_ready.1 hj
 obtain rfl : oj' = oj := Option.some.inj (hoj'.symm.trans hoj)
 have h1 := hall e he hb
 rw [getD_both (mem_ready.1 hi).1] at h1
 cases h1
/-- Who is apart from number i, once another has come up. -/
def Lone (md : Region.Mode) (ops : Array Oper) (i : Nat) (oi : Oper) (listed : Array Bool) : Prop :=
 ∀ j oj, ops[j]? = some oj → j ≠ i → listed.getD j true = false → (∀ e ∈ oj.after, Region.binds md e = true → e.on ≠ i) → oi.apart ops oj = true
theorem Lone.set {i : Nat} {oi : Oper} {listed : Array Bool} (h : Lone md ops i oi listed) {j : Nat} (hj : listed.getD j true = false) : Lone md ops i oi (listed.setIfInBounds j true) := by
 intro k ok hk hki hun hno
 refine h k ok hk hki ?_ hno
 rcases Nat.decEq j k with hjk | rfl
 ·rwa [getD_set_ne true hjk] at hun
 ·exact hj
theorem held1 {T : Nat} {S : World → Prop} {l : Array Bool} {w : World} (h : l.getD T true = false → S w) : Held [(T, S)] l w := fun p hp hl => by
 simp only [List.mem_singleton] at hp
 subst hp; exact h hl
theorem held2 {T1 T2 : Nat} {S1 S2 : World → Prop} {l : Array Bool} {w : World} (h1 : l.getD T1 true = false → S1 w) (h2 : l.getD T2 true = false → S2 w) : Held [(T1, S1), (T2, S2)] l w := fun p hp hl => by
 simp only [List.mem_cons, List.not_mem_nil, or_false] at hp
 rcases hp with rfl | rfl
 ·exact h1 hl
 ·exact h2 hl
theorem Held.set {listed : Array Bool} {w : World} {i : Nat} (h : Held R listed w) (hn : ∀ p ∈ R, p.1 ≠ i) : Held R (listed.setIfInBounds i true) w := fun p hp hl => h p hp (by
 rwa [getD_set_ne true (fun e => hn p hp e.symm)] at hl)
theorem Held.unset {listed : Array Bool} {w : World} {i j : Nat} (h : Held R ((listed.setIfInBounds i true).setIfInBounds j true) w) (hij : i ≠ j) (hn : ∀ p ∈ R, p.1 ≠ i) : Held R (listed.setIfInBounds j true) w := fun p hp hl => h p hp (by
 rw [Array.setIfInBounds_comm _ _ hij, getD_set_ne true (fun e => hn p hp e.symm)]; exact hl)
theorem wpAnyP_first {i T : Nat} {S : World → Prop} {oi : Oper} {v : Value} (hi : ops[i]? = some oi) (hsel : ∀ (j : Nat) (o : Oper) cs b, ops[j]? = some o → o.op ≠ .select cs b) (hR : (T, S) ∈ R) (hn : ∀ p ∈ R, p.1 ≠ i) (hT : Region.waitsFor md ops T i = true)
  (hQ : ∀ c a w, Q (.panic c) (a.put oi.dst v) w → Q (.panic c) a w) (fuel : Nat) :
  ∀ (listed : Array Bool) (a : Act) (w : World), Lone md ops i oi listed → i ∈ Region.ready md ops listed → YieldsIf P ops S oi v a → listed.getD T true = false → Held R listed w →
   wpAnyP P md ops Q R fuel (listed.setIfInBounds i true) (a.put oi.dst v) w → wpAnyP P md ops Q R (fuel + 1) listed a w := by
 obtain ⟨oT, hoT, e, heT, hbT, honT⟩ := Region.waitsFor_spec hT
 induction fuel with
 | zero =>
  intro listed a w _ hr hy hu hS H
  constructor
  ·intro h; rw [h] at hr; cases hr
  ·intro j hj
   rcases Nat.decEq j i with hji | rfl
   ·have h0 := ready_mono hj hji; rw [H.1] at h0; cases h0
   ·exact hy.wpOp hi (hS _ hR hu) ⟨hS.set hn, H⟩
 | succ fuel ih =>
  intro listed a w hL hr hy hu hS H
  constructor
  ·intro h; rw [h] at hr; cases hr
  ·intro j hj
   rcases Nat.decEq j i with hji | rfl
   ·obtain ⟨hjun, oj, hoj, _⟩ := mem_ready.1 hj
    have hno := unready hr hj hoj
    have hjT : j ≠ T := by
     rintro rfl
     obtain rfl : oj = oT := Option.some.inj (hoj.symm.trans hoT)
     exact hno e heT hbT honT
    have hstep := wpOp_putIf hoj (hL j oj hoj hji hjun hno) (fun cs b => hsel i oi cs b hi) (fun cs b => hsel j oj cs b hoj) hQ hy (H.2 j (ready_mono hj hji))
    refine wpOp_mono ?_ hstep
    rintro a' w' ⟨hy', hS', hR'⟩
    refine ⟨hS'.unset (Ne.symm hji) hn, ih _ a' w' (hL.set hjun) (ready_mono hr (Ne.symm hji)) hy' (by rw [getD_set_ne true hjT]; exact hu) (hS'.unset (Ne.symm hji) hn) ?_⟩
    rwa [Array.setIfInBounds_comm _ _ hji]
   ·exact hy.wpOp hi (hS _ hR hu) ⟨hS.set hn, H⟩
/-- Take number i first: it yields v in every world that meets S, and T, up to which S is promised, waits for it. -/
theorem wpAnyP_take (T : Nat) (S : World → Prop) {i : Nat} {oi : Oper} {v : Value} {fuel : Nat} {listed : Array Bool} {a : Act} {w : World} (hR : (T, S) ∈ R) (hi : ops[i]? = some oi)
  (hs : Region.noSelect ops = true) (hf : Region.free md ops listed i = true) (hr : (Region.ready md ops listed).contains i = true) (hT : Region.waitsFor md ops T i = true) (hu : listed.getD T true = false) (hn : R.all (fun p => p.1 != i) = true)
  (hQ : ∀ c a w, Q (.panic c) (a.put oi.dst v) w → Q (.panic c) a w) (hy : YieldsIf P ops S oi v a) (hS : Held R listed w)
  (h : Held R (listed.setIfInBounds i true) w → wpAnyP P md ops Q R fuel (listed.setIfInBounds i true) (a.put oi.dst v) w) : wpAnyP P md ops Q R (fuel + 1) listed a w := by
 have hn' : ∀ p ∈ R, p.1 ≠ i := fun p hp => by have := List.all_eq_true.1 hn p hp; simpa using this
 exact wpAnyP_first hi (Region.noSelect_spec hs) hR hn' hT hQ fuel listed a w (Region.free_spec hi hf) (by simpa using hr) hy hu hS (h (hS.set hn'))
theorem wpAnyP_done {listed : Array Bool} {a : Act} {w : World} (hr : Region.ready md ops listed = []) (h : Q .normal a w) :
  ∀ fuel, wpAnyP P md ops Q R fuel listed a w
 | 0 => ⟨hr, h⟩
 | _ + 1 => ⟨fun _ => h, by rw [hr]; simp⟩
/-- One alone may come up. -/
theorem wpAnyP_one {i : Nat} {o : Oper} {fuel : Nat} {listed : Array Bool} {a : Act} {w : World} (hr : Region.ready md ops listed = [i]) (ho : ops[i]? = some o)
  (h : ∀ K' : Act → World → Prop, Shut (∀ a w, Held R (listed.setIfInBounds i true) w → (Held R (listed.setIfInBounds i true) w → wpAnyP P md ops Q R fuel (listed.setIfInBounds i true) a w) → K' a w) → if Region.wanted o (yielded ops a.tmps) = true then Oper.wp P o a w K' Q else K' (a.put o.dst undef) w) :
  wpAnyP P md ops Q R (fuel + 1) listed a w :=
 ⟨fun h0 => (by rw [h0] at hr; cases hr), fun j hj => by
  rw [hr] at hj
  obtain rfl : j = i := by simpa using hj
  exact wpOp_step ho (fun K' hK => h K' (fun a w hS hW => hK a w ⟨hS, hW hS⟩))⟩
theorem wp_region_P {id : Nat} {a : Act} {w : World} (R : List (Nat × (World → Prop))) (hm : P.follows .mixedOrders = true) (hS : Held R (Array.replicate ops.size false) w.drew)
  (h : Held R (Array.replicate ops.size false) w.drew → wpAnyP P .any ops Q R ops.size (Array.replicate ops.size false) a w.drew) : (Code.region id ops true).wp P Q a w :=
 wp_region_any hm (wpAny_of_P _ _ _ _ (h hS))
end
/-! ### Inside a fence -/
section
variable {F : Fence} {n : Nat} {P : Program} {ops : Array Oper} {md : Region.Mode}
/-- Operations that call nothing. -/
def plainB (o : Oper) : Bool :=
 match o.op with
 | .move _ | .assign _ | .pick _ _ _ | .alloc _ | .box _ _ | .build _ _ | .buildSlice _ _ _ | .load _ _ | .store _ _ _ | .binOp _ _ _ _ _ | .unOp _ _ _ | .convert _ _ _ | .slice _ _ _ _ _ | .fieldAddr _ _ _ | .field _ _ _ | .indexAddr _ _ _ | .index _ _ _ | .extract _ _ => true
 | _ => false
theorem value_run {s : Sem Value} (w : World) : (∃ v w', ((do pure (.value (← s)) : Sem Next)).run P w = .ok (.value v) w') ∨ ∃ h w', ((do pure (.value (← s)) : Sem Next)).run P w = .halt h w' := by
 rw [Sem.run_bind]
 cases s.run P w with
 | ok v w' => exact .inl ⟨v, w', rfl⟩
 | halt h w' => exact .inr ⟨h, w', rfl⟩
theorem plain_run {o : Oper} (hp : plainB o = true) (ρ : Operand → Value) (w : World) :
  (∃ v w', (execOp ρ o).run P w = .ok (.value v) w') ∨ (∃ w', (execOp ρ o).run P w = .ok .skip w') ∨ ∃ h w', (execOp ρ o).run P w = .halt h w' := by
 unfold plainB at hp
 unfold execOp
 split at hp <;> (try cases hp) <;> rename_i e <;> simp only [e]
 all_goals first
  | (rcases value_run (P := P) w with h | h
     ·exact .inl h
     ·exact .inr (.inr h))
  | exact .inl ⟨_, _, rfl⟩
  | (rw [Sem.run_bind]
     split
     ·exact .inr (.inl ⟨_, rfl⟩)
     ·exact .inr (.inr ⟨_, _, rfl⟩))
  | (rw [Sem.run_bind]
     generalize Sem.run P _ w = r
     cases r with
     | ok v w' => first | exact .inl ⟨_, _, rfl⟩ | exact .inr (.inl ⟨_, rfl⟩)
     | halt h w' => exact .inr (.inr ⟨_, _, rfl⟩))
theorem plain_wpIn {K : Act → World → Prop} {Q : Exit → Act → World → Prop} {K0 K' : Act → World → Prop} {o : Oper} (hp : plainB o = true) {a : Act} {w : World}
  (h : o.wp P a w K (Exit.then K0 (fun _ _ _ => False)) ∨ (o.asks P a w ∧ LetsOut (Exit.then K0 (fun _ _ _ => False)))) (hk : ∀ a w, K a w → K' a w) : o.wpIn F n P a w K' Q := by
 have hab : ∀ w, o.about P w a.eval = none := fun w => by
  unfold plainB at hp
  unfold Oper.about
  split at hp <;> (try cases hp) <;> rename_i e <;> simp only [e]
 have hd : ∀ c, o.op ≠ .defer c := fun c e => by unfold plainB at hp; rw [e] at hp; cases hp
 have hw : o.wp P a w K (Exit.then K0 (fun _ _ _ => False)) := by
  rcases h with h | ⟨_, a', w', h⟩
  ·exact h
  ·exact h.elim
 unfold Oper.wpIn
 refine ⟨fun f e => by (rw [hab] at e; cases e), ?_⟩
 rw [Oper.semAt_plain F _ _ hd]
 unfold Oper.wp at hw
 rcases plain_run (P := P) hp a.eval w with ⟨v, w', e⟩ | ⟨w', e⟩ | ⟨x, w', e⟩
 ·rw [e] at hw ⊢; exact hk _ _ hw
 ·rw [e] at hw ⊢; exact hk _ _ hw
 ·rw [e] at hw ⊢
  cases x <;> exact hw.elim
theorem plain_anyIn {K0 : Act → World → Prop} {Q : Exit → Act → World → Prop} (hp : ∀ (i : Nat) (o : Oper), ops[i]? = some o → plainB o = true) : ∀ (fuel : Nat) (listed : Array Bool) (a : Act) (w : World),
  wpAny P md ops (Exit.then K0 (fun _ _ _ => False)) fuel listed a w → wpAnyIn F n P md ops (Exit.then K0 Q) fuel listed a w
 | 0, _, _, _, h => h
 | fuel + 1, listed, a, w, h => ⟨h.1, fun i hi => by
  have h1 := h.2 i hi
  unfold wpOp at h1
  unfold wpOpIn
  cases ho : ops[i]? with
  | none => rw [ho] at h1; exact plain_anyIn hp fuel _ _ _ h1
  | some o =>
   rw [ho] at h1
   have hpo := hp i o ho
   dsimp only at h1 ⊢
   split
   ·rename_i hw
    rw [if_pos hw] at h1
    exact plain_wpIn hpo h1 (fun a w h => plain_anyIn hp fuel _ _ _ h)
   ·rename_i hw
    rw [if_neg hw] at h1
    refine ⟨fun f e => ?_, plain_anyIn hp fuel _ _ _ h1⟩
    exfalso
    unfold plainB at hpo
    unfold Oper.about at e
    split at hpo <;> (try cases hpo) <;> rename_i e2 <;> simp only [e2] at e <;> cases e⟩
/-- A region without calls, inside a fence, by promises. -/
theorem wpIn_region_P {K0 : Act → World → Prop} {Q : Exit → Act → World → Prop} {id : Nat} {a : Act} {w : World} (R : List (Nat × (World → Prop))) (hm : P.follows .mixedOrders = true) (hp : ops.all plainB = true) (hS : Held R (Array.replicate ops.size false) w.drew)
  (h : Held R (Array.replicate ops.size false) w.drew → wpAnyP P .any ops (Exit.then K0 (fun _ _ _ => False)) R ops.size (Array.replicate ops.size false) a w.drew) : (Code.region id ops true).wpIn F n P (Exit.then K0 Q) a w :=
 wpIn_region_any hm (plain_anyIn (fun i o ho => by
  obtain ⟨hi, rfl⟩ := Array.getElem?_eq_some_iff.1 ho
  exact Array.all_eq_true.1 hp i hi) _ _ _ _ (wpAny_of_P _ _ _ _ (h hS)))
end
end Go.Proofs.YtabfcaidioohfaaDoor.Pr
namespace Go.Proofs.YtabfcaidioohfaaDoor
open List (getElem?_toArray getElem?_cons_zero getElem?_cons_succ setIfInBounds_toArray set_cons_zero set_cons_succ)
set_option maxRecDepth 100000
open Go Go.RowKit
set_option linter.unusedVariables false
set_option linter.unusedSimpArgs false
/-- Halves of a block that was read so far. -/
theorem or8 (p c : Nat) (hp : p < 72057594037927936) (hc : c < 256) : bits .or .u64 ((p : Int) * 256) (c : Int) = ((p * 256 + c : Nat) : Int) := by
 rw [bits_join .u64 64 (by decide) (fun n h₀ h₁ => by rw [IntKind.wrap_u64]; omega) 8 ((p : Int) * 256) (c : Int) (by omega) (by omega) (by omega) (by omega) (by omega) (by omega)]
 omega
theorem nb_take_next {l : List Nat} {k : Nat} (hk : k < l.length) : Gc.nb (l.take (k + 1)) = Gc.nb (l.take k) * 256 + l.getD k 0 := by
 rw [List.take_succ_eq_append_getElem hk, Gc.nb_snoc, List.getD_eq_getElem?_getD, List.getElem?_eq_getElem hk]; rfl
theorem nb_take_lt {l : List Nat} (hb : Ae.bytes l) {k : Nat} (hk : k < 8) : Gc.nb (l.take k) < 72057594037927936 := by
 have h := Gc.nb_lt (l.take k) (fun c hc => hb c (List.mem_of_mem_take hc))
 have h2 : 256 ^ (l.take k).length ≤ 256 ^ 7 := Nat.pow_le_pow_right (by decide) (by rw [List.length_take]; omega)
 have h3 : (256 : Nat) ^ 7 = 72057594037927936 := by decide
 omega
set_option maxRecDepth 100000 in
set_option maxHeartbeats 4000000 in
theorem of_any (b : List Nat) (w : World) (hl : b.length = 16) (hb : Ae.bytes b) :
  Calls Tryd.prog 79 #[.agg (cellsN b)] w fun e w' => e = .returned (.agg #[.int .u64 ((Gc.hi (Gc.nb b) : Nat) : Int), .int .u64 ((Gc.lo (Gc.nb b) : Nat) : Int)]) ∧ Below w.heap.size w w' := by
 obtain ⟨B, hB⟩ : ∃ B, w.heap.size = B := ⟨_, rfl⟩
 have hba : Below w.heap.size w (((w.alloc (.cells (cellsN b) 26)).alloc (.cells #[.int .u64 0, .int .u64 0] 116)).alloc (.cells #[.int .u64 0, .int .u64 0] 116)) := (((Below.refl _ w).alloc (Nat.le_refl _) _).alloc (by simp) _).alloc (by simp; omega) _
 have H0 : Hid (Obj (((w.alloc (.cells (cellsN b) 26)).alloc (.cells #[.int .u64 0, .int .u64 0] 116)).alloc (.cells #[.int .u64 0, .int .u64 0] 116)) B 26 (cellsN b) ∧ Obj (((w.alloc (.cells (cellsN b) 26)).alloc (.cells #[.int .u64 0, .int .u64 0] 116)).alloc (.cells #[.int .u64 0, .int .u64 0] 116)) (B + 1) 116 #[.int .u64 0, .int .u64 0] ∧
   Obj (((w.alloc (.cells (cellsN b) 26)).alloc (.cells #[.int .u64 0, .int .u64 0] 116)).alloc (.cells #[.int .u64 0, .int .u64 0] 116)) (B + 2) 116 #[.int .u64 ((Gc.nb (b.take 0) : Nat) : Int), .int .u64 ((Gc.nb ((b.drop 8).take 0) : Nat) : Int)] ∧ Below w.heap.size w (((w.alloc (.cells (cellsN b) 26)).alloc (.cells #[.int .u64 0, .int .u64 0] 116)).alloc (.cells #[.int .u64 0, .int .u64 0] 116))) := by
  refine ⟨hB ▸ ((Obj.new w _ _).alloc _).alloc _, ?_, ?_, hba⟩
  ·have := (new2 w (.cells (cellsN b) 26) 116 #[.int .u64 0, .int .u64 0]).alloc (.cells #[.int .u64 0, .int .u64 0] 116)
   rw [hB] at this
   exact this
  ·have := Obj.new ((w.alloc (.cells (cellsN b) 26)).alloc (.cells #[.int .u64 0, .int .u64 0] 116)) 116 #[.int .u64 0, .int .u64 0]
   simp only [World.size_alloc, hB] at this
   exact this
 clear hba
 go_enter Tryd.func79, Tryd.ntmps79
 go_wp2
 go_loopw [4, 5] (fun _ i wr => ∃ k : Nat, k ≤ 8 ∧ i = .int .i64 (k : Int) ∧ Obj wr B 26 (cellsN b) ∧ Obj wr (B + 1) 116 #[.int .u64 0, .int .u64 0] ∧ Obj wr (B + 2) 116 #[.int .u64 ((Gc.nb (b.take k) : Nat) : Int), .int .u64 ((Gc.nb ((b.drop 8).take k) : Nat) : Int)] ∧ Below w.heap.size w wr) (fun _ i _ => 8 - (intOf i).toNat)
 case atStart => exact ⟨0, Nat.zero_le _, rfl, H0.out.1, H0.out.2.1, H0.out.2.2.1, H0.out.2.2.2⟩
 case round =>
  clear H0
  obtain ⟨k, hk, rfl, o0, o1, o2, hb2⟩ := hrel
  by_cases hlt : k < 8
  ·have hki : (k : Int) < 8 := by omega
   have r0 := o0.getN k (by omega)
   have r1 := o0.getN (8 + k) (by omega)
   have c0 := Ae.bytes_get hb k
   have c1 := Ae.bytes_get hb (8 + k)
   have p0 := nb_take_lt hb hlt
   have p1 := nb_take_lt (fun c hc => hb c (List.mem_of_mem_drop hc) : Ae.bytes (b.drop 8)) hlt
   have n0 := nb_take_next (l := b) (k := k) (by omega)
   have n1 := nb_take_next (l := b.drop 8) (k := k) (by rw [List.length_drop]; omega)
   rw [show (b.drop 8).getD k 0 = b.getD (8 + k) 0 by simp [List.getD_eq_getElem?_getD]] at n1
   have e8 : IntKind.i64.wrap (8 + (k : Int)) = ((8 + k : Nat) : Int) := by rw [IntKind.wrap_i64]; omega
   generalize Gc.nb (b.take k) = p at *
   generalize Gc.nb ((b.drop 8).take k) = q at *
   generalize b.getD k 0 = c at *
   generalize b.getD (8 + k) 0 = d at *
   have x0 := or8 p c p0 c0
   have x1 := or8 q d p1 c1
   have f0 : wr.cell? ⟨B + 1 + 1, 0, none⟩ = some (.int .u64 (p : Int)) := by rw [o2.cell]; rfl
   have f1 : wr.cell? ⟨B + 1 + 1, 1, none⟩ = some (.int .u64 (q : Int)) := by rw [o2.cell]; rfl
   have z0 := o2.free 0
   have z1 := o2.free 1
   have u2 : Upd (B + 2) wr ((wr.setCell ⟨B + 1 + 1, 0, none⟩ (.int .u64 ((p * 256 + c : Nat) : Int))).setCell ⟨B + 1 + 1, 1, none⟩ (.int .u64 ((q * 256 + d : Nat) : Int))).drew := (((Upd.refl _ wr).set 0 _).set 1 _).drew
   have HFI : Hid (Obj ((wr.setCell ⟨B + 1 + 1, 0, none⟩ (.int .u64 ((p * 256 + c : Nat) : Int))).setCell ⟨B + 1 + 1, 1, none⟩ (.int .u64 ((q * 256 + d : Nat) : Int))).drew B 26 (cellsN b) ∧ Obj ((wr.setCell ⟨B + 1 + 1, 0, none⟩ (.int .u64 ((p * 256 + c : Nat) : Int))).setCell ⟨B + 1 + 1, 1, none⟩ (.int .u64 ((q * 256 + d : Nat) : Int))).drew (B + 1) 116 #[.int .u64 0, .int .u64 0] ∧ Obj ((wr.setCell ⟨B + 1 + 1, 0, none⟩ (.int .u64 ((p * 256 + c : Nat) : Int))).setCell ⟨B + 1 + 1, 1, none⟩ (.int .u64 ((q * 256 + d : Nat) : Int))).drew (B + 2) 116 #[.int .u64 ((Gc.nb (b.take (k + 1)) : Nat) : Int), .int .u64 ((Gc.nb ((b.drop 8).take (k + 1)) : Nat) : Int)] ∧ Below w.heap.size w ((wr.setCell ⟨B + 1 + 1, 0, none⟩ (.int .u64 ((p * 256 + c : Nat) : Int))).setCell ⟨B + 1 + 1, 1, none⟩ (.int .u64 ((q * 256 + d : Nat) : Int))).drew) := by
    refine ⟨o0.upd u2 (by omega), o1.upd u2 (by omega), ?_, Upd.below hb2 (by omega) u2⟩
    rw [n0, n1]
    exact ((o2.set 0 _).set 1 _).as rfl
   clear o0 o1 o2 n0 n1 hb2 u2
   go_wp2
   go_region
   go_wp2
   go_roundw
   case rel => exact ⟨k + 1, by omega, by go_num, HFI.out⟩
   case measure => simp [intOf]; omega
  ·obtain rfl : k = 8 := by omega
   have e1 : Gc.nb (b.take 8) = Gc.hi (Gc.nb b) := (Gc.nb_parts hl hb).1.symm
   have e2 : Gc.nb ((b.drop 8).take 8) = Gc.lo (Gc.nb b) := by rw [List.take_of_length_le (by rw [List.length_drop]; omega)]; exact (Gc.nb_parts hl hb).2.symm
   rw [e1, e2] at o2
   obtain ⟨p, hp⟩ : ∃ p, Gc.hi (Gc.nb b) = p := ⟨_, rfl⟩
   obtain ⟨q, hq⟩ : ∃ q, Gc.lo (Gc.nb b) = q := ⟨_, rfl⟩
   rw [hp, hq] at o2
   have HP := Lib.hid hp
   have HQ := Lib.hid hq
   have f0 : wr.cell? ⟨B + 1 + 1, 0, none⟩ = some (.int .u64 (p : Int)) := by rw [o2.cell]; rfl
   have f1 : wr.cell? ⟨B + 1 + 1, 1, none⟩ = some (.int .u64 (q : Int)) := by rw [o2.cell]; rfl
   have g0 : wr.cell? ⟨B + 1, 0, none⟩ = some (.int .u64 0) := by rw [o1.cell]; rfl
   have g1 : wr.cell? ⟨B + 1, 1, none⟩ = some (.int .u64 0) := by rw [o1.cell]; rfl
   have z0 := o1.free 0
   have z1 := o1.free 1
   have o1' := o1.set 0 (.int .u64 (p : Int))
   have g1' : (wr.setCell ⟨B + 1, 0, none⟩ (.int .u64 (p : Int))).cell? ⟨B + 1, 1, none⟩ = some (.int .u64 0) := by rw [o1'.cell]; rfl
   have o1'' := o1'.set 1 (.int .u64 (q : Int))
   have h0 : ((wr.setCell ⟨B + 1, 0, none⟩ (.int .u64 (p : Int))).setCell ⟨B + 1, 1, none⟩ (.int .u64 (q : Int))).cell? ⟨B + 1, 0, none⟩ = some (.int .u64 (p : Int)) := by rw [o1''.cell]; rfl
   have h1 : ((wr.setCell ⟨B + 1, 0, none⟩ (.int .u64 (p : Int))).setCell ⟨B + 1, 1, none⟩ (.int .u64 (q : Int))).cell? ⟨B + 1, 1, none⟩ = some (.int .u64 (q : Int)) := by rw [o1''.cell]; rfl
   have HB2 : Hid (Below w.heap.size w ((wr.setCell ⟨B + 1, 0, none⟩ (.int .u64 (p : Int))).setCell ⟨B + 1, 1, none⟩ (.int .u64 (q : Int)))) := Upd.below hb2 (show w.heap.size ≤ B + 1 by omega) (((Upd.refl _ wr).set 0 _).set 1 _)
   clear o0 o1 o2 o1' o1'' hb2 e1 e2 hp hq
   go_wp2
   exact bodyPost_ret (v := .agg #[.int .u64 (p : Int), .int .u64 (q : Int)]) (by simp [results, Tryd.results79, go_sem, h0, h1]) rfl ⟨by rw [HP.out, HQ.out], HB2.out⟩
end Go.Proofs.YtabfcaidioohfaaDoor
namespace Go.Proofs.YtabfcaidioohfaaDoor
open List (getElem?_toArray getElem?_cons_zero getElem?_cons_succ setIfInBounds_toArray set_cons_zero set_cons_succ)
set_option maxRecDepth 100000
open Go Go.RowKit
set_option linter.unusedVariables false
set_option linter.unusedSimpArgs false
/-- The bytes that were laid so far, the last ones first. -/
def blk (h l k : Nat) : List Nat := (List.range 16).map fun i => if i < 8 then (if 8 - k ≤ i then h / 2 ^ (8 * (7 - i)) % 256 else 0) else (if 16 - k ≤ i then l / 2 ^ (8 * (15 - i)) % 256 else 0)
theorem blk_zero (h l : Nat) : blk h l 0 = List.replicate 16 0 := by
 have : blk h l 0 = (List.range 16).map fun _ => 0 := by
  unfold blk
  refine List.map_congr_left fun i hi => ?_
  have := List.mem_range.1 hi
  split
  ·rw [if_neg (by omega)]
  ·rw [if_neg (by omega)]
 rw [this]; rfl
theorem blk_full (h l : Nat) : blk h l 8 = Gc.by8 h ++ Gc.by8 l := rfl
theorem blk_len (h l k : Nat) : (blk h l k).length = 16 := by simp [blk]
theorem blk_next (h l k : Nat) (hk : k < 8) : ((blk h l k).set (7 - k) (h / 2 ^ (8 * k) % 256)).set (15 - k) (l / 2 ^ (8 * k) % 256) = blk h l (k + 1) := by
 refine List.ext_getElem (by simp [blk]) fun i h1 h2 => ?_
 have hi : i < 16 := by simpa [blk] using h2
 rw [List.getElem_set, List.getElem_set]
 simp only [blk, List.getElem_map, List.getElem_range]
 by_cases e1 : 15 - k = i
 ·rw [if_pos e1, if_neg (by omega), if_pos (by omega), show 15 - i = k by omega]
 ·rw [if_neg e1]
  by_cases e2 : 7 - k = i
  ·rw [if_pos e2, if_pos (by omega), if_pos (by omega), show 7 - i = k by omega]
  ·rw [if_neg e2]
   by_cases h8 : i < 8
   ·rw [if_pos h8, if_pos h8]
    by_cases h9 : 8 - k ≤ i
    ·rw [if_pos h9, if_pos (by omega)]
    ·rw [if_neg h9, if_neg (by omega)]
   ·rw [if_neg h8, if_neg h8]
    by_cases h9 : 16 - k ≤ i
    ·rw [if_pos h9, if_pos (by omega)]
    ·rw [if_neg h9, if_neg (by omega)]
set_option maxRecDepth 100000 in
set_option maxHeartbeats 4000000 in
theorem block_any (h l : Nat) (w : World) (hh : h < 18446744073709551616) (hl : l < 18446744073709551616) :
  Calls Tryd.prog 83 #[.agg #[.int .u64 (h : Int), .int .u64 (l : Int)]] w fun e w' => e = .returned (.agg (cellsN (Gc.by8 h ++ Gc.by8 l))) ∧ Below w.heap.size w w' := by
 obtain ⟨B, hB⟩ : ∃ B, w.heap.size = B := ⟨_, rfl⟩
 have hba : Below w.heap.size w (((w.alloc (.cells #[.int .u64 (h : Int), .int .u64 (l : Int)] 116)).alloc (.cells #[.int .u8 0, .int .u8 0, .int .u8 0, .int .u8 0, .int .u8 0, .int .u8 0, .int .u8 0, .int .u8 0, .int .u8 0, .int .u8 0, .int .u8 0, .int .u8 0, .int .u8 0, .int .u8 0, .int .u8 0, .int .u8 0] 26)).alloc (.cells #[.int .u8 0, .int .u8 0, .int .u8 0, .int .u8 0, .int .u8 0, .int .u8 0, .int .u8 0, .int .u8 0, .int .u8 0, .int .u8 0, .int .u8 0, .int .u8 0, .int .u8 0, .int .u8 0, .int .u8 0, .int .u8 0] 26)) := (((Below.refl _ w).alloc (Nat.le_refl _) _).alloc (by simp) _).alloc (by simp; omega) _
 have H0 : Hid (Obj (((w.alloc (.cells #[.int .u64 (h : Int), .int .u64 (l : Int)] 116)).alloc (.cells #[.int .u8 0, .int .u8 0, .int .u8 0, .int .u8 0, .int .u8 0, .int .u8 0, .int .u8 0, .int .u8 0, .int .u8 0, .int .u8 0, .int .u8 0, .int .u8 0, .int .u8 0, .int .u8 0, .int .u8 0, .int .u8 0] 26)).alloc (.cells #[.int .u8 0, .int .u8 0, .int .u8 0, .int .u8 0, .int .u8 0, .int .u8 0, .int .u8 0, .int .u8 0, .int .u8 0, .int .u8 0, .int .u8 0, .int .u8 0, .int .u8 0, .int .u8 0, .int .u8 0, .int .u8 0] 26)) B 116 #[.int .u64 (h : Int), .int .u64 (l : Int)] ∧ Obj (((w.alloc (.cells #[.int .u64 (h : Int), .int .u64 (l : Int)] 116)).alloc (.cells #[.int .u8 0, .int .u8 0, .int .u8 0, .int .u8 0, .int .u8 0, .int .u8 0, .int .u8 0, .int .u8 0, .int .u8 0, .int .u8 0, .int .u8 0, .int .u8 0, .int .u8 0, .int .u8 0, .int .u8 0, .int .u8 0] 26)).alloc (.cells #[.int .u8 0, .int .u8 0, .int .u8 0, .int .u8 0, .int .u8 0, .int .u8 0, .int .u8 0, .int .u8 0, .int .u8 0, .int .u8 0, .int .u8 0, .int .u8 0, .int .u8 0, .int .u8 0, .int .u8 0, .int .u8 0] 26)) (B + 1) 26 (cellsN (List.replicate 16 0)) ∧
   Obj (((w.alloc (.cells #[.int .u64 (h : Int), .int .u64 (l : Int)] 116)).alloc (.cells #[.int .u8 0, .int .u8 0, .int .u8 0, .int .u8 0, .int .u8 0, .int .u8 0, .int .u8 0, .int .u8 0, .int .u8 0, .int .u8 0, .int .u8 0, .int .u8 0, .int .u8 0, .int .u8 0, .int .u8 0, .int .u8 0] 26)).alloc (.cells #[.int .u8 0, .int .u8 0, .int .u8 0, .int .u8 0, .int .u8 0, .int .u8 0, .int .u8 0, .int .u8 0, .int .u8 0, .int .u8 0, .int .u8 0, .int .u8 0, .int .u8 0, .int .u8 0, .int .u8 0, .int .u8 0] 26)) (B + 2) 26 (cellsN (blk h l 0)) ∧ Below w.heap.size w (((w.alloc (.cells #[.int .u64 (h : Int), .int .u64 (l : Int)] 116)).alloc (.cells #[.int .u8 0, .int .u8 0, .int .u8 0, .int .u8 0, .int .u8 0, .int .u8 0, .int .u8 0, .int .u8 0, .int .u8 0, .int .u8 0, .int .u8 0, .int .u8 0, .int .u8 0, .int .u8 0, .int .u8 0, .int .u8 0] 26)).alloc (.cells #[.int .u8 0, .int .u8 0, .int .u8 0, .int .u8 0, .int .u8 0, .int .u8 0, .int .u8 0, .int .u8 0, .int .u8 0, .int .u8 0, .int .u8 0, .int .u8 0, .int .u8 0, .int .u8 0, .int .u8 0, .int .u8 0] 26))) := by
  refine ⟨hB ▸ ((Obj.new w _ _).alloc _).alloc _, ?_, ?_, hba⟩
  ·have := (new2 w (.cells #[.int .u64 (h : Int), .int .u64 (l : Int)] 116) 26 #[.int .u8 0, .int .u8 0, .int .u8 0, .int .u8 0, .int .u8 0, .int .u8 0, .int .u8 0, .int .u8 0, .int .u8 0, .int .u8 0, .int .u8 0, .int .u8 0, .int .u8 0, .int .u8 0, .int .u8 0, .int .u8 0]).alloc (.cells #[.int .u8 0, .int .u8 0, .int .u8 0, .int .u8 0, .int .u8 0, .int .u8 0, .int .u8 0, .int .u8 0, .int .u8 0, .int .u8 0, .int .u8 0, .int .u8 0, .int .u8 0, .int .u8 0, .int .u8 0, .int .u8 0] 26)
   rw [hB] at this
   exact this
  ·have := Obj.new ((w.alloc (.cells #[.int .u64 (h : Int), .int .u64 (l : Int)] 116)).alloc (.cells #[.int .u8 0, .int .u8 0, .int .u8 0, .int .u8 0, .int .u8 0, .int .u8 0, .int .u8 0, .int .u8 0, .int .u8 0, .int .u8 0, .int .u8 0, .int .u8 0, .int .u8 0, .int .u8 0, .int .u8 0, .int .u8 0] 26)) 26 #[.int .u8 0, .int .u8 0, .int .u8 0, .int .u8 0, .int .u8 0, .int .u8 0, .int .u8 0, .int .u8 0, .int .u8 0, .int .u8 0, .int .u8 0, .int .u8 0, .int .u8 0, .int .u8 0, .int .u8 0, .int .u8 0]
   simp only [World.size_alloc, hB] at this
   rw [blk_zero]
   exact this
 clear hba
 go_enter Tryd.func83, Tryd.ntmps83
 go_wp2
 go_loopw [4, 5] (fun _ i wr => ∃ k : Nat, k ≤ 8 ∧ i = .int .i64 (k : Int) ∧ Obj wr B 116 #[.int .u64 (h : Int), .int .u64 (l : Int)] ∧ Obj wr (B + 1) 26 (cellsN (List.replicate 16 0)) ∧ Obj wr (B + 2) 26 (cellsN (blk h l k)) ∧ Below w.heap.size w wr) (fun _ i _ => 8 - (intOf i).toNat)
 case atStart => exact ⟨0, Nat.zero_le _, rfl, H0.out.1, H0.out.2.1, H0.out.2.2.1, H0.out.2.2.2⟩
 case round =>
  clear H0
  obtain ⟨k, hk, rfl, o0, o1, o2, hb2⟩ := hrel
  by_cases hlt : k < 8
  ·have hki : (k : Int) < 8 := by omega
   have f0 : wr.cell? ⟨B, 0, none⟩ = some (.int .u64 (h : Int)) := by rw [o0.cell]; rfl
   have f1 : wr.cell? ⟨B, 1, none⟩ = some (.int .u64 (l : Int)) := by rw [o0.cell]; rfl
   have r0 := o2.getN (7 - k) (by simp [blk]; omega)
   have r1 := o2.getN (15 - k) (by simp [blk]; omega)
   have z0 := o2.free (7 - k)
   have z1 := o2.free (15 - k)
   obtain ⟨a, ha⟩ : ∃ a, 7 - k = a := ⟨_, rfl⟩
   obtain ⟨c, hc⟩ : ∃ c, 15 - k = c := ⟨_, rfl⟩
   obtain ⟨s, hs⟩ : ∃ s, 8 * k = s := ⟨_, rfl⟩
   have e1 : 7 - (k : Int) = (a : Int) := by omega
   have e2 : 15 - (k : Int) = (c : Int) := by omega
   have e3 : 8 * (k : Int) = (s : Int) := by omega
   have hn := blk_next h l k hlt
   rw [ha, hc, hs] at hn
   rw [ha] at r0 z0
   rw [hc] at r1 z1
   have v0 : (h : Int) / 2 ^ s % 256 = ((h / 2 ^ s % 256 : Nat) : Int) := by simp
   have v1 : (l : Int) / 2 ^ s % 256 = ((l / 2 ^ s % 256 : Nat) : Int) := by simp
   have u2 : Upd (B + 2) wr ((wr.setCell ⟨B + 1 + 1, a, none⟩ (.int .u8 ((h : Int) / 2 ^ s % 256))).setCell ⟨B + 1 + 1, c, none⟩ (.int .u8 ((l : Int) / 2 ^ s % 256))).drew := (((Upd.refl _ wr).set a _).set c _).drew
   have HFI : Hid (Obj ((wr.setCell ⟨B + 1 + 1, a, none⟩ (.int .u8 ((h : Int) / 2 ^ s % 256))).setCell ⟨B + 1 + 1, c, none⟩ (.int .u8 ((l : Int) / 2 ^ s % 256))).drew B 116 #[.int .u64 (h : Int), .int .u64 (l : Int)] ∧ Obj ((wr.setCell ⟨B + 1 + 1, a, none⟩ (.int .u8 ((h : Int) / 2 ^ s % 256))).setCell ⟨B + 1 + 1, c, none⟩ (.int .u8 ((l : Int) / 2 ^ s % 256))).drew (B + 1) 26 (cellsN (List.replicate 16 0)) ∧ Obj ((wr.setCell ⟨B + 1 + 1, a, none⟩ (.int .u8 ((h : Int) / 2 ^ s % 256))).setCell ⟨B + 1 + 1, c, none⟩ (.int .u8 ((l : Int) / 2 ^ s % 256))).drew (B + 2) 26 (cellsN (blk h l (k + 1))) ∧ Below w.heap.size w ((wr.setCell ⟨B + 1 + 1, a, none⟩ (.int .u8 ((h : Int) / 2 ^ s % 256))).setCell ⟨B + 1 + 1, c, none⟩ (.int .u8 ((l : Int) / 2 ^ s % 256))).drew) := by
    refine ⟨o0.upd u2 (by omega), o1.upd u2 (by omega), ?_, Upd.below hb2 (by omega) u2⟩
    rw [v0, v1, ← hn]
    exact (o2.setN a _).setN c _
   clear o0 o1 o2 ha hc hs hn v0 v1 u2 hb2
   generalize (blk h l k).getD a 0 = x at *
   generalize (blk h l k).getD c 0 = y at *
   go_wp2
   go_region
   go_wp2
   go_roundw
   case rel => exact ⟨k + 1, by omega, by go_num, HFI.out⟩
   case measure => simp [intOf]; omega
  ·obtain rfl : k = 8 := by omega
   rw [blk_full] at o2
   have hlen : (Gc.by8 h ++ Gc.by8 l).length = 16 := by rw [List.length_append, Gc.by8_len, Gc.by8_len]
   have HI := Lib.hid (size16 hlen)
   have HO1 := Lib.hid o1
   have HO2 := Lib.hid o2
   have HB2 := Lib.hid hb2
   have HSZ : Hid ((cellsN (List.replicate 16 0)).size = (cellsN (Gc.by8 h ++ Gc.by8 l)).size) := by unfold Hid; rw [cellsN_size, cellsN_size, hlen]; rfl
   clear o0 o1 o2 hb2 hlen
   go_wp2_with (first
    | (refine wpList_load_row rfl 26 (.tmp 3) rfl _ rfl _ _ _ _ HO2.out Tryd.underlying26 rfl HI.out ?_)
    | (refine wpList_store_row rfl 26 (.tmp 2) (.tmp 27) rfl _ _ rfl rfl _ _ HO1.out HI.out HSZ.out (one_cellsN _) ?_))
   exact bodyPost_ret (v := .agg (cellsN (Gc.by8 h ++ Gc.by8 l))) (results_cell_row rfl _ _ _ _ _ _ _ rfl (HO1.out.row _) Tryd.underlying26 rfl HI.out) rfl ⟨rfl, Upd.below HB2.out (by omega) ((Upd.refl _ _).row _)⟩
end Go.Proofs.YtabfcaidioohfaaDoor
namespace Go.Proofs.YtabfcaidioohfaaDoor.Rm
open List (getElem?_toArray getElem?_cons_zero getElem?_cons_succ setIfInBounds_toArray set_cons_zero set_cons_succ)
set_option maxRecDepth 100000
open Go Go.RowKit Go.Shelf
set_option linter.unusedVariables false
set_option linter.unusedSimpArgs false
attribute [local go_sem] Oper.semAt_some
theorem bits_any (h l : Nat) (w : World) :
  Calls Tryd.prog 94 #[.agg #[.int .u64 (h : Int), .int .u64 (l : Int)]] w fun e w' => e = .returned (.func (.func 102) #[] #[.pointer (some ⟨w.heap.size, 0, none⟩)]) ∧ w.alloc (.cells #[.int .u64 (h : Int), .int .u64 (l : Int)] 116) = w' := by
 go_enter Tryd.func94, Tryd.ntmps94
 go_wp2
 go_ret
 exact ⟨rfl, rfl⟩
/-- What the iterator hands on. -/
def encT (a : Nat) (i : Nat) : Array Value := #[.bool (Gc.bit a i)]
/-- What it reads between two rounds. -/
def MpT (Bx h l : Nat) (i : Nat) (V : World) : Prop := V.cell? ⟨Bx, 0, none⟩ = some (.int .u64 (h : Int)) ∧ V.cell? ⟨Bx, 1, none⟩ = some (.int .u64 (l : Int))
/-- A half that was moved. -/
def cur (v t : Nat) : Nat := v * 2 ^ t % 18446744073709551616
theorem cur_zero {v : Nat} (h : v < 18446744073709551616) : cur v 0 = v := by unfold cur; omega
theorem cur_lt (v t : Nat) : cur v t < 18446744073709551616 := Nat.mod_lt _ (by decide)
theorem cur_next (v t : Nat) : cur v t * 2 % 18446744073709551616 = cur v (t + 1) := by
 unfold cur
 rw [Nat.pow_succ, ← Nat.mul_assoc]
 omega
theorem cur_bit_hi (a t : Nat) (h : t < 64) : ((cur (Gc.hi a) t : Int) / 9223372036854775808 == 1) = Gc.bit a t := by
 rw [← Gc.bit_hi a t h]
 show _ = decide (cur (Gc.hi a) t / 9223372036854775808 = 1)
 generalize cur (Gc.hi a) t = c
 rw [Bool.eq_iff_iff]
 simp only [beq_iff_eq, decide_eq_true_eq]
 omega
theorem cur_bit_lo (a t : Nat) (h : t < 64) : ((cur (Gc.lo a) t : Int) / 9223372036854775808 == 1) = Gc.bit a (64 + t) := by
 rw [← Gc.bit_lo a t h]
 show _ = decide (cur (Gc.lo a) t / 9223372036854775808 = 1)
 generalize cur (Gc.lo a) t = c
 rw [Bool.eq_iff_iff]
 simp only [beq_iff_eq, decide_eq_true_eq]
 omega
set_option maxRecDepth 100000 in
set_option maxHeartbeats 4000000 in
theorem bits1_gives (F : Fence) (n : Nat) (hf : F.fn 102) (hro : F.round = none) (hn : 1 ≤ n) (Bx a : Nat) (ha : a < 2 ^ 128) :
  Gives F n Tryd.prog 102 #[.pointer (some ⟨Bx, 0, none⟩)] (encT a) (MpT Bx (Gc.hi a) (Gc.lo a)) 128 := by
 intro l J Jx W hM hY h0
 show CallsIn F n Tryd.prog 102 #[.func (.yield l) #[] #[], .pointer (some ⟨Bx, 0, none⟩)] W _
 have HY := Lib.hid hY
 obtain ⟨c0, c1⟩ := hM 0 W h0
 have hh := Gc.hi_lt ha
 have hl := Gc.lo_lt a
 have H0 := Lib.hid h0
 have BH : Hid (∀ t, t < 64 → ((cur (Gc.hi a) t : Int) / 9223372036854775808 == 1) = Gc.bit a t) := fun t ht => cur_bit_hi a t ht
 have BL : Hid (∀ t, t < 64 → ((cur (Gc.lo a) t : Int) / 9223372036854775808 == 1) = Gc.bit a (64 + t)) := fun t ht => cur_bit_lo a t ht
 generalize Gc.hi a = h at *
 generalize Gc.lo a = g at *
 clear hM hY h0
 refine callsIn_of_wp Tryd.func102 rfl hf ?_ hro
 simp only [Tryd.ntmps102, List.size_toArray, List.length_cons, List.length_nil, Nat.reduceAdd, Nat.reduceSub, Array.replicate_succ, Array.replicate_zero, List.push_toArray, List.append_toArray, List.nil_append, List.cons_append]
 have i0 : ∀ w, (Instr.index 147 (.agg #[.int .u64 (h : Int), .int .u64 (g : Int)]) (.int .i64 0)).run Tryd.prog w = .ok (.int .u64 (h : Int)) w := fun _ => by kernel_rfl
 have i1 : ∀ w, (Instr.index 147 (.agg #[.int .u64 (h : Int), .int .u64 (g : Int)]) (.int .i64 1)).run Tryd.prog w = .ok (.int .u64 (g : Int)) w := fun _ => by kernel_rfl
 gi_wp2
 clear c0 c1
 gi_loopw [4, 10] (fun _ i wr => ∃ k : Nat, k ≤ 2 ∧ i = .int .i64 (k : Int) ∧ J (64 * k) wr) (fun _ i _ => 2 - (intOf i).toNat)
 case atStart => exact ⟨0, by omega, rfl, H0.out⟩
 case round =>
  clear H0
  obtain ⟨k, hk, rfl, hJ⟩ := hrel
  have HJ := Lib.hid hJ
  clear hJ
  have hk3 : k = 0 ∨ k = 1 ∨ k = 2 := by omega
  clear hk
  rcases hk3 with rfl | rfl | rfl
  ·rw [show ((0 : Nat) : Int) = 0 from rfl]
   gi_wp2
   gi_loopw [4, 13] (fun v t wr => ∃ t' : Nat, t' ≤ 64 ∧ t = .int .i64 (t' : Int) ∧ v = .int .u64 ((cur h t' : Nat) : Int) ∧ J (0 + t') wr) (fun _ t _ => 64 - (intOf t).toNat)
   case atStart => exact ⟨0, by omega, rfl, by rw [cur_zero hh], HJ.out⟩
   case round =>
    clear HJ
    obtain ⟨t, ht, rfl, rfl, hJ⟩ := hrel
    have HJ := Lib.hid hJ
    by_cases hlt : t < 64
    ·have hti : (t : Int) < 64 := by omega
     obtain ⟨fn, tmps, assign, body, hy, hR⟩ := HY.out (0 + t) wr hJ (by omega)
     unfold encT at hy
     have hb := BH.out t hlt
     rw [show Gc.bit a t = Gc.bit a (0 + t) by congr 1; omega] at hb
     have hc := cur_lt h t
     have hnx := cur_next h t
     obtain ⟨d, hd⟩ : ∃ d, cur h (t + 1) = d := ⟨_, rfl⟩
     have HD := Lib.hid hd
     rw [hd] at hnx
     generalize Gc.bit a (0 + t) = b at *
     generalize cur h t = c at *
     have e1 : IntKind.u64.wrap ((c : Int) * 2) = (d : Int) := by rw [IntKind.wrap_u64]; omega
     have e2 : (c : Int) * 2 % 18446744073709551616 = (d : Int) := by omega
     clear hJ hd hnx
     gi_wp2
     refine hR.mono ?_
     rintro e W3 (⟨rfl, hJ3⟩ | ⟨rfl, hJx3⟩)
     ·gi_wp2
      go_roundw
      case rel => exact ⟨t + 1, by omega, by go_num, by rw [HD.out], hJ3⟩
      case measure => simp [intOf]; omega
     ·gi_wp2
      refine bodyPost_ret (results_none rfl _ _ _) rfl ?_
      exact ⟨⟨_, rfl⟩, .inr ⟨_, hJx3⟩⟩
    ·obtain rfl : t = 64 := by omega
     clear hJ
     gi_wp2
     go_roundw
     case rel => exact ⟨1, by omega, rfl, HJ.out⟩
     case measure => simp [intOf]
  ·rw [show ((1 : Nat) : Int) = 1 from rfl]
   gi_wp2
   gi_loopw [4, 13] (fun v t wr => ∃ t' : Nat, t' ≤ 64 ∧ t = .int .i64 (t' : Int) ∧ v = .int .u64 ((cur g t' : Nat) : Int) ∧ J (64 + t') wr) (fun _ t _ => 64 - (intOf t).toNat)
   case atStart => exact ⟨0, by omega, rfl, by rw [cur_zero hl], HJ.out⟩
   case round =>
    clear HJ
    obtain ⟨t, ht, rfl, rfl, hJ⟩ := hrel
    have HJ := Lib.hid hJ
    by_cases hlt : t < 64
    ·have hti : (t : Int) < 64 := by omega
     obtain ⟨fn, tmps, assign, body, hy, hR⟩ := HY.out (64 + t) wr hJ (by omega)
     unfold encT at hy
     have hb := BL.out t hlt
     have hc := cur_lt g t
     have hnx := cur_next g t
     obtain ⟨d, hd⟩ : ∃ d, cur g (t + 1) = d := ⟨_, rfl⟩
     have HD := Lib.hid hd
     rw [hd] at hnx
     generalize Gc.bit a (64 + t) = b at *
     generalize cur g t = c at *
     have e1 : IntKind.u64.wrap ((c : Int) * 2) = (d : Int) := by rw [IntKind.wrap_u64]; omega
     have e2 : (c : Int) * 2 % 18446744073709551616 = (d : Int) := by omega
     clear hJ hd hnx
     gi_wp2
     refine hR.mono ?_
     rintro e W3 (⟨rfl, hJ3⟩ | ⟨rfl, hJx3⟩)
     ·gi_wp2
      go_roundw
      case rel => exact ⟨t + 1, by omega, by go_num, by rw [HD.out], hJ3⟩
      case measure => simp [intOf]; omega
     ·gi_wp2
      refine bodyPost_ret (results_none rfl _ _ _) rfl ?_
      exact ⟨⟨_, rfl⟩, .inr ⟨_, hJx3⟩⟩
    ·obtain rfl : t = 64 := by omega
     clear hJ
     gi_wp2
     go_roundw
     case rel => exact ⟨2, by omega, rfl, HJ.out⟩
     case measure => simp [intOf]
  ·gi_wp2
   refine bodyPost_end (results_none rfl _ _ _) rfl ?_
   exact ⟨⟨_, rfl⟩, .inl HJ.out⟩
end Go.Proofs.YtabfcaidioohfaaDoor.Rm
namespace Go.Proofs.YtabfcaidioohfaaDoor.Rm
open List (getElem?_toArray getElem?_cons_zero getElem?_cons_succ setIfInBounds_toArray set_cons_zero set_cons_succ)
set_option maxRecDepth 100000
open Go Go.RowKit Go.Shelf
set_option linter.unusedVariables false
set_option linter.unusedSimpArgs false
attribute [local go_sem] Oper.semAt_some
/-- A pair's cells. -/
def prs (v : Nat) : Array Value := #[.int .u64 ((Gc.hi v : Nat) : Int), .int .u64 ((Gc.lo v : Nat) : Int)]
/-- The sum so far. -/
def zi (a b i : Nat) : Nat := Gc.xs (fun i => Gc.iff (Gc.bit a i) (Gc.mxN b i)) i
theorem zi_lt {a b : Nat} (h : b < 2 ^ 128) (i : Nat) : zi a b i < 2 ^ 128 := Gc.xs_lt (fun i => Gc.iff_lt (Gc.mxN_lt h i)) i
theorem zi_on {a b i : Nat} (h : Gc.bit a i = true) : zi a b (i + 1) = zi a b i ^^^ Gc.mxN b i := by
 unfold zi; rw [Gc.xs, h]; rfl
theorem zi_off {a b i : Nat} (h : Gc.bit a i = false) : zi a b (i + 1) = zi a b i := by
 unfold zi; rw [Gc.xs, h]; show _ ^^^ 0 = _; rw [Nat.xor_zero]
/-- Between two rounds. -/
structure TmI (w : World) (B Bx a b : Nat) (i : Nat) (V : World) : Prop where
 q : Obj V (B + 1) 116 (prs (Gc.mxN b i))
 r : Obj V (B + 2) 116 (prs 0)
 z : Obj V (B + 3) 116 (prs (zi a b i))
 p : Obj V Bx 116 (prs a)
 bel : Below w.heap.size w V
theorem TmI.own {w : World} {B Bx a b D : Nat} (hw : w.heap.size = B) (h1 : B + 3 < D) (h2 : Bx < D) : OwnFrom D (TmI w B Bx a b) := by
 intro i W V row h hgr hr
 have hk : ∀ j, j < D → j < W.heap.size → V.heap[j]? = W.heap[j]? := fun j hj hl => hgr.block j hl (fun e => by have := (hr j e.symm).1; omega)
 exact ⟨(hk _ (by omega) h.q.lt).trans h.q, (hk _ (by omega) h.r.lt).trans h.r, (hk _ (by omega) h.z.lt).trans h.z, (hk _ h2 h.p.lt).trans h.p, ⟨hgr.os.trans h.bel.os, hgr.tape.trans h.bel.tape, hgr.output.trans h.bel.output, Nat.le_trans h.bel.size hgr.size, fun k hk' => (hk k (by omega) (by have := h.bel.size; omega)).trans (h.bel.block k hk')⟩⟩
theorem TmI.on {w W : World} {B a b i m z : Nat} (h : TmI w B (B + 4) a b i W) (hm : Gc.mxN b i = m) (hz : zi a b i = z) (hb : Gc.bit a i = true) (hw : w.heap.size = B) {zh zo no nh : Nat} (e1 : Gc.hi (z ^^^ m) = zh) (e2 : Gc.lo (z ^^^ m) = zo) (e3 : Gc.lo (Gc.mx m) = no) (e4 : Gc.hi (Gc.mx m) = nh) :
  KeepsFrom (B + 5) W ((((W.setCell ⟨B + 1 + 1 + 1, 0, none⟩ (.int .u64 (zh : Int))).setCell ⟨B + 1 + 1 + 1, 1, none⟩ (.int .u64 (zo : Int))).setCell ⟨B + 1, 1, none⟩ (.int .u64 (no : Int))).setCell ⟨B + 1, 0, none⟩ (.int .u64 (nh : Int))).drew ∧
   TmI w B (B + 4) a b (i + 1) ((((W.setCell ⟨B + 1 + 1 + 1, 0, none⟩ (.int .u64 (zh : Int))).setCell ⟨B + 1 + 1 + 1, 1, none⟩ (.int .u64 (zo : Int))).setCell ⟨B + 1, 1, none⟩ (.int .u64 (no : Int))).setCell ⟨B + 1, 0, none⟩ (.int .u64 (nh : Int))).drew := by
 have u1 : Upd (B + 3) W ((W.setCell ⟨B + 1 + 1 + 1, 0, none⟩ (.int .u64 (zh : Int))).setCell ⟨B + 1 + 1 + 1, 1, none⟩ (.int .u64 (zo : Int))) := ((Upd.refl _ W).set 0 _).set 1 _
 have oz := (h.z.set 0 (.int .u64 (zh : Int))).set 1 (.int .u64 (zo : Int))
 generalize (W.setCell ⟨B + 1 + 1 + 1, 0, none⟩ (.int .u64 (zh : Int))).setCell ⟨B + 1 + 1 + 1, 1, none⟩ (.int .u64 (zo : Int)) = V1 at *
 have oq := ((h.q.upd u1 (by omega)).set 1 (.int .u64 (no : Int))).set 0 (.int .u64 (nh : Int))
 have u2 : Upd (B + 1) V1 ((V1.setCell ⟨B + 1, 1, none⟩ (.int .u64 (no : Int))).setCell ⟨B + 1, 0, none⟩ (.int .u64 (nh : Int))).drew := (((Upd.refl _ V1).set 1 _).set 0 _).drew
 have oq' := oq.drew
 generalize ((V1.setCell ⟨B + 1, 1, none⟩ (.int .u64 (no : Int))).setCell ⟨B + 1, 0, none⟩ (.int .u64 (nh : Int))).drew = V2 at *
 have hk : ∀ j, j < W.heap.size → j ≠ B + 1 → j ≠ B + 3 → V2.heap[j]? = W.heap[j]? := fun j hj h1 h2 => (u2.block j (Nat.lt_of_lt_of_le hj u1.size) h1).trans (u1.block j hj h2)
 refine ⟨⟨Nat.le_trans u1.size u2.size, fun j o hj hjo _ => (hk j (Array.getElem?_eq_some_iff.1 hjo).1 (by omega) (by omega)).trans hjo⟩, oq'.as ?_, (h.r.upd u1 (by omega)).upd u2 (by omega), (oz.upd u2 (by omega)).as ?_, (h.p.upd u1 (by omega)).upd u2 (by omega), ?_⟩
 ·rw [Gc.mxN, hm, ← e3, ← e4]; rfl
 ·rw [zi_on hb, hm, hz, ← e1, ← e2]; rfl
 ·have hbl := h.bel
  exact ⟨u2.os.trans (u1.os.trans hbl.os), u2.tape.trans (u1.tape.trans hbl.tape), u2.output.trans (u1.output.trans hbl.output), Nat.le_trans hbl.size (Nat.le_trans u1.size u2.size), fun j hj => (hk j (by have := hbl.size; omega) (by omega) (by omega)).trans (hbl.block j hj)⟩
theorem TmI.off {w W : World} {B a b i m : Nat} (h : TmI w B (B + 4) a b i W) (hm : Gc.mxN b i = m) (hb : Gc.bit a i = false) (hw : w.heap.size = B) {no nh : Nat} (e3 : Gc.lo (Gc.mx m) = no) (e4 : Gc.hi (Gc.mx m) = nh) :
  KeepsFrom (B + 5) W ((W.setCell ⟨B + 1, 1, none⟩ (.int .u64 (no : Int))).setCell ⟨B + 1, 0, none⟩ (.int .u64 (nh : Int))) ∧
   TmI w B (B + 4) a b (i + 1) ((W.setCell ⟨B + 1, 1, none⟩ (.int .u64 (no : Int))).setCell ⟨B + 1, 0, none⟩ (.int .u64 (nh : Int))) := by
 have oq := (h.q.set 1 (.int .u64 (no : Int))).set 0 (.int .u64 (nh : Int))
 have u2 : Upd (B + 1) W ((W.setCell ⟨B + 1, 1, none⟩ (.int .u64 (no : Int))).setCell ⟨B + 1, 0, none⟩ (.int .u64 (nh : Int))) := ((Upd.refl _ W).set 1 _).set 0 _
 generalize (W.setCell ⟨B + 1, 1, none⟩ (.int .u64 (no : Int))).setCell ⟨B + 1, 0, none⟩ (.int .u64 (nh : Int)) = V2 at *
 refine ⟨⟨u2.size, fun j o hj hjo _ => (u2.block j (Array.getElem?_eq_some_iff.1 hjo).1 (by omega)).trans hjo⟩, oq.as ?_, h.r.upd u2 (by omega), (h.z.upd u2 (by omega)).as ?_, h.p.upd u2 (by omega), Upd.below h.bel (by omega) u2⟩
 ·rw [Gc.mxN, hm, ← e3, ← e4]; rfl
 ·rw [zi_off hb]
theorem pair5 {w : World} {B : Nat} (hB : w.heap.size = B) (t : TypeId) (c0 c1 c2 c3 c4 : Array Value) : ∃ W5, ((((w.alloc (.cells c0 t)).alloc (.cells c1 t)).alloc (.cells c2 t)).alloc (.cells c3 t)).alloc (.cells c4 t) = W5 ∧ W5.heap.size = B + 5 ∧ Below w.heap.size w W5 ∧ Obj W5 (B + 1) t c1 ∧ Obj W5 (B + 2) t c2 ∧ Obj W5 (B + 3) t c3 ∧ Obj W5 (B + 4) t c4 := by
 refine ⟨_, rfl, by simp [hB], ((((((Below.refl _ w).alloc (Nat.le_refl _) _).alloc (by simp) _).alloc (by simp; omega) _).alloc (by simp; omega) _).alloc (by simp; omega) _), ?_, ?_, ?_, ?_⟩
 ·have := (((Obj.new (w.alloc (.cells c0 t)) t c1).alloc (.cells c2 t)).alloc (.cells c3 t)).alloc (.cells c4 t)
  simp only [World.size_alloc, hB] at this; exact this
 ·have := ((Obj.new ((w.alloc (.cells c0 t)).alloc (.cells c1 t)) t c2).alloc (.cells c3 t)).alloc (.cells c4 t)
  simp only [World.size_alloc, hB] at this; exact this
 ·have := (Obj.new (((w.alloc (.cells c0 t)).alloc (.cells c1 t)).alloc (.cells c2 t)) t c3).alloc (.cells c4 t)
  simp only [World.size_alloc, hB] at this; exact this
 ·have := Obj.new ((((w.alloc (.cells c0 t)).alloc (.cells c1 t)).alloc (.cells c2 t)).alloc (.cells c3 t)) t c4
  simp only [World.size_alloc, hB] at this; exact this
set_option maxRecDepth 100000 in
set_option maxHeartbeats 8000000 in
theorem times_any (a b : Nat) (w : World) (ha : a < 2 ^ 128) (hb : b < 2 ^ 128) :
  Calls Tryd.prog 81 #[.agg (prs a), .agg (prs b)] w fun e w' => e = .returned (.agg (prs (Gc.mul a b))) ∧ Below w.heap.size w w' := by
 obtain ⟨B, hB⟩ : ∃ B, w.heap.size = B := ⟨_, rfl⟩
 refine (callsIn_wide (n := 3)).1 ?_
 refine callsIn_of_wp_marks Tryd.func81 rfl trivial ?_ rfl
 simp only [Tryd.ntmps81, List.size_toArray, List.length_cons, List.length_nil, Nat.reduceAdd, Nat.reduceSub, Array.replicate_succ, Array.replicate_zero, List.push_toArray, List.append_toArray, List.nil_append, List.cons_append]
 refine wpIn_wide.2 ?_
 obtain ⟨W5, hW5, hsz, hb5, o1, o2, o3, o4⟩ := pair5 hB 116 (prs a) (prs b) (prs 0) (prs 0) (prs a)
 have hI0 : TmI w B (B + 4) a b 0 W5 := ⟨o1, o2, o3, o4, hb5⟩
 have HI0 := Lib.hid hI0
 have hW5' : ((((w.alloc (.cells #[.int .u64 ((Gc.hi a : Nat) : Int), .int .u64 ((Gc.lo a : Nat) : Int)] 116)).alloc (.cells #[.int .u64 ((Gc.hi b : Nat) : Int), .int .u64 ((Gc.lo b : Nat) : Int)] 116)).alloc (.cells #[.int .u64 0, .int .u64 0] 116)).alloc (.cells #[.int .u64 0, .int .u64 0] 116)).alloc (.cells #[.int .u64 ((Gc.hi a : Nat) : Int), .int .u64 ((Gc.lo a : Nat) : Int)] 116) = W5 := hW5
 have HW5 := Lib.hid hW5'
 have HPA : Hid (prs a = #[.int .u64 ((Gc.hi a : Nat) : Int), .int .u64 ((Gc.lo a : Nat) : Int)]) := rfl
 clear hI0 hW5 hW5' hb5 o1 o2 o3 o4
 unfold prs
 go_wp2_with fail
 refine (bits_any _ _ _).mono ?_
 rintro e w3 ⟨rfl, rfl⟩
 go_wp2
 rw [HW5.out]
 have HSZ := Lib.hid hsz
 have HB := Lib.hid hB
 have hG := bits1_gives Fence.wide 2 trivial rfl (by omega) (B + 4) a ha
 obtain ⟨bf, hbf⟩ : ∃ bf : Nat → Bool, ∀ i, bf i = Gc.bit a i := ⟨fun i => Gc.bit a i, fun _ => rfl⟩
 have hEnc : encT a = fun i => #[.bool (bf i)] := by funext i; unfold encT; rw [hbf]
 rw [hEnc] at hG
 have HBF := Lib.hid hbf
 have hah := Gc.hi_lt ha
 have hal := Gc.lo_lt a
 have hbh := Gc.hi_lt hb
 have hbl := Gc.lo_lt b
 obtain ⟨p, hp⟩ : ∃ p, Gc.hi a = p := ⟨_, rfl⟩
 obtain ⟨q, hq⟩ : ∃ q, Gc.lo a = q := ⟨_, rfl⟩
 obtain ⟨u, hu⟩ : ∃ u, Gc.hi b = u := ⟨_, rfl⟩
 obtain ⟨v, hv⟩ : ∃ v, Gc.lo b = v := ⟨_, rfl⟩
 rw [hp, hq, hu, hv]
 rw [hp, hq] at hG
 have HP := Lib.hid hp
 have HQ := Lib.hid hq
 clear hEnc hbf hah hal hbh hbl hp hq hu hv
 refine (wpIn_wide (n := 3)).1 ?_
 refine wpIn_rangeFunc_ix (n := 3) rfl (by omega) (gf := 102) (lb := #[.pointer (some ⟨B + 4, 0, none⟩)]) rfl trivial (enters_of Tryd.func102 (by kernel_rfl) rfl)
  hG (fun i => rfl) (TmI w B (B + 4) a b) (fun _ _ _ => False) ?own (fun _ _ _ _ _ hs _ _ => hs) ?tell HI0.out
  (fun i => { tmps := #[.agg #[.int .u64 (p : Int), .int .u64 (q : Int)], .agg #[.int .u64 (u : Int), .int .u64 (v : Int)], .pointer (some ⟨B, 0, none⟩), .pointer (some ⟨B + 1, 0, none⟩), .pointer (some ⟨B + 1 + 1, 0, none⟩), .pointer (some ⟨B + 1 + 1 + 1, 0, none⟩), .bool (bf i), undef, .agg #[.int .u64 (p : Int), .int .u64 (q : Int)], .func (.func 102) #[] #[.pointer (some ⟨B + 4, 0, none⟩)], .bool (bf i), undef, undef, undef, undef, undef, undef, undef, undef, undef, undef, undef, undef, undef, undef, undef, undef, undef, undef, undef, undef, undef, undef, undef, undef, undef, undef, undef, undef, undef, undef, undef, undef], defers := [] }) ?assign ?body ?done ?stop
 case own => rw [hsz]; exact TmI.own HB.out (by omega) (by omega)
 case tell => intro i V hV; exact ⟨by rw [hV.p.cell, ← HP.out]; rfl, by rw [hV.p.cell, ← HQ.out]; rfl⟩
 case assign =>
  intro l i W K hK
  dsimp only at hK ⊢
  generalize bf i = bb at *
  gi_wp2
  simpa using hK
 case body =>
  intro l i W hI hiN
  rw [hsz]
  have hml := Gc.mxN_lt hb i
  have hzl := zi_lt (a := a) hb i
  obtain ⟨m, hm⟩ : ∃ m, Gc.mxN b i = m := ⟨_, rfl⟩
  obtain ⟨z, hz⟩ : ∃ z, zi a b i = z := ⟨_, rfl⟩
  have om := hI.q
  have oz := hI.z
  rw [hm] at om hml
  rw [hz] at oz hzl
  have bmh := Gc.hi_lt hml
  have bml := Gc.lo_lt m
  have bzh := Gc.hi_lt hzl
  have bzl := Gc.lo_lt z
  obtain ⟨mh, hmh⟩ : ∃ x, Gc.hi m = x := ⟨_, rfl⟩
  obtain ⟨mo, hmo⟩ : ∃ x, Gc.lo m = x := ⟨_, rfl⟩
  obtain ⟨zh, hzh⟩ : ∃ x, Gc.hi z = x := ⟨_, rfl⟩
  obtain ⟨zo, hzo⟩ : ∃ x, Gc.lo z = x := ⟨_, rfl⟩
  rw [hmh] at bmh
  rw [hmo] at bml
  rw [hzh] at bzh
  rw [hzo] at bzl
  have m0 : W.cell? ⟨B + 1, 0, none⟩ = some (.int .u64 (mh : Int)) := by rw [om.cell, ← hmh]; rfl
  have m1 : W.cell? ⟨B + 1, 1, none⟩ = some (.int .u64 (mo : Int)) := by rw [om.cell, ← hmo]; rfl
  have z0 : W.cell? ⟨B + 1 + 1 + 1, 0, none⟩ = some (.int .u64 (zh : Int)) := by rw [oz.cell, ← hzh]; rfl
  have z1 : W.cell? ⟨B + 1 + 1 + 1, 1, none⟩ = some (.int .u64 (zo : Int)) := by rw [oz.cell, ← hzo]; rfl
  have y0 := om.free 0
  have y1 := om.free 1
  have y2 := oz.free 0
  have y3 := oz.free 1
  obtain ⟨nh, hnh⟩ : ∃ x, Gc.hi (Gc.mx m) = x := ⟨_, rfl⟩
  obtain ⟨no, hno⟩ : ∃ x, Gc.lo (Gc.mx m) = x := ⟨_, rfl⟩
  obtain ⟨o, ho⟩ : ∃ o, mo % 2 = o := ⟨_, rfl⟩
  have hnh' : (mh / 2) ^^^ (o * 16212958658533785600) = nh := by rw [← hnh, Gc.hi_mx, hmh, hmo, ho]
  have hno' : mo / 2 + mh % 2 * 9223372036854775808 = no := by rw [← hno, Gc.lo_mx, hmh, hmo]
  have bo : o ≤ 1 := by omega
  have xa : bits .and .u64 (mo : Int) 1 = (o : Int) := by
   have := u64_and_nat mo 1 bml (by decide)
   rw [Nat.and_one_is_mod, ho] at this
   exact this
  have xo : bits .or .u64 ((mo : Int) / 2) (IntKind.u64.wrap ((mh : Int) * 9223372036854775808)) = (no : Int) := by
   have h1 : (mo : Int) / 2 = ((mo / 2 : Nat) : Int) := by simp
   have h2 : IntKind.u64.wrap ((mh : Int) * 9223372036854775808) = ((2 ^ 63 * (mh % 2) : Nat) : Int) := by rw [IntKind.wrap_u64]; omega
   rw [h1, h2, u64_or_nat (mo / 2) (2 ^ 63 * (mh % 2)) (by omega) (by omega), Nat.or_comm, ← Nat.two_pow_add_eq_or_of_lt (by omega)]
   omega
  have xx : bits .xor .u64 ((mh : Int) / 2) ((o : Int) * 16212958658533785600) = (nh : Int) := by
   have := u64_xor_nat (mh / 2) (o * 16212958658533785600) (by omega) (by omega)
   rw [hnh'] at this
   rw [← this]
   simp
  have HI := Lib.hid hI
  clear om oz hI hnh' hno' ho
  by_cases hbt : Gc.bit a i = true
  ·rw [HBF.out i, hbt]
   have xh := u64_xor_nat zh mh bzh bmh
   have xl := u64_xor_nat zo mo bzl bml
   have n1 : (W.setCell ⟨B + 1 + 1 + 1, 0, none⟩ (.int .u64 ((zh ^^^ mh : Nat) : Int))).cell? ⟨B + 1, 1, none⟩ = some (.int .u64 (mo : Int)) := by rw [World.cell?_setCell_far _ _ _ _ (by simp; omega)]; exact m1
   have HFI := Lib.hid (TmI.on HI.out hm hz hbt HB.out (by rw [Gc.hi_xor, hzh, hmh]) (by rw [Gc.lo_xor, hzo, hmo]) hno hnh)
   clear hm hz hbt hmh hmo hzh hzo hnh hno
   gi_wp2
   refine Pr.wpIn_region_P [(11, (fun wq => wq.cell? ⟨B + 1 + 1 + 1, 0, none⟩ = some (.int .u64 (zh : Int)) ∧ wq.cell? ⟨B + 1 + 1 + 1, 1, none⟩ = some (.int .u64 (zo : Int)) ∧ wq.cell? ⟨B + 1, 0, none⟩ = some (.int .u64 (mh : Int)))), (13, (fun wq => wq.cell? ⟨B + 1, 1, none⟩ = some (.int .u64 (mo : Int))))] (by kernel_rfl) (by kernel_rfl) (Pr.held2 (fun _ => ⟨z0, z1, m0⟩) (fun _ => m1)) (fun hHeld => ?_)
   refine Pr.wpAnyP_take 11 (fun wq => wq.cell? ⟨B + 1 + 1 + 1, 0, none⟩ = some (.int .u64 (zh : Int)) ∧ wq.cell? ⟨B + 1 + 1 + 1, 1, none⟩ = some (.int .u64 (zo : Int)) ∧ wq.cell? ⟨B + 1, 0, none⟩ = some (.int .u64 (mh : Int))) (i := 0) (oi := ?_) (v := ?_) (List.Mem.head _) ?_ ?_ ?_ ?_ ?_ ?_ ?_ ?_ ?_ (by assumption) (fun _ => ?_)
   rotate_left 2
   ·simp only [getElem?_toArray, getElem?_cons_zero, getElem?_cons_succ]
    rfl
   ·kernel_rfl
   ·kernel_rfl
   ·kernel_rfl
   ·kernel_rfl
   ·kernel_rfl
   ·kernel_rfl
   ·exact fun _ _ _ h => h
   ·refine Or.inl ⟨by rfl, ?_⟩
    intro w hSw
    (try dsimp only at hSw)
    go_simp
    all_goals with_reducible rfl
   simp only [Act.put, setIfInBounds_toArray, set_cons_zero, set_cons_succ]
   refine Pr.wpAnyP_take 11 (fun wq => wq.cell? ⟨B + 1 + 1 + 1, 0, none⟩ = some (.int .u64 (zh : Int)) ∧ wq.cell? ⟨B + 1 + 1 + 1, 1, none⟩ = some (.int .u64 (zo : Int)) ∧ wq.cell? ⟨B + 1, 0, none⟩ = some (.int .u64 (mh : Int))) (i := 1) (oi := ?_) (v := ?_) (List.Mem.head _) ?_ ?_ ?_ ?_ ?_ ?_ ?_ ?_ ?_ (by assumption) (fun _ => ?_)
   rotate_left 2
   ·simp only [getElem?_toArray, getElem?_cons_zero, getElem?_cons_succ]
    rfl
   ·kernel_rfl
   ·kernel_rfl
   ·kernel_rfl
   ·kernel_rfl
   ·kernel_rfl
   ·kernel_rfl
   ·exact fun _ _ _ h => h
   ·refine Or.inl ⟨by rfl, ?_⟩
    intro w hSw
    (try dsimp only at hSw)
    obtain ⟨q0, q1, q2⟩ := hSw
    go_simp
    all_goals with_reducible rfl
   simp only [Act.put, setIfInBounds_toArray, set_cons_zero, set_cons_succ]
   refine Pr.wpAnyP_take 11 (fun wq => wq.cell? ⟨B + 1 + 1 + 1, 0, none⟩ = some (.int .u64 (zh : Int)) ∧ wq.cell? ⟨B + 1 + 1 + 1, 1, none⟩ = some (.int .u64 (zo : Int)) ∧ wq.cell? ⟨B + 1, 0, none⟩ = some (.int .u64 (mh : Int))) (i := 2) (oi := ?_) (v := ?_) (List.Mem.head _) ?_ ?_ ?_ ?_ ?_ ?_ ?_ ?_ ?_ (by assumption) (fun _ => ?_)
   rotate_left 2
   ·simp only [getElem?_toArray, getElem?_cons_zero, getElem?_cons_succ]
    rfl
   ·kernel_rfl
   ·kernel_rfl
   ·kernel_rfl
   ·kernel_rfl
   ·kernel_rfl
   ·kernel_rfl
   ·exact fun _ _ _ h => h
   ·refine Or.inl ⟨by rfl, ?_⟩
    intro w hSw
    (try dsimp only at hSw)
    go_simp
    all_goals with_reducible rfl
   simp only [Act.put, setIfInBounds_toArray, set_cons_zero, set_cons_succ]
   refine Pr.wpAnyP_take 11 (fun wq => wq.cell? ⟨B + 1 + 1 + 1, 0, none⟩ = some (.int .u64 (zh : Int)) ∧ wq.cell? ⟨B + 1 + 1 + 1, 1, none⟩ = some (.int .u64 (zo : Int)) ∧ wq.cell? ⟨B + 1, 0, none⟩ = some (.int .u64 (mh : Int))) (i := 3) (oi := ?_) (v := ?_) (List.Mem.head _) ?_ ?_ ?_ ?_ ?_ ?_ ?_ ?_ ?_ (by assumption) (fun _ => ?_)
   rotate_left 2
   ·simp only [getElem?_toArray, getElem?_cons_zero, getElem?_cons_succ]
    rfl
   ·kernel_rfl
   ·kernel_rfl
   ·kernel_rfl
   ·kernel_rfl
   ·kernel_rfl
   ·kernel_rfl
   ·exact fun _ _ _ h => h
   ·refine Or.inl ⟨by rfl, ?_⟩
    intro w hSw
    (try dsimp only at hSw)
    obtain ⟨q0, q1, q2⟩ := hSw
    go_simp
    all_goals with_reducible rfl
   simp only [Act.put, setIfInBounds_toArray, set_cons_zero, set_cons_succ]
   refine Pr.wpAnyP_take 11 (fun wq => wq.cell? ⟨B + 1 + 1 + 1, 0, none⟩ = some (.int .u64 (zh : Int)) ∧ wq.cell? ⟨B + 1 + 1 + 1, 1, none⟩ = some (.int .u64 (zo : Int)) ∧ wq.cell? ⟨B + 1, 0, none⟩ = some (.int .u64 (mh : Int))) (i := 4) (oi := ?_) (v := ?_) (List.Mem.head _) ?_ ?_ ?_ ?_ ?_ ?_ ?_ ?_ ?_ (by assumption) (fun _ => ?_)
   rotate_left 2
   ·simp only [getElem?_toArray, getElem?_cons_zero, getElem?_cons_succ]
    rfl
   ·kernel_rfl
   ·kernel_rfl
   ·kernel_rfl
   ·kernel_rfl
   ·kernel_rfl
   ·kernel_rfl
   ·exact fun _ _ _ h => h
   ·refine Or.inl ⟨by rfl, ?_⟩
    intro w hSw
    (try dsimp only at hSw)
    go_simp
    all_goals with_reducible rfl
   simp only [Act.put, setIfInBounds_toArray, set_cons_zero, set_cons_succ]
   refine Pr.wpAnyP_take 11 (fun wq => wq.cell? ⟨B + 1 + 1 + 1, 0, none⟩ = some (.int .u64 (zh : Int)) ∧ wq.cell? ⟨B + 1 + 1 + 1, 1, none⟩ = some (.int .u64 (zo : Int)) ∧ wq.cell? ⟨B + 1, 0, none⟩ = some (.int .u64 (mh : Int))) (i := 5) (oi := ?_) (v := ?_) (List.Mem.head _) ?_ ?_ ?_ ?_ ?_ ?_ ?_ ?_ ?_ (by assumption) (fun _ => ?_)
   rotate_left 2
   ·simp only [getElem?_toArray, getElem?_cons_zero, getElem?_cons_succ]
    rfl
   ·kernel_rfl
   ·kernel_rfl
   ·kernel_rfl
   ·kernel_rfl
   ·kernel_rfl
   ·kernel_rfl
   ·exact fun _ _ _ h => h
   ·refine Or.inl ⟨by rfl, ?_⟩
    intro w hSw
    (try dsimp only at hSw)
    go_simp
    all_goals with_reducible rfl
   simp only [Act.put, setIfInBounds_toArray, set_cons_zero, set_cons_succ]
   refine Pr.wpAnyP_take 11 (fun wq => wq.cell? ⟨B + 1 + 1 + 1, 0, none⟩ = some (.int .u64 (zh : Int)) ∧ wq.cell? ⟨B + 1 + 1 + 1, 1, none⟩ = some (.int .u64 (zo : Int)) ∧ wq.cell? ⟨B + 1, 0, none⟩ = some (.int .u64 (mh : Int))) (i := 6) (oi := ?_) (v := ?_) (List.Mem.head _) ?_ ?_ ?_ ?_ ?_ ?_ ?_ ?_ ?_ (by assumption) (fun _ => ?_)
   rotate_left 2
   ·simp only [getElem?_toArray, getElem?_cons_zero, getElem?_cons_succ]
    rfl
   ·kernel_rfl
   ·kernel_rfl
   ·kernel_rfl
   ·kernel_rfl
   ·kernel_rfl
   ·kernel_rfl
   ·exact fun _ _ _ h => h
   ·refine Or.inl ⟨by rfl, ?_⟩
    intro w hSw
    (try dsimp only at hSw)
    obtain ⟨q0, q1, q2⟩ := hSw
    go_simp
    all_goals with_reducible rfl
   simp only [Act.put, setIfInBounds_toArray, set_cons_zero, set_cons_succ]
   refine Pr.wpAnyP_take 13 (fun wq => wq.cell? ⟨B + 1, 1, none⟩ = some (.int .u64 (mo : Int))) (i := 7) (oi := ?_) (v := ?_) (List.Mem.tail _ (List.Mem.head _)) ?_ ?_ ?_ ?_ ?_ ?_ ?_ ?_ ?_ (by assumption) (fun _ => ?_)
   rotate_left 2
   ·simp only [getElem?_toArray, getElem?_cons_zero, getElem?_cons_succ]
    rfl
   ·kernel_rfl
   ·kernel_rfl
   ·kernel_rfl
   ·kernel_rfl
   ·kernel_rfl
   ·kernel_rfl
   ·exact fun _ _ _ h => h
   ·refine Or.inl ⟨by rfl, ?_⟩
    intro w hSw
    (try dsimp only at hSw)
    go_simp
    all_goals with_reducible rfl
   simp only [Act.put, setIfInBounds_toArray, set_cons_zero, set_cons_succ]
   refine Pr.wpAnyP_take 13 (fun wq => wq.cell? ⟨B + 1, 1, none⟩ = some (.int .u64 (mo : Int))) (i := 8) (oi := ?_) (v := ?_) (List.Mem.tail _ (List.Mem.head _)) ?_ ?_ ?_ ?_ ?_ ?_ ?_ ?_ ?_ (by assumption) (fun _ => ?_)
   rotate_left 2
   ·simp only [getElem?_toArray, getElem?_cons_zero, getElem?_cons_succ]
    rfl
   ·kernel_rfl
   ·kernel_rfl
   ·kernel_rfl
   ·kernel_rfl
   ·kernel_rfl
   ·kernel_rfl
   ·exact fun _ _ _ h => h
   ·refine Or.inl ⟨by rfl, ?_⟩
    intro w hSw
    (try dsimp only at hSw)
    go_simp
    all_goals with_reducible rfl
   simp only [Act.put, setIfInBounds_toArray, set_cons_zero, set_cons_succ]
   refine Pr.wpAnyP_take 13 (fun wq => wq.cell? ⟨B + 1, 1, none⟩ = some (.int .u64 (mo : Int))) (i := 9) (oi := ?_) (v := ?_) (List.Mem.tail _ (List.Mem.head _)) ?_ ?_ ?_ ?_ ?_ ?_ ?_ ?_ ?_ (by assumption) (fun _ => ?_)
   rotate_left 2
   ·simp only [getElem?_toArray, getElem?_cons_zero, getElem?_cons_succ]
    rfl
   ·kernel_rfl
   ·kernel_rfl
   ·kernel_rfl
   ·kernel_rfl
   ·kernel_rfl
   ·kernel_rfl
   ·exact fun _ _ _ h => h
   ·refine Or.inl ⟨by rfl, ?_⟩
    intro w hSw
    (try dsimp only at hSw)
    go_simp
    all_goals with_reducible rfl
   simp only [Act.put, setIfInBounds_toArray, set_cons_zero, set_cons_succ]
   refine Pr.wpAnyP_one (i := 10) (o := ?_) (by kernel_rfl) ?_ (fun KK hKK => ?_)
   rotate_left
   ·simp only [getElem?_toArray, getElem?_cons_zero, getElem?_cons_succ]
    rfl
   go_simp
   refine hKK.out _ _ ?_ (fun hh10 => ?_)
   ·(try dsimp only)
    exact Pr.held2 (fun _ => ⟨z0, z1, m0⟩) (fun _ => m1)
   clear hKK KK
   try simp only [Act.put, setIfInBounds_toArray, set_cons_zero, set_cons_succ]
   refine Pr.wpAnyP_one (i := 11) (o := ?_) (by kernel_rfl) ?_ (fun KK hKK => ?_)
   rotate_left
   ·simp only [getElem?_toArray, getElem?_cons_zero, getElem?_cons_succ]
    rfl
   go_simp
   refine hKK.out _ _ ?_ (fun hh11 => ?_)
   ·(try dsimp only)
    exact Pr.held2 (fun h => absurd h (by decide)) (fun _ => n1)
   clear hKK KK
   try simp only [Act.put, setIfInBounds_toArray, set_cons_zero, set_cons_succ]
   refine Pr.wpAnyP_one (i := 12) (o := ?_) (by kernel_rfl) ?_ (fun KK hKK => ?_)
   rotate_left
   ·simp only [getElem?_toArray, getElem?_cons_zero, getElem?_cons_succ]
    rfl
   go_simp
   refine hKK.out _ _ ?_ (fun hh12 => ?_)
   ·(try dsimp only)
    exact Pr.held2 (fun h => absurd h (by decide)) (fun _ => n1)
   clear hKK KK
   try simp only [Act.put, setIfInBounds_toArray, set_cons_zero, set_cons_succ]
   refine Pr.wpAnyP_one (i := 13) (o := ?_) (by kernel_rfl) ?_ (fun KK hKK => ?_)
   rotate_left
   ·simp only [getElem?_toArray, getElem?_cons_zero, getElem?_cons_succ]
    rfl
   go_simp
   refine hKK.out _ _ ?_ (fun hh13 => ?_)
   ·(try dsimp only)
    exact Pr.held2 (fun h => absurd h (by decide)) (fun h => absurd h (by decide))
   clear hKK KK
   try simp only [Act.put, setIfInBounds_toArray, set_cons_zero, set_cons_succ]
   refine Pr.wpAnyP_done (by kernel_rfl) ?_ _
   gi_wp2
   exact HFI.out
  ·have hbf : Gc.bit a i = false := by simpa using hbt
   have HFI := Lib.hid (TmI.off HI.out hm hbf HB.out hno hnh)
   rw [HBF.out i, hbf]
   clear hm hz hbt hmh hmo hzh hzo hnh hno hbf z0 z1 y2 y3
   gi_wp2
   exact HFI.out
 case done =>
  intro D V hD hI hK
  have hI' : TmI w B (B + 4) a b 128 V := hI
  rw [hsz] at hD
  have hw := HB.out
  have hmul : zi a b 128 = Gc.mul a b := rfl
  obtain ⟨m, hm⟩ : ∃ m, Gc.mul a b = m := ⟨_, rfl⟩
  have oz := hI'.z
  rw [hmul, hm] at oz
  obtain ⟨zh, hzh⟩ : ∃ x, Gc.hi m = x := ⟨_, rfl⟩
  obtain ⟨zo, hzo⟩ : ∃ x, Gc.lo m = x := ⟨_, rfl⟩
  have z0 : V.cell? ⟨B + 1 + 1 + 1, 0, none⟩ = some (.int .u64 (zh : Int)) := by rw [oz.cell, ← hzh]; rfl
  have z1 : V.cell? ⟨B + 1 + 1 + 1, 1, none⟩ = some (.int .u64 (zo : Int)) := by rw [oz.cell, ← hzo]; rfl
  have or0 := hI'.r
  have c0 : V.cell? ⟨B + 1 + 1, 0, none⟩ = some (.int .u64 ((Gc.hi 0 : Nat) : Int)) := by rw [or0.cell]; rfl
  have y0 := or0.free 0
  have y1 := or0.free 1
  have or1 := or0.set 0 (.int .u64 (zh : Int))
  have c1 : (V.setCell ⟨B + 1 + 1, 0, none⟩ (.int .u64 (zh : Int))).cell? ⟨B + 1 + 1, 1, none⟩ = some (.int .u64 ((Gc.lo 0 : Nat) : Int)) := by rw [or1.cell]; rfl
  have or2 := or1.set 1 (.int .u64 (zo : Int))
  have u2 : Upd (B + 2) V ((V.setCell ⟨B + 1 + 1, 0, none⟩ (.int .u64 (zh : Int))).setCell ⟨B + 1 + 1, 1, none⟩ (.int .u64 (zo : Int))) := ((Upd.refl _ V).set 0 _).set 1 _
  obtain ⟨V2, hV2⟩ : ∃ V2, (V.setCell ⟨B + 1 + 1, 0, none⟩ (.int .u64 (zh : Int))).setCell ⟨B + 1 + 1, 1, none⟩ (.int .u64 (zo : Int)) = V2 := ⟨_, rfl⟩
  have yb : Below w.heap.size w V2 := hV2 ▸ Upd.below hI'.bel (by omega) u2
  have yo : Obj V2 (B + 2) 116 #[.int .u64 (zh : Int), .int .u64 (zo : Int)] := hV2 ▸ or2.as rfl
  have hK2 : V2.heap[D]? = some (.deferred (some [])) := by
   have hd := (Array.getElem?_eq_some_iff.1 hK).1
   rw [← hV2]; exact (u2.block D hd (by omega)).trans hK
  have ho : ∀ j, j ≠ D → (V2.putObj D (.deferred none)).heap[j]? = V2.heap[j]? := fun j hj => World.putObj_heap_other (by omega)
  have q0 : Obj (V2.putObj D (.deferred none)) (B + 2) _ _ := (ho (B + 2) (by omega)).trans yo
  have p0 : (V2.putObj D (.deferred none)).cell? ⟨B + 1 + 1, 0, none⟩ = some (.int .u64 (zh : Int)) := by rw [q0.cell]; rfl
  have p1 : (V2.putObj D (.deferred none)).cell? ⟨B + 1 + 1, 1, none⟩ = some (.int .u64 (zo : Int)) := by rw [q0.cell]; rfl
  have hgp := grownBy_putObj' V2 D (.deferred none)
  have HFI : Hid (Ending.returned (.agg #[.int .u64 (zh : Int), .int .u64 (zo : Int)]) = Ending.returned (.agg (prs (Gc.mul a b))) ∧ Below w.heap.size w (V2.putObj D (.deferred none))) := ⟨by rw [hm, ← hzh, ← hzo]; rfl, ⟨hgp.os.trans yb.os, hgp.tape.trans yb.tape, hgp.output.trans yb.output, Nat.le_trans yb.size hgp.size, fun j hj => (ho j (by omega)).trans (yb.block j hj)⟩⟩
  have HK2 := Lib.hid hK2
  clear hI hI' hK oz or0 or1 or2 u2 yb yo ho q0 hgp hK2 hG hw hm hzh hzo hmul
  go_wp2
  refine ⟨by simp, .inl ⟨_, _, rfl, run_takeDeferred HK2.out, ?_⟩⟩
  exact ⟨.agg #[.int .u64 (zh : Int), .int .u64 (zo : Int)], by simp [results, Tryd.results81, go_sem, p0, p1], HFI.out.1, HFI.out.2⟩
 case stop =>
  rintro D c i V hD h _
  exact h.elim
end Go.Proofs.YtabfcaidioohfaaDoor.Rm
namespace Go.Proofs.YtabfcaidioohfaaDoor
open List (getElem?_toArray getElem?_cons_zero getElem?_cons_succ setIfInBounds_toArray set_cons_zero set_cons_succ)
set_option maxRecDepth 100000
open Go Go.RowKit
set_option linter.unusedVariables false
set_option linter.unusedSimpArgs false
theorem drew_below (w : World) : Below w.heap.size w w.drew := (Below.refl _ w).drew
/-- of, as pairs' cells. -/
theorem of_prs (b : List Nat) (w : World) (hl : b.length = 16) (hb : Ae.bytes b) :
  Calls Tryd.prog 79 #[.agg (cellsN b)] w fun e w' => e = .returned (.agg (Rm.prs (Gc.nb b))) ∧ Below w.heap.size w w' := of_any b w hl hb
theorem block_prs (v : Nat) (w : World) (h : v < 2 ^ 128) :
  Calls Tryd.prog 83 #[.agg (Rm.prs v)] w fun e w' => e = .returned (.agg (cellsN (Gc.bn v))) ∧ Below w.heap.size w w' := block_any _ _ w (Gc.hi_lt h) (Gc.lo_lt v)
end Go.Proofs.YtabfcaidioohfaaDoor
namespace Go.Proofs.YtabfcaidioohfaaDoor
open List (getElem?_toArray getElem?_cons_zero getElem?_cons_succ setIfInBounds_toArray set_cons_zero set_cons_succ)
set_option maxRecDepth 100000
open Go Go.RowKit
set_option linter.unusedVariables false
set_option linter.unusedSimpArgs false
theorem pad_splice (c : List Nat) (h : c.length ≤ 16) : (splice ((List.replicate 16 0).map u8v) 0 (c.map u8v)).toArray = cellsN (Gc.pad c) := by
 apply Array.ext'
 show _ = (Gc.pad c).map u8v
 unfold splice Gc.pad
 rw [List.map_append, List.take_zero, List.nil_append, List.length_map, Nat.zero_add, ← List.map_drop, List.drop_replicate]
theorem rd_src {w : World} {A : Option Addr} {l : List Nat} (h : Rd w A l) (hp : 0 < l.length) : ∃ ad, A = some ad ∧ ∀ j v, (l.map u8v)[j]? = some v → w.cell? (ad.add j) = some v := by
 obtain ⟨b, off, rfl, hb, hc⟩ := h hp
 refine ⟨_, rfl, fun j v hv => ?_⟩
 rw [List.getElem?_map] at hv
 obtain ⟨x, hx, rfl⟩ := Option.map_eq_some_iff.1 hv
 have hj := (List.getElem?_eq_some_iff.1 hx).1
 rw [Addr.add_lit]
 have := hc j hj
 rw [List.getD_eq_getElem?_getD, hx] at this
 exact this
set_option maxRecDepth 100000 in
set_option maxHeartbeats 4000000 in
theorem take_any (Y H y h : Nat) (A : Option Addr) (n cp : Nat) (c : List Nat) (W : World) (hY : Obj W Y 116 (Rm.prs y)) (hH : Obj W H 116 (Rm.prs h)) (hne : Y ≠ H) (ly : y < 2 ^ 128) (lh : h < 2 ^ 128) (hr : Rd W A c) (hl : c.length = n) (hn : n ≤ 16) (hc : Ae.bytes c) :
  Calls Tryd.prog 80 (#[.slice A n cp] ++ #[.pointer (some ⟨Y, 0, none⟩), .pointer (some ⟨H, 0, none⟩)]) W fun e w' => (∃ v, e = .returned v) ∧ Obj w' Y 116 (Rm.prs (Gc.step h y c)) ∧ Upd Y W w' := by
 obtain ⟨S, hS⟩ : ∃ S, W.heap.size = S := ⟨_, rfl⟩
 obtain ⟨W1, hW1⟩ : ∃ W1, W.alloc (.cells #[.int .u8 0, .int .u8 0, .int .u8 0, .int .u8 0, .int .u8 0, .int .u8 0, .int .u8 0, .int .u8 0, .int .u8 0, .int .u8 0, .int .u8 0, .int .u8 0, .int .u8 0, .int .u8 0, .int .u8 0, .int .u8 0] 26) = W1 := ⟨_, rfl⟩
 have hb1 : Below S W W1 := hW1 ▸ (Below.refl _ W).alloc (by omega) _
 have hsz1 : W1.heap.size = S + 1 := by rw [← hW1]; simp [hS]
 have o1 : W1.heap[S]? = some (.cells ((List.replicate 16 0).map u8v).toArray 26 (0, 0)) := hW1 ▸ hS ▸ Obj.new W 26 #[.int .u8 0, .int .u8 0, .int .u8 0, .int .u8 0, .int .u8 0, .int .u8 0, .int .u8 0, .int .u8 0, .int .u8 0, .int .u8 0, .int .u8 0, .int .u8 0, .int .u8 0, .int .u8 0, .int .u8 0, .int .u8 0]
 have hYl := hY.lt
 have hHl := hH.lt
 have HSRC : Hid (0 < (c.map u8v).length → (some (⟨S, 0, none⟩ : Addr)) = some ⟨S, 0, none⟩ ∧ ∃ ad, A = some ad ∧ ∀ j v, (c.map u8v)[j]? = some v → W1.cell? (ad.add j) = some v) := fun hp => ⟨rfl, by
  rw [List.length_map] at hp
  exact rd_src (hr.below (hS ▸ hb1)) hp⟩
 have HCN : Hid ((c.map u8v).length = Nat.min n 16) := by unfold Hid; rw [List.length_map, hl]; exact (Nat.min_eq_left hn).symm
 have HFT : Hid (0 + (c.map u8v).length ≤ ((List.replicate 16 0).map u8v).length) := by unfold Hid; simp; omega
 have HON : Hid (∀ v ∈ c.map u8v, v.oneCell' = true) := fun v hv => by
  obtain ⟨x, _, rfl⟩ := List.mem_map.1 hv
  rfl
 have hpl : (Gc.pad c).length = 16 := Gc.pad_len (by omega)
 have hpb := Gc.pad_bytes hc
 have HPS := Lib.hid (pad_splice c (by omega))
 have hp128 := Gc.nb16_lt hpl hpb
 have H1 := Lib.hid (fun w => of_any (Gc.pad c) w hpl hpb)
 have HSZ := Lib.hid (size16 hpl)
 have hx128 : (y ^^^ Gc.nb (Gc.pad c)) < 2 ^ 128 := Nat.xor_lt_two_pow ly hp128
 have H2 : Hid (∀ w, Calls Tryd.prog 81 #[.agg #[.int .u64 ((Gc.hi (y ^^^ Gc.nb (Gc.pad c)) : Nat) : Int), .int .u64 ((Gc.lo (y ^^^ Gc.nb (Gc.pad c)) : Nat) : Int)], .agg #[.int .u64 ((Gc.hi h : Nat) : Int), .int .u64 ((Gc.lo h : Nat) : Int)]] w fun e w' => e = .returned (.agg #[.int .u64 ((Gc.hi (Gc.step h y c) : Nat) : Int), .int .u64 ((Gc.lo (Gc.step h y c) : Nat) : Int)]) ∧ Below w.heap.size w w') := fun w => Rm.times_any (y ^^^ Gc.nb (Gc.pad c)) h w hx128 lh
 have xh := u64_xor_nat (Gc.hi y) (Gc.hi (Gc.nb (Gc.pad c))) (Gc.hi_lt ly) (Gc.hi_lt hp128)
 have xl := u64_xor_nat (Gc.lo y) (Gc.lo (Gc.nb (Gc.pad c))) (Gc.lo_lt _) (Gc.lo_lt _)
 rw [← Gc.hi_xor] at xh
 rw [← Gc.lo_xor] at xl
 generalize Gc.nb (Gc.pad c) = p at *
 have HKY : Hid (∀ w2, Below S W w2 → Obj w2 Y 116 (Rm.prs y) ∧ Obj w2 H 116 (Rm.prs h) ∧ (w2.cell? ⟨Y, 0, none⟩ = some (.int .u64 ((Gc.hi y : Nat) : Int)) ∧ w2.cell? ⟨Y, 1, none⟩ = some (.int .u64 ((Gc.lo y : Nat) : Int)) ∧ w2.frozen? ⟨Y, 0, none⟩ = false ∧ w2.frozen? ⟨Y, 1, none⟩ = false) ∧ (w2.cell? ⟨H, 0, none⟩ = some (.int .u64 ((Gc.hi h : Nat) : Int)) ∧ w2.cell? ⟨H, 1, none⟩ = some (.int .u64 ((Gc.lo h : Nat) : Int)))) := fun w2 hb => by
  have oy := hY.kept (hS ▸ hb)
  have oh := hH.kept (hS ▸ hb)
  exact ⟨oy, oh, ⟨by rw [oy.cell]; rfl, by rw [oy.cell]; rfl, oy.free 0, oy.free 1⟩, by rw [oh.cell]; rfl, by rw [oh.cell]; rfl⟩
 have HO1 := Lib.hid o1
 have HB1 := Lib.hid hb1
 have hsl := fun w => slice16all S w
 clear hY hH hr hl hc hpl hpb hp128 hx128 o1 hb1
 go_enter Tryd.func80, Tryd.ntmps80
 go_wp2_with (first
  | (refine wpList_copy_splice rfl (.tmp 6) (.tmp 7) 24 24 rfl 5 Tryd.underlying24 hsz8 _ _ _ _ _ _ rfl rfl S 0 ((List.replicate 16 0).map u8v) 26 HO1.out (c.map u8v) HCN.out HSRC.out HFT.out HON.out S W HB1.out (Nat.le_refl _) ?_; intro w2 hg2 hb2; have HR2 : Hid (Obj w2 S 26 (cellsN (Gc.pad c))) := (by have h := hg2.out; rw [HPS.out] at h; exact h); have HB2 := Lib.hid hb2; clear hg2 hb2)
  | (refine wpList_load_row rfl 26 (.tmp 4) rfl S rfl _ _ _ _ HR2.out Tryd.underlying26 rfl HSZ.out ?_))
 refine (H1.out _).mono ?_
 rintro e w3 ⟨rfl, hb3⟩
 have hbS : Below S W w3 := HB2.out.trans (hb3.mono (by have := HR2.out.lt; omega))
 obtain ⟨_, _, ⟨y0, y1, z0, z1⟩, x0, x1⟩ := HKY.out w3 hbS
 have hY3 : Y < w3.heap.size := by have := hbS.size; omega
 have hH3 : H < w3.heap.size := by have := hbS.size; omega
 have HBS := Lib.hid hbS
 clear hbS hb3
 generalize Gc.hi (y ^^^ p) = sh at *
 generalize Gc.lo (y ^^^ p) = so at *
 go_wp2_with fail
 refine (H2.out _).mono ?_
 rintro e w5 ⟨rfl, hb5⟩
 have hb35 : Below S W w5 := HBS.out.trans (((Below.refl _ w3).alloc (Nat.le_refl _) (.cells #[.int .u64 ((Gc.hi p : Nat) : Int), .int .u64 ((Gc.lo p : Nat) : Int)] 116)).trans (hb5.mono (by simp)) |>.mono (by have := HBS.out.size; omega))
 obtain ⟨oy, _, ⟨y0', y1', z0', z1'⟩, _, _⟩ := HKY.out w5 hb35
 have oy1 := oy.set 0 (.int .u64 ((Gc.hi (Gc.step h y c) : Nat) : Int))
 have y1'' : (w5.setCell ⟨Y, 0, none⟩ (.int .u64 ((Gc.hi (Gc.step h y c) : Nat) : Int))).cell? ⟨Y, 1, none⟩ = some (.int .u64 ((Gc.lo y : Nat) : Int)) := by rw [oy1.cell]; rfl
 have oy2 := oy1.set 1 (.int .u64 ((Gc.lo (Gc.step h y c) : Nat) : Int))
 have u5 : Upd Y W ((w5.setCell ⟨Y, 0, none⟩ (.int .u64 ((Gc.hi (Gc.step h y c) : Nat) : Int))).setCell ⟨Y, 1, none⟩ (.int .u64 ((Gc.lo (Gc.step h y c) : Nat) : Int))) := ((Upd.of_below (hS ▸ hb35) Y).set 0 _).set 1 _
 have HFI : Hid (Obj ((w5.setCell ⟨Y, 0, none⟩ (.int .u64 ((Gc.hi (Gc.step h y c) : Nat) : Int))).setCell ⟨Y, 1, none⟩ (.int .u64 ((Gc.lo (Gc.step h y c) : Nat) : Int))) Y 116 (Rm.prs (Gc.step h y c)) ∧ Upd Y W ((w5.setCell ⟨Y, 0, none⟩ (.int .u64 ((Gc.hi (Gc.step h y c) : Nat) : Int))).setCell ⟨Y, 1, none⟩ (.int .u64 ((Gc.lo (Gc.step h y c) : Nat) : Int)))) := ⟨oy2.as rfl, u5⟩
 clear oy oy1 oy2 u5 hb35 hb5 y0 y1 z0 z1 x0 x1
 go_wp2
 refine bodyPost_end (results_none rfl _ _ _) rfl ?_
 exact ⟨⟨_, rfl⟩, HFI.out⟩
end Go.Proofs.YtabfcaidioohfaaDoor
namespace Go.Proofs.YtabfcaidioohfaaDoor.It
open List (getElem?_toArray getElem?_cons_zero getElem?_cons_succ setIfInBounds_toArray set_cons_zero set_cons_succ)
set_option maxRecDepth 100000
open Go Go.RowKit Go.Shelf
set_option linter.unusedVariables false
set_option linter.unusedSimpArgs false
attribute [local go_sem] Oper.semAt_some
theorem chunk_any (A : Option Addr) (n c : Nat) (w : World) :
  Calls Tryd.prog 82 #[.slice A n c, .int .i64 16] w fun e w' => e = .returned (.func (.func 95) #[] #[.pointer (some ⟨w.heap.size, 0, none⟩), .pointer (some ⟨w.heap.size + 1, 0, none⟩)]) ∧ (w.alloc (.cells #[.slice A n c] 24)).alloc (.cells #[.int .i64 16] 3) = w' := by
 go_enter Tryd.func82, Tryd.ntmps82
 go_wp2
 go_ret
 exact ⟨rfl, rfl⟩
/-- How long part number i is. -/
def len16 (n i : Nat) : Nat := if 16 * i + 16 ≤ n then 16 else n - 16 * i
/-- What the iterator hands on. -/
def enc16 (g o n : Nat) (i : Nat) : Array Value := #[.slice (some ⟨g, o + 16 * i, none⟩) (len16 n i) (len16 n i)]
/-- What it reads between two rounds. -/
def MpC (Bx n c : Nat) (A : Option Addr) (i : Nat) (V : World) : Prop :=
 V.cell? ⟨Bx, 0, none⟩ = some (.slice A n c) ∧ V.cell? ⟨Bx + 1, 0, none⟩ = some (.int .i64 16)
set_option maxRecDepth 100000 in
set_option maxHeartbeats 4000000 in
theorem chunk1_gives (m : Nat) (hm : 1 ≤ m) (Bx g o n c : Nat) (A : Option Addr) (hA : 0 < n → A = some ⟨g, o, none⟩) (hn : n ≤ 1000000) (hc : n ≤ c ∧ c ≤ 9223372036854775807) :
  Gives Fence.wide m Tryd.prog 95 #[.pointer (some ⟨Bx, 0, none⟩), .pointer (some ⟨Bx + 1, 0, none⟩)] (enc16 g o n) (MpC Bx n c A) ((n + 15) / 16) := by
 intro l J Jx W hM hD hY h0
 show CallsIn Fence.wide m Tryd.prog 95 #[.func (.yield l) #[] #[], .pointer (some ⟨Bx, 0, none⟩), .pointer (some ⟨Bx + 1, 0, none⟩)] W _
 have HM : Hid (∀ i V, J i V → MpC Bx n c A i V) := hM
 have HD := Lib.hid hD
 have HY := Lib.hid hY
 have HA := Lib.hid hA
 obtain ⟨N, hN⟩ : ∃ N, (n + 15) / 16 = N := ⟨_, rfl⟩
 rw [hN] at HY ⊢
 have HN := Lib.hid hN
 clear hM hD hY hA hN
 refine callsIn_of_wp Tryd.func95 rfl trivial ?_ rfl
 simp only [Tryd.ntmps95, List.size_toArray, List.length_cons, List.length_nil, Nat.reduceAdd, Nat.reduceSub, Array.replicate_succ, Array.replicate_zero, List.push_toArray, List.append_toArray, List.nil_append, List.cons_append]
 gi_wp2
 gi_loopw [4] (fun p wr => ∃ i q : Nat, i ≤ N ∧ 16 * i = q ∧ p = .int .i64 (q : Int) ∧ J i wr) (fun p wr => n + 16 - (intOf p).toNat)
 case atStart => exact ⟨0, 0, Nat.zero_le _, rfl, rfl, h0⟩
 case round =>
  obtain ⟨i, q, hi, hq, rfl, hJ⟩ := hrel
  obtain ⟨c0, c1⟩ := HM.out i wr hJ
  have HJ := Lib.hid hJ
  have HQ := Lib.hid hq
  by_cases hlt : i < N
  ·have hqn : q < n := by have := HN.out; omega
   have hqi : (q : Int) < (n : Int) := by omega
   obtain rfl := HA.out (by omega)
   have hy' := fun V hV => HY.out i V hV hlt
   by_cases hf : q + 16 ≤ n
   ·have e1 : len16 n i = 16 := by unfold len16; rw [if_pos (by omega)]
    have hf1 : ¬ ((n - q : Nat) : Int) < 16 := by omega
    clear hJ hq
    gi_wp2
    refine wpIn_wide.2 ?_
    go_quiet (fail)
    have hJ := HD.out i wr nq HJ.out
    obtain ⟨c0, c1⟩ := HM.out i _ hJ
    obtain ⟨fn, tmps, assign, body, hy, hR⟩ := hy' _ hJ
    unfold enc16 at hy
    rw [HQ.out, e1] at hy
    generalize wr.drewN nq = wq at *
    clear hJ HJ hy' e1
    gi_wp2
    refine hR.mono ?_
    rintro e W3 (⟨rfl, hJ3⟩ | ⟨rfl, hJx3⟩)
    ·obtain ⟨e0, e1⟩ := HM.out _ W3 hJ3
     gi_wp2
     go_roundw
     case rel => exact ⟨i + 1, q + 16, by omega, by have := HQ.out; omega, by go_num, hJ3⟩
     case measure => simp [intOf]; omega
    ·gi_wp2
     refine bodyPost_ret (results_none rfl _ _ _) rfl ?_
     exact ⟨⟨_, rfl⟩, .inr ⟨i, hJx3⟩⟩
   ·obtain ⟨d, hd⟩ : ∃ d, n - q = d := ⟨_, rfl⟩
    have e1 : len16 n i = d := by unfold len16; rw [if_neg (by omega), hq, hd]
    have hf1 : (d : Int) < 16 := by omega
    have hqd : (q : Int) + (d : Int) = (n : Int) := by omega
    have hqd' : q + d = n := by omega
    have hd0 : 0 < d := by omega
    clear hJ hq
    gi_wp2
    refine wpIn_wide.2 ?_
    go_quiet (fail)
    have hJ := HD.out i wr nq HJ.out
    obtain ⟨c0, c1⟩ := HM.out i _ hJ
    obtain ⟨fn, tmps, assign, body, hy, hR⟩ := hy' _ hJ
    unfold enc16 at hy
    rw [HQ.out, e1] at hy
    generalize wr.drewN nq = wq at *
    clear hJ HJ hy' e1
    gi_wp2
    refine hR.mono ?_
    rintro e W3 (⟨rfl, hJ3⟩ | ⟨rfl, hJx3⟩)
    ·obtain ⟨e0, e1⟩ := HM.out _ W3 hJ3
     gi_wp2
     go_roundw
     case rel => exact ⟨i + 1, q + 16, by omega, by have := HQ.out; omega, by go_num, hJ3⟩
     case measure => simp [intOf]; omega
    ·gi_wp2
     refine bodyPost_ret (results_none rfl _ _ _) rfl ?_
     exact ⟨⟨_, rfl⟩, .inr ⟨i, hJx3⟩⟩
  ·obtain rfl : N = i := by omega
   have hqn : ¬ (q : Int) < (n : Int) := by have := HN.out; omega
   clear hJ hq
   gi_wp2
   refine bodyPost_end (results_none rfl _ _ _) rfl ?_
   exact ⟨⟨_, rfl⟩, .inl HJ.out⟩
end Go.Proofs.YtabfcaidioohfaaDoor.It
namespace Go.Proofs.YtabfcaidioohfaaDoor
open List (getElem?_toArray getElem?_cons_zero getElem?_cons_succ setIfInBounds_toArray set_cons_zero set_cons_succ)
set_option maxRecDepth 100000
open Go Go.RowKit Go.Shelf
set_option linter.unusedVariables false
set_option linter.unusedSimpArgs false
attribute [local go_sem] Oper.semAt_some
/-- Between two blocks: of what was there at the loop's head only the sum has turned. -/
structure SuI (V0 : World) (Y h y0 : Nat) (l : List Nat) (i : Nat) (V : World) : Prop where
 y : Obj V Y 116 (Rm.prs (Gc.absb h y0 l i))
 upd : Upd Y V0 V
theorem SuI.own {V0 : World} {Y h y0 D : Nat} {l : List Nat} (hD : V0.heap.size = D) (hY : Y < D) : OwnFrom D (SuI V0 Y h y0 l) := by
 intro i W V row hI hgr hr
 have hk : ∀ j, j < D → V.heap[j]? = W.heap[j]? := fun j hj => hgr.block j (by have := hI.upd.size; omega) (fun e => by have := (hr j e.symm).1; omega)
 exact ⟨(hk Y hY).trans hI.y, ⟨hgr.os.trans hI.upd.os, hgr.tape.trans hI.upd.tape, hgr.output.trans hI.upd.output, Nat.le_trans hI.upd.size hgr.size, fun j hj hne => (hk j (by omega)).trans (hI.upd.block j hj hne)⟩⟩
theorem chunk_rd {w : World} {g o n i : Nat} {l : List Nat} (h : Rd w (some ⟨g, o, none⟩) l) (hl : l.length = n) (hi : i < (n + 15) / 16) : Rd w (some ⟨g, o + 16 * i, none⟩) (Gc.chunk l i) ∧ (Gc.chunk l i).length = It.len16 n i := by
 have h1 : (Gc.chunk l i).length = It.len16 n i := by
  unfold Gc.chunk It.len16
  rw [List.length_take, List.length_drop, hl]
  split <;> omega
 refine ⟨?_, h1⟩
 unfold Gc.chunk
 have := h.drop (16 * i)
 intro hp
 rw [List.length_take] at hp
 obtain ⟨b, off, e, hb, hc⟩ := this (by omega)
 cases e
 refine ⟨g, o + 16 * i, rfl, hb, fun j hj => ?_⟩
 rw [List.length_take] at hj
 rw [hc j (by omega)]
 simp [List.getD_eq_getElem?_getD, show j < 16 by omega]
theorem wp_nopanic0 {P : Program} {c : Code} {K : Act → World → Prop} {Q : Exit → Act → World → Prop} {a : Act} {w : World} (h : c.wp P (Exit.then K (fun _ _ _ => False)) a w) : c.wp P (Exit.then K Q) a w := by
 refine Code.wp_mono (fun e a w h => ?_) h
 cases e with
 | normal => exact h
 | _ => exact h.elim
/-- A sum under way. -/
structure SuS (w : World) (B Hb k y : Nat) (V : World) : Prop where
 y : Obj V (B + 1 + 1) 116 (Rm.prs y)
 r : Obj V (B + 1) 26 (cellsN (List.replicate 16 0))
 h : Obj V Hb 116 (Rm.prs k)
 f : Obj V (Hb + 1) 104 #[.func (.func 80) #[] #[.pointer (some ⟨B + 1 + 1, 0, none⟩), .pointer (some ⟨Hb, 0, none⟩)]]
 b : Below w.heap.size w V
theorem SuS.kept {w V V' : World} {B Hb k y : Nat} (h : SuS w B Hb k y V) (hb : Below V.heap.size V V') : SuS w B Hb k y V' :=
 ⟨h.y.kept hb, h.r.kept hb, h.h.kept hb, h.f.kept hb, h.b.trans (hb.mono h.b.size)⟩
theorem SuS.upd {w V V' : World} {B Hb k y y' : Nat} (h : SuS w B Hb k y V) (hw : w.heap.size = B) (hB : B + 3 ≤ Hb) (o : Obj V' (B + 1 + 1) 116 (Rm.prs y')) (u : Upd (B + 1 + 1) V V') : SuS w B Hb k y' V' :=
 ⟨o, h.r.upd u (by omega), h.h.upd u (by omega), h.f.upd u (by omega), Upd.below h.b (by omega) u⟩
set_option maxRecDepth 100000 in
set_option maxHeartbeats 16000000 in
theorem sum_any (hl : List Nat) (A1 : Option Addr) (n1 c1 : Nat) (more : List Nat) (A2 : Option Addr) (n2 c2 : Nat) (text : List Nat) (w : World) (l1 : hl.length = 16) (q1 : Ae.bytes hl) (r1 : Rd w A1 more) (m1 : more.length = n1) (b1 : Ae.bytes more) (k1 : n1 ≤ 1000000 ∧ n1 ≤ c1 ∧ c1 ≤ 9223372036854775807) (r2 : Rd w A2 text) (m2 : text.length = n2) (b2 : Ae.bytes text) (k2 : n2 ≤ 1000000 ∧ n2 ≤ c2 ∧ c2 ≤ 9223372036854775807) :
  Calls Tryd.prog 65 #[.agg (cellsN hl), .slice A1 n1 c1, .slice A2 n2 c2] w fun e w' => e = .returned (.agg (cellsN (Gc.bn (Gc.gsum (Gc.nb hl) more text)))) ∧ Below w.heap.size w w' := by
 obtain ⟨B, hB⟩ : ∃ B, w.heap.size = B := ⟨_, rfl⟩
 refine (callsIn_wide (n := 3)).1 ?_
 refine callsIn_of_wp_marks Tryd.func65 rfl trivial ?_ rfl
 simp only [Tryd.ntmps65, List.size_toArray, List.length_cons, List.length_nil, Nat.reduceAdd, Nat.reduceSub, Array.replicate_succ, Array.replicate_zero, List.push_toArray, List.append_toArray, List.nil_append, List.cons_append]
 refine wpIn_wide.2 ?_
 have hlt := Gc.nb16_lt l1 q1
 have HOF : Hid (∀ w, Calls Tryd.prog 79 #[.agg (cellsN hl)] w fun e w' => e = .returned (.agg #[.int .u64 ((Gc.hi (Gc.nb hl) : Nat) : Int), .int .u64 ((Gc.lo (Gc.nb hl) : Nat) : Int)]) ∧ Below w.heap.size w w') := fun w => of_any hl w l1 q1
 have HSH := Lib.hid (size16 l1)
 have HO0 : Hid (Obj (((w.alloc (.cells (cellsN hl) 26)).alloc (.cells #[.int .u8 0, .int .u8 0, .int .u8 0, .int .u8 0, .int .u8 0, .int .u8 0, .int .u8 0, .int .u8 0, .int .u8 0, .int .u8 0, .int .u8 0, .int .u8 0, .int .u8 0, .int .u8 0, .int .u8 0, .int .u8 0] 26)).alloc (.cells #[.int .u64 0, .int .u64 0] 116)) B 26 (cellsN hl)) := hB ▸ ((Obj.new w _ _).alloc _).alloc _
 go_wp2_with (refine wpList_load_row rfl 26 (.tmp 3) rfl B rfl _ _ _ _ HO0.out Tryd.underlying26 rfl HSH.out ?_)
 refine (HOF.out _).mono ?_
 rintro e w2 ⟨rfl, hb2⟩
 have HHB : Hid (∃ x, w2.heap.size = x) := ⟨_, rfl⟩
 obtain ⟨Hb, hHb⟩ := HHB.out
 have hB2 : B + 3 ≤ Hb := by have := hb2.size; simp [hB] at this; omega
 obtain ⟨h, hh⟩ : ∃ h, Gc.nb hl = h := ⟨_, rfl⟩
 rw [hh] at hlt
 obtain ⟨V3, hV3⟩ : ∃ V3, ((w2.alloc (.cells #[.int .u64 ((Gc.hi (Gc.nb hl) : Nat) : Int), .int .u64 ((Gc.lo (Gc.nb hl) : Nat) : Int)] 116)).alloc (.cells #[.func (.func 80) #[] #[.pointer (some ⟨B + 1 + 1, 0, none⟩), .pointer (some ⟨w2.heap.size, 0, none⟩)]] 104)) = V3 := ⟨_, rfl⟩
 have hk : Below w2.heap.size w2 V3 := hV3 ▸ ((Below.refl _ w2).alloc (Nat.le_refl _) _).alloc (by simp) _
 have s3 : V3.heap.size = Hb + 2 := by rw [← hV3]; simp [hHb]
 have oh : Obj V3 Hb 116 (Rm.prs h) := hV3 ▸ hHb ▸ (hh ▸ (Obj.new w2 _ _).alloc _)
 have of_ : Obj V3 (Hb + 1) 104 #[.func (.func 80) #[] #[.pointer (some ⟨B + 1 + 1, 0, none⟩), .pointer (some ⟨Hb, 0, none⟩)]] := by
  have := Obj.new (w2.alloc (.cells #[.int .u64 ((Gc.hi (Gc.nb hl) : Nat) : Int), .int .u64 ((Gc.lo (Gc.nb hl) : Nat) : Int)] 116)) 104 #[.func (.func 80) #[] #[.pointer (some ⟨B + 1 + 1, 0, none⟩), .pointer (some ⟨w2.heap.size, 0, none⟩)]]
  rw [World.size_alloc, hHb] at this
  rw [hHb] at hV3
  exact hV3 ▸ this
 have W0b : Below w.heap.size w (((w.alloc (.cells (cellsN hl) 26)).alloc (.cells #[.int .u8 0, .int .u8 0, .int .u8 0, .int .u8 0, .int .u8 0, .int .u8 0, .int .u8 0, .int .u8 0, .int .u8 0, .int .u8 0, .int .u8 0, .int .u8 0, .int .u8 0, .int .u8 0, .int .u8 0, .int .u8 0] 26)).alloc (.cells #[.int .u64 0, .int .u64 0] 116)) := (((Below.refl _ w).alloc (Nat.le_refl _) _).alloc (by simp) _).alloc (by simp; omega) _
 have or0 : Obj (((w.alloc (.cells (cellsN hl) 26)).alloc (.cells #[.int .u8 0, .int .u8 0, .int .u8 0, .int .u8 0, .int .u8 0, .int .u8 0, .int .u8 0, .int .u8 0, .int .u8 0, .int .u8 0, .int .u8 0, .int .u8 0, .int .u8 0, .int .u8 0, .int .u8 0, .int .u8 0] 26)).alloc (.cells #[.int .u64 0, .int .u64 0] 116)) (B + 1) 26 (cellsN (List.replicate 16 0)) := by
  have := (new2 w (.cells (cellsN hl) 26) 26 #[.int .u8 0, .int .u8 0, .int .u8 0, .int .u8 0, .int .u8 0, .int .u8 0, .int .u8 0, .int .u8 0, .int .u8 0, .int .u8 0, .int .u8 0, .int .u8 0, .int .u8 0, .int .u8 0, .int .u8 0, .int .u8 0]).alloc (.cells #[.int .u64 0, .int .u64 0] 116)
  rw [hB] at this; exact this
 have oy0 : Obj (((w.alloc (.cells (cellsN hl) 26)).alloc (.cells #[.int .u8 0, .int .u8 0, .int .u8 0, .int .u8 0, .int .u8 0, .int .u8 0, .int .u8 0, .int .u8 0, .int .u8 0, .int .u8 0, .int .u8 0, .int .u8 0, .int .u8 0, .int .u8 0, .int .u8 0, .int .u8 0] 26)).alloc (.cells #[.int .u64 0, .int .u64 0] 116)) (B + 2) 116 (Rm.prs 0) := by
  have := Obj.new ((w.alloc (.cells (cellsN hl) 26)).alloc (.cells #[.int .u8 0, .int .u8 0, .int .u8 0, .int .u8 0, .int .u8 0, .int .u8 0, .int .u8 0, .int .u8 0, .int .u8 0, .int .u8 0, .int .u8 0, .int .u8 0, .int .u8 0, .int .u8 0, .int .u8 0, .int .u8 0] 26)) 116 #[.int .u64 0, .int .u64 0]
  simp only [World.size_alloc, hB] at this; exact this
 have or3 := (or0.kept hb2).kept hk
 have oy3 := (oy0.kept hb2).kept hk
 have b3 : Below w.heap.size w V3 := (W0b.trans (hb2.mono W0b.size)).trans (hk.mono (Nat.le_trans W0b.size hb2.size))
 obtain ⟨hh0, ehh⟩ : ∃ x, Gc.hi (Gc.nb hl) = x := ⟨_, rfl⟩
 obtain ⟨hl0, ehl⟩ : ∃ x, Gc.lo (Gc.nb hl) = x := ⟨_, rfl⟩
 rw [hHb, ehh, ehl] at hV3
 have HS1 : Hid (SuS w B Hb h 0 V3) := ⟨oy3, or3, oh, of_, b3⟩
 have HV3 := Lib.hid hV3
 have HSZ3 := Lib.hid s3
 have HB := Lib.hid hB
 have HHX := Lib.hid hh
 have HR1 := Lib.hid r1
 have HR2 := Lib.hid r2
 have HM1 := Lib.hid m1
 have HM2 := Lib.hid m2
 have HQ1 := Lib.hid b1
 have HQ2 := Lib.hid b2
 have HLT := Lib.hid hlt
 obtain ⟨g1, o1, hA1⟩ : ∃ g o, 0 < n1 → A1 = some ⟨g, o, none⟩ := by
  rcases Nat.eq_zero_or_pos n1 with h0 | h0
  ·exact ⟨0, 0, fun h => by omega⟩
  ·obtain ⟨b, o, e, _⟩ := r1 (by omega)
   exact ⟨b, o, fun _ => e⟩
 obtain ⟨g2, o2, hA2⟩ : ∃ g o, 0 < n2 → A2 = some ⟨g, o, none⟩ := by
  rcases Nat.eq_zero_or_pos n2 with h0 | h0
  ·exact ⟨0, 0, fun h => by omega⟩
  ·obtain ⟨b, o, e, _⟩ := r2 (by omega)
   exact ⟨b, o, fun _ => e⟩
 have HA1 := Lib.hid hA1
 have HA2 := Lib.hid hA2
 have i0 : ∀ w, (Instr.index 119 (.agg #[.slice A1 n1 c1, .slice A2 n2 c2]) (.int .i64 0)).run Tryd.prog w = .ok (.slice A1 n1 c1) w := fun _ => by kernel_rfl
 have i1 : ∀ w, (Instr.index 119 (.agg #[.slice A1 n1 c1, .slice A2 n2 c2]) (.int .i64 1)).run Tryd.prog w = .ok (.slice A2 n2 c2) w := fun _ => by kernel_rfl
 clear hb2 hk or0 oy0 or3 oy3 b3 oh of_ W0b hV3 s3 r1 r2 m1 m2 b1 b2 hA1 hA2 hlt l1 q1 hh HO0 HOF
 go_wp2
 rw [HV3.out]
 clear HV3 hB
 refine wp_loop_rounds 3 ?_
 rw [rounds_succ]
 go_wp2_with fail
 refine (It.chunk_any A1 n1 c1 V3).mono ?_
 rintro e w' ⟨rfl, rfl⟩
 obtain ⟨C1, hC1⟩ : ∃ C1, V3.heap.size = C1 := ⟨_, rfl⟩
 obtain ⟨Q1, hQ1⟩ : ∃ Q1, (V3.alloc (.cells #[.slice A1 n1 c1] 24)).alloc (.cells #[.int .i64 16] 3) = Q1 := ⟨_, rfl⟩
 have kb1 : Below V3.heap.size V3 Q1 := hQ1 ▸ ((Below.refl _ V3).alloc (Nat.le_refl _) _).alloc (by simp) _
 have ks1 : Q1.heap.size = C1 + 2 := by rw [← hQ1]; simp [hC1]
 have x01 : Obj Q1 C1 24 #[.slice A1 n1 c1] := hQ1 ▸ hC1 ▸ (Obj.new V3 _ _).alloc _
 have x11 : Obj Q1 (C1 + 1) 3 #[.int .i64 16] := by
  have := Obj.new (V3.alloc (.cells #[.slice A1 n1 c1] 24)) 3 #[.int .i64 16]
  rw [World.size_alloc, hC1] at this
  exact hQ1 ▸ this
 rw [hC1, hQ1]
 have HT1 := Lib.hid (HS1.out.kept kb1)
 have hHbC1 : Hb + 2 ≤ C1 := by have := HS1.out.f.lt; omega
 have hRQ1 := HR1.out.below HT1.out.b
 have hI01 : SuI Q1 (B + 1 + 1) h 0 more 0 Q1 := ⟨HT1.out.y, Upd.refl _ _⟩
 have HX01 := Lib.hid x01
 have HX11 := Lib.hid x11
 clear x01 x11 hQ1 kb1
 go_wp2
 refine (wpIn_wide (n := 3)).1 ?_
 refine It.wpIn_rangeFunc_ix (n := 3) rfl (by omega) (gf := 95) (lb := #[.pointer (some ⟨C1, 0, none⟩), .pointer (some ⟨C1 + 1, 0, none⟩)]) rfl trivial (enters_of Tryd.func95 (by kernel_rfl) rfl)
  (It.chunk1_gives 2 (by omega) C1 g1 o1 n1 c1 A1 HA1.out k1.1 k1.2) (fun i => rfl) (fun i V => SuI Q1 (B + 1 + 1) h 0 more i V) (fun _ _ _ => False) ?own (fun _ _ _ _ _ hs _ _ => hs) ?tell hI01
  (fun i => { tmps := #[.agg (cellsN hl), .slice A1 n1 c1, .slice A2 n2 c2, .pointer (some ⟨B, 0, none⟩), undef, undef, .pointer (some ⟨B + 1, 0, none⟩), .pointer (some ⟨B + 1 + 1, 0, none⟩), .pointer (some ⟨Hb, 0, none⟩), .pointer (some ⟨Hb + 1, 0, none⟩), undef, .slice A1 n1 c1, .slice (some ⟨g1, o1 + 16 * i, none⟩) (It.len16 n1 i) (It.len16 n1 i), undef, .agg (cellsN hl), .agg #[.int .u64 (hh0 : Int), .int .u64 (hl0 : Int)], .func (.func 80) #[] #[.pointer (some ⟨B + 1 + 1, 0, none⟩), .pointer (some ⟨Hb, 0, none⟩)], .slice A1 n1 c1, .slice A2 n2 c2, .agg #[.slice A1 n1 c1, .slice A2 n2 c2], .int .i64 0, .bool true, .slice A1 n1 c1, .slice A1 n1 c1, .func (.func 95) #[] #[.pointer (some ⟨C1, 0, none⟩), .pointer (some ⟨C1 + 1, 0, none⟩)], .slice (some ⟨g1, o1 + 16 * i, none⟩) (It.len16 n1 i) (It.len16 n1 i), undef, undef, undef, undef, undef, undef, undef, undef, undef, undef, undef, undef, undef, undef, undef, undef, undef, undef, undef], defers := [] }) ?assign ?body ?done ?stop
 case own => exact SuI.own rfl (by omega)
 case tell => intro i V hV; exact ⟨(HX01.out.upd hV.upd (by omega)).cell 0, (HX11.out.upd hV.upd (by omega)).cell 0⟩
 case assign =>
  intro l i W K hK
  dsimp only [It.enc16]
  generalize o1 + 16 * i = q at *
  generalize It.len16 n1 i = m at *
  gi_wp2
  simpa using hK
 case body =>
  intro l i W hI hiN
  have hu := hI.upd
  have hn0 : 0 < n1 := by omega
  have HFW : Hid (Obj W (Hb + 1) _ _) := HT1.out.f.upd hu (by omega)
  have HTK : Hid (Calls Tryd.prog 80 (#[.slice (some ⟨g1, o1 + 16 * i, none⟩) (It.len16 n1 i) (It.len16 n1 i)] ++ #[.pointer (some ⟨B + 1 + 1, 0, none⟩), .pointer (some ⟨Hb, 0, none⟩)]) W fun e w' => (∃ v, e = .returned v) ∧ (KeepsFrom Q1.heap.size W w' ∧ SuI Q1 (B + 1 + 1) h 0 more (i + 1) w')) := by
   have hrr := HR1.out
   rw [HA1.out hn0] at hrr
   have hbW : Below w.heap.size w W := Upd.below HT1.out.b (by have := HB.out; omega) hu
   obtain ⟨q1, q2⟩ := chunk_rd (hrr.below hbW) HM1.out hiN
   refine (take_any (B + 1 + 1) Hb (Gc.absb h 0 more i) h _ _ _ (Gc.chunk more i) W hI.y (HT1.out.h.upd hu (by omega)) (by omega) (Gc.absb_lt HLT.out (by decide) i) HLT.out q1 q2 (by rw [← q2]; exact Gc.chunk_len _ _) (Gc.chunk_bytes HQ1.out i)).mono ?_
   rintro e w' ⟨h1, h2, h3⟩
   exact ⟨h1, ⟨h3.size, fun k o hk ho _ => (h3.block k (Array.getElem?_eq_some_iff.1 ho).1 (by omega)).trans ho⟩, h2, hu.trans h3⟩
  have c0 := HFW.out.cell 0
  clear hI hu hI01
  generalize o1 + 16 * i = q at *
  generalize It.len16 n1 i = m at *
  gi_wp2
  refine ⟨trivial, ?_⟩
  refine (CallsIn.inRound l (callsIn_wide.2 HTK.out)).mono ?_
  rintro e w' ⟨⟨v, rfl⟩, hI'⟩
  gi_wp2
  exact hI'
 case stop =>
  rintro D c i V hD h _
  exact h.elim
 case done =>
  intro D1 V hD hI hK
  have hI' : SuI Q1 (B + 1 + 1) h 0 more ((n1 + 15) / 16) V := hI
  rw [show (n1 + 15) / 16 = Gc.nch more from by unfold Gc.nch; rw [HM1.out]] at hI'
  have HS2 := Lib.hid (HT1.out.upd HB.out hB2 hI'.y hI'.upd)
  have HDD := Lib.hid hK
  have hDB : B + 3 < D1 := by omega
  clear hI hI' hK hI01
  go_wp2
  rw [rounds_succ]
  go_wp2_with fail
  refine (It.chunk_any A2 n2 c2 V).mono ?_
  rintro e w' ⟨rfl, rfl⟩
  obtain ⟨C2, hC2⟩ : ∃ C2, V.heap.size = C2 := ⟨_, rfl⟩
  obtain ⟨Q2, hQ2⟩ : ∃ Q2, (V.alloc (.cells #[.slice A2 n2 c2] 24)).alloc (.cells #[.int .i64 16] 3) = Q2 := ⟨_, rfl⟩
  have kb2 : Below V.heap.size V Q2 := hQ2 ▸ ((Below.refl _ V).alloc (Nat.le_refl _) _).alloc (by simp) _
  have ks2 : Q2.heap.size = C2 + 2 := by rw [← hQ2]; simp [hC2]
  have x02 : Obj Q2 C2 24 #[.slice A2 n2 c2] := hQ2 ▸ hC2 ▸ (Obj.new V _ _).alloc _
  have x12 : Obj Q2 (C2 + 1) 3 #[.int .i64 16] := by
   have := Obj.new (V.alloc (.cells #[.slice A2 n2 c2] 24)) 3 #[.int .i64 16]
   rw [World.size_alloc, hC2] at this
   exact hQ2 ▸ this
  rw [hC2, hQ2]
  have HT2 := Lib.hid (HS2.out.kept kb2)
  have hHbC2 : Hb + 2 ≤ C2 := by have := HS2.out.f.lt; omega
  have hRQ2 := HR2.out.below HT2.out.b
  have hI02 : SuI Q2 (B + 1 + 1) h (Gc.absb h 0 more (Gc.nch more)) text 0 Q2 := ⟨HT2.out.y, Upd.refl _ _⟩
  have HX02 := Lib.hid x02
  have HX12 := Lib.hid x12
  have HD2 : Hid (Q2.heap[D1]? = some (.deferred (some []))) := (kb2.block D1 (Array.getElem?_eq_some_iff.1 HDD.out).1).trans HDD.out
  clear x02 x12 hQ2 kb2
  go_wp2
  refine (wpIn_wide (n := 3)).1 ?_
  refine It.wpIn_rangeFunc_ix (n := 3) rfl (by omega) (gf := 95) (lb := #[.pointer (some ⟨C2, 0, none⟩), .pointer (some ⟨C2 + 1, 0, none⟩)]) rfl trivial (enters_of Tryd.func95 (by kernel_rfl) rfl)
   (It.chunk1_gives 2 (by omega) C2 g2 o2 n2 c2 A2 HA2.out k2.1 k2.2) (fun i => rfl) (fun i V => SuI Q2 (B + 1 + 1) h (Gc.absb h 0 more (Gc.nch more)) text i V) (fun _ _ _ => False) ?own (fun _ _ _ _ _ hs _ _ => hs) ?tell hI02
   (fun i => { tmps := #[.agg (cellsN hl), .slice A1 n1 c1, .slice A2 n2 c2, .pointer (some ⟨B, 0, none⟩), undef, undef, .pointer (some ⟨B + 1, 0, none⟩), .pointer (some ⟨B + 1 + 1, 0, none⟩), .pointer (some ⟨Hb, 0, none⟩), .pointer (some ⟨Hb + 1, 0, none⟩), undef, .slice A2 n2 c2, .slice (some ⟨g2, o2 + 16 * i, none⟩) (It.len16 n2 i) (It.len16 n2 i), undef, .agg (cellsN hl), .agg #[.int .u64 (hh0 : Int), .int .u64 (hl0 : Int)], .func (.func 80) #[] #[.pointer (some ⟨B + 1 + 1, 0, none⟩), .pointer (some ⟨Hb, 0, none⟩)], .slice A1 n1 c1, .slice A2 n2 c2, .agg #[.slice A1 n1 c1, .slice A2 n2 c2], .int .i64 1, .bool true, .slice A2 n2 c2, .slice A2 n2 c2, .func (.func 95) #[] #[.pointer (some ⟨C2, 0, none⟩), .pointer (some ⟨C2 + 1, 0, none⟩)], .slice (some ⟨g2, o2 + 16 * i, none⟩) (It.len16 n2 i) (It.len16 n2 i), undef, undef, undef, .int .i64 1, undef, undef, undef, undef, undef, undef, undef, undef, undef, undef, undef, undef, undef, undef, undef], defers := [] }) ?assign ?body ?done ?stop
  case own => exact SuI.own rfl (by omega)
  case tell => intro i V hV; exact ⟨(HX02.out.upd hV.upd (by omega)).cell 0, (HX12.out.upd hV.upd (by omega)).cell 0⟩
  case assign =>
   intro l i W K hK
   dsimp only [It.enc16]
   generalize o2 + 16 * i = q at *
   generalize It.len16 n2 i = m at *
   gi_wp2
   simpa using hK
  case body =>
   intro l i W hI hiN
   have hu := hI.upd
   have hn0 : 0 < n2 := by omega
   have HFW : Hid (Obj W (Hb + 1) _ _) := HT2.out.f.upd hu (by omega)
   have HTK : Hid (Calls Tryd.prog 80 (#[.slice (some ⟨g2, o2 + 16 * i, none⟩) (It.len16 n2 i) (It.len16 n2 i)] ++ #[.pointer (some ⟨B + 1 + 1, 0, none⟩), .pointer (some ⟨Hb, 0, none⟩)]) W fun e w' => (∃ v, e = .returned v) ∧ (KeepsFrom Q2.heap.size W w' ∧ SuI Q2 (B + 1 + 1) h (Gc.absb h 0 more (Gc.nch more)) text (i + 1) w')) := by
    have hrr := HR2.out
    rw [HA2.out hn0] at hrr
    have hbW : Below w.heap.size w W := Upd.below HT2.out.b (by have := HB.out; omega) hu
    obtain ⟨q1, q2⟩ := chunk_rd (hrr.below hbW) HM2.out hiN
    refine (take_any (B + 1 + 1) Hb (Gc.absb h (Gc.absb h 0 more (Gc.nch more)) text i) h _ _ _ (Gc.chunk text i) W hI.y (HT2.out.h.upd hu (by omega)) (by omega) (Gc.absb_lt HLT.out (Gc.absb_lt HLT.out (by decide) _) i) HLT.out q1 q2 (by rw [← q2]; exact Gc.chunk_len _ _) (Gc.chunk_bytes HQ2.out i)).mono ?_
    rintro e w' ⟨h1, h2, h3⟩
    exact ⟨h1, ⟨h3.size, fun k o hk ho _ => (h3.block k (Array.getElem?_eq_some_iff.1 ho).1 (by omega)).trans ho⟩, h2, hu.trans h3⟩
   have c0 := HFW.out.cell 0
   clear hI hu hI02
   generalize o2 + 16 * i = q at *
   generalize It.len16 n2 i = m at *
   gi_wp2
   refine ⟨trivial, ?_⟩
   refine (CallsIn.inRound l (callsIn_wide.2 HTK.out)).mono ?_
   rintro e w' ⟨⟨v, rfl⟩, hI'⟩
   gi_wp2
   exact hI'
  case stop =>
   rintro D c i V hD h _
   exact h.elim
  case done =>
   intro D2 V2 hD hI hK
   have hI' : SuI Q2 (B + 1 + 1) h (Gc.absb h 0 more (Gc.nch more)) text ((n2 + 15) / 16) V2 := hI
   rw [show (n2 + 15) / 16 = Gc.nch text from by unfold Gc.nch; rw [HM2.out]] at hI'
   have HS3 := Lib.hid (HT2.out.upd HB.out hB2 hI'.y hI'.upd)
   have HE1 : Hid (V2.heap[D1]? = some (.deferred (some []))) := (hI'.upd.block D1 (Array.getElem?_eq_some_iff.1 HD2.out).1 (by omega)).trans HD2.out
   have HE2 := Lib.hid hK
   have hDD : D1 < D2 := by have := (Array.getElem?_eq_some_iff.1 HD2.out).1; omega
   clear hI hI' hK hI02
   go_wp2
   have HBK : Hid (∀ w, Calls Tryd.prog 83 #[.agg #[.int .u64 ((n1 : Int) * 8), .int .u64 ((n2 : Int) * 8)]] w fun e w' => e = .returned (.agg (cellsN (Gc.bn (Gc.ends more text)))) ∧ Below w.heap.size w w') := fun w => by
    have h1 : more.length ≤ 1000000 := by rw [HM1.out]; exact k1.1
    have h2 : text.length ≤ 1000000 := by rw [HM2.out]; exact k2.1
    obtain ⟨e0, e1, e2⟩ := Gc.ends_lt h1 h2
    have := block_prs (Gc.ends more text) w e0
    unfold Rm.prs at this
    rwa [e1, e2, HM1.out, HM2.out, Int.natCast_mul, Int.natCast_mul] at this
   have hEl := Gc.bn_len (Gc.ends more text)
   have hEb := Gc.bn_bytes (Gc.ends more text)
   have hEn := Gc.nb_bn (Gc.ends_lt (more := more) (text := text) (by rw [HM1.out]; exact k1.1) (by rw [HM2.out]; exact k2.1)).1
   generalize Gc.bn (Gc.ends more text) = E at *
   rw [rounds_succ]
   go_wp2_with fail
   refine (HBK.out _).mono ?_
   rintro e w3 ⟨rfl, hb3⟩
   obtain ⟨S, hS⟩ : ∃ S, w3.heap.size = S := ⟨_, rfl⟩
   have HO4 : Hid (Obj (w3.alloc (.cells #[.int .u8 0, .int .u8 0, .int .u8 0, .int .u8 0, .int .u8 0, .int .u8 0, .int .u8 0, .int .u8 0, .int .u8 0, .int .u8 0, .int .u8 0, .int .u8 0, .int .u8 0, .int .u8 0, .int .u8 0, .int .u8 0] 26)) S 26 #[.int .u8 0, .int .u8 0, .int .u8 0, .int .u8 0, .int .u8 0, .int .u8 0, .int .u8 0, .int .u8 0, .int .u8 0, .int .u8 0, .int .u8 0, .int .u8 0, .int .u8 0, .int .u8 0, .int .u8 0, .int .u8 0]) := hS ▸ Obj.new w3 _ _
   have HIE := Lib.hid (size16 hEl)
   have HES : Hid ((#[.int .u8 0, .int .u8 0, .int .u8 0, .int .u8 0, .int .u8 0, .int .u8 0, .int .u8 0, .int .u8 0, .int .u8 0, .int .u8 0, .int .u8 0, .int .u8 0, .int .u8 0, .int .u8 0, .int .u8 0, .int .u8 0] : Array Value).size = (cellsN E).size) := by unfold Hid; rw [cellsN_size, hEl]; rfl
   have hb4 : Below V2.heap.size V2 ((w3.alloc (.cells #[.int .u8 0, .int .u8 0, .int .u8 0, .int .u8 0, .int .u8 0, .int .u8 0, .int .u8 0, .int .u8 0, .int .u8 0, .int .u8 0, .int .u8 0, .int .u8 0, .int .u8 0, .int .u8 0, .int .u8 0, .int .u8 0] 26)).setRow S (cellsN E)) :=
    Upd.below (hb3.trans (((Below.refl _ w3).alloc (Nat.le_refl _) _).mono hb3.size)) (by have := hb3.size; omega) ((Upd.refl S _).row _)
   have oE : Obj ((w3.alloc (.cells #[.int .u8 0, .int .u8 0, .int .u8 0, .int .u8 0, .int .u8 0, .int .u8 0, .int .u8 0, .int .u8 0, .int .u8 0, .int .u8 0, .int .u8 0, .int .u8 0, .int .u8 0, .int .u8 0, .int .u8 0, .int .u8 0] 26)).setRow S (cellsN E)) S 26 (cellsN E) := HO4.out.row _
   have HHS := Lib.hid hS
   clear hS
   go_wp2_with (refine wpList_store_row rfl 26 (.tmp 13) (.tmp 39) rfl _ _ rfl rfl _ _ (HHS.out ▸ HO4.out) HIE.out HES.out (one_cellsN _) ?_)
   rw [HHS.out]
   obtain ⟨V4, hV4⟩ : ∃ V4, (w3.alloc (.cells #[.int .u8 0, .int .u8 0, .int .u8 0, .int .u8 0, .int .u8 0, .int .u8 0, .int .u8 0, .int .u8 0, .int .u8 0, .int .u8 0, .int .u8 0, .int .u8 0, .int .u8 0, .int .u8 0, .int .u8 0, .int .u8 0] 26)).setRow S (cellsN E) = V4 := ⟨_, rfl⟩
   rw [hV4] at hb4 oE ⊢
   simp only [Act.put]
   have HS4 := Lib.hid (HS3.out.kept hb4)
   have d41 : V4.heap[D1]? = some (.deferred (some [])) := (hb4.block D1 (Array.getElem?_eq_some_iff.1 HE1.out).1).trans HE1.out
   have d42 : V4.heap[D2]? = some (.deferred (some [])) := (hb4.block D2 (Array.getElem?_eq_some_iff.1 HE2.out).1).trans HE2.out
   have hpE : Gc.pad E = E := by unfold Gc.pad; rw [hEl]; simp
   have hlt' := Gc.gsum_lt (more := more) (text := text) HLT.out
   have hTK := take_any (B + 1 + 1) Hb _ h (some ⟨S, 0, none⟩) 16 16 E V4.drew HS4.out.y.drew HS4.out.h.drew (by omega) (Gc.absb_lt HLT.out (Gc.absb_lt HLT.out (by decide) _) _) HLT.out oE.drew.rd hEl (by omega) hEb
   rw [show Gc.step h (Gc.absb h (Gc.absb h 0 more (Gc.nch more)) text (Gc.nch text)) E = Gc.gsum h more text from by unfold Gc.step Gc.gsum; rw [hpE, hEn]] at hTK
   obtain ⟨G, hG⟩ : ∃ G, Gc.gsum h more text = G := ⟨_, rfl⟩
   rw [hG] at hTK hlt'
   have HTK := Lib.hid hTK
   have hsl := fun w => slice16all S w
   have H4 := Lib.hid (fun w => block_prs G w hlt')
   have hDB2 : B + 3 < D1 := hDB
   have hd41 := (Array.getElem?_eq_some_iff.1 d41).1
   have hd42 := (Array.getElem?_eq_some_iff.1 d42).1
   have HD1 := Lib.hid d41
   have HD2' := Lib.hid d42
   have c0 := HS4.out.f.cell 0
   clear hTK hb4 oE hV4 d41 d42
   refine wp_nopanic0 ?_
   refine wp_region_held_drew (S := (fun wq => wq.cell? ⟨Hb + 1, 0, none⟩ = some (.func (.func 80) #[] #[.pointer (some ⟨B + 1 + 1, 0, none⟩), .pointer (some ⟨Hb, 0, none⟩)]))) (by kernel_rfl) c0 (fun hHeld => ?_)
   refine tkH 0 ?_
   refine tkH 1 ?_
   refine onH 2 (fun KK hKK => ?_)
   go_simp
   refine (HTK.out).mono ?_
   rintro e W5 ⟨⟨v5, rfl⟩, oy5, u5⟩
   have HS5 := Lib.hid ((HS4.out.kept (drew_below V4)).upd HB.out hB2 oy5 u5)
   try go_wp2_with fail
   refine hKK.out _ _ ?_ (fun hh2 => ?_)
   ·(try dsimp only)
    exact HS5.out.f.cell 0
   clear hKK KK
   try simp only [Act.put, setIfInBounds_toArray, set_cons_zero, set_cons_succ]
   refine wpAnyH_done (by kernel_rfl) ?_ _
   obtain ⟨zh, hzh⟩ : ∃ x, Gc.hi G = x := ⟨_, rfl⟩
   obtain ⟨zo, hzo⟩ : ∃ x, Gc.lo G = x := ⟨_, rfl⟩
   have z0 : W5.cell? ⟨B + 1 + 1, 0, none⟩ = some (.int .u64 (zh : Int)) := by rw [HS5.out.y.cell, ← hzh]; rfl
   have z1 : W5.cell? ⟨B + 1 + 1, 1, none⟩ = some (.int .u64 (zo : Int)) := by rw [HS5.out.y.cell, ← hzo]; rfl
   have H5 : Hid (∀ w, Calls Tryd.prog 83 #[.agg #[.int .u64 (zh : Int), .int .u64 (zo : Int)]] w fun e w' => e = .returned (.agg (cellsN (Gc.bn G))) ∧ Below w.heap.size w w') := fun w => by
    have := H4.out w
    unfold Rm.prs at this
    rwa [hzh, hzo] at this
   have HE5 : Hid (W5.heap[D1]? = some (.deferred (some [])) ∧ W5.heap[D2]? = some (.deferred (some []))) := ⟨(u5.block D1 (by simpa using hd41) (by omega)).trans HD1.out, (u5.block D2 (by simpa using hd42) (by omega)).trans HD2'.out⟩
   clear hh2 hHeld c0 u5 oy5 hzh hzo HTK
   go_wp2_with fail
   refine (H5.out _).mono ?_
   rintro e W6 ⟨rfl, hb6⟩
   have HS6 := Lib.hid (HS5.out.kept hb6)
   have HIR := Lib.hid (size16 (Gc.bn_len G))
   have HSR : Hid ((cellsN (List.replicate 16 0)).size = (cellsN (Gc.bn G)).size) := by unfold Hid; rw [cellsN_size, cellsN_size, Gc.bn_len]; rfl
   have f1 : W6.heap[D1]? = some (.deferred (some [])) := (hb6.block D1 (Array.getElem?_eq_some_iff.1 HE5.out.1).1).trans HE5.out.1
   have f2 : W6.heap[D2]? = some (.deferred (some [])) := (hb6.block D2 (Array.getElem?_eq_some_iff.1 HE5.out.2).1).trans HE5.out.2
   have u6 : Upd (B + 1) W6 (W6.setRow (B + 1) (cellsN (Gc.bn G))) := (Upd.refl _ _).row _
   obtain ⟨V7, hV7⟩ : ∃ V7, W6.setRow (B + 1) (cellsN (Gc.bn G)) = V7 := ⟨_, rfl⟩
   have o7 : Obj V7 (B + 1) 26 (cellsN (Gc.bn G)) := hV7 ▸ HS6.out.r.row _
   rw [hV7] at u6
   have g1 : V7.heap[D1]? = some (.deferred (some [])) := (u6.block D1 (Array.getElem?_eq_some_iff.1 f1).1 (by omega)).trans f1
   have g2 : V7.heap[D2]? = some (.deferred (some [])) := (u6.block D2 (Array.getElem?_eq_some_iff.1 f2).1 (by omega)).trans f2
   have b7 : Below w.heap.size w V7 := Upd.below HS6.out.b (by have := HB.out; omega) u6
   have p2 : ∀ j, j ≠ D2 → (V7.putObj D2 (.deferred none)).heap[j]? = V7.heap[j]? := fun j hj => World.putObj_heap_other (by omega)
   have p1 : ∀ j, j ≠ D1 → ((V7.putObj D2 (.deferred none)).putObj D1 (.deferred none)).heap[j]? = (V7.putObj D2 (.deferred none)).heap[j]? := fun j hj => World.putObj_heap_other (by omega)
   have HG2 := Lib.hid g2
   have HG1 : Hid ((V7.putObj D2 (.deferred none)).heap[D1]? = some (.deferred (some []))) := (p2 D1 (by omega)).trans g1
   have HO7 : Hid (Obj ((V7.putObj D2 (.deferred none)).putObj D1 (.deferred none)) (B + 1) 26 (cellsN (Gc.bn G))) := (p1 (B + 1) (by omega)).trans ((p2 (B + 1) (by omega)).trans o7)
   have q2 := grownBy_putObj' V7 D2 (.deferred none)
   have q1 := grownBy_putObj' (V7.putObj D2 (.deferred none)) D1 (.deferred none)
   have HB7 : Hid (Below w.heap.size w ((V7.putObj D2 (.deferred none)).putObj D1 (.deferred none))) := ⟨(q1.os.trans q2.os).trans b7.os, (q1.tape.trans q2.tape).trans b7.tape, (q1.output.trans q2.output).trans b7.output, Nat.le_trans b7.size (Nat.le_trans q2.size q1.size), fun j hj => (p1 j (by have := HB.out; omega)).trans ((p2 j (by have := HB.out; omega)).trans (b7.block j hj))⟩
   have HV7 := Lib.hid hV7
   clear hb6 f1 f2 u6 o7 g1 g2 b7 p1 p2 q1 q2 hV7
   go_wp2_with (refine wpList_store_row rfl 26 (.tmp 6) (.tmp 44) rfl _ _ rfl rfl _ _ HS6.out.r HIR.out HSR.out (one_cellsN _) ?_)
   rw [HV7.out]
   refine ⟨by simp, .inl ⟨_, _, rfl, run_takeDeferred HG2.out, ?_⟩⟩
   refine ⟨by simp, .inl ⟨_, _, rfl, run_takeDeferred HG1.out, ?_⟩⟩
   refine ⟨_, results_cell_row rfl _ _ (B + 1) _ _ _ _ rfl HO7.out Tryd.underlying26 rfl HIR.out, by rw [HHX.out, hG], HB7.out⟩
end Go.Proofs.YtabfcaidioohfaaDoor
namespace Go.Proofs.YtabfcaidioohfaaDoor
open List (getElem?_toArray getElem?_cons_zero getElem?_cons_succ setIfInBounds_toArray set_cons_zero set_cons_succ)
set_option maxRecDepth 100000
open Go Go.RowKit Go.Shelf
set_option linter.unusedVariables false
set_option linter.unusedSimpArgs false
/-- Two rows behind results that are cells. -/
theorem two_cells {P : Program} {fn : Func} {p q : Tmp} {ty : TypeId} (h : fn.results = #[.cell p ty, .cell q ty]) (tmps : Array Value) (w : World) (g g' : Nat) (t t' : TypeId) (cs cs' : Array Value) (d : TypeDesc)
  (hp : tmps.getD p undef = .pointer (some ⟨g, 0, none⟩)) (hq : tmps.getD q undef = .pointer (some ⟨g', 0, none⟩)) (hg : Obj w g t cs) (hg' : Obj w g' t' cs')
  (hu : P.underlying ty = some d) (hd : (match d with | .struct _ | .array _ _ => true | _ => false) = true) (hi : (P.info? ty).map (·.size) = some cs.size) (hi' : (P.info? ty).map (·.size) = some cs'.size) :
  (results fn tmps).run P w = .ok (.tuple #[.agg cs, .agg cs']) w := by
 have hp' : tmps[p]?.getD undef = .pointer (some ⟨g, 0, none⟩) := by simpa using hp
 have hq' : tmps[q]?.getD undef = .pointer (some ⟨g', 0, none⟩) := by simpa using hq
 simp [results, h, hp', hq', asAddr, run_loadVar_row w g t ty cs _ d hg hu hd hi, run_loadVar_row w g' t' ty cs' _ d hg' hu hd hi', Result.andThen]
theorem b1_set {n : List Nat} (h : n.length = 12) : (Gc.pad n).set 15 1 = Gc.b1 n := by
 unfold Gc.pad Gc.b1
 rw [h, List.set_append_right _ _ (by omega), h]
 rfl
theorem b2_set {n : List Nat} (h : n.length = 12) : (Gc.b1 n).set 15 2 = Gc.b2 n := by
 unfold Gc.b1 Gc.b2
 rw [List.set_append_right _ _ (by omega), h]
 rfl
theorem b1_len {n : List Nat} (h : n.length = 12) : (Gc.b1 n).length = 16 := by simp [Gc.b1, h]
theorem b2_len {n : List Nat} (h : n.length = 12) : (Gc.b2 n).length = 16 := by simp [Gc.b2, h]
theorem info12 : (Tryd.prog.info? 27).map (·.size) = some 12 := by kernel_rfl
theorem size12 {l : List Nat} (h : l.length = 12) : (Tryd.prog.info? 27).map (·.size) = some (cellsN l).size := by rw [cellsN_size, h]; exact info12
theorem slice12all (g : Nat) (w : World) :
  (Instr.sliceAt 27 (.pointer (some ⟨g, 0, none⟩)) none none none).run Tryd.prog w = .ok (.slice (some ⟨g, 0, none⟩) 12 12) w := by kernel_rfl
theorem src12 {w : World} {g : Nat} {t : TypeId} {l : List Nat} (h : Obj w g t (cellsN l)) : ∀ j v, (l.map u8v)[j]? = some v → w.cell? ((⟨g, 0, none⟩ : Addr).add j) = some v := fun j v hv => by
 rw [List.getElem?_map] at hv
 obtain ⟨x, hx, rfl⟩ := Option.map_eq_some_iff.1 hv
 obtain ⟨hj, rfl⟩ := List.getElem?_eq_some_iff.1 hx
 have := h.getN j hj
 rw [show (⟨g, 0, none⟩ : Addr).add j = ⟨g, j, none⟩ by rcases Nat.eq_zero_or_pos j with h0 | h0 <;> simp [Addr.add, h0]; try omega]
 rw [this]
 simp [List.getD_eq_getElem?_getD, hj, u8v]
set_option maxRecDepth 100000 in
set_option maxHeartbeats 4000000 in
theorem begin_any (n : List Nat) (w : World) (hl : n.length = 12) (hb : Ae.bytes n) :
  Calls Tryd.prog 54 #[.agg (cellsN n)] w fun e w' => e = .returned (.tuple #[.agg (cellsN (Gc.b1 n)), .agg (cellsN (Gc.b2 n))]) ∧ Below w.heap.size w w' := by
 obtain ⟨B, hB⟩ : ∃ B, w.heap.size = B := ⟨_, rfl⟩
 obtain ⟨W4, hW4⟩ : ∃ W4, (((w.alloc (.cells (cellsN n) 27)).alloc (.cells #[.int .u8 0, .int .u8 0, .int .u8 0, .int .u8 0, .int .u8 0, .int .u8 0, .int .u8 0, .int .u8 0, .int .u8 0, .int .u8 0, .int .u8 0, .int .u8 0, .int .u8 0, .int .u8 0, .int .u8 0, .int .u8 0] 26)).alloc (.cells #[.int .u8 0, .int .u8 0, .int .u8 0, .int .u8 0, .int .u8 0, .int .u8 0, .int .u8 0, .int .u8 0, .int .u8 0, .int .u8 0, .int .u8 0, .int .u8 0, .int .u8 0, .int .u8 0, .int .u8 0, .int .u8 0] 26)).alloc (.cells #[.int .u8 0, .int .u8 0, .int .u8 0, .int .u8 0, .int .u8 0, .int .u8 0, .int .u8 0, .int .u8 0, .int .u8 0, .int .u8 0, .int .u8 0, .int .u8 0, .int .u8 0, .int .u8 0, .int .u8 0, .int .u8 0] 26) = W4 := ⟨_, rfl⟩
 have hb4 : Below B w W4 := hW4 ▸ hB ▸ ((((Below.refl _ w).alloc (Nat.le_refl _) _).alloc (by simp) _).alloc (by simp; omega) _).alloc (by simp; omega) _
 have s4 : W4.heap.size = B + 4 := by rw [← hW4]; simp [hB]
 have o0 : Obj W4 B 27 (cellsN n) := hW4 ▸ hB ▸ (((Obj.new w _ _).alloc _).alloc _).alloc _
 have o1 : Obj W4 (B + 1) 26 (cellsN (List.replicate 16 0)) := by
  have := ((new2 w (.cells (cellsN n) 27) 26 #[.int .u8 0, .int .u8 0, .int .u8 0, .int .u8 0, .int .u8 0, .int .u8 0, .int .u8 0, .int .u8 0, .int .u8 0, .int .u8 0, .int .u8 0, .int .u8 0, .int .u8 0, .int .u8 0, .int .u8 0, .int .u8 0]).alloc (.cells #[.int .u8 0, .int .u8 0, .int .u8 0, .int .u8 0, .int .u8 0, .int .u8 0, .int .u8 0, .int .u8 0, .int .u8 0, .int .u8 0, .int .u8 0, .int .u8 0, .int .u8 0, .int .u8 0, .int .u8 0, .int .u8 0] 26)).alloc (.cells #[.int .u8 0, .int .u8 0, .int .u8 0, .int .u8 0, .int .u8 0, .int .u8 0, .int .u8 0, .int .u8 0, .int .u8 0, .int .u8 0, .int .u8 0, .int .u8 0, .int .u8 0, .int .u8 0, .int .u8 0, .int .u8 0] 26)
  rw [hB, hW4] at this; exact this
 have o2 : Obj W4 (B + 2) 26 (cellsN (List.replicate 16 0)) := by
  have := (Obj.new ((w.alloc (.cells (cellsN n) 27)).alloc (.cells #[.int .u8 0, .int .u8 0, .int .u8 0, .int .u8 0, .int .u8 0, .int .u8 0, .int .u8 0, .int .u8 0, .int .u8 0, .int .u8 0, .int .u8 0, .int .u8 0, .int .u8 0, .int .u8 0, .int .u8 0, .int .u8 0] 26)) 26 #[.int .u8 0, .int .u8 0, .int .u8 0, .int .u8 0, .int .u8 0, .int .u8 0, .int .u8 0, .int .u8 0, .int .u8 0, .int .u8 0, .int .u8 0, .int .u8 0, .int .u8 0, .int .u8 0, .int .u8 0, .int .u8 0]).alloc (.cells #[.int .u8 0, .int .u8 0, .int .u8 0, .int .u8 0, .int .u8 0, .int .u8 0, .int .u8 0, .int .u8 0, .int .u8 0, .int .u8 0, .int .u8 0, .int .u8 0, .int .u8 0, .int .u8 0, .int .u8 0, .int .u8 0] 26)
  simp only [World.size_alloc, hB] at this; rw [hW4] at this; exact this
 have o3 : Obj W4 (B + 3) 26 (cellsN (List.replicate 16 0)) := by
  have := Obj.new (((w.alloc (.cells (cellsN n) 27)).alloc (.cells #[.int .u8 0, .int .u8 0, .int .u8 0, .int .u8 0, .int .u8 0, .int .u8 0, .int .u8 0, .int .u8 0, .int .u8 0, .int .u8 0, .int .u8 0, .int .u8 0, .int .u8 0, .int .u8 0, .int .u8 0, .int .u8 0] 26)).alloc (.cells #[.int .u8 0, .int .u8 0, .int .u8 0, .int .u8 0, .int .u8 0, .int .u8 0, .int .u8 0, .int .u8 0, .int .u8 0, .int .u8 0, .int .u8 0, .int .u8 0, .int .u8 0, .int .u8 0, .int .u8 0, .int .u8 0] 26)) 26 #[.int .u8 0, .int .u8 0, .int .u8 0, .int .u8 0, .int .u8 0, .int .u8 0, .int .u8 0, .int .u8 0, .int .u8 0, .int .u8 0, .int .u8 0, .int .u8 0, .int .u8 0, .int .u8 0, .int .u8 0, .int .u8 0]
  simp only [World.size_alloc, hB] at this; rw [hW4] at this; exact this
 have HW4 := Lib.hid hW4
 have HB := Lib.hid hB
 have HL := Lib.hid hl
 have hsl := fun w => slice16all (B + 1 + 1 + 1) w
 have hsl2 := fun w => slice12all B w
 clear hW4
 go_enter Tryd.func54, Tryd.ntmps54
 go_wp2
 rw [HW4.out]
 refine wp_nopanic0 ?_
 refine wp_region_held_drew (S := (fun _ => True)) (by kernel_rfl) trivial (fun hHeld => ?_)
 refine tkH 0 ?_
 refine tkH 1 ?_
 refine onH 2 (fun KK hKK => ?_)
 refine step_copy_splice rfl (.tmp 6) (.tmp 7) 24 24 rfl 5 Tryd.underlying24 hsz8 _ _ _ _ _ _ rfl rfl (B + 1 + 1 + 1) 0 ((List.replicate 16 0).map u8v) 26 o3.drew (n.map u8v) ?_ (fun _ => ⟨rfl, _, rfl, src12 o0.drew⟩) ?_ ?_ (B + 3) W4.drew (Below.refl _ _) (Nat.le_refl _) ?_
 ·rw [List.length_map, HL.out]; rfl
 ·rw [List.length_map, HL.out]; decide
 ·intro v hv
  obtain ⟨c, _, rfl⟩ := List.mem_map.1 hv
  rfl
 intro w4 hg4 hb4'
 have hg3 : Obj w4 (B + 1 + 1 + 1) 26 (cellsN (Gc.pad n)) := by have h := hg4.out; rw [pad_splice n (by omega)] at h; exact h
 have u3 : Below (B + 3) W4.drew w4 := hb4'
 clear hg4 hb4'
 refine hKK.out _ _ ?_ (fun hh2 => ?_)
 ·(try dsimp only)
  try trivial
 clear hKK KK
 try simp only [Act.put, setIfInBounds_toArray, set_cons_zero, set_cons_succ]
 refine wpAnyH_done (by kernel_rfl) ?_ _
 have U3 := Lib.hid u3
 have HPL : Hid ((Gc.pad n).length = 16) := Gc.pad_len (by rw [hl]; omega)
 have c15 := hg3.getN 15 (by rw [HPL.out]; omega)
 have f15 := hg3.free 15
 have og := hg3.setN 15 1
 rw [b1_set hl] at og
 obtain ⟨S, hS⟩ : ∃ S, w4.heap.size = S := ⟨_, rfl⟩
 have hSB : B + 4 ≤ S := by have := u3.size; simp [s4] at this; omega
 obtain ⟨W5, hW5⟩ : ∃ W5, w4.setCell ⟨B + 1 + 1 + 1, 15, none⟩ (.int .u8 1) = W5 := ⟨_, rfl⟩
 have u5 : Below (B + 3) W4 W5 := hW5 ▸ (((Below.refl _ W4).drew).trans u3).setCell (by simp) _
 have s5 : W5.heap.size = S := by rw [← hW5, ← hS]; simp [World.setCell]
 have og5 : Obj W5 (B + 1 + 1 + 1) 26 (cellsN (Gc.b1 n)) := hW5 ▸ og
 have HI1 := Lib.hid (size16 (b1_len hl))
 have HI2 := Lib.hid (size16 (b2_len hl))
 have HSZ : Hid ((cellsN (List.replicate 16 0)).size = (cellsN (Gc.b1 n)).size) := by unfold Hid; rw [cellsN_size, cellsN_size, b1_len hl]; rfl
 have HO6 : Hid (Obj (W5.alloc (.cells #[.int .u8 0, .int .u8 0, .int .u8 0, .int .u8 0, .int .u8 0, .int .u8 0, .int .u8 0, .int .u8 0, .int .u8 0, .int .u8 0, .int .u8 0, .int .u8 0, .int .u8 0, .int .u8 0, .int .u8 0, .int .u8 0] 26)) S 26 (cellsN (List.replicate 16 0))) := s5 ▸ Obj.new W5 _ _
 have HG5 := Lib.hid og5
 have HW5 := Lib.hid hW5
 have HS5 := Lib.hid s5
 obtain ⟨W7, hW7⟩ : ∃ W7, (W5.alloc (.cells #[.int .u8 0, .int .u8 0, .int .u8 0, .int .u8 0, .int .u8 0, .int .u8 0, .int .u8 0, .int .u8 0, .int .u8 0, .int .u8 0, .int .u8 0, .int .u8 0, .int .u8 0, .int .u8 0, .int .u8 0, .int .u8 0] 26)).setRow S (cellsN (Gc.b1 n)) = W7 := ⟨_, rfl⟩
 have o7 : Obj W7 S 26 (cellsN (Gc.b1 n)) := hW7 ▸ HO6.out.row _
 have u57 : Upd S (W5.alloc (.cells #[.int .u8 0, .int .u8 0, .int .u8 0, .int .u8 0, .int .u8 0, .int .u8 0, .int .u8 0, .int .u8 0, .int .u8 0, .int .u8 0, .int .u8 0, .int .u8 0, .int .u8 0, .int .u8 0, .int .u8 0, .int .u8 0] 26)) W7 := hW7 ▸ (Upd.refl S _).row _
 have g7 : Obj W7 (B + 1 + 1 + 1) 26 (cellsN (Gc.b1 n)) := (og5.alloc _).upd u57 (by omega)
 have c7 := o7.getN 15 (by rw [b1_len hl]; omega)
 have f7 := o7.free 15
 have o8 := o7.setN 15 2
 rw [b2_set hl] at o8
 have g8 := g7.far (p := ⟨S, 15, none⟩) (by simp; omega) (.int .u8 ((2 : Nat) : Int))
 have u8' : Below (B + 3) W4 (W7.setCell ⟨S, 15, none⟩ (.int .u8 2)) := by
  have h1 : Below W5.heap.size W5 W7 := Upd.below ((Below.refl _ W5).alloc (Nat.le_refl _) _) (by omega) u57
  exact (u5.trans (h1.mono (by omega))).setCell (by simp; omega) _
 have HW7 := Lib.hid hW7
 obtain ⟨W8, hW8⟩ : ∃ W8, W7.setCell ⟨S, 15, none⟩ (.int .u8 2) = W8 := ⟨_, rfl⟩
 have o8' : Obj W8 S 26 (cellsN (Gc.b2 n)) := hW8 ▸ o8
 have g8' : Obj W8 (B + 1 + 1 + 1) 26 (cellsN (Gc.b1 n)) := hW8 ▸ g8
 rw [hW8] at u8'
 have o81 := o1.below u8' (by omega)
 have o82 := o2.below u8' (by omega)
 have HW8 := Lib.hid hW8
 clear hW5 hW7 hW8 s5 o7 u57 g7 o8 g8 og og5 u3 U3 hg3 hh2 hHeld
 go_wp2_with (first
  | (refine wpList_load_row rfl 26 (.tmp 4) rfl _ rfl _ _ _ _ (HW5.out.symm ▸ HG5.out) Tryd.underlying26 rfl HI1.out ?_)
  | (refine wpList_store_row rfl 26 (.tmp 5) (.tmp 10) rfl _ _ rfl rfl _ _ (HW5.out.symm ▸ HO6.out) HI1.out HSZ.out (one_cellsN _) ?_; rw [HW5.out, HW7.out]))
 rw [HW8.out]
 refine wp_nopanic0 ?_
 have HSZ2 : Hid ((cellsN (List.replicate 16 0)).size = (cellsN (Gc.b2 n)).size) := by unfold Hid; rw [cellsN_size, cellsN_size, b2_len hl]; rfl
 have hS0 : Obj W8.drew (B + 1 + 1 + 1) 26 (cellsN (Gc.b1 n)) ∧ Obj W8.drew S 26 (cellsN (Gc.b2 n)) := ⟨g8'.drew, o8'.drew⟩
 refine wp_region_held_drew (S := (fun wq => Obj wq (B + 1 + 1 + 1) 26 (cellsN (Gc.b1 n)) ∧ Obj wq S 26 (cellsN (Gc.b2 n)))) (by kernel_rfl) hS0 (fun hHeld => ?_)
 refine tkH 0 ?_ (hy := by
  refine yieldsIf_load_row (g := (B + 1 + 1 + 1)) (t := 26) (cs := cellsN (Gc.b1 n)) (ty := 26) (x := (.tmp 4)) ?_ ?_ ?_ ?_ Tryd.underlying26 rfl HI1.out
  ·rfl
  ·rfl
  ·rfl
  ·exact fun w hSw => hSw.1)
 refine tkH 1 ?_ (hy := by
  refine yieldsIf_load_row (g := S) (t := 26) (cs := cellsN (Gc.b2 n)) (ty := 26) (x := (.tmp 5)) ?_ ?_ ?_ ?_ Tryd.underlying26 rfl HI2.out
  ·rfl
  ·rfl
  ·rfl
  ·exact fun w hSw => hSw.2)
 refine onH 2 (fun KK hKK => ?_)
 rw [if_pos (by rfl)]
 refine wp_store_row 26 (.tmp 2) (.tmp 12) rfl (B + 1) _ rfl rfl 26 _ o81.drew HI1.out HSZ.out (one_cellsN _) ?_
 refine hKK.out _ _ ?_ (fun hh2 => ?_)
 ·(try dsimp only)
  exact ⟨hS0.1.upd ((Upd.refl (B + 1) _).row _) (by omega), hS0.2.upd ((Upd.refl (B + 1) _).row _) (by omega)⟩
 clear hKK KK
 try simp only [Act.put, setIfInBounds_toArray, set_cons_zero, set_cons_succ]
 refine onH 3 (fun KK hKK => ?_)
 rw [if_pos (by rfl)]
 refine wp_store_row 26 (.tmp 3) (.tmp 13) rfl (B + 1 + 1) _ rfl rfl 26 _ (o82.drew.upd ((Upd.refl (B + 1) _).row (cellsN (Gc.b1 n))) (by omega)) HI2.out HSZ2.out (one_cellsN _) ?_
 refine hKK.out _ _ ?_ (fun hh3 => ?_)
 ·(try dsimp only)
  exact ⟨hh2.1.upd ((Upd.refl (B + 1 + 1) _).row _) (by omega), hh2.2.upd ((Upd.refl (B + 1 + 1) _).row _) (by omega)⟩
 clear hKK KK
 try simp only [Act.put, setIfInBounds_toArray, set_cons_zero, set_cons_succ]
 refine wpAnyH_done (by kernel_rfl) ?_ _
 have p1 : Obj ((W8.drew.setRow (B + 1) (cellsN (Gc.b1 n))).setRow (B + 1 + 1) (cellsN (Gc.b2 n))) (B + 1) 26 (cellsN (Gc.b1 n)) := (o81.drew.row (cellsN (Gc.b1 n))).upd ((Upd.refl (B + 1 + 1) _).row _) (by omega)
 have p2 : Obj ((W8.drew.setRow (B + 1) (cellsN (Gc.b1 n))).setRow (B + 1 + 1) (cellsN (Gc.b2 n))) (B + 1 + 1) 26 (cellsN (Gc.b2 n)) := (o82.drew.upd ((Upd.refl (B + 1) _).row (cellsN (Gc.b1 n))) (by omega)).row _
 have pb : Below w.heap.size w ((W8.drew.setRow (B + 1) (cellsN (Gc.b1 n))).setRow (B + 1 + 1) (cellsN (Gc.b2 n))) := by
  have h0 : Below w.heap.size w W8.drew := by rw [hB]; exact (hb4.trans (u8'.mono (by omega))).drew
  exact Upd.below (Upd.below h0 (by omega) ((Upd.refl (B + 1) _).row _)) (by omega) ((Upd.refl (B + 1 + 1) _).row _)
 generalize (W8.drew.setRow (B + 1) (cellsN (Gc.b1 n))).setRow (B + 1 + 1) (cellsN (Gc.b2 n)) = W9 at *
 have HP1 := Lib.hid p1
 have HP2 := Lib.hid p2
 have HPB := Lib.hid pb
 clear p1 p2 pb hh2 hh3 hHeld
 go_wp2
 refine bodyPost_ret (v := .tuple #[.agg (cellsN (Gc.b1 n)), .agg (cellsN (Gc.b2 n))]) ?_ rfl ⟨rfl, HPB.out⟩
 exact two_cells rfl _ _ _ _ _ _ _ _ _ rfl rfl HP1.out HP2.out Tryd.underlying26 rfl HI1.out HI2.out
end Go.Proofs.YtabfcaidioohfaaDoor
namespace Go.Proofs.YtabfcaidioohfaaDoor
open List (getElem?_toArray getElem?_cons_zero getElem?_cons_succ setIfInBounds_toArray set_cons_zero set_cons_succ)
set_option maxRecDepth 100000
open Go Go.RowKit Go.Shelf
set_option linter.unusedVariables false
set_option linter.unusedSimpArgs false
theorem own_below {w w' : World} {base n : Nat} {e : TypeId} {v : Value} {xs : List Value} (h : w.ownsRow base e 1 v n xs) (hb : Below w.heap.size w w') : w'.ownsRow base e 1 v n xs :=
 h.kept (row := none) ⟨hb.os, hb.tape, hb.output, hb.size, fun k hk _ => hb.block k hk⟩ (by rcases h : v.ownBlock with _ | k <;> simp)
set_option maxRecDepth 100000 in
set_option maxHeartbeats 4000000 in
theorem tag_any (key first : List Nat) (A1 : Option Addr) (n1 c1 : Nat) (more : List Nat) (A2 : Option Addr) (n2 c2 : Nat) (text : List Nat) (w : World) (l1 : key.length = 16) (q1 : Ae.bytes key) (l2 : first.length = 16) (q2 : Ae.bytes first) (r1 : Rd w A1 more) (m1 : more.length = n1) (b1 : Ae.bytes more) (k1 : n1 ≤ 1000000 ∧ n1 ≤ c1 ∧ c1 ≤ 9223372036854775807) (r2 : Rd w A2 text) (m2 : text.length = n2) (b2 : Ae.bytes text) (k2 : n2 ≤ 1000000 ∧ n2 ≤ c2 ∧ c2 ≤ 9223372036854775807) :
  Calls Tryd.prog 56 #[.agg (cellsN key), .agg (cellsN first), .slice A1 n1 c1, .slice A2 n2 c2] w fun e w' => ∃ A' c', e = .returned (.slice A' 16 c') ∧ 16 ≤ c' ∧ Rd w' A' (Gc.tag key first more text) ∧ Below w.heap.size w w' := by
 obtain ⟨B, hB⟩ : ∃ B, w.heap.size = B := ⟨_, rfl⟩
 obtain ⟨W2, hW2⟩ : ∃ W2, (w.alloc (.cells (cellsN key) 26)).alloc (.cells (cellsN first) 26) = W2 := ⟨_, rfl⟩
 have hb2 : Below w.heap.size w W2 := hW2 ▸ ((Below.refl _ w).alloc (Nat.le_refl _) _).alloc (by simp) _
 have s2 : W2.heap.size = B + 2 := by rw [← hW2]; simp [hB]
 have o0 : Obj W2 B 26 (cellsN key) := hW2 ▸ hB ▸ (Obj.new w _ _).alloc _
 have o1 : Obj W2 (B + 1) 26 (cellsN first) := by
  have := Obj.new (w.alloc (.cells (cellsN key) 26)) 26 (cellsN first)
  rw [World.size_alloc, hB, hW2] at this; exact this
 have HE : Hid (∀ w, Calls Tryd.prog 66 #[.agg (cellsN key), .agg #[.int .u8 0, .int .u8 0, .int .u8 0, .int .u8 0, .int .u8 0, .int .u8 0, .int .u8 0, .int .u8 0, .int .u8 0, .int .u8 0, .int .u8 0, .int .u8 0, .int .u8 0, .int .u8 0, .int .u8 0, .int .u8 0]] w fun e w' => e = .returned (.agg (cellsN (Ae.enc (Ae.sched key) (List.replicate 16 0)))) ∧ Below w.heap.size w w') := fun w => encipher_any key (List.replicate 16 0) w l1 (by simp) q1 (Gc.zeros_bytes 16)
 have le := Ae.enc_len (Ae.sched key) (List.replicate 16 0)
 have qe := Ae.enc_bytes (w := Ae.sched key) (Gc.zeros_bytes 16) (Ae.sched_bytes q1)
 have HSU : Hid (∀ W, Below w.heap.size w W → Calls Tryd.prog 65 #[.agg (cellsN (Ae.enc (Ae.sched key) (List.replicate 16 0))), .slice A1 n1 c1, .slice A2 n2 c2] W fun e w' => e = .returned (.agg (cellsN (Gc.bn (Gc.gsum (Gc.hkey key) more text)))) ∧ Below W.heap.size W w') := fun W hb =>
  sum_any _ A1 n1 c1 more A2 n2 c2 text W le qe (r1.below hb) m1 b1 k1 (r2.below hb) m2 b2 k2
 have HST : Hid (∀ W g, Obj W g 26 (cellsN (Gc.bn (Gc.gsum (Gc.hkey key) more text))) → Calls Tryd.prog 57 #[.agg (cellsN key), .agg (cellsN first), .slice (some ⟨g, 0, none⟩) 16 16] W fun e w' => ∃ A' c', e = .returned (.slice A' 16 c') ∧ 16 ≤ c' ∧ Rd w' A' (Gc.tag key first more text) ∧ Below W.heap.size W w') := fun W g ho =>
  stream_at key first _ 16 16 _ W l1 l2 q1 q2 (Gc.bn_len _) ho.rd (Gc.bn_bytes _) (by omega)
 have HIK := Lib.hid (size16 l1)
 have HIF := Lib.hid (size16 l2)
 have HIG := Lib.hid (size16 (Gc.bn_len (Gc.gsum (Gc.hkey key) more text)))
 have HSZ : Hid ((cellsN (List.replicate 16 0)).size = (cellsN (Gc.bn (Gc.gsum (Gc.hkey key) more text))).size) := by unfold Hid; rw [cellsN_size, cellsN_size, Gc.bn_len]; rfl
 generalize Gc.bn (Gc.gsum (Gc.hkey key) more text) = G at *
 generalize Gc.tag key first more text = T at *
 generalize Ae.enc (Ae.sched key) (List.replicate 16 0) = hk at *
 have HW2 := Lib.hid hW2
 have HB := Lib.hid hB
 have HO0 := Lib.hid o0
 have HO1 := Lib.hid o1
 have HB2 := Lib.hid hb2
 clear hW2 o0 o1 hb2 le qe r1 r2 b1 b2 l1 l2 q1 q2 m1 m2
 go_enter Tryd.func56, Tryd.ntmps56
 go_wp2_with (refine wpList_load_row rfl 26 (.tmp 4) rfl _ rfl _ _ _ _ (HW2.out.symm ▸ HO0.out) Tryd.underlying26 rfl HIK.out ?_)
 rw [HW2.out]
 refine (HE.out _).mono ?_
 rintro e W3 ⟨rfl, hb3⟩
 have HB3 := Lib.hid (HB2.out.trans (hb3.mono HB2.out.size))
 have HO0' := Lib.hid (HO0.out.kept hb3)
 have HO1' := Lib.hid (HO1.out.kept hb3)
 clear hb3
 go_wp2_with fail
 refine (HSU.out _ HB3.out).mono ?_
 rintro e W4 ⟨rfl, hb4⟩
 obtain ⟨S, hS⟩ : ∃ S, W4.heap.size = S := ⟨_, rfl⟩
 have HB4 := Lib.hid (HB3.out.trans (hb4.mono HB3.out.size))
 have p0 := HO0'.out.kept hb4
 have p1 := HO1'.out.kept hb4
 have p1lt := p1.lt
 have p0lt := p0.lt
 have HO5 : Hid (Obj (W4.alloc (.cells #[.int .u8 0, .int .u8 0, .int .u8 0, .int .u8 0, .int .u8 0, .int .u8 0, .int .u8 0, .int .u8 0, .int .u8 0, .int .u8 0, .int .u8 0, .int .u8 0, .int .u8 0, .int .u8 0, .int .u8 0, .int .u8 0] 26)) S 26 (cellsN (List.replicate 16 0))) := hS ▸ Obj.new W4 _ _
 obtain ⟨W6, hW6⟩ : ∃ W6, (W4.alloc (.cells #[.int .u8 0, .int .u8 0, .int .u8 0, .int .u8 0, .int .u8 0, .int .u8 0, .int .u8 0, .int .u8 0, .int .u8 0, .int .u8 0, .int .u8 0, .int .u8 0, .int .u8 0, .int .u8 0, .int .u8 0, .int .u8 0] 26)).setRow S (cellsN G) = W6 := ⟨_, rfl⟩
 have o6 : Obj W6 S 26 (cellsN G) := hW6 ▸ HO5.out.row _
 have u6 : Upd S (W4.alloc (.cells #[.int .u8 0, .int .u8 0, .int .u8 0, .int .u8 0, .int .u8 0, .int .u8 0, .int .u8 0, .int .u8 0, .int .u8 0, .int .u8 0, .int .u8 0, .int .u8 0, .int .u8 0, .int .u8 0, .int .u8 0, .int .u8 0] 26)) W6 := hW6 ▸ (Upd.refl S _).row _
 have q0 : Obj W6 B 26 (cellsN key) := (p0.alloc _).upd u6 (by omega)
 have q1 : Obj W6 (B + 1) 26 (cellsN first) := (p1.alloc _).upd u6 (by omega)
 have hb6 : Below w.heap.size w W6 := Upd.below (HB4.out.trans (((Below.refl _ W4).alloc (Nat.le_refl _) _).mono HB4.out.size)) (by omega) u6
 have HW6 := Lib.hid hW6
 have HS := Lib.hid hS
 clear hb4 p0 p1 u6 hW6 hS
 go_wp2_with (refine wpList_store_row rfl 26 (.tmp 9) (.tmp 15) rfl _ _ rfl rfl _ _ (HS.out ▸ HO5.out) HIG.out HSZ.out (one_cellsN _) ?_; rw [HS.out, HW6.out])
 try simp only [Act.put]
 have hsl := fun w => slice16all S w
 have hS0 : Obj W6.drew B 26 (cellsN key) ∧ Obj W6.drew (B + 1) 26 (cellsN first) := ⟨q0.drew, q1.drew⟩
 have H6 := Lib.hid hb6
 refine wp_nopanic0 ?_
 refine wp_region_held_drew (S := (fun wq => Obj wq B 26 (cellsN key) ∧ Obj wq (B + 1) 26 (cellsN first))) (by kernel_rfl) hS0 (fun hHeld => ?_)
 refine tkH 0 ?_ (hy := by
  refine yieldsIf_load_row (g := B) (t := 26) (cs := cellsN key) (ty := 26) (x := (.tmp 4)) ?_ ?_ ?_ ?_ Tryd.underlying26 rfl HIK.out
  ·rfl
  ·rfl
  ·rfl
  ·exact fun w hSw => hSw.1)
 refine tkH 1 ?_ (hy := by
  refine yieldsIf_load_row (g := (B + 1)) (t := 26) (cs := cellsN first) (ty := 26) (x := (.tmp 5)) ?_ ?_ ?_ ?_ Tryd.underlying26 rfl HIF.out
  ·rfl
  ·rfl
  ·rfl
  ·exact fun w hSw => hSw.2)
 refine tkH 2 ?_
 refine onH 3 (fun KK hKK => ?_)
 go_simp
 refine (HST.out _ S o6.drew).mono ?_
 rintro e W7 ⟨A7, c7, rfl, hc7, hr7, hb7⟩
 try go_wp2_with fail
 refine hKK.out _ _ ?_ (fun hh3 => ?_)
 ·(try dsimp only)
  exact ⟨hS0.1.kept hb7, hS0.2.kept hb7⟩
 clear hKK KK
 try simp only [Act.put, setIfInBounds_toArray, set_cons_zero, set_cons_succ]
 refine tkH 4 ?_
 refine wpAnyH_done (by kernel_rfl) ?_ _
 go_wp2
 refine bodyPost_ret (results_tmp rfl _ _ _) rfl ?_
 exact ⟨A7, c7, rfl, hc7, hr7, H6.out.drew.trans (hb7.mono H6.out.drew.size)⟩
theorem own_cap {w : World} {base n : Nat} {v : Value} {l : List Nat} (h : w.ownsRow base 5 1 v n (l.map u8v)) : ∃ A c, v = .slice A n c ∧ l.length = n ∧ n ≤ c ∧ c ≤ 9223372036854775807 ∧ Rd w A l := by
 obtain ⟨A, c, rfl, h1, h2, h3⟩ := own_rd h
 refine ⟨A, c, rfl, h1, h2, ?_, h3⟩
 obtain ⟨_, h4⟩ := h
 rcases h4 with ⟨e, _⟩ | ⟨g, cap, cur, e, hb, hg, hn, hc, hs, ht⟩
 ·cases e; omega
 ·cases e; unfold maxLen at hc; omega
set_option maxRecDepth 100000 in
set_option maxHeartbeats 4000000 in
theorem Seal_any (key nonce : List Nat) (A1 : Option Addr) (n1 c1 : Nat) (more : List Nat) (A2 : Option Addr) (n2 c2 : Nat) (text : List Nat) (w : World) (l1 : key.length = 16) (q1 : Ae.bytes key) (l2 : nonce.length = 12) (q2 : Ae.bytes nonce) (r1 : Rd w A1 more) (m1 : more.length = n1) (b1 : Ae.bytes more) (k1 : n1 ≤ 1000000 ∧ n1 ≤ c1 ∧ c1 ≤ 9223372036854775807) (r2 : Rd w A2 text) (m2 : text.length = n2) (b2 : Ae.bytes text) (k2 : n2 ≤ 1000000) :
  Calls Tryd.prog 44 #[.agg (cellsN key), .agg (cellsN nonce), .slice A1 n1 c1, .slice A2 n2 c2] w fun e w' => ∃ v, e = .returned v ∧ w'.ownsRow w.heap.size 5 1 v (n2 + 16) ((Gc.sealT key nonce more text).map u8v) ∧ Below w.heap.size w w' := by
 obtain ⟨B, hB⟩ : ∃ B, w.heap.size = B := ⟨_, rfl⟩
 obtain ⟨W2, hW2⟩ : ∃ W2, (w.alloc (.cells (cellsN key) 26)).alloc (.cells (cellsN nonce) 27) = W2 := ⟨_, rfl⟩
 have hb2 : Below w.heap.size w W2 := hW2 ▸ ((Below.refl _ w).alloc (Nat.le_refl _) _).alloc (by simp) _
 have s2 : W2.heap.size = B + 2 := by rw [← hW2]; simp [hB]
 have o0 : Obj W2 B 26 (cellsN key) := hW2 ▸ hB ▸ (Obj.new w _ _).alloc _
 have o1 : Obj W2 (B + 1) 27 (cellsN nonce) := by
  have := Obj.new (w.alloc (.cells (cellsN key) 26)) 27 (cellsN nonce)
  rw [World.size_alloc, hB, hW2] at this; exact this
 have l3 := b1_len l2
 have l4 := b2_len l2
 have q3 := Gc.b1_bytes q2
 have q4 := Gc.b2_bytes q2
 have lc := Gc.ciph_len key nonce text
 have qc := Gc.ciph_bytes q1 q2 b2
 have HBE := Lib.hid (fun w => begin_any nonce w l2 q2)
 have HST : Hid (∀ W, Below w.heap.size w W → Calls Tryd.prog 57 #[.agg (cellsN key), .agg (cellsN (Gc.b2 nonce)), .slice A2 n2 c2] W fun e w' => ∃ v, e = .returned v ∧ w'.ownsRow W.heap.size 5 1 v n2 ((Gc.ciph key nonce text).map u8v) ∧ Below W.heap.size W w') := fun W hb => by
  subst m2
  exact stream_any key (Gc.b2 nonce) A2 c2 text W l1 l4 q1 q4 (r2.below hb) b2 k2
 have HTG : Hid (∀ W A c, Below w.heap.size w W → Rd W A (Gc.ciph key nonce text) → n2 ≤ c ∧ c ≤ 9223372036854775807 → Calls Tryd.prog 56 #[.agg (cellsN key), .agg (cellsN (Gc.b1 nonce)), .slice A1 n1 c1, .slice A n2 c] W fun e w' => ∃ ad c', e = .returned (.slice (some ad) 16 c') ∧ Rd w' (some ad) (Gc.tag key (Gc.b1 nonce) more (Gc.ciph key nonce text)) ∧ Below W.heap.size W w') := fun W A c hb hr hc =>
  (tag_any key (Gc.b1 nonce) A1 n1 c1 more A n2 c _ W l1 q1 l3 q3 (r1.below hb) m1 b1 k1 hr (by rw [lc, m2]) qc ⟨k2, hc⟩).mono fun e w' ⟨A', c', e1, _, e3, e4⟩ => by
   obtain ⟨b, off, rfl, _⟩ := e3 (by rw [Gc.tag_len]; omega)
   exact ⟨_, c', e1, e3, e4⟩
 have HIK := Lib.hid (size16 l1)
 have HIN := Lib.hid (size12 l2)
 have HI1 := Lib.hid (size16 l3)
 have HI2 := Lib.hid (size16 l4)
 have HS1 : Hid ((cellsN (List.replicate 16 0)).size = (cellsN (Gc.b1 nonce)).size) := by unfold Hid; rw [cellsN_size, cellsN_size, l3]; rfl
 have HS2 : Hid ((cellsN (List.replicate 16 0)).size = (cellsN (Gc.b2 nonce)).size) := by unfold Hid; rw [cellsN_size, cellsN_size, l4]; rfl
 have HTL := Lib.hid (Gc.tag_len key (Gc.b1 nonce) more (Gc.ciph key nonce text))
 have HSE : Hid (Gc.sealT key nonce more text = Gc.ciph key nonce text ++ Gc.tag key (Gc.b1 nonce) more (Gc.ciph key nonce text)) := rfl
 generalize Gc.tag key (Gc.b1 nonce) more (Gc.ciph key nonce text) = T at *
 generalize Gc.ciph key nonce text = C at *
 generalize Gc.sealT key nonce more text = Z at *
 generalize Gc.b1 nonce = f1 at *
 generalize Gc.b2 nonce = f2 at *
 have HW2 := Lib.hid hW2
 have HB := Lib.hid hB
 have HO0 := Lib.hid o0
 have HO1 := Lib.hid o1
 have HB2 := Lib.hid hb2
 clear hW2 o0 o1 hb2 r1 r2 b1 b2 l1 l2 l3 l4 q1 q2 q3 q4 qc lc m1 m2
 go_enter Tryd.func44, Tryd.ntmps44
 go_wp2_with (refine wpList_load_row rfl 27 (.tmp 5) rfl _ rfl _ _ _ _ (HW2.out.symm ▸ HO1.out) Tryd.underlying27 rfl HIN.out ?_)
 rw [HW2.out]
 refine (HBE.out _).mono ?_
 rintro e W3 ⟨rfl, hb3⟩
 obtain ⟨S, hS⟩ : ∃ S, W3.heap.size = S := ⟨_, rfl⟩
 have hSB : B + 2 ≤ S := by have := hb3.size; omega
 have b3 := HB2.out.trans (hb3.mono HB2.out.size)
 have p0 := HO0.out.kept hb3
 obtain ⟨W4, hW4⟩ : ∃ W4, (W3.alloc (.cells #[.int .u8 0, .int .u8 0, .int .u8 0, .int .u8 0, .int .u8 0, .int .u8 0, .int .u8 0, .int .u8 0, .int .u8 0, .int .u8 0, .int .u8 0, .int .u8 0, .int .u8 0, .int .u8 0, .int .u8 0, .int .u8 0] 26)).alloc (.cells #[.int .u8 0, .int .u8 0, .int .u8 0, .int .u8 0, .int .u8 0, .int .u8 0, .int .u8 0, .int .u8 0, .int .u8 0, .int .u8 0, .int .u8 0, .int .u8 0, .int .u8 0, .int .u8 0, .int .u8 0, .int .u8 0] 26) = W4 := ⟨_, rfl⟩
 have t1 : Obj W4 S 26 (cellsN (List.replicate 16 0)) := hW4 ▸ hS ▸ (Obj.new W3 _ _).alloc _
 have t2 : Obj W4 (S + 1) 26 (cellsN (List.replicate 16 0)) := by
  have := Obj.new (W3.alloc (.cells #[.int .u8 0, .int .u8 0, .int .u8 0, .int .u8 0, .int .u8 0, .int .u8 0, .int .u8 0, .int .u8 0, .int .u8 0, .int .u8 0, .int .u8 0, .int .u8 0, .int .u8 0, .int .u8 0, .int .u8 0, .int .u8 0] 26)) 26 #[.int .u8 0, .int .u8 0, .int .u8 0, .int .u8 0, .int .u8 0, .int .u8 0, .int .u8 0, .int .u8 0, .int .u8 0, .int .u8 0, .int .u8 0, .int .u8 0, .int .u8 0, .int .u8 0, .int .u8 0, .int .u8 0]
  rw [World.size_alloc, hS, hW4] at this; exact this
 have b4 : Below w.heap.size w W4 := hW4 ▸ (b3.alloc b3.size _).alloc (by simp; have := b3.size; omega) _
 have p4 : Obj W4 B 26 (cellsN key) := hW4 ▸ (p0.alloc _).alloc _
 have u5 : Upd S W4 (W4.setRow S (cellsN f1)) := (Upd.refl S _).row _
 have u6 : Upd (S + 1) (W4.setRow S (cellsN f1)) ((W4.setRow S (cellsN f1)).setRow (S + 1) (cellsN f2)) := (Upd.refl (S + 1) _).row _
 have t1' : Obj ((W4.setRow S (cellsN f1)).setRow (S + 1) (cellsN f2)) S 26 (cellsN f1) := (t1.row _).upd u6 (by omega)
 have t2a : Obj (W4.setRow S (cellsN f1)) (S + 1) 26 (cellsN (List.replicate 16 0)) := t2.upd u5 (by omega)
 have t2' : Obj ((W4.setRow S (cellsN f1)).setRow (S + 1) (cellsN f2)) (S + 1) 26 (cellsN f2) := t2a.row _
 have p6 : Obj ((W4.setRow S (cellsN f1)).setRow (S + 1) (cellsN f2)) B 26 (cellsN key) := (p4.upd u5 (by omega)).upd u6 (by omega)
 have b6 : Below w.heap.size w ((W4.setRow S (cellsN f1)).setRow (S + 1) (cellsN f2)) := Upd.below (Upd.below b4 (by omega) u5) (by omega) u6
 obtain ⟨W6, hW6⟩ : ∃ W6, (W4.setRow S (cellsN f1)).setRow (S + 1) (cellsN f2) = W6 := ⟨_, rfl⟩
 rw [hW6] at t1' t2' p6 b6
 have HW4 := Lib.hid hW4
 have HW6 := Lib.hid hW6
 have HS := Lib.hid hS
 have HT1 := Lib.hid t1
 have HT2 := Lib.hid t2a
 have HQ1 := Lib.hid t1'
 have HQ2 := Lib.hid t2'
 have HQ0 := Lib.hid p6
 have HB6 := Lib.hid b6
 have hSw := b6.size
 clear hb3 b3 p0 hW4 t1 t2 b4 p4 u5 u6 t1' t2a t2' p6 b6 hW6 hS
 go_wp2_with (first
  | (refine wpList_store_row rfl 26 (.tmp 9) (.tmp 15) rfl S _ (by rw [← HS.out]; rfl) rfl _ _ (HW4.out.symm ▸ HT1.out) HI1.out HS1.out (one_cellsN _) ?_)
  | (refine wpList_store_row rfl 26 (.tmp 10) (.tmp 16) rfl (S + 1) _ (by rw [← HS.out]; rfl) rfl _ _ (HW4.out.symm ▸ HT2.out) HI2.out HS2.out (one_cellsN _) ?_; rw [HW4.out, HW6.out, HS.out])
  | (refine wpList_load_row rfl 26 (.tmp 4) rfl B rfl _ _ _ _ HQ0.out Tryd.underlying26 rfl HIK.out ?_)
  | (refine wpList_load_row rfl 26 (.tmp 10) rfl (S + 1) rfl _ _ _ _ HQ2.out Tryd.underlying26 rfl HI2.out ?_))
 refine (HST.out _ HB6.out).mono ?_
 rintro e W7 ⟨v, rfl, hown, hb7⟩
 obtain ⟨A, c, rfl, hcl, hc1, hc2, hrd⟩ := own_cap hown
 have HB7 := Lib.hid (HB6.out.trans (hb7.mono HB6.out.size))
 have HX0 := Lib.hid (HQ0.out.kept hb7)
 have HX1 := Lib.hid (HQ1.out.kept hb7)
 have HOW := Lib.hid (own_base hown HB6.out.size)
 have HRD := Lib.hid hrd
 clear hb7 hown hrd
 go_wp2_with (first
  | (refine wpList_load_row rfl 26 (.tmp 4) rfl B rfl _ _ _ _ HX0.out Tryd.underlying26 rfl HIK.out ?_)
  | (refine wpList_load_row rfl 26 (.tmp 9) rfl S rfl _ _ _ _ HX1.out Tryd.underlying26 rfl HI1.out ?_))
 refine (HTG.out _ A c HB7.out HRD.out ⟨hc1, hc2⟩).mono ?_
 rintro e W8 ⟨ad, c8, rfl, hr8, hb8⟩
 have HB8 := Lib.hid (HB7.out.trans (hb8.mono HB7.out.size))
 have HOW8 := Lib.hid (own_below HOW.out hb8)
 have HR8 := Lib.hid hr8
 clear hb8 hr8
 go_wp2_with (at_builtin; refine wpList_app8 rfl _ _ rfl w.heap.size _ _ _ rfl HOW8.out ad 16 c8 T rfl HTL.out HR8.out (by omega) HB8.out.size ?_; intro v9 W9 hown9 hgrow9)
 refine bodyPost_ret (results_tmp rfl _ _ _) rfl ?_
 refine ⟨v9, rfl, ?_, Below.grown HB8.out hgrow9 HB8.out.size (fun k hk => (HOW8.out.lt k hk).1)⟩
 rw [HSE.out, List.map_append]
 exact hown9
end Go.Proofs.YtabfcaidioohfaaDoor
namespace Go.Proofs.YtabfcaidioohfaaDoor
open List (getElem?_toArray getElem?_cons_zero getElem?_cons_succ setIfInBounds_toArray set_cons_zero set_cons_succ)
set_option maxRecDepth 100000
open Go Go.RowKit Go.Shelf
set_option linter.unusedVariables false
set_option linter.unusedSimpArgs false
set_option maxHeartbeats 1000000 in
theorem same_any (A B : Option Addr) (c d n m : Nat) (l r : List Nat) (w : World) (hA : Rd w A l) (hB : Rd w B r) (hn : l.length = n) (hm : r.length = m) (hk : n ≤ 1000000) :
  Calls Tryd.prog 13 #[.slice A n c, .slice B m d] w fun e w' => e = .returned (.bool (decide (l = r))) ∧ ∃ q, w' = w.drewN q := by
 have HN := Lib.hid hn
 have HM := Lib.hid hm
 have HA := Lib.hid hA
 have HB := Lib.hid hB
 by_cases hnm : n = m
 ·subst hnm
  clear hn hm hA hB
  go_enter Tryd.func13, Tryd.ntmps13
  go_wp2
  go_loopw [5] (fun i wr => ∃ k q : Nat, k ≤ n ∧ i = .int .i64 k ∧ wr = w.drewN q ∧ ∀ j, j < k → l.getD j 0 = r.getD j 0) (fun i _ => n - (intOf i).toNat)
  case atStart => exact ⟨0, 0, by omega, rfl, rfl, fun j hj => by omega⟩
  case round =>
   obtain ⟨k, q, hk, rfl, rfl, hsame⟩ := hrel
   have HSA := Lib.hid hsame
   clear hsame
   by_cases hlt : k < n
   ·obtain ⟨b, o, rfl, hb, hc⟩ := HA.out (by rw [HN.out]; omega)
    obtain ⟨b', o', rfl, hb', hc'⟩ := HB.out (by rw [HM.out]; omega)
    have f0 := hc k (by rw [HN.out]; exact hlt)
    have f1 := hc' k (by rw [HM.out]; exact hlt)
    have hki : (k : Int) < (n : Int) := by omega
    clear hc hc' hb hb'
    obtain ⟨x, hx⟩ : ∃ x, l.getD k 0 = x := ⟨_, rfl⟩
    obtain ⟨y, hy⟩ : ∃ y, r.getD k 0 = y := ⟨_, rfl⟩
    rw [hx] at f0
    rw [hy] at f1
    have HX := Lib.hid hx
    have HY := Lib.hid hy
    clear hx hy
    by_cases hxy : x = y
    ·subst hxy
     go_wp2
     go_quiet (fail)
     go_wp2
     go_roundw
     case rel => exact ⟨k + 1, q + nq, by omega, by go_num, rfl, fun j hj => by
      rcases Nat.lt_or_ge j k with h | h
      ·exact HSA.out j h
      ·obtain rfl : j = k := by omega
       rw [HX.out, HY.out]⟩
     case measure => simp [intOf]; omega
    ·have hxi : ¬ (x : Int) = (y : Int) := by omega
     have hne : decide (l = r) = false := decide_eq_false fun e => hxy (by rw [← HX.out, ← HY.out, e])
     have HE := Lib.hid hne
     clear hne
     go_wp2
     go_quiet (fail)
     go_wp2
     go_ret
     exact ⟨by rw [HE.out]; rfl, q + nq, World.drewN_drewN _ _ _⟩
   ·obtain rfl : k = n := by omega
    have HE : Hid (decide (l = r) = true) := decide_eq_true (List.ext_getElem (by rw [HN.out, HM.out]) fun j h1 h2 => by
     have := HSA.out j (by rw [← HN.out]; exact h1)
     simpa [List.getD_eq_getElem?_getD, h1, h2] using this)
    go_wp2
    go_ret
    exact ⟨by rw [HE.out]; rfl, _, rfl⟩
 ·have hnmi : ¬ (n : Int) = (m : Int) := by omega
  have HE : Hid (decide (l = r) = false) := decide_eq_false fun e => hnm (by rw [← hn, ← hm, e])
  clear hn hm hA hB
  go_enter Tryd.func13, Tryd.ntmps13
  go_wp2
  go_ret
  exact ⟨by rw [HE.out]; rfl, 0, rfl⟩
set_option maxHeartbeats 1000000 in
theorem equal_any (A B : Option Addr) (c d n m : Nat) (l r : List Nat) (w : World) (hA : Rd w A l) (hB : Rd w B r) (hn : l.length = n) (hm : r.length = m) (hk : n ≤ 1000000) :
  Calls Tryd.prog 55 #[.slice A n c, .slice B m d] w fun e w' => e = .returned (.bool (decide (l = r))) ∧ ∃ q, w' = w.drewN q := by
 have HN := Lib.hid hn
 have HM := Lib.hid hm
 have HA := Lib.hid hA
 have HB := Lib.hid hB
 by_cases hnm : n = m
 ·subst hnm
  clear hn hm hA hB
  go_enter Tryd.func55, Tryd.ntmps55
  go_wp2
  go_loopw [13] (fun i wr => ∃ k q : Nat, k ≤ n ∧ i = .int .i64 k ∧ wr = w.drewN q ∧ ∀ j, j < k → l.getD j 0 = r.getD j 0) (fun i _ => n - (intOf i).toNat)
  case atStart => exact ⟨0, 0, by omega, rfl, rfl, fun j hj => by omega⟩
  case round =>
   obtain ⟨k, q, hk, rfl, rfl, hsame⟩ := hrel
   have HSA := Lib.hid hsame
   clear hsame
   by_cases hlt : k < n
   ·obtain ⟨b, o, rfl, hb, hc⟩ := HA.out (by rw [HN.out]; omega)
    obtain ⟨b', o', rfl, hb', hc'⟩ := HB.out (by rw [HM.out]; omega)
    have f0 := hc k (by rw [HN.out]; exact hlt)
    have f1 := hc' k (by rw [HM.out]; exact hlt)
    have hki : (k : Int) < (n : Int) := by omega
    clear hc hc' hb hb'
    obtain ⟨x, hx⟩ : ∃ x, l.getD k 0 = x := ⟨_, rfl⟩
    obtain ⟨y, hy⟩ : ∃ y, r.getD k 0 = y := ⟨_, rfl⟩
    rw [hx] at f0
    rw [hy] at f1
    have HX := Lib.hid hx
    have HY := Lib.hid hy
    clear hx hy
    by_cases hxy : x = y
    ·subst hxy
     go_wp2
     go_quiet (fail)
     go_wp2
     go_roundw
     case rel => exact ⟨k + 1, q + nq, by omega, by go_num, rfl, fun j hj => by
      rcases Nat.lt_or_ge j k with h | h
      ·exact HSA.out j h
      ·obtain rfl : j = k := by omega
       rw [HX.out, HY.out]⟩
     case measure => simp [intOf]; omega
    ·have hxi : ¬ (x : Int) = (y : Int) := by omega
     have hne : decide (l = r) = false := decide_eq_false fun e => hxy (by rw [← HX.out, ← HY.out, e])
     have HE := Lib.hid hne
     clear hne
     go_wp2
     go_quiet (fail)
     go_wp2
     go_ret
     exact ⟨by rw [HE.out]; rfl, q + nq, World.drewN_drewN _ _ _⟩
   ·obtain rfl : k = n := by omega
    have HE : Hid (decide (l = r) = true) := decide_eq_true (List.ext_getElem (by rw [HN.out, HM.out]) fun j h1 h2 => by
     have := HSA.out j (by rw [← HN.out]; exact h1)
     simpa [List.getD_eq_getElem?_getD, h1, h2] using this)
    go_wp2
    go_ret
    exact ⟨by rw [HE.out]; rfl, _, rfl⟩
 ·have hnmi : ¬ (n : Int) = (m : Int) := by omega
  have HE : Hid (decide (l = r) = false) := decide_eq_false fun e => hnm (by rw [← hn, ← hm, e])
  clear hn hm hA hB
  go_enter Tryd.func55, Tryd.ntmps55
  go_wp2
  go_ret
  exact ⟨by rw [HE.out]; rfl, 0, rfl⟩
end Go.Proofs.YtabfcaidioohfaaDoor
namespace Go.Gc
open List (getElem?_toArray getElem?_cons_zero getElem?_cons_succ setIfInBounds_toArray set_cons_zero set_cons_succ)
set_option maxRecDepth 100000
open Go.Proofs.YtabfcaidioohfaaDoor
/-- What is opened, and the error's number. -/
def openC (key nonce more s : List Nat) : Nat × List Nat :=
 if s.length < 16 then (2, []) else match openT key nonce more s with
  | none => (7, [])
  | some t => (0, t)
end Go.Gc
namespace Go.Proofs.YtabfcaidioohfaaDoor
open List (getElem?_toArray getElem?_cons_zero getElem?_cons_succ setIfInBounds_toArray set_cons_zero set_cons_succ)
set_option maxRecDepth 100000
open Go Go.RowKit Go.Shelf
set_option linter.unusedVariables false
set_option linter.unusedSimpArgs false
theorem fr_own {w : World} {base n m c size : Nat} {e : TypeId} {A : Option Addr} {xs : List Value} (h : w.ownsRow base e size (.slice A m c) n xs) : Fr base A := by
 rcases h.2 with ⟨e, _⟩ | ⟨g, _, _, e, hb, _⟩
 ·cases e; exact .inl rfl
 ·cases e; exact .inr ⟨g, rfl, hb⟩
theorem stream_fr (k f : List Nat) (B : Option Addr) (d N : Nat) (x : List Nat) (W : World) (hk : k.length = 16) (hf : f.length = 16) (qk : Ae.bytes k) (qf : Ae.bytes f) (hN : x.length = N) (h1 : Rd W B x) (h2 : Ae.bytes x) (h3 : N ≤ 1000000) :
  Calls Tryd.prog 57 #[.agg (cellsN k), .agg (cellsN f), .slice B N d] W fun e w' => ∃ A' c', e = .returned (.slice A' N c') ∧ N ≤ c' ∧ Rd w' A' (Ae.stream (Ae.sched k) f x) ∧ Below W.heap.size W w' ∧ Fr W.heap.size A' := by
 subst hN
 exact (stream_any k f B d x W hk hf qk qf h1 h2 h3).mono fun e w' ⟨v, he, hv, hb⟩ => by
  obtain ⟨A', c', rfl, _, h4, h5⟩ := own_rd hv
  exact ⟨A', c', he, h4, h5, hb, fr_own hv⟩
set_option maxRecDepth 100000 in
set_option maxHeartbeats 4000000 in
theorem Open_fr (key nonce : List Nat) (A1 : Option Addr) (n1 c1 : Nat) (more : List Nat) (A2 : Option Addr) (n2 c2 : Nat) (text : List Nat) (w : World) (l1 : key.length = 16) (q1 : Ae.bytes key) (l2 : nonce.length = 12) (q2 : Ae.bytes nonce) (r1 : Rd w A1 more) (m1 : more.length = n1) (b1 : Ae.bytes more) (k1 : n1 ≤ 1000000 ∧ n1 ≤ c1 ∧ c1 ≤ 9223372036854775807) (r2 : Rd w A2 text) (m2 : text.length = n2) (b2 : Ae.bytes text) (k2 : n2 ≤ 1000000 ∧ n2 ≤ c2 ∧ c2 ≤ 9223372036854775807) :
  Calls Tryd.prog 40 #[.agg (cellsN key), .agg (cellsN nonce), .slice A1 n1 c1, .slice A2 n2 c2] w fun e w' => ∃ A n c, e = .returned (.tuple #[.slice A n c, .int .i64 ((Gc.openC key nonce more text).1 : Int)]) ∧ Rd w' A (Gc.openC key nonce more text).2 ∧ (Gc.openC key nonce more text).2.length = n ∧ n ≤ c ∧ Below w.heap.size w w' ∧ Fr w.heap.size A := by
 obtain ⟨B, hB⟩ : ∃ B, w.heap.size = B := ⟨_, rfl⟩
 obtain ⟨W2, hW2⟩ : ∃ W2, (w.alloc (.cells (cellsN key) 26)).alloc (.cells (cellsN nonce) 27) = W2 := ⟨_, rfl⟩
 have hb2 : Below w.heap.size w W2 := hW2 ▸ ((Below.refl _ w).alloc (Nat.le_refl _) _).alloc (by simp) _
 have s2 : W2.heap.size = B + 2 := by rw [← hW2]; simp [hB]
 by_cases h16 : n2 < 16
 ·have hC : Gc.openC key nonce more text = (2, []) := by unfold Gc.openC; rw [if_pos (by omega)]
  rw [hC]
  have h16i : (n2 : Int) < 16 := by omega
  have HW2 := Lib.hid hW2
  have HB2 := Lib.hid hb2
  clear hW2 hC hb2
  go_enter Tryd.func40, Tryd.ntmps40
  go_wp2
  rw [HW2.out]
  refine bodyPost_ret (results_tmp2 rfl _ _ _) rfl ?_
  exact ⟨none, 0, 0, rfl, fun hp => by simp at hp, rfl, Nat.le_refl _, HB2.out, .inl rfl⟩
 obtain ⟨K, hK⟩ : ∃ K, n2 = K + 16 := ⟨n2 - 16, by omega⟩
 obtain ⟨b, o, rfl, hbl, hbc⟩ := r2 (by omega)
 have hKi : (n2 : Int) - 16 = (K : Int) := by omega
 have h16i : ¬ (n2 : Int) < 16 := by omega
 have o0 : Obj W2 B 26 (cellsN key) := hW2 ▸ hB ▸ (Obj.new w _ _).alloc _
 have o1 : Obj W2 (B + 1) 27 (cellsN nonce) := by
  have := Obj.new (w.alloc (.cells (cellsN key) 26)) 27 (cellsN nonce)
  rw [World.size_alloc, hB, hW2] at this; exact this
 have l3 := b1_len l2
 have l4 := b2_len l2
 have q3 := Gc.b1_bytes q2
 have q4 := Gc.b2_bytes q2
 have r3 := r2.take K (by omega)
 have r4 := r2.drop K
 have l5 : (text.take K).length = K := by rw [List.length_take]; omega
 have l6 : (text.drop K).length = 16 := by rw [List.length_drop]; omega
 have q5 : Ae.bytes (text.take K) := fun x hx => b2 x (List.mem_of_mem_take hx)
 have HBE := Lib.hid (fun w => begin_any nonce w l2 q2)
 have HTG : Hid (∀ W, Below w.heap.size w W → Calls Tryd.prog 56 #[.agg (cellsN key), .agg (cellsN (Gc.b1 nonce)), .slice A1 n1 c1, .slice (some ⟨b, o, none⟩) K c2] W fun e w' => ∃ A c', e = .returned (.slice A 16 c') ∧ Rd w' A (Gc.tag key (Gc.b1 nonce) more (text.take K)) ∧ Below W.heap.size W w') := fun W hb =>
  (tag_any key (Gc.b1 nonce) A1 n1 c1 more _ K c2 _ W l1 q1 l3 q3 (r1.below hb) m1 b1 k1 (r3.below hb) l5 q5 ⟨by omega, by omega, k2.2.2⟩).mono fun e w' ⟨A', c', e1, _, e3, e4⟩ => ⟨_, c', e1, e3, e4⟩
 have HEQ : Hid (∀ W A c, Below w.heap.size w W → Rd W A (Gc.tag key (Gc.b1 nonce) more (text.take K)) → Calls Tryd.prog 55 #[.slice A 16 c, .slice (some ⟨b, o + K, none⟩) 16 (c2 - K)] W fun e w' => e = .returned (.bool (decide (Gc.tag key (Gc.b1 nonce) more (text.take K) = text.drop K))) ∧ ∃ q, w' = W.drewN q) := fun W A c hb hr =>
  equal_any A _ c (c2 - K) 16 16 _ _ W hr (r4.below hb) (Gc.tag_len _ _ _ _) l6 (by omega)
 have HST : Hid (∀ W, Below w.heap.size w W → Calls Tryd.prog 57 #[.agg (cellsN key), .agg (cellsN (Gc.b2 nonce)), .slice (some ⟨b, o, none⟩) K c2] W fun e w' => ∃ A c', e = .returned (.slice A K c') ∧ K ≤ c' ∧ Rd w' A (Gc.ciph key nonce (text.take K)) ∧ Below W.heap.size W w' ∧ Fr W.heap.size A) := fun W hb =>
  stream_fr key (Gc.b2 nonce) _ c2 K _ W l1 l4 q1 q4 l5 (r3.below hb) q5 (by omega)
 have hCf : ∀ f, decide (Gc.tag key (Gc.b1 nonce) more (text.take K) = text.drop K) = f → Gc.openC key nonce more text = if f = true then (0, Gc.ciph key nonce (text.take K)) else (7, []) := fun f hf => by
  unfold Gc.openC Gc.openT
  rw [if_neg (by omega), show text.length - 16 = K by omega]
  cases f
  ·rw [if_neg (of_decide_eq_false hf)]; rfl
  ·rw [if_pos (of_decide_eq_true hf)]; rfl
 have HCF := Lib.hid hCf
 have HCL : Hid ((Gc.ciph key nonce (text.take K)).length = K) := by unfold Hid; rw [Gc.ciph_len, l5]
 have HIK := Lib.hid (size16 l1)
 have HIN := Lib.hid (size12 l2)
 have HI1 := Lib.hid (size16 l3)
 have HI2 := Lib.hid (size16 l4)
 have HS1 : Hid ((cellsN (List.replicate 16 0)).size = (cellsN (Gc.b1 nonce)).size) := by unfold Hid; rw [cellsN_size, cellsN_size, l3]; rfl
 have HS2 : Hid ((cellsN (List.replicate 16 0)).size = (cellsN (Gc.b2 nonce)).size) := by unfold Hid; rw [cellsN_size, cellsN_size, l4]; rfl
 have hKc : K ≤ c2 := by omega
 have hKne : ¬ c2 = K := by omega
 have hK16 : (K : Int) ≤ (K : Int) + 16 := by omega
 generalize Gc.openC key nonce more text = Z at *
 generalize decide (Gc.tag key (Gc.b1 nonce) more (text.take K) = text.drop K) = f at *
 generalize Gc.tag key (Gc.b1 nonce) more (text.take K) = T at *
 generalize Gc.ciph key nonce (text.take K) = C at *
 generalize Gc.b1 nonce = f1 at *
 generalize Gc.b2 nonce = f2 at *
 have HW2 := Lib.hid hW2
 have HB := Lib.hid hB
 have HO0 := Lib.hid o0
 have HO1 := Lib.hid o1
 have HB2 := Lib.hid hb2
 clear hW2 o0 o1 hb2 r1 r2 r3 r4 b1 b2 l1 l2 l3 l4 l5 l6 q1 q2 q3 q4 q5 m1 m2 hCf hbl hbc
 go_enter Tryd.func40, Tryd.ntmps40
 go_wp2_with (refine wpList_load_row rfl 27 (.tmp 5) rfl _ rfl _ _ _ _ (HW2.out.symm ▸ HO1.out) Tryd.underlying27 rfl HIN.out ?_)
 rw [HW2.out]
 refine (HBE.out _).mono ?_
 rintro e W3 ⟨rfl, hb3⟩
 obtain ⟨S, hS⟩ : ∃ S, W3.heap.size = S := ⟨_, rfl⟩
 have hSB : B + 2 ≤ S := by have := hb3.size; omega
 have b3 := HB2.out.trans (hb3.mono HB2.out.size)
 have p0 := HO0.out.kept hb3
 obtain ⟨W4, hW4⟩ : ∃ W4, (W3.alloc (.cells #[.int .u8 0, .int .u8 0, .int .u8 0, .int .u8 0, .int .u8 0, .int .u8 0, .int .u8 0, .int .u8 0, .int .u8 0, .int .u8 0, .int .u8 0, .int .u8 0, .int .u8 0, .int .u8 0, .int .u8 0, .int .u8 0] 26)).alloc (.cells #[.int .u8 0, .int .u8 0, .int .u8 0, .int .u8 0, .int .u8 0, .int .u8 0, .int .u8 0, .int .u8 0, .int .u8 0, .int .u8 0, .int .u8 0, .int .u8 0, .int .u8 0, .int .u8 0, .int .u8 0, .int .u8 0] 26) = W4 := ⟨_, rfl⟩
 have t1 : Obj W4 S 26 (cellsN (List.replicate 16 0)) := hW4 ▸ hS ▸ (Obj.new W3 _ _).alloc _
 have t2 : Obj W4 (S + 1) 26 (cellsN (List.replicate 16 0)) := by
  have := Obj.new (W3.alloc (.cells #[.int .u8 0, .int .u8 0, .int .u8 0, .int .u8 0, .int .u8 0, .int .u8 0, .int .u8 0, .int .u8 0, .int .u8 0, .int .u8 0, .int .u8 0, .int .u8 0, .int .u8 0, .int .u8 0, .int .u8 0, .int .u8 0] 26)) 26 #[.int .u8 0, .int .u8 0, .int .u8 0, .int .u8 0, .int .u8 0, .int .u8 0, .int .u8 0, .int .u8 0, .int .u8 0, .int .u8 0, .int .u8 0, .int .u8 0, .int .u8 0, .int .u8 0, .int .u8 0, .int .u8 0]
  rw [World.size_alloc, hS, hW4] at this; exact this
 have b4 : Below w.heap.size w W4 := hW4 ▸ (b3.alloc b3.size _).alloc (by simp; have := b3.size; omega) _
 have p4 : Obj W4 B 26 (cellsN key) := hW4 ▸ (p0.alloc _).alloc _
 have u5 : Upd S W4 (W4.setRow S (cellsN f1)) := (Upd.refl S _).row _
 have u6 : Upd (S + 1) (W4.setRow S (cellsN f1)) ((W4.setRow S (cellsN f1)).setRow (S + 1) (cellsN f2)) := (Upd.refl (S + 1) _).row _
 have t1' : Obj ((W4.setRow S (cellsN f1)).setRow (S + 1) (cellsN f2)) S 26 (cellsN f1) := (t1.row _).upd u6 (by omega)
 have t2a : Obj (W4.setRow S (cellsN f1)) (S + 1) 26 (cellsN (List.replicate 16 0)) := t2.upd u5 (by omega)
 have t2' : Obj ((W4.setRow S (cellsN f1)).setRow (S + 1) (cellsN f2)) (S + 1) 26 (cellsN f2) := t2a.row _
 have p6 : Obj ((W4.setRow S (cellsN f1)).setRow (S + 1) (cellsN f2)) B 26 (cellsN key) := (p4.upd u5 (by omega)).upd u6 (by omega)
 have b6 : Below w.heap.size w ((W4.setRow S (cellsN f1)).setRow (S + 1) (cellsN f2)) := Upd.below (Upd.below b4 (by omega) u5) (by omega) u6
 obtain ⟨W6, hW6⟩ : ∃ W6, (W4.setRow S (cellsN f1)).setRow (S + 1) (cellsN f2) = W6 := ⟨_, rfl⟩
 rw [hW6] at t1' t2' p6 b6
 have HW4 := Lib.hid hW4
 have HW6 := Lib.hid hW6
 have HS := Lib.hid hS
 have HT1 := Lib.hid t1
 have HT2 := Lib.hid t2a
 have hS0 : Obj W6.drew B 26 (cellsN key) ∧ Obj W6.drew S 26 (cellsN f1) ∧ Obj W6.drew (S + 1) 26 (cellsN f2) := ⟨p6.drew, t1'.drew, t2'.drew⟩
 have HB6 := Lib.hid b6.drew
 clear hb3 b3 p0 hW4 t1 t2 b4 p4 u5 u6 t1' t2a t2' p6 b6 hW6 hS
 go_wp2_with (first
  | (refine wpList_store_row rfl 26 (.tmp 10) (.tmp 19) rfl S _ (by rw [← HS.out]; rfl) rfl _ _ (HW4.out.symm ▸ HT1.out) HI1.out HS1.out (one_cellsN _) ?_)
  | (refine wpList_store_row rfl 26 (.tmp 11) (.tmp 20) rfl (S + 1) _ (by rw [← HS.out]; rfl) rfl _ _ (HW4.out.symm ▸ HT2.out) HI2.out HS2.out (one_cellsN _) ?_; rw [HW4.out, HW6.out, HS.out]))
 refine wp_nopanic0 ?_
 refine wp_region_held_drew (S := (fun wq => Obj wq B 26 (cellsN key) ∧ Obj wq S 26 (cellsN f1) ∧ Obj wq (S + 1) 26 (cellsN f2))) (by kernel_rfl) hS0 (fun hHeld => ?_)
 refine tkH 0 ?_ (hy := by
  refine yieldsIf_load_row (g := B) (t := 26) (cs := cellsN key) (ty := 26) (x := (.tmp 4)) ?_ ?_ ?_ ?_ Tryd.underlying26 rfl HIK.out
  ·rfl
  ·rfl
  ·rfl
  ·exact fun w hSw => hSw.1)
 refine tkH 1 ?_ (hy := by
  refine yieldsIf_load_row (g := S) (t := 26) (cs := cellsN f1) (ty := 26) (x := (.tmp 10)) ?_ ?_ ?_ ?_ Tryd.underlying26 rfl HI1.out
  ·rfl
  ·rfl
  ·rfl
  ·exact fun w hSw => hSw.2.1)
 refine tkH 2 ?_
 refine tkH 3 ?_
 refine tkH 4 ?_
 refine tkH 5 ?_
 refine tkH 7 ?_
 refine tkH 8 ?_
 refine tkH 9 ?_
 refine onH 6 (fun KK hKK => ?_)
 go_simp
 refine (HTG.out _ HB6.out).mono ?_
 rintro e W7 ⟨A7, c7, rfl, hr7, hb7⟩
 have hS7 : Obj W7 B 26 (cellsN key) ∧ Obj W7 S 26 (cellsN f1) ∧ Obj W7 (S + 1) 26 (cellsN f2) := ⟨hS0.1.kept hb7, hS0.2.1.kept hb7, hS0.2.2.kept hb7⟩
 have HB7 := Lib.hid (HB6.out.trans (hb7.mono HB6.out.size))
 try go_wp2_with fail
 refine hKK.out _ _ ?_ (fun hh6 => ?_)
 ·(try dsimp only)
  exact hS7
 clear hKK KK
 try simp only [Act.put, setIfInBounds_toArray, set_cons_zero, set_cons_succ]
 refine onH 10 (fun KK hKK => ?_)
 go_simp
 refine (HEQ.out _ A7 c7 HB7.out hr7).mono ?_
 rintro e W8 ⟨rfl, q8, hq8⟩
 have hS8 : Obj W8 B 26 (cellsN key) ∧ Obj W8 S 26 (cellsN f1) ∧ Obj W8 (S + 1) 26 (cellsN f2) := by rw [hq8]; exact ⟨hS7.1.drewN _, hS7.2.1.drewN _, hS7.2.2.drewN _⟩
 have HB8 : Hid (Below w.heap.size w W8) := by rw [hq8]; exact ⟨HB7.out.os, HB7.out.tape, HB7.out.output, HB7.out.size, HB7.out.block⟩
 clear hq8
 try go_wp2_with fail
 refine hKK.out _ _ ?_ (fun hh10 => ?_)
 ·(try dsimp only)
  exact hS8
 clear hKK KK
 try simp only [Act.put, setIfInBounds_toArray, set_cons_zero, set_cons_succ]
 refine tkH 11 ?_
 refine wpAnyH_done (by kernel_rfl) ?_ _
 cases f
 ·have hz := HCF.out false rfl
  rw [if_neg (by decide)] at hz
  have HZ := Lib.hid hz
  clear hz HCF
  go_wp2
  refine bodyPost_ret (results_tmp2 rfl _ _ _) rfl ?_
  rw [HZ.out]
  exact ⟨none, 0, 0, rfl, fun hp => by simp at hp, rfl, Nat.le_refl _, HB8.out, .inl rfl⟩
 ·have hz := HCF.out true rfl
  rw [if_pos rfl] at hz
  have HZ := Lib.hid hz
  clear hz HCF
  go_wp2
  have HB9 := Lib.hid HB8.out.drew
  have hS9 : Obj W8.drew B 26 (cellsN key) ∧ Obj W8.drew S 26 (cellsN f1) ∧ Obj W8.drew (S + 1) 26 (cellsN f2) := ⟨hS8.1.drew, hS8.2.1.drew, hS8.2.2.drew⟩
  refine wp_nopanic0 ?_
  refine wp_region_held_drew (S := (fun wq => Obj wq B 26 (cellsN key) ∧ Obj wq S 26 (cellsN f1) ∧ Obj wq (S + 1) 26 (cellsN f2))) (by kernel_rfl) hS9 (fun hHeld => ?_)
  refine tkH 0 ?_ (hy := by
   refine yieldsIf_load_row (g := B) (t := 26) (cs := cellsN key) (ty := 26) (x := (.tmp 4)) ?_ ?_ ?_ ?_ Tryd.underlying26 rfl HIK.out
   ·rfl
   ·rfl
   ·rfl
   ·exact fun w hSw => hSw.1)
  refine tkH 1 ?_ (hy := by
   refine yieldsIf_load_row (g := (S + 1)) (t := 26) (cs := cellsN f2) (ty := 26) (x := (.tmp 11)) ?_ ?_ ?_ ?_ Tryd.underlying26 rfl HI2.out
   ·rfl
   ·rfl
   ·rfl
   ·exact fun w hSw => hSw.2.2)
  refine tkH 2 ?_
  refine tkH 3 ?_
  refine tkH 4 ?_
  refine onH 5 (fun KK hKK => ?_)
  go_simp
  refine (HST.out _ HB9.out).mono ?_
  rintro e W10 ⟨A10, c10, rfl, hc10, hr10, hb10, hf10⟩
  have HFR := Lib.hid (hf10.mono HB9.out.size)
  clear hf10
  try go_wp2_with fail
  refine hKK.out _ _ ?_ (fun hh5 => ?_)
  ·(try dsimp only)
   exact ⟨hS9.1.kept hb10, hS9.2.1.kept hb10, hS9.2.2.kept hb10⟩
  clear hKK KK
  try simp only [Act.put, setIfInBounds_toArray, set_cons_zero, set_cons_succ]
  refine tkH 6 ?_
  refine tkH 7 ?_
  refine wpAnyH_done (by kernel_rfl) ?_ _
  go_wp2
  refine bodyPost_ret (results_tmp2 rfl _ _ _) rfl ?_
  rw [HZ.out]
  exact ⟨_, K, _, rfl, hr10, HCL.out, hc10, HB9.out.trans (hb10.mono HB9.out.size), HFR.out⟩
theorem Open_any (key nonce : List Nat) (A1 : Option Addr) (n1 c1 : Nat) (more : List Nat) (A2 : Option Addr) (n2 c2 : Nat) (text : List Nat) (w : World) (l1 : key.length = 16) (q1 : Ae.bytes key) (l2 : nonce.length = 12) (q2 : Ae.bytes nonce) (r1 : Rd w A1 more) (m1 : more.length = n1) (b1 : Ae.bytes more) (k1 : n1 ≤ 1000000 ∧ n1 ≤ c1 ∧ c1 ≤ 9223372036854775807) (r2 : Rd w A2 text) (m2 : text.length = n2) (b2 : Ae.bytes text) (k2 : n2 ≤ 1000000 ∧ n2 ≤ c2 ∧ c2 ≤ 9223372036854775807) :
  Calls Tryd.prog 40 #[.agg (cellsN key), .agg (cellsN nonce), .slice A1 n1 c1, .slice A2 n2 c2] w fun e w' => ∃ A n c, e = .returned (.tuple #[.slice A n c, .int .i64 ((Gc.openC key nonce more text).1 : Int)]) ∧ Rd w' A (Gc.openC key nonce more text).2 ∧ (Gc.openC key nonce more text).2.length = n ∧ n ≤ c ∧ Below w.heap.size w w' :=
 (Open_fr key nonce A1 n1 c1 more A2 n2 c2 text w l1 q1 l2 q2 r1 m1 b1 k1 r2 m2 b2 k2).mono fun e w' ⟨A, n, c, h1, h2, h3, h4, h5, _⟩ => ⟨A, n, c, h1, h2, h3, h4, h5⟩
end Go.Proofs.YtabfcaidioohfaaDoor
namespace Go.Gc
open List (getElem?_toArray getElem?_cons_zero getElem?_cons_succ setIfInBounds_toArray set_cons_zero set_cons_succ)
set_option maxRecDepth 100000
open Go.Proofs.YtabfcaidioohfaaDoor
def k1 : List Nat := 1 :: List.replicate 15 0
def n2 : List Nat := 2 :: List.replicate 11 0
def more4 : List Nat := [109, 111, 114, 101]
def mora4 : List Nat := [109, 111, 114, 97]
def text4 : List Nat := [116, 101, 120, 116]
theorem openC_seal (key nonce more text : List Nat) : openC key nonce more (sealT key nonce more text) = (0, text) := by
 unfold openC
 rw [if_neg (by rw [sealT_len]; omega), open_seal]
end Go.Gc
namespace Go.Proofs.YtabfcaidioohfaaDoor
open List (getElem?_toArray getElem?_cons_zero getElem?_cons_succ setIfInBounds_toArray set_cons_zero set_cons_succ)
set_option maxRecDepth 100000
open Go Go.RowKit Go.Shelf
set_option linter.unusedVariables false
set_option linter.unusedSimpArgs false
theorem Rd.nil (w : World) (A : Option Addr) : Rd w A [] := fun hp => by simp at hp
theorem Rd.some {w : World} {A : Option Addr} {l : List Nat} (h : Rd w A l) (hp : 0 < l.length) : ∃ b o, A = some ⟨b, o, none⟩ ∧ b < w.heap.size ∧ ∀ j, j < l.length → w.cell? ⟨b, o + j, none⟩ = some (.int .u8 ((l.getD j 0 : Nat) : Int)) := by
 obtain ⟨b, o, e, hb, hc⟩ := h hp
 exact ⟨b, o, e, hb, hc⟩
theorem lit_rd (w : World) (l : List Nat) (fr : Nat × Nat) : Rd (w.alloc (.cells (cellsN l) 5 fr)) (some ⟨w.heap.size, 0, none⟩) l := fun hp =>
 ⟨_, 0, rfl, by simp, fun j hj => by rw [Nat.zero_add, World.cell?_alloc_mark w (cellsN l) 5 fr j]; exact cellsN_get l j hj⟩
theorem lit_rd' (w : World) (l : List Nat) (fr : Nat × Nat) {g : Nat} (hg : w.heap.size = g) : Rd (w.alloc (.cells (cellsN l) 5 fr)) (some ⟨g, 0, none⟩) l := hg ▸ lit_rd w l fr
theorem conv_at (w : World) (C : Array Value) (n c g : Nat) (hg : g = w.heap.size) :
  (convert 24 24 (.slice (some ⟨g, 0, none⟩) n c)).run Tryd.prog (w.alloc (.cells C 5)) = .ok (.slice (some ⟨g, 0, none⟩) n c) (w.alloc (.cells C 5 (C.size, C.size + 1))) := by
 subst hg; exact Lib.run_convert_bytes_const w 24 5 C n c Tryd.underlying24 Tryd.underlying5
theorem str4 (w : World) (b o c : Nat) (h0 : w.cell? ⟨b, o, none⟩ = some (.int .u8 116)) (h1 : w.cell? ⟨b, o + 1, none⟩ = some (.int .u8 101)) (h2 : w.cell? ⟨b, o + 2, none⟩ = some (.int .u8 120)) (h3 : w.cell? ⟨b, o + 3, none⟩ = some (.int .u8 116)) :
  (convert 24 9 (.slice (some ⟨b, o, none⟩) 4 c)).run Tryd.prog w = .ok (.string { data := #[116, 101, 120, 116] }) w :=
 run_convert_bytes_arg (P := Tryd.prog) w 24 5 Tryd.underlying24 Tryd.underlying5 b o 4 c [116, 101, 120, 116] rfl (fun i hi => by
  have : i = 0 ∨ i = 1 ∨ i = 2 ∨ i = 3 := by omega
  rcases this with rfl | rfl | rfl | rfl
  ·exact h0
  ·exact h1
  ·exact h2
  ·exact h3) 9 Tryd.underlying9
/-- Seal, its answer as a slice. -/
theorem Seal_rd (key nonce : List Nat) (A1 : Option Addr) (n1 c1 : Nat) (more : List Nat) (A2 : Option Addr) (n2 c2 : Nat) (text : List Nat) (w : World) (l1 : key.length = 16) (q1 : Ae.bytes key) (l2 : nonce.length = 12) (q2 : Ae.bytes nonce) (r1 : Rd w A1 more) (m1 : more.length = n1) (b1 : Ae.bytes more) (k1 : n1 ≤ 1000000 ∧ n1 ≤ c1 ∧ c1 ≤ 9223372036854775807) (r2 : Rd w A2 text) (m2 : text.length = n2) (b2 : Ae.bytes text) (k2 : n2 ≤ 1000000) :
  Calls Tryd.prog 44 #[.agg (cellsN key), .agg (cellsN nonce), .slice A1 n1 c1, .slice A2 n2 c2] w fun e w' => ∃ b o c, e = .returned (.slice (some ⟨b, o, none⟩) (n2 + 16) c) ∧ n2 + 16 ≤ c ∧ c ≤ 9223372036854775807 ∧ Rd w' (some ⟨b, o, none⟩) (Gc.sealT key nonce more text) ∧ Below w.heap.size w w' :=
 (Seal_any key nonce A1 n1 c1 more A2 n2 c2 text w l1 q1 l2 q2 r1 m1 b1 k1 r2 m2 b2 k2).mono fun e w' ⟨v, e1, hown, hb⟩ => by
  obtain ⟨A, c, rfl, hl, h1, h2, hr⟩ := own_cap hown
  obtain ⟨b, o, rfl, _, _⟩ := hr (by rw [Gc.sealT_len]; omega)
  exact ⟨b, o, c, e1, h1, h2, hr, hb⟩
end Go.Proofs.YtabfcaidioohfaaDoor
