/- A loop over an iterator whose rounds turn what the iterator reads: the rounds are counted; what holds between two rounds is told to the iterator. -/
import Derived.Test.YtlldomgfjmkcdaaRows
import Derived.RangeFuncNested
import Derived.RangeFuncBound
import Derived.RangeFuncCalls
import Derived.RangeFuncLeaves
namespace Go.Proofs.Ytlldomgfjmkcdaa.Rm
open Go Go.RowKit
set_option linter.unusedVariables false

section
variable {F : Fence} {n : Nat} {P : Program}
/-- How round number i may be left. -/
def roundEnd (B : Nat) (I : Nat → World → Prop) (Ix : Code → Nat → World → Prop) (i : Nat) (W : World) : Exit → Act → World → Prop
  | .normal, _, V => KeepsFrom B W V ∧ I (i + 1) V
  | .ret, _, V => KeepsFrom B W V ∧ Ix .ret i V
  | .exit c, _, V => KeepsFrom B W V ∧ Ix (.exit c) i V
  | .goto t, _, V => KeepsFrom B W V ∧ Ix (.goto t) i V
  | .panic _, _, _ => False
  | .outgrown, _, _ => False
/-- An iterator's contract: it gives enc 0, enc 1, .. up to N, as long as a round says 'more'; between two rounds Mp holds. -/
def Gives (F : Fence) (n : Nat) (P : Program) (g : Nat) (lb : Array Value) (enc : Nat → Array Value) (Mp : Nat → World → Prop) (N : Nat) : Prop :=
  ∀ (l : Nat) (J Jx : Nat → World → Prop) (W : World), (∀ i V, J i V → Mp i V) →
    (∀ i V, J i V → i < N → YieldAt F (n - 1) P l (enc i) V fun e V' => (e = .returned (.bool true) ∧ J (i + 1) V') ∨ (e = .returned (.bool false) ∧ Jx i V')) →
    J 0 W → CallsIn F n P g (#[.func (.yield l) #[] #[]] ++ lb) W fun e V => (∃ v, e = .returned v) ∧ (J N V ∨ ∃ i, Jx i V)

theorem wpIn_rangeFunc_ix {g : Operand} {ps : Array Tmp} {assign body : Code} {Q : Exit → Act → World → Prop} {a : Act} {w : World}
    (hro : F.round = none) (h1 : 1 ≤ n) {gf : Nat} {lb : Array Value} (hg : a.eval g = .func (.func gf) #[] lb) (hFg : F.fn gf) (eg : ∀ args w, (callFunc gf args).run P w = .ok (.enter gf args) w)
    {enc : Nat → Array Value} {Mp : Nat → World → Prop} {N : Nat} (hseq : Gives F (n - 1) P gf lb enc Mp N) (hps : ∀ i, (enc i).size = ps.size)
    (I : Nat → World → Prop) (Ix : Code → Nat → World → Prop) (hI : OwnFrom w.heap.size I) (hIx : ∀ c, OwnFrom w.heap.size (Ix c)) (hM : ∀ i V, I i V → Mp i V) (h0 : I 0 w) (a₁ : Nat → Act)
    (hassign : ∀ (l i : Nat) (W : World) (K : Act → World → Prop), K (a₁ i) W →
      assign.wpIn (F.inRound l) (n - 1 - 1) P (Exit.then K (fun _ _ _ => False)) { tmps := (ps.zip (enc i)).foldl (fun t (p, v) => t.setIfInBounds p v) a.tmps, defers := [] } W)
    (hbody : ∀ (l i : Nat) (W : World), I i W → i < N → body.wpIn (F.inRound l) (n - 1 - 1) P (roundEnd w.heap.size I Ix i W) (a₁ i) W)
    (hdone : ∀ (D : Nat) (W : World), w.heap.size ≤ D → I N W → W.heap[D]? = some (.deferred (some [])) → Q .normal { a with defers := { target := .collected D, args := #[] } :: a.defers } W)
    (hstop : ∀ (D : Nat) (c : Code) (i : Nat) (W : World), w.heap.size ≤ D → Ix c i W → W.heap[D]? = some (.deferred (some [])) → c.wpIn F n P Q { a with defers := { target := .collected D, args := #[] } :: a.defers } W) :
    (Code.rangeFunc g ps assign body).wpIn F n P Q a w := by
  refine wpIn_rangeFunc fun fn hfn => ?_
  rw [hro]
  obtain ⟨rc, hrc⟩ : ∃ rc : LoopState → Option Code → Loop, rc = fun st pe => { state := st, pending := pe, fn, tmps := a.tmps, params := ps, assign, body, defers := w.heap.size } := ⟨_, rfl⟩
  -- the two blocks of book-keeping: d (the rounds' deferred calls), d + 1 (the loop's record)
  obtain ⟨d, hd⟩ : ∃ d, w.heap.size = d := ⟨_, rfl⟩
  obtain ⟨V, hV⟩ : ∃ V, (w.alloc (.deferred (some []))).alloc (.loop (rc .ready none)) = V := ⟨_, rfl⟩
  have hrec : V.heap[d + 1]? = some (.loop (rc .ready none)) := by
    rw [← hV, ← hd]
    have := World.alloc_heap_new (w.alloc (.deferred (some []))) (.loop (rc .ready none))
    rwa [World.size_alloc] at this
  have hdef : V.heap[d]? = some (.deferred (some [])) := by
    rw [← hV, ← hd]; exact (Below.heap_alloc _ _ _ (by simp)).trans (World.alloc_heap_new w _)
  have hIV : I 0 V := by rw [← hV]; exact hI.alloc _ (hI.alloc _ h0)
  refine ⟨d + 1, [{ target := .collected d, args := #[] }], V, { target := .fn (.func gf) lb, args := #[.func (.yield (d + 1)) #[] #[]] }, V, gf, #[.func (.yield (d + 1)) #[] #[]] ++ lb, V, ?_, ?_, ?_, ?_, fun _ => h1, ?_⟩
  · rw [← hV, hrc, ← hd]; exact run_enterLoop_outer _ _ _ _ _
  · simp only [resolve, hg]
    simp [go_sem]
  · intro f' hf'; simp [Target.leads] at hf'; subst hf'; exact hFg
  · simp [invoke, go_sem, eg]
  have hB : w.heap.size ≤ d + 1 := by omega
  refine (hseq (d + 1)
    (fun i X => I i X ∧ X.heap[d + 1]? = some (.loop (rc .ready none)) ∧ X.heap[d]? = some (.deferred (some [])))
    (fun i X => ∃ c, Ix c i X ∧ X.heap[d + 1]? = some (.loop (rc .done (some c))) ∧ X.heap[d]? = some (.deferred (some [])))
    V (fun i X h => hM i X h.1) ?_ ⟨hIV, hrec, hdef⟩).mono ?_
  · -- a round
    rintro i X ⟨hi, hl, hk⟩ hlt
    have hsz : d + 1 < X.heap.size := (Array.getElem?_eq_some_iff.1 hl).1
    have hy := run_yield (P := P) (args := enc i) hl (by rw [hrc]; exact hps i)
    rw [hrc] at hy
    refine ⟨fn, _, assign, body, hy, roundIn_of_wpIn hfn (hassign _ i X _ ⟨_, run_beginRound hl (by rw [hrc]), ?_⟩)⟩
    have bl : (X.putObj (d + 1) (.loop { rc .ready none with state := .busy })).heap[d + 1]? = some (.loop { rc .ready none with state := .busy }) := World.putObj_heap_same hsz
    have bk : (X.putObj (d + 1) (.loop { rc .ready none with state := .busy })).heap[d]? = some (.deferred (some [])) := (World.putObj_heap_other (by omega)).trans hk
    refine wpIn_mono (hbody _ i _ (hI.putObj _ hi hB hl rfl) hlt) ?_
    have fin : ∀ (jump : Option Code) (Y : World), KeepsFrom w.heap.size (X.putObj (d + 1) (.loop { rc .ready none with state := .busy })) Y →
        (Instr.endRound (d + 1) jump).run P Y = .ok (.bool jump.isNone) (Y.putObj (d + 1) (.loop (rc (if jump.isNone then .ready else .done) jump))) ∧
        Y.heap[d + 1]? = some (.loop { rc .ready none with state := .busy }) ∧
        (Y.putObj (d + 1) (.loop (rc (if jump.isNone then .ready else .done) jump))).heap[d + 1]? = some (.loop (rc (if jump.isNone then .ready else .done) jump)) ∧
        (Y.putObj (d + 1) (.loop (rc (if jump.isNone then .ready else .done) jump))).heap[d]? = some (.deferred (some [])) := fun jump Y hY => by
      have yl := hY.same _ _ hB bl rfl
      have yk := hY.same _ _ (by omega) bk rfl
      have := run_endRound (P := P) jump yl
      rw [hrc] at this ⊢
      exact ⟨this, by rw [hrc] at yl; exact yl, World.putObj_heap_same (Array.getElem?_eq_some_iff.1 yl).1, (World.putObj_heap_other (by omega)).trans yk⟩
    have out : ∀ (c : Code) (Y : World), KeepsFrom w.heap.size (X.putObj (d + 1) (.loop { rc .ready none with state := .busy })) Y → Ix c i Y →
        (Instr.endRound (d + 1) (some c)).run P Y = .ok (.bool false) (Y.putObj (d + 1) (.loop (rc .done (some c)))) ∧ Ix c i (Y.putObj (d + 1) (.loop (rc .done (some c)))) ∧
        (Y.putObj (d + 1) (.loop (rc .done (some c)))).heap[d + 1]? = some (.loop (rc .done (some c))) ∧ (Y.putObj (d + 1) (.loop (rc .done (some c)))).heap[d]? = some (.deferred (some [])) := fun c Y hY hx => by
      obtain ⟨e1, e2, e3, e4⟩ := fin (some c) Y hY
      exact ⟨e1, (hIx c).putObj _ hx hB e2 rfl, e3, e4⟩
    rintro e a3 Y hp
    cases e with
    | normal =>
      obtain ⟨hY, hi'⟩ := hp
      obtain ⟨e1, e2, e3, e4⟩ := fin none Y hY
      exact ⟨_, _, e1, .inl ⟨rfl, hI.putObj _ hi' hB e2 rfl, e3, e4⟩⟩
    | ret =>
      obtain ⟨e1, e2⟩ := out .ret Y hp.1 hp.2
      exact ⟨_, _, e1, .inr ⟨rfl, .ret, e2⟩⟩
    | exit c =>
      obtain ⟨e1, e2⟩ := out (.exit c) Y hp.1 hp.2
      exact ⟨_, _, e1, .inr ⟨rfl, .exit c, e2⟩⟩
    | goto t =>
      obtain ⟨e1, e2⟩ := out (.goto t) Y hp.1 hp.2
      exact ⟨_, _, e1, .inr ⟨rfl, .goto t, e2⟩⟩
    | panic ch => exact hp.elim
    | outgrown => exact hp.elim
  · -- behind the iterator
    rintro e X ⟨⟨v, rfl⟩, (⟨hi, hl, hk⟩ | ⟨i, c, hi, hl, hk⟩)⟩
    · have := run_endLoop (P := P) hl (by rw [hrc]; simp)
      rw [hrc] at this
      exact ⟨none, _, this, hdone _ _ (by omega) (hI.putObj _ hi hB hl rfl) ((World.putObj_heap_other (by omega)).trans hk)⟩
    · have := run_endLoop (P := P) hl (by rw [hrc]; simp)
      rw [hrc] at this
      exact ⟨some c, _, this, hstop _ c i _ (by omega) ((hIx c).putObj _ hi hB hl rfl) ((World.putObj_heap_other (by omega)).trans hk)⟩
end
end Go.Proofs.Ytlldomgfjmkcdaa.Rm
