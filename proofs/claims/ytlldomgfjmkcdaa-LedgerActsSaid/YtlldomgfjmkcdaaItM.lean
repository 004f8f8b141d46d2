/- A loop over an iterator whose rounds are counted; a round's assignment may make memory (a loop variable whose address is taken). -/
import Derived.Test.YtlldomgfjmkcdaaRows
import Derived.Test.YtlldomgfjmkcdaaRsF
import Derived.RangeFuncNested
import Derived.RangeFuncBound
import Derived.RangeFuncCalls
import Derived.RangeFuncLeaves
namespace Go.Proofs.Ytlldomgfjmkcdaa.Rm
open Go Go.RowKit
set_option linter.unusedVariables false

section
variable {F : Fence} {n : Nat} {P : Program}
theorem wpIn_rangeFunc_mx {g : Operand} {ps : Array Tmp} {assign body : Code} {Q : Exit → Act → World → Prop} {a : Act} {w : World}
    (hro : F.round = none) (h1 : 1 ≤ n) {gf : Nat} {lb : Array Value} (hg : a.eval g = .func (.func gf) #[] lb) (hFg : F.fn gf) (eg : ∀ args w, (callFunc gf args).run P w = .ok (.enter gf args) w)
    {enc : Nat → Array Value} {Mp : Nat → World → Prop} {N : Nat} (hseq : Gives F (n - 1) P gf lb enc Mp N) (hps : ∀ i, (enc i).size = ps.size)
    (I : Nat → World → Prop) (Ix : Code → Nat → World → Prop) (M : Nat → Act → World → Prop) (hI : OwnFrom w.heap.size I) (hIx : ∀ c, OwnFrom w.heap.size (Ix c)) (hMo : ∀ a', OwnFrom w.heap.size (fun i W => M i a' W)) (hM : ∀ i V, I i V → Mp i V) (h0 : I 0 w)
    (hassign : ∀ (l i : Nat) (W : World), I i W → i < N →
      assign.wpIn (F.inRound l) (n - 1 - 1) P (Exit.then (fun a' W' => KeepsFrom w.heap.size W W' ∧ M i a' W') (fun _ _ _ => False)) { tmps := (ps.zip (enc i)).foldl (fun t (p, v) => t.setIfInBounds p v) a.tmps, defers := [] } W)
    (hbody : ∀ (l i : Nat) (a' : Act) (W : World), M i a' W → i < N → body.wpIn (F.inRound l) (n - 1 - 1) P (roundEnd w.heap.size I Ix i W) a' W)
    (hdone : ∀ (D : Nat) (W : World), w.heap.size ≤ D → I N W → W.heap[D]? = some (.deferred (some [])) → Q .normal { a with defers := { target := .collected D, args := #[] } :: a.defers } W)
    (hstop : ∀ (D : Nat) (c : Code) (i : Nat) (W : World), w.heap.size ≤ D → Ix c i W → W.heap[D]? = some (.deferred (some [])) → c.wpIn F n P Q { a with defers := { target := .collected D, args := #[] } :: a.defers } W) :
    (Code.rangeFunc g ps assign body).wpIn F n P Q a w := by
  refine wpIn_rangeFunc fun fn hfn => ?_
  rw [hro]
  obtain ⟨rc, hrc⟩ : ∃ rc : LoopState → Option Code → Loop, rc = fun st pe => { state := st, pending := pe, fn, tmps := a.tmps, params := ps, assign, body, defers := w.heap.size } := ⟨_, rfl⟩
  -- the two blocks of book-keeping: d (the rounds' deferred calls), d + 1 (the loop's record)
  obtain ⟨d, hd⟩ : ∃ d, w.heap.size = d := ⟨_, rfl⟩
  obtain ⟨V, hV⟩ : ∃ V, (w.alloc (.deferred (some []))).alloc (.loop (rc .ready none)) = V := ⟨_, rfl⟩
  have hrec : V.heap[d + 1]? = some (.loop (rc .ready none)) := by
    rw [← hV, ← hd]
    have := World.alloc_heap_new (w.alloc (.deferred (some []))) (.loop (rc .ready none))
    rwa [World.size_alloc] at this
  have hdef : V.heap[d]? = some (.deferred (some [])) := by
    rw [← hV, ← hd]; exact (Below.heap_alloc _ _ _ (by simp)).trans (World.alloc_heap_new w _)
  have hIV : I 0 V := by rw [← hV]; exact hI.alloc _ (hI.alloc _ h0)
  refine ⟨d + 1, [{ target := .collected d, args := #[] }], V, { target := .fn (.func gf) lb, args := #[.func (.yield (d + 1)) #[] #[]] }, V, gf, #[.func (.yield (d + 1)) #[] #[]] ++ lb, V, ?_, ?_, ?_, ?_, fun _ => h1, ?_⟩
  · rw [← hV, hrc, ← hd]; exact run_enterLoop_outer _ _ _ _ _
  · simp only [resolve, hg]
    simp [go_sem]
  · intro f' hf'; simp [Target.leads] at hf'; subst hf'; exact hFg
  · simp [invoke, go_sem, eg]
  have hB : w.heap.size ≤ d + 1 := by omega
  refine (hseq (d + 1)
    (fun i X => I i X ∧ X.heap[d + 1]? = some (.loop (rc .ready none)) ∧ X.heap[d]? = some (.deferred (some [])))
    (fun i X => ∃ c, Ix c i X ∧ X.heap[d + 1]? = some (.loop (rc .done (some c))) ∧ X.heap[d]? = some (.deferred (some [])))
    V (fun i X h => hM i X h.1) ?_ ⟨hIV, hrec, hdef⟩).mono ?_
  · -- a round
    rintro i X ⟨hi, hl, hk⟩ hlt
    have hsz : d + 1 < X.heap.size := (Array.getElem?_eq_some_iff.1 hl).1
    have hy := run_yield (P := P) (args := enc i) hl (by rw [hrc]; exact hps i)
    rw [hrc] at hy
    refine ⟨fn, _, assign, body, hy, roundIn_of_wpIn hfn (wpIn_mono (hassign _ i X hi hlt) ?_)⟩
    rintro e0 a0 X' hp0
    cases e0 with
    | normal => ?_
    | _ => exact hp0.elim
    obtain ⟨hkp, hm⟩ := hp0
    have hl' := hkp.same _ _ hB hl rfl
    have hk' := hkp.same _ _ (by omega) hk rfl
    have hsz' : d + 1 < X'.heap.size := (Array.getElem?_eq_some_iff.1 hl').1
    refine ⟨_, run_beginRound hl' (by rw [hrc]), ?_⟩
    have bl : (X'.putObj (d + 1) (.loop { rc .ready none with state := .busy })).heap[d + 1]? = some (.loop { rc .ready none with state := .busy }) := World.putObj_heap_same hsz'
    have bk : (X'.putObj (d + 1) (.loop { rc .ready none with state := .busy })).heap[d]? = some (.deferred (some [])) := (World.putObj_heap_other (by omega)).trans hk'
    refine wpIn_mono (hbody _ i a0 _ ((hMo a0).putObj _ hm hB hl' rfl) hlt) ?_
    have fin : ∀ (jump : Option Code) (Y : World), KeepsFrom w.heap.size (X'.putObj (d + 1) (.loop { rc .ready none with state := .busy })) Y →
        (Instr.endRound (d + 1) jump).run P Y = .ok (.bool jump.isNone) (Y.putObj (d + 1) (.loop (rc (if jump.isNone then .ready else .done) jump))) ∧
        Y.heap[d + 1]? = some (.loop { rc .ready none with state := .busy }) ∧
        (Y.putObj (d + 1) (.loop (rc (if jump.isNone then .ready else .done) jump))).heap[d + 1]? = some (.loop (rc (if jump.isNone then .ready else .done) jump)) ∧
        (Y.putObj (d + 1) (.loop (rc (if jump.isNone then .ready else .done) jump))).heap[d]? = some (.deferred (some [])) := fun jump Y hY => by
      have yl := hY.same _ _ hB bl rfl
      have yk := hY.same _ _ (by omega) bk rfl
      have := run_endRound (P := P) jump yl
      rw [hrc] at this ⊢
      exact ⟨this, by rw [hrc] at yl; exact yl, World.putObj_heap_same (Array.getElem?_eq_some_iff.1 yl).1, (World.putObj_heap_other (by omega)).trans yk⟩
    have out : ∀ (c : Code) (Y : World), KeepsFrom w.heap.size (X'.putObj (d + 1) (.loop { rc .ready none with state := .busy })) Y → Ix c i Y →
        (Instr.endRound (d + 1) (some c)).run P Y = .ok (.bool false) (Y.putObj (d + 1) (.loop (rc .done (some c)))) ∧ Ix c i (Y.putObj (d + 1) (.loop (rc .done (some c)))) ∧
        (Y.putObj (d + 1) (.loop (rc .done (some c)))).heap[d + 1]? = some (.loop (rc .done (some c))) ∧ (Y.putObj (d + 1) (.loop (rc .done (some c)))).heap[d]? = some (.deferred (some [])) := fun c Y hY hx => by
      obtain ⟨e1, e2, e3, e4⟩ := fin (some c) Y hY
      exact ⟨e1, (hIx c).putObj _ hx hB e2 rfl, e3, e4⟩
    rintro e a3 Y hp
    cases e with
    | normal =>
      obtain ⟨hY, hi'⟩ := hp
      obtain ⟨e1, e2, e3, e4⟩ := fin none Y hY
      exact ⟨_, _, e1, .inl ⟨rfl, hI.putObj _ hi' hB e2 rfl, e3, e4⟩⟩
    | ret =>
      obtain ⟨e1, e2⟩ := out .ret Y hp.1 hp.2
      exact ⟨_, _, e1, .inr ⟨rfl, .ret, e2⟩⟩
    | exit c =>
      obtain ⟨e1, e2⟩ := out (.exit c) Y hp.1 hp.2
      exact ⟨_, _, e1, .inr ⟨rfl, .exit c, e2⟩⟩
    | goto t =>
      obtain ⟨e1, e2⟩ := out (.goto t) Y hp.1 hp.2
      exact ⟨_, _, e1, .inr ⟨rfl, .goto t, e2⟩⟩
    | panic ch => exact hp.elim
    | outgrown => exact hp.elim
  · -- behind the iterator
    rintro e X ⟨⟨v, rfl⟩, (⟨hi, hl, hk⟩ | ⟨i, c, hi, hl, hk⟩)⟩
    · have := run_endLoop (P := P) hl (by rw [hrc]; simp)
      rw [hrc] at this
      exact ⟨none, _, this, hdone _ _ (by omega) (hI.putObj _ hi hB hl rfl) ((World.putObj_heap_other (by omega)).trans hk)⟩
    · have := run_endLoop (P := P) hl (by rw [hrc]; simp)
      rw [hrc] at this
      exact ⟨some c, _, this, hstop _ c i _ (by omega) ((hIx c).putObj _ hi hB hl rfl) ((World.putObj_heap_other (by omega)).trans hk)⟩
end
end Go.Proofs.Ytlldomgfjmkcdaa.Rm
