/- A region that draws its order, with promises: (T, S) says that S holds of the world as long as operation number T has not come up. A region without calls, walked outside of any fence, serves inside every fence. -/
import Derived.Deep.RegionHeld3
import Derived.StillTail
import Derived.OrdersIn
import Derived.OwnWalkIn
namespace Go.Proofs.Ytnphanhoakbkpaa.Pr
open Go
set_option linter.unusedVariables false

section
variable {P : Program} {ops : Array Oper} {md : Region.Mode} {Q : Exit → Act → World → Prop} {R : List (Nat × (World → Prop))}

/-- All promises that still run. -/
def Held (R : List (Nat × (World → Prop))) (listed : Array Bool) (w : World) : Prop := ∀ p ∈ R, listed.getD p.1 true = false → p.2 w
/-- Whatever order is picked from here on; the promises are kept. -/
def wpAnyP (P : Program) (md : Region.Mode) (ops : Array Oper) (Q : Exit → Act → World → Prop) (R : List (Nat × (World → Prop))) : Nat → Array Bool → Act → World → Prop
  | 0, listed, a, w => Region.ready md ops listed = [] ∧ Q .normal a w
  | fuel + 1, listed, a, w =>
    (Region.ready md ops listed = [] → Q .normal a w) ∧
    ∀ i ∈ Region.ready md ops listed, wpOp P ops Q i (fun a' w' => Held R (listed.setIfInBounds i true) w' ∧ wpAnyP P md ops Q R fuel (listed.setIfInBounds i true) a' w') a w

theorem wpAny_of_P : ∀ (fuel : Nat) (listed : Array Bool) (a : Act) (w : World), wpAnyP P md ops Q R fuel listed a w → wpAny P md ops Q fuel listed a w
  | 0, _, _, _, h => h
  | fuel + 1, _, _, _, h => ⟨h.1, fun i hi => wpOp_mono (fun a' w' h' => wpAny_of_P fuel _ a' w' h'.2) (h.2 i hi)⟩

/-- What has not come up does not let those come up that wait for it. -/
theorem unready {i j : Nat} {oj : Oper} {listed : Array Bool} (hi : i ∈ Region.ready md ops listed) (hj : j ∈ Region.ready md ops listed) (hoj : ops[j]? = some oj) :
    ∀ e ∈ oj.after, Region.binds md e = true → e.on ≠ i := by
  rintro e he hb rfl
  obtain ⟨_, oj', hoj', hall⟩ := mem_ready.1 hj
  obtain rfl : oj' = oj := Option.some.inj (hoj'.symm.trans hoj)
  have h1 := hall e he hb
  rw [getD_both (mem_ready.1 hi).1] at h1
  cases h1
/-- Who is apart from number i, once another has come up. -/
def Lone (md : Region.Mode) (ops : Array Oper) (i : Nat) (oi : Oper) (listed : Array Bool) : Prop :=
  ∀ j oj, ops[j]? = some oj → j ≠ i → listed.getD j true = false → (∀ e ∈ oj.after, Region.binds md e = true → e.on ≠ i) → oi.apart ops oj = true
theorem Lone.set {i : Nat} {oi : Oper} {listed : Array Bool} (h : Lone md ops i oi listed) {j : Nat} (hj : listed.getD j true = false) : Lone md ops i oi (listed.setIfInBounds j true) := by
  intro k ok hk hki hun hno
  refine h k ok hk hki ?_ hno
  rcases Nat.decEq j k with hjk | rfl
  · rwa [getD_set_ne true hjk] at hun
  · exact hj

theorem held1 {T : Nat} {S : World → Prop} {l : Array Bool} {w : World} (h : l.getD T true = false → S w) : Held [(T, S)] l w := fun p hp hl => by
  simp only [List.mem_singleton] at hp
  subst hp; exact h hl
theorem held2 {T1 T2 : Nat} {S1 S2 : World → Prop} {l : Array Bool} {w : World} (h1 : l.getD T1 true = false → S1 w) (h2 : l.getD T2 true = false → S2 w) : Held [(T1, S1), (T2, S2)] l w := fun p hp hl => by
  simp only [List.mem_cons, List.not_mem_nil, or_false] at hp
  rcases hp with rfl | rfl
  · exact h1 hl
  · exact h2 hl
theorem Held.set {listed : Array Bool} {w : World} {i : Nat} (h : Held R listed w) (hn : ∀ p ∈ R, p.1 ≠ i) : Held R (listed.setIfInBounds i true) w := fun p hp hl => h p hp (by
  rwa [getD_set_ne true (fun e => hn p hp e.symm)] at hl)
theorem Held.unset {listed : Array Bool} {w : World} {i j : Nat} (h : Held R ((listed.setIfInBounds i true).setIfInBounds j true) w) (hij : i ≠ j) (hn : ∀ p ∈ R, p.1 ≠ i) : Held R (listed.setIfInBounds j true) w := fun p hp hl => h p hp (by
  rw [Array.setIfInBounds_comm _ _ hij, getD_set_ne true (fun e => hn p hp e.symm)]; exact hl)

theorem wpAnyP_first {i T : Nat} {S : World → Prop} {oi : Oper} {v : Value} (hi : ops[i]? = some oi) (hsel : ∀ (j : Nat) (o : Oper) cs b, ops[j]? = some o → o.op ≠ .select cs b) (hR : (T, S) ∈ R) (hn : ∀ p ∈ R, p.1 ≠ i) (hT : Region.waitsFor md ops T i = true)
    (hQ : ∀ c a w, Q (.panic c) (a.put oi.dst v) w → Q (.panic c) a w) (fuel : Nat) :
    ∀ (listed : Array Bool) (a : Act) (w : World), Lone md ops i oi listed → i ∈ Region.ready md ops listed → YieldsIf P ops S oi v a → listed.getD T true = false → Held R listed w →
      wpAnyP P md ops Q R fuel (listed.setIfInBounds i true) (a.put oi.dst v) w → wpAnyP P md ops Q R (fuel + 1) listed a w := by
  obtain ⟨oT, hoT, e, heT, hbT, honT⟩ := Region.waitsFor_spec hT
  induction fuel with
  | zero =>
    intro listed a w _ hr hy hu hS H
    constructor
    · intro h; rw [h] at hr; cases hr
    · intro j hj
      rcases Nat.decEq j i with hji | rfl
      · have h0 := ready_mono hj hji; rw [H.1] at h0; cases h0
      · exact hy.wpOp hi (hS _ hR hu) ⟨hS.set hn, H⟩
  | succ fuel ih =>
    intro listed a w hL hr hy hu hS H
    constructor
    · intro h; rw [h] at hr; cases hr
    · intro j hj
      rcases Nat.decEq j i with hji | rfl
      · obtain ⟨hjun, oj, hoj, _⟩ := mem_ready.1 hj
        have hno := unready hr hj hoj
        have hjT : j ≠ T := by
          rintro rfl
          obtain rfl : oj = oT := Option.some.inj (hoj.symm.trans hoT)
          exact hno e heT hbT honT
        have hstep := wpOp_putIf hoj (hL j oj hoj hji hjun hno) (fun cs b => hsel i oi cs b hi) (fun cs b => hsel j oj cs b hoj) hQ hy (H.2 j (ready_mono hj hji))
        refine wpOp_mono ?_ hstep
        rintro a' w' ⟨hy', hS', hR'⟩
        refine ⟨hS'.unset (Ne.symm hji) hn, ih _ a' w' (hL.set hjun) (ready_mono hr (Ne.symm hji)) hy' (by rw [getD_set_ne true hjT]; exact hu) (hS'.unset (Ne.symm hji) hn) ?_⟩
        rwa [Array.setIfInBounds_comm _ _ hji]
      · exact hy.wpOp hi (hS _ hR hu) ⟨hS.set hn, H⟩

/-- Take number i first: it yields v in every world that meets S, and T, up to which S is promised, waits for it. -/
theorem wpAnyP_take (T : Nat) (S : World → Prop) {i : Nat} {oi : Oper} {v : Value} {fuel : Nat} {listed : Array Bool} {a : Act} {w : World} (hR : (T, S) ∈ R) (hi : ops[i]? = some oi)
    (hs : Region.noSelect ops = true) (hf : Region.free md ops listed i = true) (hr : (Region.ready md ops listed).contains i = true) (hT : Region.waitsFor md ops T i = true) (hu : listed.getD T true = false) (hn : R.all (fun p => p.1 != i) = true)
    (hQ : ∀ c a w, Q (.panic c) (a.put oi.dst v) w → Q (.panic c) a w) (hy : YieldsIf P ops S oi v a) (hS : Held R listed w)
    (h : Held R (listed.setIfInBounds i true) w → wpAnyP P md ops Q R fuel (listed.setIfInBounds i true) (a.put oi.dst v) w) : wpAnyP P md ops Q R (fuel + 1) listed a w := by
  have hn' : ∀ p ∈ R, p.1 ≠ i := fun p hp => by have := List.all_eq_true.1 hn p hp; simpa using this
  exact wpAnyP_first hi (Region.noSelect_spec hs) hR hn' hT hQ fuel listed a w (Region.free_spec hi hf) (by simpa using hr) hy hu hS (h (hS.set hn'))

theorem wpAnyP_done {listed : Array Bool} {a : Act} {w : World} (hr : Region.ready md ops listed = []) (h : Q .normal a w) :
    ∀ fuel, wpAnyP P md ops Q R fuel listed a w
  | 0 => ⟨hr, h⟩
  | _ + 1 => ⟨fun _ => h, by rw [hr]; simp⟩

/-- One alone may come up. -/
theorem wpAnyP_one {i : Nat} {o : Oper} {fuel : Nat} {listed : Array Bool} {a : Act} {w : World} (hr : Region.ready md ops listed = [i]) (ho : ops[i]? = some o)
    (h : ∀ K' : Act → World → Prop, Shut (∀ a w, Held R (listed.setIfInBounds i true) w → (Held R (listed.setIfInBounds i true) w → wpAnyP P md ops Q R fuel (listed.setIfInBounds i true) a w) → K' a w) → if Region.wanted o (yielded ops a.tmps) = true then Oper.wp P o a w K' Q else K' (a.put o.dst undef) w) :
    wpAnyP P md ops Q R (fuel + 1) listed a w :=
  ⟨fun h0 => (by rw [h0] at hr; cases hr), fun j hj => by
    rw [hr] at hj
    obtain rfl : j = i := by simpa using hj
    exact wpOp_step ho (fun K' hK => h K' (fun a w hS hW => hK a w ⟨hS, hW hS⟩))⟩

theorem wp_region_P {id : Nat} {a : Act} {w : World} (R : List (Nat × (World → Prop))) (hm : P.follows .mixedOrders = true) (hS : Held R (Array.replicate ops.size false) w.drew)
    (h : Held R (Array.replicate ops.size false) w.drew → wpAnyP P .any ops Q R ops.size (Array.replicate ops.size false) a w.drew) : (Code.region id ops true).wp P Q a w :=
  wp_region_any hm (wpAny_of_P _ _ _ _ (h hS))
end

/-! ### Inside a fence -/
section
variable {F : Fence} {n : Nat} {P : Program} {ops : Array Oper} {md : Region.Mode}
/-- Operations that call nothing. -/
def plainB (o : Oper) : Bool :=
  match o.op with
  | .move _ | .assign _ | .pick _ _ _ | .alloc _ | .box _ _ | .build _ _ | .buildSlice _ _ _ | .load _ _ | .store _ _ _ | .binOp _ _ _ _ _ | .unOp _ _ _ | .convert _ _ _ | .slice _ _ _ _ _ | .fieldAddr _ _ _ | .field _ _ _ | .indexAddr _ _ _ | .index _ _ _ | .extract _ _ => true
  | _ => false
theorem value_run {s : Sem Value} (w : World) : (∃ v w', ((do pure (.value (← s)) : Sem Next)).run P w = .ok (.value v) w') ∨ ∃ h w', ((do pure (.value (← s)) : Sem Next)).run P w = .halt h w' := by
  rw [Sem.run_bind]
  cases s.run P w with
  | ok v w' => exact .inl ⟨v, w', rfl⟩
  | halt h w' => exact .inr ⟨h, w', rfl⟩
theorem plain_run {o : Oper} (hp : plainB o = true) (ρ : Operand → Value) (w : World) :
    (∃ v w', (execOp ρ o).run P w = .ok (.value v) w') ∨ (∃ w', (execOp ρ o).run P w = .ok .skip w') ∨ ∃ h w', (execOp ρ o).run P w = .halt h w' := by
  unfold plainB at hp
  unfold execOp
  split at hp <;> (try cases hp) <;> rename_i e <;> simp only [e]
  all_goals first
    | (rcases value_run (P := P) w with h | h
       · exact .inl h
       · exact .inr (.inr h))
    | exact .inl ⟨_, _, rfl⟩
    | (rw [Sem.run_bind]
       split
       · exact .inr (.inl ⟨_, rfl⟩)
       · exact .inr (.inr ⟨_, _, rfl⟩))
    | (rw [Sem.run_bind]
       generalize Sem.run P _ w = r
       cases r with
       | ok v w' => first | exact .inl ⟨_, _, rfl⟩ | exact .inr (.inl ⟨_, rfl⟩)
       | halt h w' => exact .inr (.inr ⟨_, _, rfl⟩))
theorem plain_wpIn {K : Act → World → Prop} {Q : Exit → Act → World → Prop} {K0 K' : Act → World → Prop} {o : Oper} (hp : plainB o = true) {a : Act} {w : World}
    (h : o.wp P a w K (Exit.then K0 (fun _ _ _ => False)) ∨ (o.asks P a w ∧ LetsOut (Exit.then K0 (fun _ _ _ => False)))) (hk : ∀ a w, K a w → K' a w) : o.wpIn F n P a w K' Q := by
  have hab : ∀ w, o.about P w a.eval = none := fun w => by
    unfold plainB at hp
    unfold Oper.about
    split at hp <;> (try cases hp) <;> rename_i e <;> simp only [e]
  have hd : ∀ c, o.op ≠ .defer c := fun c e => by unfold plainB at hp; rw [e] at hp; cases hp
  have hw : o.wp P a w K (Exit.then K0 (fun _ _ _ => False)) := by
    rcases h with h | ⟨_, a', w', h⟩
    · exact h
    · exact h.elim
  unfold Oper.wpIn
  refine ⟨fun f e => by (rw [hab] at e; cases e), ?_⟩
  rw [Oper.semAt_plain F _ _ hd]
  unfold Oper.wp at hw
  rcases plain_run (P := P) hp a.eval w with ⟨v, w', e⟩ | ⟨w', e⟩ | ⟨x, w', e⟩
  · rw [e] at hw ⊢; exact hk _ _ hw
  · rw [e] at hw ⊢; exact hk _ _ hw
  · rw [e] at hw ⊢
    cases x <;> exact hw.elim
theorem plain_anyIn {K0 : Act → World → Prop} {Q : Exit → Act → World → Prop} (hp : ∀ (i : Nat) (o : Oper), ops[i]? = some o → plainB o = true) : ∀ (fuel : Nat) (listed : Array Bool) (a : Act) (w : World),
    wpAny P md ops (Exit.then K0 (fun _ _ _ => False)) fuel listed a w → wpAnyIn F n P md ops (Exit.then K0 Q) fuel listed a w
  | 0, _, _, _, h => h
  | fuel + 1, listed, a, w, h => ⟨h.1, fun i hi => by
    have h1 := h.2 i hi
    unfold wpOp at h1
    unfold wpOpIn
    cases ho : ops[i]? with
    | none => rw [ho] at h1; exact plain_anyIn hp fuel _ _ _ h1
    | some o =>
      rw [ho] at h1
      have hpo := hp i o ho
      dsimp only at h1 ⊢
      split
      · rename_i hw
        rw [if_pos hw] at h1
        exact plain_wpIn hpo h1 (fun a w h => plain_anyIn hp fuel _ _ _ h)
      · rename_i hw
        rw [if_neg hw] at h1
        refine ⟨fun f e => ?_, plain_anyIn hp fuel _ _ _ h1⟩
        exfalso
        unfold plainB at hpo
        unfold Oper.about at e
        split at hpo <;> (try cases hpo) <;> rename_i e2 <;> simp only [e2] at e <;> cases e⟩
/-- A region without calls, inside a fence, by promises. -/
theorem wpIn_region_P {K0 : Act → World → Prop} {Q : Exit → Act → World → Prop} {id : Nat} {a : Act} {w : World} (R : List (Nat × (World → Prop))) (hm : P.follows .mixedOrders = true) (hp : ops.all plainB = true) (hS : Held R (Array.replicate ops.size false) w.drew)
    (h : Held R (Array.replicate ops.size false) w.drew → wpAnyP P .any ops (Exit.then K0 (fun _ _ _ => False)) R ops.size (Array.replicate ops.size false) a w.drew) : (Code.region id ops true).wpIn F n P (Exit.then K0 Q) a w :=
  wpIn_region_any hm (plain_anyIn (fun i o ho => by
    obtain ⟨hi, rfl⟩ := Array.getElem?_eq_some_iff.1 ho
    exact Array.all_eq_true.1 hp i hi) _ _ _ _ (wpAny_of_P _ _ _ _ (h hS)))
end
end Go.Proofs.Ytnphanhoakbkpaa.Pr
