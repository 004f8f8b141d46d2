/- Steps of a region whose last store hits what it loads, in short words. -/
import Derived.Deep.RegionHeld3
import Derived.WalkKit
import Derived.Test.YtlldomgfjmkcdaaAid
import Derived.Test.YtlldomgfjmkcdaaHeldT
import Derived.Test.YtlldomgfjmkcdaaTk
namespace Go.Proofs.Ytlldomgfjmkcdaa
open Go Go.RowKit
section
variable {P : Program} {md : Region.Mode} {ops : Array Oper} {Q : Exit → Act → World → Prop} {S : World → Prop} {T : Nat}
theorem tkT (i : Nat) {oi : Oper} {v : Value} {fuel : Nat} {listed l' : Array Bool} {a a' : Act} {w : World}
    (h : wpAnyT P md ops Q S T fuel l' a' w)
    (hi : ops[i]? = some oi := by (simp only [List.getElem?_toArray, List.getElem?_cons_zero, List.getElem?_cons_succ]; rfl))
    (hs : Region.noSelect ops = true := by kernel_rfl) (hf : Region.free md ops listed i = true := by kernel_rfl) (hr : (Region.ready md ops listed).contains i = true := by kernel_rfl) (hT : Region.waitsFor md ops T i = true := by kernel_rfl)
    (hQ : ∀ c a w, Q (.panic c) (a.put oi.dst v) w → Q (.panic c) a w := by exact fun _ _ _ h => h)
    (hy : YieldsIf P ops S oi v a := by
      refine Or.inl ⟨by rfl, ?_⟩
      intro w hSw
      (try dsimp only at hSw)
      go_simp
      all_goals with_reducible rfl)
    (ha : a.put oi.dst v = a' := by ((try simp only [Act.put, List.setIfInBounds_toArray, List.set_cons_zero, List.set_cons_succ]); exact rfl))
    (hl : listed.setIfInBounds i true = l' := by ((try simp only [List.setIfInBounds_toArray, List.set_cons_zero, List.set_cons_succ]); exact rfl))
    (hS : S w := by assumption) : wpAnyT P md ops Q S T (fuel + 1) listed a w := by
  subst ha; subst hl
  exact wpAnyT_take hi hs hf hr hT hQ hy hS h
theorem onT (i : Nat) {o : Oper} {fuel : Nat} {listed : Array Bool} {a : Act} {w : World}
    (h : ∀ K' : Act → World → Prop, Shut (∀ a w, S w → (S w → wpAnyT P md ops Q S T fuel (listed.setIfInBounds i true) a w) → K' a w) → if Region.wanted o (yielded ops a.tmps) = true then Oper.wp P o a w K' Q else K' (a.put o.dst undef) w)
    (ho : ops[i]? = some o := by (simp only [List.getElem?_toArray, List.getElem?_cons_zero, List.getElem?_cons_succ]; rfl))
    (hr : Region.ready md ops listed = [i] := by kernel_rfl) : wpAnyT P md ops Q S T (fuel + 1) listed a w := wpAnyT_one hr ho h
theorem laT {o : Oper} {fuel : Nat} {listed : Array Bool} {a : Act} {w : World}
    (h : ∀ K' : Act → World → Prop, Shut (∀ a w, wpAnyT P md ops Q S T fuel (listed.setIfInBounds T true) a w → K' a w) → if Region.wanted o (yielded ops a.tmps) = true then Oper.wp P o a w K' Q else K' (a.put o.dst undef) w)
    (ho : ops[T]? = some o := by (simp only [List.getElem?_toArray, List.getElem?_cons_zero, List.getElem?_cons_succ]; rfl))
    (hr : Region.ready md ops listed = [T] := by kernel_rfl) : wpAnyT P md ops Q S T (fuel + 1) listed a w := wpAnyT_last hr ho h
/-- T waits for number i by way of others (K). -/
def farT (md : Region.Mode) (ops : Array Oper) (K : List Nat) (i T : Nat) : Bool := K.all (fun k => (i :: K).any fun k' => Region.waitsFor md ops k k') && K.any fun k => Region.waitsFor md ops T k
theorem waits_nr {j k : Nat} {listed : Array Bool} (hw : Region.waitsFor md ops j k = true) (hk : listed.getD k true = false) : j ∉ Region.ready md ops listed := fun hj => by
  obtain ⟨oT, hoT, e, heT, hbT, honT⟩ := Region.waitsFor_spec hw
  obtain ⟨_, oj', hoj', hall⟩ := mem_ready.1 hj
  obtain rfl : oj' = oT := Option.some.inj (hoj'.symm.trans hoT)
  have h1 := hall e heT hbT
  rw [honT, getD_both hk] at h1
  cases h1
theorem far_nr {K : List Nat} {i : Nat} {listed : Array Bool} (hF : farT md ops K i T = true) (hu : ∀ k ∈ K, listed.getD k true = false) (hi : listed.getD i true = false) {j : Nat} (hj : j ∈ Region.ready md ops listed) : j ∉ K ∧ j ≠ T := by
  unfold farT at hF
  rw [Bool.and_eq_true, List.all_eq_true, List.any_eq_true] at hF
  refine ⟨fun hjK => ?_, ?_⟩
  · obtain ⟨k', hk', hw⟩ := List.any_eq_true.1 (hF.1 j hjK)
    refine waits_nr hw ?_ hj
    rcases List.mem_cons.1 hk' with rfl | h
    · exact hi
    · exact hu k' h
  · rintro rfl
    obtain ⟨k, hk, hw⟩ := hF.2
    exact waits_nr hw (hu k hk) hj
theorem wpAnyT_firstF {i : Nat} {oi : Oper} {v : Value} (hi : ops[i]? = some oi) (hsel : ∀ (j : Nat) (o : Oper) cs b, ops[j]? = some o → o.op ≠ .select cs b) (K : List Nat) (hF : farT md ops K i T = true)
    (hQ : ∀ c a w, Q (.panic c) (a.put oi.dst v) w → Q (.panic c) a w) (fuel : Nat) :
    ∀ (listed : Array Bool) (a : Act) (w : World), (∀ k ∈ K, listed.getD k true = false) → Lone md ops i oi listed → i ∈ Region.ready md ops listed → YieldsIf P ops S oi v a → S w →
      wpAnyT P md ops Q S T fuel (listed.setIfInBounds i true) (a.put oi.dst v) w → wpAnyT P md ops Q S T (fuel + 1) listed a w := by
  induction fuel with
  | zero =>
    intro listed a w _ _ hr hy hS H
    constructor
    · intro h; rw [h] at hr; cases hr
    · intro j hj
      rcases Nat.decEq j i with hji | rfl
      · have h0 := ready_mono hj hji; rw [H.1] at h0; cases h0
      · exact hy.wpOp hi hS ⟨fun _ => hS, H⟩
  | succ fuel ih =>
    intro listed a w hu hL hr hy hS H
    constructor
    · intro h; rw [h] at hr; cases hr
    · intro j hj
      rcases Nat.decEq j i with hji | rfl
      · obtain ⟨hjun, oj, hoj, _⟩ := mem_ready.1 hj
        have hno := unready hr hj hoj
        obtain ⟨hjK, hjT⟩ := far_nr hF hu (mem_ready.1 hr).1 hj
        have hstep := wpOp_putIf hoj (hL j oj hoj hji hjun hno) (fun cs b => hsel i oi cs b hi) (fun cs b => hsel j oj cs b hoj) hQ hy (H.2 j (ready_mono hj hji))
        refine wpOp_mono ?_ hstep
        rintro a' w' ⟨hy', hS', hR⟩
        refine ⟨hS', ih _ a' w' (fun k hk => ?_) (hL.set hjun) (ready_mono hr (Ne.symm hji)) hy' (hS' hjT) ?_⟩
        · rw [getD_set_ne true (show j ≠ k from fun e => hjK (by rw [e]; exact hk))]; exact hu k hk
        · rwa [Array.setIfInBounds_comm _ _ hji]
      · exact hy.wpOp hi hS ⟨fun _ => hS, H⟩
theorem tkF (i : Nat) (K : List Nat) {oi : Oper} {v : Value} {fuel : Nat} {listed l' : Array Bool} {a a' : Act} {w : World}
    (h : wpAnyT P md ops Q S T fuel l' a' w)
    (hi : ops[i]? = some oi := by (simp only [List.getElem?_toArray, List.getElem?_cons_zero, List.getElem?_cons_succ]; rfl))
    (hs : Region.noSelect ops = true := by kernel_rfl) (hf : Region.free md ops listed i = true := by kernel_rfl) (hr : (Region.ready md ops listed).contains i = true := by kernel_rfl) (hT : farT md ops K i T = true := by kernel_rfl)
    (hu : K.all (fun k => !listed.getD k true) = true := by kernel_rfl)
    (hQ : ∀ c a w, Q (.panic c) (a.put oi.dst v) w → Q (.panic c) a w := by exact fun _ _ _ h => h)
    (hy : YieldsIf P ops S oi v a := by
      refine Or.inl ⟨by rfl, ?_⟩
      intro w hSw
      (try dsimp only at hSw)
      go_simp
      all_goals with_reducible rfl)
    (ha : a.put oi.dst v = a' := by ((try simp only [Act.put, List.setIfInBounds_toArray, List.set_cons_zero, List.set_cons_succ]); exact rfl))
    (hl : listed.setIfInBounds i true = l' := by ((try simp only [List.setIfInBounds_toArray, List.set_cons_zero, List.set_cons_succ]); exact rfl))
    (hS : S w := by assumption) : wpAnyT P md ops Q S T (fuel + 1) listed a w := by
  subst ha; subst hl
  exact wpAnyT_firstF hi (Region.noSelect_spec hs) K hT hQ fuel listed a w (fun k hk => by have := List.all_eq_true.1 hu k hk; simpa using this) (Region.free_spec hi hf) (by simpa using hr) hy hS h
end
end Go.Proofs.Ytlldomgfjmkcdaa
