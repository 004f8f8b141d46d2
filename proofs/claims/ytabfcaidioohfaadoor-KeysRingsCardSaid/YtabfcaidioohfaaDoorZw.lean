/- Joined: A slice of structs that came in: every element's cells; the answers of layer 14. | Steps of a region whose last store hits what it loads, in short words. | A secret's cells within a greater block; a run of cells stored. -/
import Derived.Test.YtabfcaidioohfaaDoorRows
import Derived.Test.YtabfcaidioohfaaDoorZp
import Derived.Deep.Slices
import Derived.Deep.Fields
import Derived.ChangeSame
import Derived.OpenShut
import Derived.Deep.RegionHeld3
import Derived.WalkKit
import Derived.Test.YtabfcaidioohfaaDoorZa
import Derived.Test.YtabfcaidioohfaaDoorZs
import Derived.Test.YtabfcaidioohfaaDoorZu
import Derived.Test.YtabfcaidioohfaaDoorZk
import Derived.Great.Walk
import Derived.OwnWalkIn
import Derived.LoopN
import Derived.LoopIn
import Derived.WalkSpells
import Derived.WalkLawsBesides
import Derived.Laws.Rows
import Derived.Laws.CopyOwn
import Derived.Handy
import Derived.BigQuiet
import Derived.Deep.QuietTactic
import Derived.Deep.MidRow
import Derived.IntWalk
import Derived.Lib.Hide
import Derived.Test.YtabfcaidioohfaaDoorZl
import Derived.Test.YtabfcaidioohfaaDoorZh
namespace Go.Proofs.YtabfcaidioohfaaDoor
set_option maxRecDepth 100000
open Go.ChangeShapes Go.WideShapes Go.Deep Go.RowKit
set_option linter.unusedVariables false
/-- A list out of what each place has. -/
theorem list_of {α : Type} [Inhabited α] (R : Nat → α → Prop) : ∀ n : Nat, (∀ i, i < n → ∃ a, R i a) → ∃ l : List α, l.length = n ∧ ∀ i, i < n → R i (l.getD i default)
 | 0, _ => ⟨[], rfl, fun i h => absurd h (by omega)⟩
 | n + 1, h => by
  obtain ⟨l, hl, hr⟩ := list_of R n fun i hi => h i (by omega)
  obtain ⟨a, ha⟩ := h n (by omega)
  refine ⟨l ++ [a], by simp [hl], fun i hi => ?_⟩
  by_cases hin : i < n
  ·have := hr i hin
   rwa [List.getD_eq_getElem?_getD, List.getElem?_append_left (by omega), ← List.getD_eq_getElem?_getD]
  ·obtain rfl : i = n := by omega
   rw [List.getD_eq_getElem?_getD, ← hl, List.getElem?_concat_length]
   rw [hl]; exact ha
theorem add_none (b off n : Nat) : (⟨b, off, none⟩ : Addr).add n = ⟨b, off + n, none⟩ := by
 unfold Addr.add
 by_cases h : n = 0
 ·subst h; simp
 ·simp [h]
section
variable {H : Type} {enc : TypeId × Value → H} {P : Program} {w : World} {base : Nat} {spare : Nat → Bool} {held : Bool}
theorem rows_open {t e : TypeId} {fs : Array Field} {fuel n c : Nat} {A : Option Addr} {x : DataW H × List MemPlace} (ht : P.underlying t = some (.slice e)) (he : P.underlying e = some (.struct fs))
  (hone : oneCellFields P fs = true) (hC : P.cellsOf e = fs.size) (hpos : 0 < fs.size) (h : DataW.trod enc P w base spare held fuel t [.slice A n c] = some x) :
  n ≤ c ∧ c ≤ maxLen ∧ (0 < n → ∃ b off, A = some ⟨b, off, none⟩ ∧ b < w.heap.size ∧
   ∀ i j f, i < n → fs[j]? = some f → ∃ (v : Value) (y : DataW H × List MemPlace) (m : Nat), w.cell? ⟨b, off + i * fs.size + j, none⟩ = some v ∧ DataW.trod enc P w base spare held m f.type [v] = some y) := by
 rcases open_slice ht h with ⟨h0, _⟩ | ⟨a, len, cap, m, n', D, Pl, hcs, hb, hl, hm, hmm, _, hi⟩
 ·simp only [List.cons.injEq, Value.slice.injEq, and_true] at h0
  obtain ⟨rfl, rfl, rfl⟩ := h0
  exact ⟨Nat.le_refl _, Nat.zero_le _, fun h => absurd h (by omega)⟩
 ·simp only [List.cons.injEq, Value.slice.injEq, and_true] at hcs
  obtain ⟨rfl, rfl, rfl⟩ := hcs
  refine ⟨hl, hm, fun hn => ?_⟩
  have hnm : n ≤ m := by rw [hmm]; split <;> omega
  have key : ∀ i j f, i < n → fs[j]? = some f → ∃ (v : Value) (y : DataW H × List MemPlace) (m : Nat), w.cell? (a.add (i * fs.size + j)) = some v ∧ DataW.trod enc P w base spare held m f.type [v] = some y := by
   intro i j f hin hf
   obtain ⟨cs', hc, ht'⟩ := hi i (by omega)
   rw [hC] at hc
   obtain ⟨ys, m', _, _, hlen, hyl, hg⟩ := DataW.trod_struct he ht'
   obtain ⟨_, hcl, hat⟩ := World.cells?_some hc
   obtain ⟨ho, hk⟩ := hone_of hone j f hf
   have hjl : j < fs.size := (Array.getElem?_eq_some_iff.1 hf).1
   have h1 := hg j f hf
   rw [ho, hk] at h1
   have hjc : j < cs'.length := by omega
   rw [List.drop_eq_getElem_cons hjc] at h1
   have hy : ys[j]? = some (ys[j]'(by omega)) := List.getElem?_eq_getElem (by omega)
   refine ⟨cs'[j], _, m', ?_, (h1.trans hy : _)⟩
   rw [← Go.Deep.add_add, hat j hjl, List.getElem?_eq_getElem hjc]
  obtain ⟨b, off, spot⟩ := a
  obtain ⟨f0, hf0⟩ : ∃ f, fs[0]? = some f := ⟨fs[0], Array.getElem?_eq_getElem hpos⟩
  obtain ⟨v0, _, _, h0, _⟩ := key 0 0 f0 hn hf0
  have hspot : spot = none := by simpa [Addr.add] using World.cell?_spot h0
  subst hspot
  refine ⟨b, off, rfl, by simpa [Addr.add] using World.block_lt_of_cell? _ _ h0, fun i j f hin hf => ?_⟩
  obtain ⟨v, y, m', hv, hy⟩ := key i j f hin hf
  refine ⟨v, y, m', ?_, hy⟩
  rw [add_none] at hv
  rw [show off + i * fs.size + j = off + (i * fs.size + j) by omega]
  exact hv
end
end Go.Proofs.YtabfcaidioohfaaDoor
namespace Go.Proofs.YtabfcaidioohfaaDoor
set_option maxRecDepth 100000
open Go Go.RowKit
section
variable {P : Program} {md : Region.Mode} {ops : Array Oper} {Q : Exit → Act → World → Prop} {S : World → Prop} {T : Nat}
theorem tkT (i : Nat) {oi : Oper} {v : Value} {fuel : Nat} {listed l' : Array Bool} {a a' : Act} {w : World}
  (h : wpAnyT P md ops Q S T fuel l' a' w)
  (hi : ops[i]? = some oi := by (simp only [List.getElem?_toArray, List.getElem?_cons_zero, List.getElem?_cons_succ]; rfl))
  (hs : Region.noSelect ops = true := by kernel_rfl) (hf : Region.free md ops listed i = true := by kernel_rfl) (hr : (Region.ready md ops listed).contains i = true := by kernel_rfl) (hT : Region.waitsFor md ops T i = true := by kernel_rfl)
  (hQ : ∀ c a w, Q (.panic c) (a.put oi.dst v) w → Q (.panic c) a w := by exact fun _ _ _ h => h)
  (hy : YieldsIf P ops S oi v a := by
   refine Or.inl ⟨by rfl, ?_⟩
   intro w hSw
   (try dsimp only at hSw)
   go_simp
   all_goals with_reducible rfl)
  (ha : a.put oi.dst v = a' := by ((try simp only [Act.put, List.setIfInBounds_toArray, List.set_cons_zero, List.set_cons_succ]); exact rfl))
  (hl : listed.setIfInBounds i true = l' := by ((try simp only [List.setIfInBounds_toArray, List.set_cons_zero, List.set_cons_succ]); exact rfl))
  (hS : S w := by assumption) : wpAnyT P md ops Q S T (fuel + 1) listed a w := by
 subst ha; subst hl
 exact wpAnyT_take hi hs hf hr hT hQ hy hS h
theorem onT (i : Nat) {o : Oper} {fuel : Nat} {listed : Array Bool} {a : Act} {w : World}
  (h : ∀ K' : Act → World → Prop, Shut (∀ a w, S w → (S w → wpAnyT P md ops Q S T fuel (listed.setIfInBounds i true) a w) → K' a w) → if Region.wanted o (yielded ops a.tmps) = true then Oper.wp P o a w K' Q else K' (a.put o.dst undef) w)
  (ho : ops[i]? = some o := by (simp only [List.getElem?_toArray, List.getElem?_cons_zero, List.getElem?_cons_succ]; rfl))
  (hr : Region.ready md ops listed = [i] := by kernel_rfl) : wpAnyT P md ops Q S T (fuel + 1) listed a w := wpAnyT_one hr ho h
theorem laT {o : Oper} {fuel : Nat} {listed : Array Bool} {a : Act} {w : World}
  (h : ∀ K' : Act → World → Prop, Shut (∀ a w, wpAnyT P md ops Q S T fuel (listed.setIfInBounds T true) a w → K' a w) → if Region.wanted o (yielded ops a.tmps) = true then Oper.wp P o a w K' Q else K' (a.put o.dst undef) w)
  (ho : ops[T]? = some o := by (simp only [List.getElem?_toArray, List.getElem?_cons_zero, List.getElem?_cons_succ]; rfl))
  (hr : Region.ready md ops listed = [T] := by kernel_rfl) : wpAnyT P md ops Q S T (fuel + 1) listed a w := wpAnyT_last hr ho h
/-- T waits for number i by way of others (K). -/
def farT (md : Region.Mode) (ops : Array Oper) (K : List Nat) (i T : Nat) : Bool := K.all (fun k => (i :: K).any fun k' => Region.waitsFor md ops k k') && K.any fun k => Region.waitsFor md ops T k
theorem waits_nr {j k : Nat} {listed : Array Bool} (hw : Region.waitsFor md ops j k = true) (hk : listed.getD k true = false) : j ∉ Region.ready md ops listed := fun hj => by
 obtain ⟨oT, hoT, e, heT, hbT, honT⟩ := Region.waitsFor_spec hw
 obtain ⟨_, oj', hoj', hall⟩ := mem_ready.1 hj
 obtain rfl : oj' = oT := Option.some.inj (hoj'.symm.trans hoT)
 have h1 := hall e heT hbT
 rw [honT, getD_both hk] at h1
 cases h1
theorem far_nr {K : List Nat} {i : Nat} {listed : Array Bool} (hF : farT md ops K i T = true) (hu : ∀ k ∈ K, listed.getD k true = false) (hi : listed.getD i true = false) {j : Nat} (hj : j ∈ Region.ready md ops listed) : j ∉ K ∧ j ≠ T := by
 unfold farT at hF
 rw [Bool.and_eq_true, List.all_eq_true, List.any_eq_true] at hF
 refine ⟨fun hjK => ?_, ?_⟩
 ·obtain ⟨k', hk', hw⟩ := List.any_eq_true.1 (hF.1 j hjK)
  refine waits_nr hw ?_ hj
  rcases List.mem_cons.1 hk' with rfl | h
  ·exact hi
  ·exact hu k' h
 ·rintro rfl
  obtain ⟨k, hk, hw⟩ := hF.2
  exact waits_nr hw (hu k hk) hj
theorem wpAnyT_firstF {i : Nat} {oi : Oper} {v : Value} (hi : ops[i]? = some oi) (hsel : ∀ (j : Nat) (o : Oper) cs b, ops[j]? = some o → o.op ≠ .select cs b) (K : List Nat) (hF : farT md ops K i T = true)
  (hQ : ∀ c a w, Q (.panic c) (a.put oi.dst v) w → Q (.panic c) a w) (fuel : Nat) :
  ∀ (listed : Array Bool) (a : Act) (w : World), (∀ k ∈ K, listed.getD k true = false) → Lone md ops i oi listed → i ∈ Region.ready md ops listed → YieldsIf P ops S oi v a → S w →
   wpAnyT P md ops Q S T fuel (listed.setIfInBounds i true) (a.put oi.dst v) w → wpAnyT P md ops Q S T (fuel + 1) listed a w := by
 induction fuel with
 | zero =>
  intro listed a w _ _ hr hy hS H
  constructor
  ·intro h; rw [h] at hr; cases hr
  ·intro j hj
   rcases Nat.decEq j i with hji | rfl
   ·have h0 := ready_mono hj hji; rw [H.1] at h0; cases h0
   ·exact hy.wpOp hi hS ⟨fun _ => hS, H⟩
 | succ fuel ih =>
  intro listed a w hu hL hr hy hS H
  constructor
  ·intro h; rw [h] at hr; cases hr
  ·intro j hj
   rcases Nat.decEq j i with hji | rfl
   ·obtain ⟨hjun, oj, hoj, _⟩ := mem_ready.1 hj
    have hno := unready hr hj hoj
    obtain ⟨hjK, hjT⟩ := far_nr hF hu (mem_ready.1 hr).1 hj
    have hstep := wpOp_putIf hoj (hL j oj hoj hji hjun hno) (fun cs b => hsel i oi cs b hi) (fun cs b => hsel j oj cs b hoj) hQ hy (H.2 j (ready_mono hj hji))
    refine wpOp_mono ?_ hstep
    rintro a' w' ⟨hy', hS', hR⟩
    refine ⟨hS', ih _ a' w' (fun k hk => ?_) (hL.set hjun) (ready_mono hr (Ne.symm hji)) hy' (hS' hjT) ?_⟩
    ·rw [getD_set_ne true (show j ≠ k from fun e => hjK (by rw [e]; exact hk))]; exact hu k hk
    ·rwa [Array.setIfInBounds_comm _ _ hji]
   ·exact hy.wpOp hi hS ⟨fun _ => hS, H⟩
theorem tkF (i : Nat) (K : List Nat) {oi : Oper} {v : Value} {fuel : Nat} {listed l' : Array Bool} {a a' : Act} {w : World}
  (h : wpAnyT P md ops Q S T fuel l' a' w)
  (hi : ops[i]? = some oi := by (simp only [List.getElem?_toArray, List.getElem?_cons_zero, List.getElem?_cons_succ]; rfl))
  (hs : Region.noSelect ops = true := by kernel_rfl) (hf : Region.free md ops listed i = true := by kernel_rfl) (hr : (Region.ready md ops listed).contains i = true := by kernel_rfl) (hT : farT md ops K i T = true := by kernel_rfl)
  (hu : K.all (fun k => !listed.getD k true) = true := by kernel_rfl)
  (hQ : ∀ c a w, Q (.panic c) (a.put oi.dst v) w → Q (.panic c) a w := by exact fun _ _ _ h => h)
  (hy : YieldsIf P ops S oi v a := by
   refine Or.inl ⟨by rfl, ?_⟩
   intro w hSw
   (try dsimp only at hSw)
   go_simp
   all_goals with_reducible rfl)
  (ha : a.put oi.dst v = a' := by ((try simp only [Act.put, List.setIfInBounds_toArray, List.set_cons_zero, List.set_cons_succ]); exact rfl))
  (hl : listed.setIfInBounds i true = l' := by ((try simp only [List.setIfInBounds_toArray, List.set_cons_zero, List.set_cons_succ]); exact rfl))
  (hS : S w := by assumption) : wpAnyT P md ops Q S T (fuel + 1) listed a w := by
 subst ha; subst hl
 exact wpAnyT_firstF hi (Region.noSelect_spec hs) K hT hQ fuel listed a w (fun k hk => by have := List.all_eq_true.1 hu k hk; simpa using this) (Region.free_spec hi hf) (by simpa using hr) hy hS h
end
end Go.Proofs.YtabfcaidioohfaaDoor
namespace Go.Proofs.YtabfcaidioohfaaDoor
open Go Go.RowKit Go.Shelf
set_option linter.unusedVariables false
set_option linter.unusedSimpArgs false
set_option maxRecDepth 100000
/-- A secret's cells. -/
def secL (s : Ky.Sec) : List Value := s.l.map u8v ++ [.bool s.ph]
theorem secL_len {s : Ky.Sec} (h : s.Ok) : (secL s).length = 61 := by unfold secL; rw [List.length_append, List.length_map, h.len]; rfl
theorem secL_arr (s : Ky.Sec) : (secL s).toArray = secV s := rfl
theorem secV_list (s : Ky.Sec) : (secV s).toList = secL s := rfl
theorem sizeSecL {s : Ky.Sec} (h : s.Ok) : (Tryd.prog.info? 29).map (·.size) = some (secL s).length := by rw [secL_len h]; exact infoSec
theorem rowS_kept {V V' : World} {base n size : Nat} {t : TypeId} {v : Value} {xs : List Value} (h : V.ownsRow base t size v n xs) (hb : Below V.heap.size V V') : V'.ownsRow base t size v n xs := by
 refine ⟨h.1, ?_⟩
 rcases h.2 with h0 | ⟨g, cap, cur, e, hb1, hg1, h3⟩
 ·exact .inl h0
 ·exact .inr ⟨g, cap, cur, e, hb1, (hb.block g (Array.getElem?_eq_some_iff.1 hg1).1).trans hg1, h3⟩
theorem obj_setCells {b : Nat} {t : TypeId} : ∀ (vs : List Value) (o : Nat) (V : World) (cs : Array Value), Obj V b t cs → ∃ cs', Obj (V.setCells b o vs) b t cs' ∧ cs'.size = cs.size
 | [], _, _, cs, h => ⟨cs, h, rfl⟩
 | v :: r, o, V, cs, h => by
  rw [World.setCells]
  obtain ⟨cs', h1, h2⟩ := obj_setCells r (o + 1) _ _ (h.set o v)
  exact ⟨cs', h1, by rw [h2, Array.size_setIfInBounds]⟩
theorem upd_setCells {b : Nat} {V0 : World} : ∀ (vs : List Value) (o : Nat) (V : World), Upd b V0 V → Upd b V0 (V.setCells b o vs)
 | [], _, _, h => h
 | v :: r, o, V, h => by
  rw [World.setCells]
  exact upd_setCells r (o + 1) _ (h.set o v)
/-- Another block turns, which is no secret's: the ring stays. -/
theorem RgP.updN {R g : Nat} {r : Ky.Rg} {V V' : World} {u : TypeId} {ds : Array Value} (h : RgP R r V) (hu : Upd g V V') (hg : Obj V g u ds) (h1 : R ≠ g) (h2 : ds.size ≠ 61) : RgP R r V' := by
 obtain ⟨ok, a0, b0, a1, b1, c1, h⟩ := h
 have key : ∀ {a : Nat} {s : Ky.Sec}, s.Ok → Obj V a 29 (secV s) → Obj V' a 29 (secV s) := fun {a s} hs ha => ha.upd hu (by
  rintro rfl
  have := ha.symm.trans hg
  cases this
  exact h2 (secV_size hs))
 exact ⟨ok, a0, b0, a1, b1, c1, h.o.upd hu h1, fun e => key ok.o0 (h.ka0 e), fun e => key ok.p0 (h.kb0 e), fun e => key ok.o1 (h.ka1 e), fun e => key ok.p1 (h.kb1 e), fun e => key ok.q (h.kc1 e)⟩
end Go.Proofs.YtabfcaidioohfaaDoor
