/- Joined: A slice of structs that came in: every element's cells; the answers of layer 14. | Steps of a region whose last store hits what it loads, in short words. | Layer 10: two rings that go in step, plain, and how they lie beside what they sealed by. | Layer 10: KeysAcross, walked. -/
import Derived.Test.YtabfcaidioohfaaDoorRows
import Derived.Test.YtabfcaidioohfaaDoorZp
import Derived.Deep.Slices
import Derived.Deep.Fields
import Derived.ChangeSame
import Derived.OpenShut
import Derived.Deep.RegionHeld3
import Derived.WalkKit
import Derived.Test.YtabfcaidioohfaaDoorZa
import Derived.Test.YtabfcaidioohfaaDoorZs
import Derived.Test.YtabfcaidioohfaaDoorZu
import Derived.Test.YtabfcaidioohfaaDoorZk
import Derived.Great.Walk
import Derived.OwnWalkIn
import Derived.LoopN
import Derived.LoopIn
import Derived.WalkSpells
import Derived.WalkLawsBesides
import Derived.Laws.Rows
import Derived.Laws.CopyOwn
import Derived.Handy
import Derived.BigQuiet
import Derived.Deep.QuietTactic
import Derived.Deep.MidRow
import Derived.IntWalk
import Derived.Lib.Hide
import Derived.Test.YtabfcaidioohfaaDoorZl
import Derived.Test.YtabfcaidioohfaaDoorZh
import Derived.Great.BuildSlice
import Derived.Great.FillDense
import Derived.Test.YtabfcaidioohfaaDoorZg
import Derived.Deep.CutBlock
import Derived.Deep.DeepCutAuto
import Derived.Deep.LoopGhost
namespace Go.Proofs.YtabfcaidioohfaaDoor
open List (getElem?_toArray getElem?_cons_zero getElem?_cons_succ setIfInBounds_toArray set_cons_zero set_cons_succ)
set_option maxRecDepth 100000
open Go.ChangeShapes Go.WideShapes Go.Deep Go.RowKit
set_option linter.unusedVariables false
/-- A list out of what each place has. -/
theorem list_of {α : Type} [Inhabited α] (R : Nat → α → Prop) : ∀ n : Nat, (∀ i, i < n → ∃ a, R i a) → ∃ l : List α, l.length = n ∧ ∀ i, i < n → R i (l.getD i default)
 | 0, _ => ⟨[], rfl, fun i h => absurd h (by omega)⟩
 | n + 1, h => by
  obtain ⟨l, hl, hr⟩ := list_of R n fun i hi => h i (by omega)
  obtain ⟨a, ha⟩ := h n (by omega)
  refine ⟨l ++ [a], by simp [hl], fun i hi => ?_⟩
  by_cases hin : i < n
  ·have := hr i hin
   rwa [List.getD_eq_getElem?_getD, List.getElem?_append_left (by omega), ← List.getD_eq_getElem?_getD]
  ·obtain rfl : i = n := by omega
   rw [List.getD_eq_getElem?_getD, ← hl, List.getElem?_concat_length]
   rw [hl]; exact ha
theorem add_none (b off n : Nat) : (⟨b, off, none⟩ : Addr).add n = ⟨b, off + n, none⟩ := by
 unfold Addr.add
 by_cases h : n = 0
 ·subst h; simp
 ·simp [h]
section
variable {H : Type} {enc : TypeId × Value → H} {P : Program} {w : World} {base : Nat} {spare : Nat → Bool} {held : Bool}
theorem rows_open {t e : TypeId} {fs : Array Field} {fuel n c : Nat} {A : Option Addr} {x : DataW H × List MemPlace} (ht : P.underlying t = some (.slice e)) (he : P.underlying e = some (.struct fs))
  (hone : oneCellFields P fs = true) (hC : P.cellsOf e = fs.size) (hpos : 0 < fs.size) (h : DataW.trod enc P w base spare held fuel t [.slice A n c] = some x) :
  n ≤ c ∧ c ≤ maxLen ∧ (0 < n → ∃ b off, A = some ⟨b, off, none⟩ ∧ b < w.heap.size ∧
   ∀ i j f, i < n → fs[j]? = some f → ∃ (v : Value) (y : DataW H × List MemPlace) (m : Nat), w.cell? ⟨b, off + i * fs.size + j, none⟩ = some v ∧ DataW.trod enc P w base spare held m f.type [v] = some y) := by
 rcases open_slice ht h with ⟨h0, _⟩ | ⟨a, len, cap, m, n', D, Pl, hcs, hb, hl, hm, hmm, _, hi⟩
 ·simp only [List.cons.injEq, Value.slice.injEq, and_true] at h0
  obtain ⟨rfl, rfl, rfl⟩ := h0
  exact ⟨Nat.le_refl _, Nat.zero_le _, fun h => absurd h (by omega)⟩
 ·simp only [List.cons.injEq, Value.slice.injEq, and_true] at hcs
  obtain ⟨rfl, rfl, rfl⟩ := hcs
  refine ⟨hl, hm, fun hn => ?_⟩
  have hnm : n ≤ m := by rw [hmm]; split <;> omega
  have key : ∀ i j f, i < n → fs[j]? = some f → ∃ (v : Value) (y : DataW H × List MemPlace) (m : Nat), w.cell? (a.add (i * fs.size + j)) = some v ∧ DataW.trod enc P w base spare held m f.type [v] = some y := by
   intro i j f hin hf
   obtain ⟨cs', hc, ht'⟩ := hi i (by omega)
   rw [hC] at hc
   obtain ⟨ys, m', _, _, hlen, hyl, hg⟩ := DataW.trod_struct he ht'
   obtain ⟨_, hcl, hat⟩ := World.cells?_some hc
   obtain ⟨ho, hk⟩ := hone_of hone j f hf
   have hjl : j < fs.size := (Array.getElem?_eq_some_iff.1 hf).1
   have h1 := hg j f hf
   rw [ho, hk] at h1
   have hjc : j < cs'.length := by omega
   rw [List.drop_eq_getElem_cons hjc] at h1
   have hy : ys[j]? = some (ys[j]'(by omega)) := List.getElem?_eq_getElem (by omega)
   refine ⟨cs'[j], _, m', ?_, (h1.trans hy : _)⟩
   rw [← Go.Deep.add_add, hat j hjl, List.getElem?_eq_getElem hjc]
  obtain ⟨b, off, spot⟩ := a
  obtain ⟨f0, hf0⟩ : ∃ f, fs[0]? = some f := ⟨fs[0], Array.getElem?_eq_getElem hpos⟩
  obtain ⟨v0, _, _, h0, _⟩ := key 0 0 f0 hn hf0
  have hspot : spot = none := by simpa [Addr.add] using World.cell?_spot h0
  subst hspot
  refine ⟨b, off, rfl, by simpa [Addr.add] using World.block_lt_of_cell? _ _ h0, fun i j f hin hf => ?_⟩
  obtain ⟨v, y, m', hv, hy⟩ := key i j f hin hf
  refine ⟨v, y, m', ?_, hy⟩
  rw [add_none] at hv
  rw [show off + i * fs.size + j = off + (i * fs.size + j) by omega]
  exact hv
end
end Go.Proofs.YtabfcaidioohfaaDoor
namespace Go.Proofs.YtabfcaidioohfaaDoor
open List (getElem?_toArray getElem?_cons_zero getElem?_cons_succ setIfInBounds_toArray set_cons_zero set_cons_succ)
set_option maxRecDepth 100000
open Go Go.RowKit
section
variable {P : Program} {md : Region.Mode} {ops : Array Oper} {Q : Exit → Act → World → Prop} {S : World → Prop} {T : Nat}
theorem tkT (i : Nat) {oi : Oper} {v : Value} {fuel : Nat} {listed l' : Array Bool} {a a' : Act} {w : World}
  (h : wpAnyT P md ops Q S T fuel l' a' w)
  (hi : ops[i]? = some oi := by (simp only [getElem?_toArray, getElem?_cons_zero, getElem?_cons_succ]; rfl))
  (hs : Region.noSelect ops = true := by kernel_rfl) (hf : Region.free md ops listed i = true := by kernel_rfl) (hr : (Region.ready md ops listed).contains i = true := by kernel_rfl) (hT : Region.waitsFor md ops T i = true := by kernel_rfl)
  (hQ : ∀ c a w, Q (.panic c) (a.put oi.dst v) w → Q (.panic c) a w := by exact fun _ _ _ h => h)
  (hy : YieldsIf P ops S oi v a := by
   refine Or.inl ⟨by rfl, ?_⟩
   intro w hSw
   (try dsimp only at hSw)
   go_simp
   all_goals with_reducible rfl)
  (ha : a.put oi.dst v = a' := by ((try simp only [Act.put, setIfInBounds_toArray, set_cons_zero, set_cons_succ]); exact rfl))
  (hl : listed.setIfInBounds i true = l' := by ((try simp only [setIfInBounds_toArray, set_cons_zero, set_cons_succ]); exact rfl))
  (hS : S w := by assumption) : wpAnyT P md ops Q S T (fuel + 1) listed a w := by
 subst ha; subst hl
 exact wpAnyT_take hi hs hf hr hT hQ hy hS h
theorem onT (i : Nat) {o : Oper} {fuel : Nat} {listed : Array Bool} {a : Act} {w : World}
  (h : ∀ K' : Act → World → Prop, Shut (∀ a w, S w → (S w → wpAnyT P md ops Q S T fuel (listed.setIfInBounds i true) a w) → K' a w) → if Region.wanted o (yielded ops a.tmps) = true then Oper.wp P o a w K' Q else K' (a.put o.dst undef) w)
  (ho : ops[i]? = some o := by (simp only [getElem?_toArray, getElem?_cons_zero, getElem?_cons_succ]; rfl))
  (hr : Region.ready md ops listed = [i] := by kernel_rfl) : wpAnyT P md ops Q S T (fuel + 1) listed a w := wpAnyT_one hr ho h
theorem laT {o : Oper} {fuel : Nat} {listed : Array Bool} {a : Act} {w : World}
  (h : ∀ K' : Act → World → Prop, Shut (∀ a w, wpAnyT P md ops Q S T fuel (listed.setIfInBounds T true) a w → K' a w) → if Region.wanted o (yielded ops a.tmps) = true then Oper.wp P o a w K' Q else K' (a.put o.dst undef) w)
  (ho : ops[T]? = some o := by (simp only [getElem?_toArray, getElem?_cons_zero, getElem?_cons_succ]; rfl))
  (hr : Region.ready md ops listed = [T] := by kernel_rfl) : wpAnyT P md ops Q S T (fuel + 1) listed a w := wpAnyT_last hr ho h
end
end Go.Proofs.YtabfcaidioohfaaDoor
set_option linter.unusedVariables false
namespace Go.Ky
open List (getElem?_toArray getElem?_cons_zero getElem?_cons_succ setIfInBounds_toArray set_cons_zero set_cons_succ)
open Go.Proofs.YtabfcaidioohfaaDoor
def put {α : Type} (f : Nat → α) (n : Nat) (a : α) : Nat → α := fun j => if j = n then a else f j
theorem put_same {α : Type} (f : Nat → α) (n : Nat) (a : α) : put f n a n = a := if_pos rfl
theorem put_ne {α : Type} (f : Nat → α) {n j : Nat} (a : α) (h : j ≠ n) : put f n a j = f j := if_neg h
theorem put_id {α : Type} (f : Nat → α) (n : Nat) : put f n (f n) = f := funext fun j => by
 unfold put; split
 ·rename_i h; rw [h]
 ·rfl
/-- Two rings in step: what each one seals by is what the other opens by. -/
structure Two (x : Nat → Rg) (own : Nat → Sec) (past : Nat → List Sec) : Prop where
 s1 : ∀ n, n < 2 → (x n).s1 = 1
 s0 : ∀ n, n < 2 → (x n).s0 = 0
 oo : ∀ n, n < 2 → (x n).o1 = own n
 pp : ∀ n m, n + m = 1 → (x n).p1 = own m
 qq : ∀ n m, n + m = 1 → (x n).ho = true → (x n).q ∈ past m
 ph : (own 0).ph = (own 1).ph
/-- One of them is ahead by an update. -/
structure Ahd (w v : Nat) (x : Nat → Rg) (own : Nat → Sec) (past : Nat → List Sec) : Prop where
 s1 : ∀ n, n < 2 → (x n).s1 = 1
 s0 : ∀ n, n < 2 → (x n).s0 = 0
 ow : (x w).o1 = own w
 pw : (x w).p1 = own v
 qw : (x w).ho = true → (x w).q ∈ past v
 ov : upd (x v).o1 = own v
 pv : upd (x v).p1 = own w
 lv : (x v).p1 ∈ past w
 qv : (x v).ho = true → (x v).q ∈ past w
 ph : (own 0).ph = (own 1).ph
theorem upd_ph (s : Sec) : (upd s).ph = !s.ph := rfl
theorem Two.ph' {x : Nat → Rg} {own : Nat → Sec} {past : Nat → List Sec} (h : Two x own past) {n m : Nat} (hn : n + m = 1) : (own n).ph = (own m).ph := by
 obtain ⟨rfl, rfl⟩ | ⟨rfl, rfl⟩ : (n = 0 ∧ m = 1) ∨ (n = 1 ∧ m = 0) := by omega
 ·exact h.ph
 ·exact h.ph.symm
theorem Ahd.ph' {w v : Nat} {x : Nat → Rg} {own : Nat → Sec} {past : Nat → List Sec} (h : Ahd w v x own past) {n m : Nat} (hn : n + m = 1) : (own n).ph = (own m).ph := by
 obtain ⟨rfl, rfl⟩ | ⟨rfl, rfl⟩ : (n = 0 ∧ m = 1) ∨ (n = 1 ∧ m = 0) := by omega
 ·exact h.ph
 ·exact h.ph.symm
theorem Two.turn {x : Nat → Rg} {own : Nat → Sec} {past : Nat → List Sec} (h : Two x own past) {w v : Nat} (hw : w + v = 1) :
  Ahd w v (put x w (x w).turn) (fun j => upd (own j)) (fun j => past j ++ [own j]) := by
 have hvw : v ≠ w := by omega
 have e := put_same x w (x w).turn
 have e' := put_ne x (x w).turn hvw
 refine ⟨fun n hn => ?_, fun n hn => ?_, ?_, ?_, fun _ => ?_, ?_, ?_, ?_, fun hq => ?_, ?_⟩
 ·by_cases hnw : n = w
  ·rw [hnw, e]; exact h.s1 w (by omega)
  ·rw [put_ne x _ hnw]; exact h.s1 n hn
 ·by_cases hnw : n = w
  ·rw [hnw, e]; exact h.s0 w (by omega)
  ·rw [put_ne x _ hnw]; exact h.s0 n hn
 ·rw [e]; show upd (x w).o1 = _; rw [h.oo w (by omega)]
 ·rw [e]; show upd (x w).p1 = _; rw [h.pp w v hw]
 ·rw [e]; show (x w).p1 ∈ _; rw [h.pp w v hw]; exact List.mem_append_right _ (List.mem_singleton.2 rfl)
 ·rw [e', h.oo v (by omega)]
 ·rw [e', h.pp v w (by omega)]
 ·rw [e', h.pp v w (by omega)]; exact List.mem_append_right _ (List.mem_singleton.2 rfl)
 ·rw [e'] at hq ⊢; exact List.mem_append_left _ (h.qq v w (by omega) hq)
 ·show (!(own 0).ph) = !(own 1).ph; rw [h.ph]
theorem opn_same {r : Rg} (h : r.s1 = 1) (u : Nat) (more b : List Nat) : r.opn 1 r.p1.ph u more b = (open' r.p1 u more b, r) := by
 unfold Rg.opn
 rw [if_pos (has_1 h), if_neg (by decide), if_pos rfl]
theorem opn_ahead {r : Rg} (h : r.s1 = 1) (u : Nat) (more b t : List Nat) (hq : r.ho = true → (open' r.q u more b).1 ≠ 0) (ho : open' (upd r.p1) u more b = (0, t)) : r.opn 1 (!r.p1.ph) u more b = ((0, t), r.turn) := by
 unfold Rg.opn
 rw [if_pos (has_1 h), if_neg (by decide), if_neg (by cases r.p1.ph <;> decide), if_neg (fun e => hq e.1 e.2), ho, if_pos rfl]
theorem phase_1 {r : Rg} (h : r.s1 = 1) : r.phase = r.o1.ph := by unfold Rg.phase; rw [h]; rfl
theorem seal_1 {r : Rg} (h : r.s1 = 1) (u : Nat) (more text : List Nat) : r.sealR 1 u more text = sealW r.o1 u more text := by
 unfold Rg.sealR; rw [if_pos (has_1 h), if_neg (by decide)]
/-- What one seals the other opens. -/
theorem opens {d : Bool} {x : Nat → Rg} {own : Nat → Sec} {past : Nat → List Sec} {w v k n m : Nat} (hwv : w + v = 1) (hk : k < 2) (hn : n = (w + k) % 2) (hm : n + m = 1)
  (h : if k = 0 ∧ d = true then Ahd w v x own past else Two x own past) (u : Nat) (text X : List Nat) (hX : (x n).sealR 1 u [] text = X)
  (hp : ∀ s ∈ past n, (open' s u [] X).1 ≠ 0) : ∃ r', (x m).opn 1 (x n).phase u [] X = ((0, text), r') ∧ Two (put x m r') own past ∧ (x n).phase = r'.phase := by
 by_cases hc : k = 0 ∧ d = true
 ·rw [if_pos hc] at h
  obtain rfl : n = w := by omega
  obtain rfl : m = v := by omega
  have hs := h.s1 n (by omega)
  have hm1 := h.s1 m (by omega)
  rw [seal_1 hs] at hX
  have e1 : (x n).phase = !(x m).p1.ph := by rw [phase_1 hs, h.ow, ← upd_ph, h.pv]
  have e2 : open' (upd (x m).p1) u [] X = (0, text) := by rw [h.pv, ← h.ow, ← hX]; exact open_seal _ _ _ _
  have e3 : (x n).phase = (x m).turn.phase := by
   rw [phase_1 hs, h.ow, phase_1 (r := (x m).turn) hm1]
   show _ = (upd (x m).o1).ph
   rw [h.ov]; exact h.ph' hm
  refine ⟨(x m).turn, ?_, ⟨fun j hj => ?_, fun j hj => ?_, fun j hj => ?_, fun i j hij => ?_, fun i j hij hq => ?_, h.ph⟩, e3⟩
  ·rw [e1]; exact opn_ahead hm1 u [] X text (fun hq => hp _ (h.qv hq)) e2
  ·by_cases hj2 : j = m
   ·rw [hj2, put_same]; exact hm1
   ·rw [put_ne x _ hj2]; exact h.s1 j hj
  ·by_cases hj2 : j = m
   ·rw [hj2, put_same]; exact h.s0 m (by omega)
   ·rw [put_ne x _ hj2]; exact h.s0 j hj
  ·by_cases hj2 : j = m
   ·rw [hj2, put_same]; exact h.ov
   ·rw [put_ne x _ hj2, show j = n by omega]; exact h.ow
  ·by_cases hj2 : i = m
   ·rw [hj2, put_same, show j = n by omega]; exact h.pv
   ·rw [put_ne x _ hj2, show i = n by omega, show j = m by omega]; exact h.pw
  ·by_cases hj2 : i = m
   ·rw [hj2, put_same, show j = n by omega]; exact h.lv
   ·rw [put_ne x _ hj2, show i = n by omega] at hq ⊢
    rw [show j = m by omega]; exact h.qw hq
 ·rw [if_neg hc] at h
  have hs := h.s1 n (by omega)
  have hm1 := h.s1 m (by omega)
  rw [seal_1 hs, h.oo n (by omega)] at hX
  have e1 : (x n).phase = (x m).p1.ph := by rw [phase_1 hs, h.oo n (by omega), h.pp m n (by omega)]
  refine ⟨x m, ?_, by rw [put_id]; exact h, ?_⟩
  ·rw [e1, opn_same hm1, h.pp m n (by omega), ← hX, open_seal]
  ·rw [phase_1 hs, phase_1 hm1, h.oo n (by omega), h.oo m (by omega)]; exact h.ph' hm
theorem set_1 (own peer : List Nat) : rg0.set 1 own peer = { rg0 with s1 := 1, o1 := make own false, p1 := make peer false } := by unfold Rg.set; rw [if_neg (by decide)]
theorem two_start (c s : List Nat) (r0 r1 : Rg) (h0 : rg0.set 1 c s = r0) (h1 : rg0.set 1 s c = r1) : Two (fun n => if n = 0 then r0 else r1) (fun n => if n = 0 then make c false else make s false) (fun _ => []) := by
 rw [set_1] at h0 h1
 have ea : (make c false).ph = (make s false).ph := rfl
 generalize make c false = a at *
 generalize make s false = b at *
 subst h0; subst h1
 refine ⟨fun n hn => ?_, fun n hn => ?_, fun n hn => ?_, fun n m hn => ?_, fun n m hn hq => ?_, ea⟩
 ·obtain rfl | rfl : n = 0 ∨ n = 1 := by omega
  ·rfl
  ·rfl
 ·obtain rfl | rfl : n = 0 ∨ n = 1 := by omega
  ·rfl
  ·rfl
 ·obtain rfl | rfl : n = 0 ∨ n = 1 := by omega
  ·rfl
  ·rfl
 ·obtain ⟨rfl, rfl⟩ | ⟨rfl, rfl⟩ : (n = 0 ∧ m = 1) ∨ (n = 1 ∧ m = 0) := by omega
  ·rfl
  ·rfl
 ·obtain ⟨rfl, rfl⟩ | ⟨rfl, rfl⟩ : (n = 0 ∧ m = 1) ∨ (n = 1 ∧ m = 0) := by omega
  ·exact absurd (show false = true from hq) (by decide)
  ·exact absurd (show false = true from hq) (by decide)
end Go.Ky
namespace Go.Proofs.YtabfcaidioohfaaDoor
open List (getElem?_toArray getElem?_cons_zero getElem?_cons_succ setIfInBounds_toArray set_cons_zero set_cons_succ)
open Go Go.RowKit Go.Shelf
set_option linter.unusedVariables false
set_option linter.unusedSimpArgs false
set_option maxRecDepth 100000
/-- A secret's cells. -/
def secL (s : Ky.Sec) : List Value := s.l.map u8v ++ [.bool s.ph]
theorem secL_len {s : Ky.Sec} (h : s.Ok) : (secL s).length = 61 := by unfold secL; rw [List.length_append, List.length_map, h.len]; rfl
theorem secL_arr (s : Ky.Sec) : (secL s).toArray = secV s := rfl
theorem secV_list (s : Ky.Sec) : (secV s).toList = secL s := rfl
theorem sizeSecL {s : Ky.Sec} (h : s.Ok) : (Tryd.prog.info? 29).map (·.size) = some (secL s).length := by rw [secL_len h]; exact infoSec
def flatS (l : List Ky.Sec) : List Value := l.flatMap secL
theorem flatS_snoc (l : List Ky.Sec) (s : Ky.Sec) : flatS l ++ secL s = flatS (l ++ [s]) := by unfold flatS; simp
theorem flatS_len {l : List Ky.Sec} (h : ∀ s ∈ l, s.Ok) : (flatS l).length = l.length * 61 := by
 induction l with
 | nil => rfl
 | cons a r ih =>
  show (secL a ++ flatS r).length = _
  rw [List.length_append, secL_len (h a (List.mem_cons_self ..)), ih (fun s hs => h s (List.mem_cons_of_mem _ hs)), List.length_cons]; omega
theorem flatS_get {l : List Ky.Sec} (h : ∀ s ∈ l, s.Ok) : ∀ (k : Nat) (s : Ky.Sec), l[k]? = some s → ∀ j v, (secL s)[j]? = some v → (flatS l)[k * 61 + j]? = some v := by
 induction l with
 | nil => intro k s hk; cases hk
 | cons a r ih =>
  intro k s hk j v hv
  have la := secL_len (h a (List.mem_cons_self ..))
  show (secL a ++ flatS r)[k * 61 + j]? = some v
  cases k with
  | zero =>
   cases hk
   have hj := (List.getElem?_eq_some_iff.1 hv).1
   rw [Nat.zero_mul, Nat.zero_add, List.getElem?_append_left hj]; exact hv
  | succ k =>
   rw [List.getElem?_append_right (by rw [la]; omega), la, show (k + 1) * 61 + j - 61 = k * 61 + j by omega]
   exact ih (fun s hs => h s (List.mem_cons_of_mem _ hs)) k s hk j v hv
/-- An own row's element. -/
theorem own_sec {w : World} {base n : Nat} {v : Value} {l : List Ky.Sec} (h : w.ownsRow base 29 61 v n (flatS l)) (hok : ∀ s ∈ l, s.Ok) {k : Nat} {s : Ky.Sec} (hk : l[k]? = some s) :
  ∃ g c, v = .slice (some ⟨g, 0, none⟩) n c ∧ w.rangeAt g (k * 61) (secL s) := by
 have hlen := h.1
 rw [flatS_len hok] at hlen
 have hkl := (List.getElem?_eq_some_iff.1 hk).1
 rcases h.2 with ⟨rfl, h0⟩ | ⟨g, cap, cur, rfl, _⟩
 ·omega
 ·refine ⟨g, cap, rfl, fun j u hu => ?_⟩
  have := h.cells (g := g) rfl _ u (flatS_get hok k s hk j u hu)
  rwa [add_mid, Nat.zero_add] at this
theorem own_len {w : World} {base n : Nat} {v : Value} {l : List Ky.Sec} (h : w.ownsRow base 29 61 v n (flatS l)) : ∃ A c, v = .slice A n c ∧ n ≤ c ∧ c ≤ 9223372036854775807 := by
 rcases h.2 with ⟨rfl, h0⟩ | ⟨g, cap, cur, rfl, _, _, h1, h2, _⟩
 ·exact ⟨none, 0, by rw [h0], by omega, by omega⟩
 ·exact ⟨_, cap, rfl, h1, h2⟩
theorem rowS_kept {V V' : World} {base n size : Nat} {t : TypeId} {v : Value} {xs : List Value} (h : V.ownsRow base t size v n xs) (hb : Below V.heap.size V V') : V'.ownsRow base t size v n xs := by
 refine ⟨h.1, ?_⟩
 rcases h.2 with h0 | ⟨g, cap, cur, e, hb1, hg1, h3⟩
 ·exact .inl h0
 ·exact .inr ⟨g, cap, cur, e, hb1, (hb.block g (Array.getElem?_eq_some_iff.1 hg1).1).trans hg1, h3⟩
theorem obj_setCells {b : Nat} {t : TypeId} : ∀ (vs : List Value) (o : Nat) (V : World) (cs : Array Value), Obj V b t cs → ∃ cs', Obj (V.setCells b o vs) b t cs' ∧ cs'.size = cs.size
 | [], _, _, cs, h => ⟨cs, h, rfl⟩
 | v :: r, o, V, cs, h => by
  rw [World.setCells]
  obtain ⟨cs', h1, h2⟩ := obj_setCells r (o + 1) _ _ (h.set o v)
  exact ⟨cs', h1, by rw [h2, Array.size_setIfInBounds]⟩
theorem upd_setCells {b : Nat} {V0 : World} : ∀ (vs : List Value) (o : Nat) (V : World), Upd b V0 V → Upd b V0 (V.setCells b o vs)
 | [], _, _, h => h
 | v :: r, o, V, h => by
  rw [World.setCells]
  exact upd_setCells r (o + 1) _ (h.set o v)
theorem infoS3 : (Tryd.prog.info? 29).map (fun i => (i.zero, i.size, i.bytes)) = some (some (.agg zSec), 61, 61) := by kernel_rfl
/-- A secret is appended: a new block, or the row's own, which has room for two. -/
theorem app_sec (V : World) (ty : TypeId) {base : Nat} {l : List Ky.Sec} {v : Value} (hown : V.ownsRow base 29 61 v l.length (flatS l)) (hok : ∀ s ∈ l, s.Ok) (hz : l = [] → v = .slice none 0 0) (s : Ky.Sec) (hs : s.Ok) (vb : Nat)
  (hV : V.rangeAt vb 0 (secL s)) (hm : l.length ≤ 1000) (hbase : base ≤ V.heap.size) :
  ∃ v' V', (Builtin.append_ #[67, 67] ty #[v, .slice (some ⟨vb, 0, none⟩) 1 1]).run Tryd.prog V = .ok v' V' ∧ V'.ownsRow base 29 61 v' (l.length + 1) (flatS (l ++ [s])) ∧
   ((Below V.heap.size V V' ∧ ∀ g, v'.ownBlock = some g → V.heap.size ≤ g) ∨ ∃ g cur, v.ownBlock = some g ∧ v'.ownBlock = some g ∧ Obj V g 29 cur ∧ cur.size ≠ 61 ∧ Upd g V V') := by
 obtain ⟨i0, hi, hz0, hz1, hz2⟩ := info_parts infoS3
 have hu := Tryd.underlying67
 have hsrc : ∀ j u, (secL s)[j]? = some u → V.cell? ((⟨vb, 0, none⟩ : Addr).add j) = some u := fun j u hu' => by rw [add_mid]; exact hV j u hu'
 have h1c : ∀ u ∈ secL s, u.oneCell' = true := fun u hu' => by
  rcases List.mem_append.1 hu' with h | h
  ·obtain ⟨x, _, rfl⟩ := List.mem_map.1 h; rfl
  ·rw [List.mem_singleton.1 h]; rfl
 have hln : (secL s).length = 1 * 61 := by rw [secL_len hs]
 have hsz : (Value.agg zSec).cells.size = 61 := pSec_size false
 have key : ∀ base', base' ≤ V.heap.size → V.ownsRow base' 29 61 v l.length (flatS l) → _ := fun base' hb' ho' =>
  run_append_own (P := Tryd.prog) V base' 67 ty 29 i0 (.agg zSec) 61 61 hu hi hz0 hz1 hz2 hsz (by decide) v l.length _ ho' ⟨vb, 0, none⟩ 1 1 (secL s) hln hsrc h1c (by unfold maxLen; omega) (by omega) hb'
 obtain ⟨v', V', h1, h2, h3, _⟩ := key base hbase hown
 rw [flatS_snoc] at h2
 refine ⟨v', V', h1, h2, ?_⟩
 rcases hown.2 with ⟨rfl, h0⟩ | ⟨g0, cap, cur, rfl, hbg, hg0, hnc, hcm, hcs, htk⟩
 ·obtain ⟨v'', V'', k1, k2, k3, _⟩ := key V.heap.size (Nat.le_refl _) ⟨hown.1, .inl ⟨rfl, h0⟩⟩
  rw [h1] at k1
  cases k1
  exact .inl ⟨(Below.refl _ V).grown k3 (Nat.le_refl _) (fun k e => by cases e), fun g hg => (k2.lt g hg).1⟩
 ·have hO : Obj V g0 29 cur := hg0
  have hl0 : l ≠ [] := fun e => by have := hz e; cases this
  have hl1 : 1 ≤ l.length := List.length_pos_iff.2 hl0
  by_cases hroom : l.length + 1 ≤ cap
  ·have hr := run_append_room_cells (P := Tryd.prog) V 67 ty 29 i0 hu hi g0 0 l.length cap ⟨vb, 0, none⟩ 1 1 (secL s) (by rw [hz1]; exact hln) hsrc h1c hroom
    (fun j hj => by
     rw [secL_len hs] at hj
     rw [hz1, hO.cell, Array.getElem?_eq_getElem (by omega)]; rfl)
    (fun j hj => hO.free _)
   rw [h1] at hr
   cases hr
   exact .inr ⟨g0, cur, rfl, rfl, hO, by omega, upd_setCells _ _ _ (Upd.refl _ _)⟩
  ·obtain ⟨v'', V'', k1, k2, k3⟩ := run_append_arg_grows (P := Tryd.prog) V 67 ty 29 i0 (.agg zSec) 61 61 hu hi hz0 hz1 hz2 hsz (by decide) ⟨g0, 0, none⟩ l.length cap (flatS l) hown.1
    (fun j u hu' => hown.cells (g := g0) rfl j u hu') ⟨vb, 0, none⟩ 1 1 (secL s) hln hsrc (by omega) (by unfold maxLen; omega) (by omega)
   rw [h1] at k1
   cases k1
   exact .inl ⟨(Below.refl _ V).grown k3 (Nat.le_refl _) (fun k e => by cases e), fun g hg => (k2.lt g hg).1⟩
/-- Another block turns, which is no secret's: the ring stays. -/
theorem RgP.updN {R g : Nat} {r : Ky.Rg} {V V' : World} {u : TypeId} {ds : Array Value} (h : RgP R r V) (hu : Upd g V V') (hg : Obj V g u ds) (h1 : R ≠ g) (h2 : ds.size ≠ 61) : RgP R r V' := by
 obtain ⟨ok, a0, b0, a1, b1, c1, h⟩ := h
 have key : ∀ {a : Nat} {s : Ky.Sec}, s.Ok → Obj V a 29 (secV s) → Obj V' a 29 (secV s) := fun {a s} hs ha => ha.upd hu (by
  rintro rfl
  have := ha.symm.trans hg
  cases this
  exact h2 (secV_size hs))
 exact ⟨ok, a0, b0, a1, b1, c1, h.o.upd hu h1, fun e => key ok.o0 (h.ka0 e), fun e => key ok.p0 (h.kb0 e), fun e => key ok.o1 (h.ka1 e), fun e => key ok.p1 (h.kb1 e), fun e => key ok.q (h.kc1 e)⟩
/-- KeysAcross under way: rings, their keys, and those that were. -/
structure AcI (w : World) (X W P : Nat) (R : Nat → Nat) (x : Nat → Ky.Rg) (own : Nat → Ky.Sec) (past : Nat → List Ky.Sec) (pv : Nat → Value) (V : World) : Prop where
 bel : Below w.heap.size w V
 lt : w.heap.size ≤ R 0 ∧ R 0 < R 1 ∧ R 1 < X ∧ X < W ∧ W < P ∧ P < V.heap.size
 oX : Obj V X 44 #[.pointer (some ⟨R 0, 0, none⟩), .pointer (some ⟨R 1, 0, none⟩)]
 oW : ∃ cur, Obj V W 29 cur ∧ cur.size = 122
 rW : ∀ n, n < 2 → V.rangeAt W (n * 61) (secL (own n))
 oP : Obj V P 68 #[pv 0, pv 1]
 rg : ∀ n, n < 2 → RgP (R n) (x n) V
 pr : ∀ n, n < 2 → V.ownsRow (P + 1) 29 61 (pv n) (past n).length (flatS (past n))
 nz : ∀ n, n < 2 → past n = [] → pv n = .slice none 0 0
 ne : ∀ n m g, n + m = 1 → (pv n).ownBlock = some g → (pv m).ownBlock = some g → False
 ok : ∀ n, n < 2 → ∀ s ∈ past n, s.Ok
 kw : ∀ n, n < 2 → (own n).Ok
theorem AcI.cong {w V : World} {X W P : Nat} {R : Nat → Nat} {x x' : Nat → Ky.Rg} {own own' : Nat → Ky.Sec} {past past' : Nat → List Ky.Sec} {pv pv' : Nat → Value} (h : AcI w X W P R x own past pv V)
  (ex : ∀ n, n < 2 → x' n = x n) (eo : ∀ n, n < 2 → own' n = own n) (ep : ∀ n, n < 2 → past' n = past n) (ev : ∀ n, n < 2 → pv' n = pv n) : AcI w X W P R x' own' past' pv' V :=
 ⟨h.bel, h.lt, h.oX, h.oW, fun n hn => by rw [eo n hn]; exact h.rW n hn, by rw [ev 0 (by decide), ev 1 (by decide)]; exact h.oP, fun n hn => by rw [ex n hn]; exact h.rg n hn,
  fun n hn => by rw [ev n hn, ep n hn]; exact h.pr n hn, fun n hn => by rw [ev n hn, ep n hn]; exact h.nz n hn, fun n m g hm => by rw [ev n (by omega), ev m (by omega)]; exact h.ne n m g hm,
  fun n hn => by rw [ep n hn]; exact h.ok n hn, fun n hn => by rw [eo n hn]; exact h.kw n hn⟩
theorem AcI.kept {w V V' : World} {X W P : Nat} {R : Nat → Nat} {x : Nat → Ky.Rg} {own : Nat → Ky.Sec} {past : Nat → List Ky.Sec} {pv : Nat → Value} (h : AcI w X W P R x own past pv V) (hb : Below V.heap.size V V') : AcI w X W P R x own past pv V' := by
 have hs := hb.size
 obtain ⟨l1, l2, l3, l4, l5, l6⟩ := h.lt
 obtain ⟨cur, o, oz⟩ := h.oW
 exact ⟨h.bel.trans (hb.mono h.bel.size), ⟨l1, l2, l3, l4, l5, by omega⟩, h.oX.kept hb, ⟨cur, o.kept hb, oz⟩, fun n hn => rangeAt_below (h.rW n hn) o.lt hb, h.oP.kept hb, fun n hn => (h.rg n hn).kept hb, fun n hn => rowS_kept (h.pr n hn) hb, h.nz, h.ne, h.ok, h.kw⟩
/-- A ring turns. -/
theorem AcI.ring {w V V' : World} {X W P : Nat} {R : Nat → Nat} {x : Nat → Ky.Rg} {own : Nat → Ky.Sec} {past : Nat → List Ky.Sec} {pv : Nat → Value} (h : AcI w X W P R x own past pv V) {n m : Nat} (hn : n + m = 1) {r : Ky.Rg} (hr : RgP (R n) r V') (hu : Upd (R n) V V') : AcI w X W P R (Ky.put x n r) own past pv V' := by
 have hs := hu.size
 obtain ⟨l1, l2, l3, l4, l5, l6⟩ := h.lt
 obtain ⟨cur, o, oz⟩ := h.oW
 have hR : w.heap.size ≤ R n ∧ R n < X ∧ R m ≠ R n := by
  obtain ⟨rfl, rfl⟩ | ⟨rfl, rfl⟩ : (n = 0 ∧ m = 1) ∨ (n = 1 ∧ m = 0) := by omega
  ·omega
  ·omega
 obtain ⟨cs, ho⟩ := (h.rg n (by omega)).obj
 refine ⟨Upd.below h.bel hR.1 hu, ⟨l1, l2, l3, l4, l5, by omega⟩, h.oX.upd hu (by omega), ⟨cur, o.upd hu (by omega), oz⟩, fun j hj => rangeAt_upd (h.rW j hj) o.lt (by omega) hu, h.oP.upd hu (by omega), fun j hj => ?_, fun j hj => ?_, h.nz, h.ne, h.ok, h.kw⟩
 ·by_cases hjn : j = n
  ·rw [hjn, Ky.put_same]; exact hr
  ·rw [Ky.put_ne x _ hjn, show j = m by omega]
   exact (h.rg m (by omega)).upd hu ho hR.2.2 (by decide)
 ·refine (h.pr j hj).kept (row := some (R n)) ⟨hu.os, hu.tape, hu.output, hu.size, fun k hk hne => hu.block k hk (fun e => hne (by rw [e]))⟩ ?_
  rcases ho' : (pv j).ownBlock with _ | g
  ·exact .inl rfl
  ·refine .inr fun e => ?_
   cases e
   have := ((h.pr j hj).lt _ ho').1
   omega
/-- The own keys of one are stored. -/
theorem AcI.store {w V : World} {X W P : Nat} {R : Nat → Nat} {x : Nat → Ky.Rg} {own : Nat → Ky.Sec} {past : Nat → List Ky.Sec} {pv : Nat → Value} (h : AcI w X W P R x own past pv V) {n m : Nat} (hn : n + m = 1) {s : Ky.Sec} (hs : s.Ok) :
  V.there W (n * 61) (secV s).size ∧ AcI w X W P R x (Ky.put own n s) past pv (V.setCells W (n * 61) (secL s)) := by
 obtain ⟨l1, l2, l3, l4, l5, l6⟩ := h.lt
 obtain ⟨cur, o, oz⟩ := h.oW
 have hth : V.there W (n * 61) 61 := fun j hj => ⟨by rw [o.cell, Array.getElem?_eq_getElem (by omega)]; rfl, o.free _⟩
 have hu : Upd W V (V.setCells W (n * 61) (secL s)) := upd_setCells _ _ _ (Upd.refl _ _)
 have hz := hu.size
 have hR : ∀ j, j < 2 → R j ≠ W := fun j hj => by
  obtain rfl | rfl : j = 0 ∨ j = 1 := by omega
  ·omega
  ·omega
 obtain ⟨cur', o', oz'⟩ := obj_setCells (secL s) (n * 61) V cur o
 refine ⟨by rw [secV_size hs]; exact hth, Upd.below h.bel (by omega) hu, ⟨l1, l2, l3, l4, l5, by omega⟩, h.oX.upd hu (by omega), ⟨cur', o', by omega⟩, fun j hj => ?_, h.oP.upd hu (by omega), fun j hj => (h.rg j hj).updN hu o (hR j hj) (by omega), fun j hj => ?_, h.nz, h.ne, h.ok, fun j hj => ?_⟩
 ·by_cases hjn : j = n
  ·rw [hjn, Ky.put_same]; exact World.rangeAt_setCells_same V W _ _ (by rw [secL_len hs]; exact hth)
  ·rw [Ky.put_ne own _ hjn]
   refine World.rangeAt_setCells_apart (h.rW j hj) _ _ _ (.inr ?_)
   rw [secL_len (h.kw j hj), secL_len hs]
   omega
 ·refine (h.pr j hj).kept (row := some W) ⟨hu.os, hu.tape, hu.output, hu.size, fun k hk hne => hu.block k hk (fun e => hne (by rw [e]))⟩ ?_
  rcases ho' : (pv j).ownBlock with _ | g
  ·exact .inl rfl
  ·refine .inr fun e => ?_
   cases e
   have := ((h.pr j hj).lt _ ho').1
   omega
 ·by_cases hjn : j = n
  ·rw [hjn, Ky.put_same]; exact hs
  ·rw [Ky.put_ne own _ hjn]; exact h.kw j hj
/-- Keys that were go to their row: append, and the store of the row's value. -/
theorem AcI.app {w V : World} {X W P : Nat} {R : Nat → Nat} {x : Nat → Ky.Rg} {own : Nat → Ky.Sec} {past : Nat → List Ky.Sec} {pv : Nat → Value} (h : AcI w X W P R x own past pv V) {n m : Nat} (hn : n + m = 1) (hm : (past n).length ≤ 1000) (ty : TypeId) (vb : Nat) (hV : V.rangeAt vb 0 (secL (own n))) :
  ∃ v' V', (Builtin.append_ #[67, 67] ty #[pv n, .slice (some ⟨vb, 0, none⟩) 1 1]).run Tryd.prog V = .ok v' V' ∧ (Obj V' P 68 #[pv 0, pv 1] ∧ V'.rangeAt W (n * 61) (secL (own n))) ∧
   AcI w X W P R x own (Ky.put past n (past n ++ [own n])) (Ky.put pv n v') (V'.setCell ⟨P, n, none⟩ v') := by
 have hn2 : n < 2 := by omega
 obtain ⟨l1, l2, l3, l4, l5, l6⟩ := h.lt
 obtain ⟨cur, o, oz⟩ := h.oW
 obtain ⟨v', V', h1, h2, h3⟩ := app_sec V ty (h.pr n hn2) (h.ok n hn2) (h.nz n hn2) (own n) (h.kw n hn2) vb hV hm (by omega)
 -- in the world behind the append all but the row n is as it was
 have key : Below w.heap.size w V' ∧ V.heap.size ≤ V'.heap.size ∧ (∀ b, b ≤ P → V'.heap[b]? = V.heap[b]?) ∧ (∀ j, j < 2 → RgP (R j) (x j) V') ∧ V'.ownsRow (P + 1) 29 61 (pv m) (past m).length (flatS (past m)) ∧ (∀ g, v'.ownBlock = some g → (pv m).ownBlock = some g → False) := by
  have hmrow := h.pr m (by omega)
  rcases h3 with ⟨hb, hg⟩ | ⟨g, c2, e1, e2, og, oz2, hu⟩
  ·refine ⟨h.bel.trans (hb.mono h.bel.size), hb.size, fun b hbP => hb.block b (by omega), fun j hj => (h.rg j hj).kept hb, rowS_kept hmrow hb, fun g a b => ?_⟩
   have := hg g a
   have := (hmrow.lt g b).2
   omega
  ·have hgP := ((h.pr n hn2).lt g e1).1
   have hRg : ∀ j, j < 2 → R j ≠ g := fun j hj => by
    obtain rfl | rfl : j = 0 ∨ j = 1 := by omega
    ·omega
    ·omega
   refine ⟨Upd.below h.bel (by omega) hu, hu.size, fun b hbP => hu.block b (by omega) (by omega), fun j hj => (h.rg j hj).updN hu og (hRg j hj) oz2, ?_, fun g' a b => ?_⟩
   ·refine hmrow.kept (row := some g) ⟨hu.os, hu.tape, hu.output, hu.size, fun k hk hne => hu.block k hk (fun e => hne (by rw [e]))⟩ ?_
    rcases ho' : (pv m).ownBlock with _ | g'
    ·exact .inl rfl
    ·exact .inr fun e => by cases e; exact h.ne n m g hn e1 ho'
   ·rw [e2] at a; cases a; exact h.ne n m g hn e1 b
 obtain ⟨kb, ks, kk, kr, km, kn⟩ := key
 have oX : Obj V' X 44 _ := (kk X (by omega)).trans h.oX
 have oW : Obj V' W 29 cur := (kk W (by omega)).trans o
 have oP : Obj V' P 68 #[pv 0, pv 1] := (kk P (Nat.le_refl _)).trans h.oP
 have hu : Upd P V' (V'.setCell ⟨P, n, none⟩ v') := (Upd.refl P V').set n v'
 have hz := hu.size
 have hR : ∀ j, j < 2 → R j ≠ P := fun j hj => by
  obtain rfl | rfl : j = 0 ∨ j = 1 := by omega
  ·omega
  ·omega
 have hkeep : ∀ {v : Value} {k : Nat} {xs : List Value}, V'.ownsRow (P + 1) 29 61 v k xs → (V'.setCell ⟨P, n, none⟩ v').ownsRow (P + 1) 29 61 v k xs := fun {v k xs} hr => by
  refine hr.kept (row := some P) ⟨hu.os, hu.tape, hu.output, hu.size, fun k hk hne => hu.block k hk (fun e => hne (by rw [e]))⟩ ?_
  rcases ho' : v.ownBlock with _ | g
  ·exact .inl rfl
  ·refine .inr fun e => ?_
   cases e
   have := (hr.lt _ ho').1
   omega
 refine ⟨v', V', h1, ⟨oP, fun i u hu' => (World.cell?_of_block (a := ⟨W, n * 61 + i, none⟩) (kk W (by omega))).trans (h.rW n hn2 i u hu')⟩, Upd.below kb (by omega) hu, ⟨l1, l2, l3, l4, l5, by omega⟩, oX.upd hu (by omega), ⟨cur, oW.upd hu (by omega), oz⟩, fun j hj => ?_, ?_, fun j hj => (kr j hj).updN hu oP (hR j hj) (by show 2 ≠ 61; decide), fun j hj => ?_, fun j hj e => ?_, fun i j g hij a b => ?_, fun j hj => ?_, h.kw⟩
 ·exact fun i u hu' => (World.cell?_of_block (a := ⟨W, j * 61 + i, none⟩) ((hu.block W (by omega) (by omega)).trans (kk W (by omega)))).trans (h.rW j hj i u hu')
 ·have := oP.set n v'
  obtain ⟨rfl, rfl⟩ | ⟨rfl, rfl⟩ : (n = 0 ∧ m = 1) ∨ (n = 1 ∧ m = 0) := by omega
  ·exact this
  ·exact this
 ·by_cases hjn : j = n
  ·rw [hjn, Ky.put_same, Ky.put_same, List.length_append]; exact hkeep h2
  ·rw [Ky.put_ne _ _ hjn, Ky.put_ne _ _ hjn, show j = m by omega]; exact hkeep km
 ·by_cases hjn : j = n
  ·rw [hjn, Ky.put_same] at e; simp at e
  ·rw [Ky.put_ne _ _ hjn] at e ⊢; exact h.nz j hj e
 ·by_cases hin : i = n
  ·obtain rfl : i = n := hin
   obtain rfl : j = m := by omega
   rw [Ky.put_same] at a
   rw [Ky.put_ne _ _ (by omega)] at b
   exact kn g a b
  ·obtain rfl : i = m := by omega
   obtain rfl : j = n := by omega
   rw [Ky.put_same] at b
   rw [Ky.put_ne _ _ (by omega)] at a
   exact kn g b a
 ·by_cases hjn : j = n
  ·rw [hjn, Ky.put_same]
   intro s hs
   rcases List.mem_append.1 hs with h' | h'
   ·exact h.ok n hn2 s h'
   ·rw [List.mem_singleton.1 h']; exact h.kw n hn2
  ·rw [Ky.put_ne _ _ hjn]; exact h.ok j hj
/-- A literal of secrets. -/
theorem wp_buildS {o : Oper} {a : Act} {w : World} {K : Act → World → Prop} {Q : Exit → Act → World → Prop} (len : Nat) (parts : Array (Nat × Operand)) (ho : o.op = .buildSlice 67 len parts) (l : List Ky.Sec) (hok : ∀ s ∈ l, s.Ok) (hl : l.length = len) (hp : 0 < len ∧ len ≤ 1000)
  (he : (parts.map fun (i, x) => (i, a.eval x)).toList = ((l.map fun s => Value.agg (secV s)).zipIdx 0).map fun x => (x.2, x.1))
  (h : K (a.put o.dst (.slice (some ⟨w.heap.size, 0, none⟩) len len)) (w.alloc (.cells (flatS l).toArray 29))) : o.wp Tryd.prog a w K Q := by
 obtain ⟨i0, hi, hz0, hz1, hz2⟩ := info_parts infoS3
 refine wp_buildSlice 67 29 len parts ho _ i0 _ Tryd.underlying67 hi hz0 (by rw [hz1]; omega) (by rw [hz1]; omega) ?_ h
 rw [he, hz1]
 have := Great.fill_whole (s := 61) (by decide) (l.map fun s => Value.agg (secV s)) ((Array.range (len * 61)).map ((Value.agg zSec).cells[· % (Value.agg zSec).cells.size]!)) (fun v hv => by
  obtain ⟨s, hs, rfl⟩ := List.mem_map.1 hv
  exact secV_size (hok s hs)) (by rw [List.length_map, hl, Array.size_map, Array.size_range])
 rw [this, List.flatMap_map]
 rfl
theorem rangeAt_flat {V : World} {W : Nat} {t : TypeId} {l : List Ky.Sec} (hok : ∀ s ∈ l, s.Ok) (h : Obj V W t (flatS l).toArray) {k : Nat} {s : Ky.Sec} (hk : l[k]? = some s) : V.rangeAt W (k * 61) (secL s) := fun j v hv => by
 rw [h.cell]
 simpa using flatS_get hok k s hk j v hv
end Go.Proofs.YtabfcaidioohfaaDoor
namespace Go.Proofs.YtabfcaidioohfaaDoor
open List (getElem?_toArray getElem?_cons_zero getElem?_cons_succ setIfInBounds_toArray set_cons_zero set_cons_succ)
open Go Go.RowKit Go.Shelf
open Go.ChangeShapes Go.WideShapes Go.Deep
set_option linter.unusedVariables false
set_option linter.unusedSimpArgs false
set_option maxRecDepth 100000
/-- A slice of bools. -/
def Bls (w : World) (A : Option Addr) (n : Nat) (l : List Bool) : Prop := l.length = n ∧ (0 < n → ∃ b o, A = some ⟨b, o, none⟩ ∧ b < w.heap.size ∧ ∀ i, i < n → w.cell? ⟨b, o + i, none⟩ = some (.bool (l.getD i false)))
theorem bls_open {H : Type} {enc : TypeId × Value → H} {w : World} {base : Nat} {spare : Nat → Bool} {held : Bool} {fuel n c : Nat} {A : Option Addr} {x : DataW H × List MemPlace}
  (h : DataW.trod enc Tryd.prog w base spare held fuel 66 [.slice A n c] = some x) : ∃ l, Bls w A n l ∧ n ≤ c ∧ c ≤ maxLen := by
 have hC : Tryd.prog.cellsOf 4 = 1 := by kernel_rfl
 rcases open_slice Tryd.underlying66 h with ⟨h0, _⟩ | ⟨a, len, cap, m, n', D, Pl, hcs, hb, hl, hm, hmm, _, hi⟩
 ·simp only [List.cons.injEq, Value.slice.injEq, and_true] at h0
  obtain ⟨rfl, rfl, rfl⟩ := h0
  exact ⟨[], ⟨rfl, fun h => absurd h (by omega)⟩, Nat.le_refl _, Nat.zero_le _⟩
 ·simp only [List.cons.injEq, Value.slice.injEq, and_true] at hcs
  obtain ⟨rfl, rfl, rfl⟩ := hcs
  by_cases hn : n = 0
  ·subst hn
   exact ⟨[], ⟨rfl, fun h => absurd h (by omega)⟩, hl, hm⟩
  ·have hnm : n ≤ m := by rw [hmm]; split <;> omega
   have key : ∀ i, i < n → ∃ b : Bool, w.cell? (a.add i) = some (.bool b) := by
    intro i hin
    obtain ⟨cs', hc, ht'⟩ := hi i (by omega)
    rw [hC] at hc
    obtain ⟨_, hcl, hat⟩ := World.cells?_some hc
    obtain ⟨b, e, _⟩ := DataW.trod_bool Tryd.underlying4 ht'
    subst e
    refine ⟨b, ?_⟩
    have := hat 0 (by omega)
    rw [Go.Deep.add_add, Nat.mul_one, Nat.add_zero] at this
    exact this
   obtain ⟨b, off, spot⟩ := a
   obtain ⟨b0, h0⟩ := key 0 (by omega)
   have hspot : spot = none := by simpa [Addr.add] using World.cell?_spot h0
   subst hspot
   obtain ⟨l, hll, hr⟩ := list_of (α := Bool) (fun i q => w.cell? ⟨b, off + i, none⟩ = some (.bool q)) n (fun i hi => by
    obtain ⟨q, hq⟩ := key i hi
    exact ⟨q, by rw [← add_none]; exact hq⟩)
   exact ⟨l, ⟨hll, fun _ => ⟨b, off, rfl, by simpa [Addr.add] using World.block_lt_of_cell? _ _ h0, hr⟩⟩, hl, hm⟩
theorem pow3 (i : Nat) : (i : Int).tmod 3 = ((i % 3 : Nat) : Int) := by
 rw [Int.tmod_eq_emod_of_nonneg (by omega)]; omega
theorem pow2 (i : Nat) : (i : Int).tmod 2 = ((i % 2 : Nat) : Int) := by
 rw [Int.tmod_eq_emod_of_nonneg (by omega)]; omega
section
variable {w V : World} {X W P : Nat} {R : Nat → Nat} {x : Nat → Ky.Rg} {own : Nat → Ky.Sec} {past : Nat → List Ky.Sec} {pv : Nat → Value}
theorem AcI.ptr (h : AcI w X W P R x own past pv V) {n : Nat} (hn : n < 2) : V.cell? ⟨X, n, none⟩ = some (.pointer (some ⟨R n, 0, none⟩)) := by
 obtain rfl | rfl : n = 0 ∨ n = 1 := by omega
 ·exact h.oX.cell 0
 ·exact h.oX.cell 1
theorem AcI.row (h : AcI w X W P R x own past pv V) {n : Nat} (hn : n < 2) : V.cell? ⟨P, n, none⟩ = some (pv n) := by
 obtain rfl | rfl : n = 0 ∨ n = 1 := by omega
 ·exact h.oP.cell 0
 ·exact h.oP.cell 1
theorem cell2 {p : Nat → Value} {t : TypeId} (h : Obj V P t #[p 0, p 1]) {n : Nat} (hn : n < 2) : V.cell? ⟨P, n, none⟩ = some (p n) := by
 obtain rfl | rfl : n = 0 ∨ n = 1 := by omega
 ·exact h.cell 0
 ·exact h.cell 1
theorem ac_turn (h : AcI w X W P R x own past pv V) (ht : KTab V) {n m : Nat} (hn : n + m = 1) (hs : (x n).s1 = 1) :
  Calls Tryd.prog 21 #[.pointer (some ⟨R n, 0, none⟩)] V fun e V' => e = .returned (.bool true) ∧ AcI w X W P R (Ky.put x n (x n).turn) own past pv V' :=
 (kturn_any (R n) (x n) V ht (h.rg n (by omega))).mono fun e V' ⟨h1, h2, h3⟩ => by
  rw [has_1 hs] at h1 h2
  rw [if_pos rfl] at h2
  exact ⟨h1, h.ring hn h2 h3⟩
theorem ac_upd (h : AcI w X W P R x own past pv V) (ht : KTab V) {n : Nat} (hn : n < 2) :
  Calls Tryd.prog 16 #[.agg (secV (own n))] V fun e V' => e = .returned (.agg (secV (Ky.upd (own n)))) ∧ AcI w X W P R x own past pv V' :=
 (update_any (own n) V ht (h.kw n hn)).mono fun e V' ⟨h1, h2⟩ => ⟨h1, h.kept h2⟩
theorem seal_len (r : Ky.Rg) (u : Nat) (text : List Nat) (hs : r.s1 = 1) (hok : r.Ok) (q : Ae.bytes text) : (r.sealR 1 u [] text).length = text.length + 16 ∧ Ae.bytes (r.sealR 1 u [] text) := by
 rw [Ky.seal_1 hs]
 exact ⟨Gc.sealT_len _ _ _ _, Gc.sealT_bytes hok.o1.qk (Ky.nonce_bytes u hok.o1) q⟩
theorem ac_seal (h : AcI w X W P R x own past pv V) {n m : Nat} (hn : n + m = 1) (hs : (x n).s1 = 1) (i : Int) (u : Nat) (hu : IntKind.u64.wrap i = (u : Int)) (hu2 : u < 18446744073709551616) {A4 : Option Addr} {n4 c4 : Nat} {text : List Nat} (r4 : Rd w A4 text) (m4 : text.length = n4) (q4 : Ae.bytes text) (k4 : n4 ≤ 60 ∧ n4 ≤ c4 ∧ c4 ≤ 9223372036854775807)
  {S : List Nat} (hS : (x n).sealR 1 u [] text = S) :
  Calls Tryd.prog 24 #[.pointer (some ⟨R n, 0, none⟩), .int .i64 1, .int .i64 i, .slice none 0 0, .slice A4 n4 c4] V fun e V' => ∃ A c, e = .returned (.slice A (n4 + 16) c) ∧ (n4 + 16 ≤ c ∧ c ≤ 9223372036854775807) ∧ Rd V' A S ∧ AcI w X W P R x own past pv V' :=
 (rgseal_any (R n) (x n) 1 i u none 0 0 [] A4 n4 c4 text V hu hu2 (Rd.nil _ _) rfl (fun x hx => by cases hx) (by decide) (r4.below h.bel) m4 q4 ⟨by omega, k4.2⟩ (h.rg n (by omega))).mono fun e V' ⟨v, e1, hown, h3⟩ => by
  rw [(seal_len (x n) u text hs (h.rg n (by omega)).1 q4).1, hS, m4] at hown
  obtain ⟨A, c, rfl, _, h4, h5, hr⟩ := own_cap hown
  exact ⟨A, c, e1, ⟨h4, h5⟩, hr, h.kept h3⟩
/-- An empty ring seals nothing. -/
theorem ac_seal0 (h : AcI w X W P R x own past pv V) {n m : Nat} (hn : n + m = 1) (hs : (x n).has 1 = false) {A4 : Option Addr} {n4 c4 : Nat} {text : List Nat} (r4 : Rd w A4 text) (m4 : text.length = n4) (q4 : Ae.bytes text) (k4 : n4 ≤ 60 ∧ n4 ≤ c4 ∧ c4 ≤ 9223372036854775807) :
  Calls Tryd.prog 24 #[.pointer (some ⟨R n, 0, none⟩), .int .i64 1, .int .i64 0, .slice none 0 0, .slice A4 n4 c4] V fun e V' => ∃ A c, e = .returned (.slice A 0 c) ∧ AcI w X W P R x own past pv V' :=
 (rgseal_any (R n) (x n) 1 0 0 none 0 0 [] A4 n4 c4 text V rfl (by decide) (Rd.nil _ _) rfl (fun x hx => by cases hx) (by decide) (r4.below h.bel) m4 q4 ⟨by omega, k4.2⟩ (h.rg n (by omega))).mono fun e V' ⟨v, e1, hown, h3⟩ => by
  have hz : (x n).sealR 1 0 [] text = [] := by unfold Ky.Rg.sealR; rw [hs]; rfl
  rw [hz] at hown
  obtain ⟨A, c, rfl, _, h4, h5, hr⟩ := own_cap hown
  exact ⟨A, c, e1, h.kept h3⟩
theorem ac_past (h : AcI w X W P R x own past pv V) {s : Ky.Sec} (hs : s.Ok) (i : Int) (u : Nat) (hu : IntKind.u64.wrap i = (u : Int)) (hu2 : u < 18446744073709551616) {A : Option Addr} {n c : Nat} {S : List Nat} (r : Rd V A S) (m : S.length = n) (q : Ae.bytes S) (k : n ≤ 100000 ∧ n ≤ c ∧ c ≤ 9223372036854775807) :
  Calls Tryd.prog 11 #[.agg (secV s), .int .i64 i, .slice none 0 0, .slice A n c] V fun e V' => ∃ v, e = .returned (.tuple #[v, .int .i64 ((Ky.open' s u [] S).1 : Int)]) ∧ AcI w X W P R x own past pv V' ∧ Rd V' A S :=
 (kopen_any s i u none 0 0 [] A n c S V hs hu hu2 (Rd.nil _ _) rfl (fun x hx => by cases hx) (by decide) r m q k).mono fun e V' ⟨A', n', c', e1, h5, h6, h7, h8⟩ => ⟨_, e1, h.kept h8, r.below h8⟩
theorem ac_open (h : AcI w X W P R x own past pv V) (ht : KTab V) {n m : Nat} (hn : n + m = 1) (ph : Bool) (i : Int) (u : Nat) (hu : IntKind.u64.wrap i = (u : Int)) (hu2 : u < 18446744073709551616) {A : Option Addr} {k c n4 : Nat} {S text : List Nat} (r : Rd V A S) (hl : S.length = k) (q : Ae.bytes S) (kk : k ≤ 100000 ∧ k ≤ c ∧ c ≤ 9223372036854775807)
  {r' : Ky.Rg} (ho : (x m).opn 1 ph u [] S = ((0, text), r')) (m4 : text.length = n4) :
  Calls Tryd.prog 17 #[.pointer (some ⟨R m, 0, none⟩), .int .i64 1, .bool ph, .int .i64 i, .slice none 0 0, .slice A k c] V fun e V' => ∃ A' c', e = .returned (.tuple #[.slice A' n4 c', .int .i64 0]) ∧ Rd V' A' text ∧ AcI w X W P R (Ky.put x m r') own past pv V' :=
 (rgopen_any (R m) (x m) 1 i ph u none 0 0 [] A k c S V hu hu2 (Rd.nil _ _) rfl (fun x hx => by cases hx) (by decide) r hl q kk ht (h.rg m (by omega))).mono fun e V' ⟨A', n', c', e1, h3, h4, h5, h6, h7⟩ => by
  rw [ho] at e1 h3 h4 h6
  obtain rfl : n4 = n' := m4 ▸ h4
  exact ⟨A', c', e1, h3, h.ring (n := m) (m := n) (by omega) h6 h7⟩
end
/-- Two secrets, two rings, and the slice of them. -/
structure StI (w : World) (C X R0 R1 : Nat) (L1 L2 : List Nat) (r0 r1 : Ky.Rg) (V : World) : Prop where
 c1 : Obj V C 23 (cellsN L1)
 c2 : Obj V (C + 1) 23 (cellsN L2)
 oX : Obj V X 44 #[.pointer (some ⟨R0, 0, none⟩), .pointer (some ⟨R1, 0, none⟩)]
 p0 : RgP R0 r0 V
 p1 : RgP R1 r1 V
 bel : Below w.heap.size w V
 le : w.heap.size ≤ R0
 l1 : R0 < R1
 l2 : R1 < X
theorem StI.kept {w V V' : World} {C X R0 R1 : Nat} {L1 L2 : List Nat} {r0 r1 : Ky.Rg} (h : StI w C X R0 R1 L1 L2 r0 r1 V) (hb : Below V.heap.size V V') : StI w C X R0 R1 L1 L2 r0 r1 V' :=
 ⟨h.c1.kept hb, h.c2.kept hb, h.oX.kept hb, h.p0.kept hb, h.p1.kept hb, h.bel.trans (hb.mono h.bel.size), h.le, h.l1, h.l2⟩
theorem StI.drew {w V : World} {C X R0 R1 : Nat} {L1 L2 : List Nat} {r0 r1 : Ky.Rg} (h : StI w C X R0 R1 L1 L2 r0 r1 V) : StI w C X R0 R1 L1 L2 r0 r1 V.drew := h.kept (Below.refl _ V).drew
theorem StI.up0 {w V V' : World} {C X R0 R1 : Nat} {L1 L2 : List Nat} {r0 r1 r : Ky.Rg} (h : StI w C X R0 R1 L1 L2 r0 r1 V) (hu : Upd R0 V V') (hp : RgP R0 r V') : StI w C X R0 R1 L1 L2 r r1 V' := by
 obtain ⟨cs, ho⟩ := h.p0.obj
 have := h.l1; have := h.l2
 exact ⟨h.c1.upd hu (h.c1.ne_type ho (by decide)), h.c2.upd hu (h.c2.ne_type ho (by decide)), h.oX.upd hu (by omega), hp, h.p1.upd hu ho (by omega) (by decide), Upd.below h.bel h.le hu, h.le, h.l1, h.l2⟩
theorem StI.up1 {w V V' : World} {C X R0 R1 : Nat} {L1 L2 : List Nat} {r0 r1 r : Ky.Rg} (h : StI w C X R0 R1 L1 L2 r0 r1 V) (hu : Upd R1 V V') (hp : RgP R1 r V') : StI w C X R0 R1 L1 L2 r0 r V' := by
 obtain ⟨cs, ho⟩ := h.p1.obj
 have := h.l1; have := h.l2; have := h.le
 exact ⟨h.c1.upd hu (h.c1.ne_type ho (by decide)), h.c2.upd hu (h.c2.ne_type ho (by decide)), h.oX.upd hu (by omega), h.p0.upd hu ho (by omega) (by decide), hp, Upd.below h.bel (by omega) hu, h.le, h.l1, h.l2⟩
theorem AcI.start {w V : World} {C X R0 R1 W P : Nat} {L1 L2 : List Nat} {r0 r1 : Ky.Rg} {sa sb : Ky.Sec} (h : StI w C X R0 R1 L1 L2 r0 r1 V) (hXW : X < W) (ok : ∀ s ∈ [sa, sb], s.Ok) (hW : Obj V W 29 (flatS [sa, sb]).toArray) (hP : V.heap.size = P)
  (ht : Ky.Two (fun n => if n = 0 then r0 else r1) (fun n => if n = 0 then sa else sb) (fun _ => [])) :
  ∃ R x own past pv, Ky.Two x own past ∧ AcI w X W P R x own past pv (V.alloc (.cells #[.slice none 0 0, .slice none 0 0] 68)) ∧ ∀ n, n < 2 → (past n).length ≤ 0 := by
 have hb : Below V.heap.size V (V.alloc (.cells #[.slice none 0 0, .slice none 0 0] 68)) := (Below.refl _ V).alloc (Nat.le_refl _) _
 have h' := h.kept hb
 have hlW := hW.lt
 refine ⟨fun n => if n = 0 then R0 else R1, _, _, _, fun _ => .slice none 0 0, ht, ⟨h'.bel, ⟨h.le, h.l1, h.l2, hXW, by omega, by rw [World.size_alloc]; omega⟩, h'.oX, ⟨_, hW.kept hb, ?_⟩, fun n hn => ?_, hP ▸ Obj.new V _ _, fun n hn => ?_, fun n hn => World.ownsRow_nil _ _ _ _, fun n hn _ => rfl, fun n m g hm a b => (by cases a), fun n hn s hs => (by cases hs), fun n hn => ?_⟩, fun n hn => Nat.le_refl _⟩
 ·rw [List.size_toArray, flatS_len ok]; rfl
 ·refine rangeAt_flat ok (hW.kept hb) ?_
  obtain rfl | rfl : n = 0 ∨ n = 1 := by omega
  ·rfl
  ·rfl
 ·obtain rfl | rfl : n = 0 ∨ n = 1 := by omega
  ·exact h'.p0
  ·exact h'.p1
 ·obtain rfl | rfl : n = 0 ∨ n = 1 := by omega
  ·exact ok sa (List.mem_cons_self ..)
  ·exact ok sb (List.mem_cons_of_mem _ (List.mem_singleton.2 rfl))
set_option maxHeartbeats 16000000 in
theorem keysAcross_small (A1 : Option Addr) (n1 c1 : Nat) (cl : List Nat) (A2 : Option Addr) (n2 c2 : Nat) (sv : List Nat) (A3 : Option Addr) (n3 c3 : Nat) (l : List Bool) (A4 : Option Addr) (n4 c4 : Nat) (text : List Nat) (w : World) (ht : KTab w)
  (r1 : Rd w A1 cl) (m1 : cl.length = n1) (q1 : Ae.bytes cl) (k1 : n1 ≤ 100 ∧ n1 ≤ c1 ∧ c1 ≤ maxLen) (r2 : Rd w A2 sv) (m2 : sv.length = n2) (q2 : Ae.bytes sv) (k2 : n2 ≤ 100) (i3 : Bls w A3 n3 l) (k3 : n3 ≤ 30)
  (r4 : Rd w A4 text) (m4 : text.length = n4) (q4 : Ae.bytes text) (k4 : n4 ≤ 60 ∧ n4 ≤ c4 ∧ c4 ≤ 9223372036854775807) :
  Calls Tryd.prog 8 #[.slice A1 n1 c1, .slice A2 n2 c2, .slice A3 n3 c3, .slice A4 n4 c4] w fun e w' => e = .returned (.bool true) ∧ Below w.heap.size w w' := by
 have t1 : ¬ (n1 : Int) > 100 := by omega
 have t1' : ¬ 100 < (n1 : Int) := by omega
 have t2 : ¬ (n2 : Int) > 100 := by omega
 have t2' : ¬ 100 < (n2 : Int) := by omega
 have t3 : ¬ (n3 : Int) > 30 := by omega
 have t3' : ¬ 30 < (n3 : Int) := by omega
 have t4 : ¬ (n4 : Int) > 60 := by omega
 have t4' : ¬ 60 < (n4 : Int) := by omega
 have HT : Hid (∀ W, Below w.heap.size w W → KTab W) := fun W hb => ht.below hb
 have HAL := Lib.hid (fun W (hb : Below w.heap.size w W) => alive_true W (ht.below hb))
 obtain ⟨L1, hL1⟩ : ∃ L, Ky.later1 cl sv = L := ⟨_, rfl⟩
 obtain ⟨L2, hL2⟩ : ∃ L, Ky.later2 cl sv = L := ⟨_, rfl⟩
 have l1 : L1.length = 32 := hL1 ▸ Ky.lab_len _ _ _
 have l2 : L2.length = 32 := hL2 ▸ Ky.lab_len _ _ _
 have b1 : Ae.bytes L1 := hL1 ▸ Ky.lab_bytes _ _ _
 have b2 : Ae.bytes L2 := hL2 ▸ Ky.lab_bytes _ _ _
 have HLA : Hid (∀ W, Below w.heap.size w W → Calls Tryd.prog 37 #[.slice A1 n1 c1, .slice A2 n2 c2] W fun e w' => e = .returned (.tuple #[.agg (cellsN L1), .agg (cellsN L2)]) ∧ Below W.heap.size W w') := fun W hb => by
  rw [← hL1, ← hL2]
  exact later_any A1 n1 c1 cl A2 n2 c2 sv W (ht.below hb) (r1.below hb) m1 q1 ⟨by omega, k1.2⟩ (r2.below hb) m2 q2 (by omega)
 have HBL : Hid (∀ W, Below w.heap.size w W → ∀ i, i < n3 → ∃ b o, A3 = some ⟨b, o, none⟩ ∧ W.cell? ⟨b, o + i, none⟩ = some (.bool (l.getD i false))) := fun W hb i hi => by
  obtain ⟨b, o, e, hlt, hc⟩ := i3.2 (by omega)
  exact ⟨b, o, e, (hb.cell (p := ⟨b, o + i, none⟩) hlt).trans (hc i hi)⟩
 have HIF1 := Lib.hid (sizeH32 l1)
 have HIF2 := Lib.hid (sizeH32 l2)
 have HZ : Hid (#[.int .u8 0, .int .u8 0, .int .u8 0, .int .u8 0, .int .u8 0, .int .u8 0, .int .u8 0, .int .u8 0, .int .u8 0, .int .u8 0, .int .u8 0, .int .u8 0, .int .u8 0, .int .u8 0, .int .u8 0, .int .u8 0, .int .u8 0, .int .u8 0, .int .u8 0, .int .u8 0, .int .u8 0, .int .u8 0, .int .u8 0, .int .u8 0, .int .u8 0, .int .u8 0, .int .u8 0, .int .u8 0, .int .u8 0, .int .u8 0, .int .u8 0, .int .u8 0] = z32) := rfl
 have HZF1 : Hid ((#[.int .u8 0, .int .u8 0, .int .u8 0, .int .u8 0, .int .u8 0, .int .u8 0, .int .u8 0, .int .u8 0, .int .u8 0, .int .u8 0, .int .u8 0, .int .u8 0, .int .u8 0, .int .u8 0, .int .u8 0, .int .u8 0, .int .u8 0, .int .u8 0, .int .u8 0, .int .u8 0, .int .u8 0, .int .u8 0, .int .u8 0, .int .u8 0, .int .u8 0, .int .u8 0, .int .u8 0, .int .u8 0, .int .u8 0, .int .u8 0, .int .u8 0, .int .u8 0] : Array Value).size = (cellsN L1).size) := by unfold Hid; rw [cellsN_size, l1]; rfl
 have HZF2 : Hid ((#[.int .u8 0, .int .u8 0, .int .u8 0, .int .u8 0, .int .u8 0, .int .u8 0, .int .u8 0, .int .u8 0, .int .u8 0, .int .u8 0, .int .u8 0, .int .u8 0, .int .u8 0, .int .u8 0, .int .u8 0, .int .u8 0, .int .u8 0, .int .u8 0, .int .u8 0, .int .u8 0, .int .u8 0, .int .u8 0, .int .u8 0, .int .u8 0, .int .u8 0, .int .u8 0, .int .u8 0, .int .u8 0, .int .u8 0, .int .u8 0, .int .u8 0, .int .u8 0] : Array Value).size = (cellsN L2).size) := by unfold Hid; rw [cellsN_size, l2]; rfl
 have HLQ : Hid ((L1.length = 32 ∧ L2.length = 32) ∧ Ae.bytes L1 ∧ Ae.bytes L2) := ⟨⟨l1, l2⟩, b1, b2⟩
 have HQ4 : Hid (Rd w A4 text ∧ text.length = n4 ∧ Ae.bytes text ∧ (n4 ≤ 60 ∧ n4 ≤ c4 ∧ c4 ≤ 9223372036854775807)) := ⟨r4, m4, q4, k4⟩
 clear ht hL1 hL2 l1 l2 b1 b2 r1 m1 q1 k1 r2 m2 q2 k2 i3 r4 m4 q4 k4
 go_enter Tryd.func8, Tryd.ntmps8
 go_wp2_with fail
 refine (HAL.out _ (Below.refl _ _)).mono ?_
 rintro e w2 ⟨rfl, hb2⟩
 have HB2 := Lib.hid hb2
 clear hb2
 go_wp2_with fail
 refine (HLA.out _ HB2.out).mono ?_
 rintro e v1 ⟨rfl, hb⟩
 have hB1 := HB2.out.trans (hb.mono HB2.out.size)
 have tw := twoH v1 L1 L2
 obtain ⟨C, hC⟩ : ∃ C, v1.heap.size = C := ⟨_, rfl⟩
 obtain ⟨W1, hW1⟩ : ∃ W, (v1.alloc (.cells #[.int .u8 0, .int .u8 0, .int .u8 0, .int .u8 0, .int .u8 0, .int .u8 0, .int .u8 0, .int .u8 0, .int .u8 0, .int .u8 0, .int .u8 0, .int .u8 0, .int .u8 0, .int .u8 0, .int .u8 0, .int .u8 0, .int .u8 0, .int .u8 0, .int .u8 0, .int .u8 0, .int .u8 0, .int .u8 0, .int .u8 0, .int .u8 0, .int .u8 0, .int .u8 0, .int .u8 0, .int .u8 0, .int .u8 0, .int .u8 0, .int .u8 0, .int .u8 0] 23)).alloc (.cells #[.int .u8 0, .int .u8 0, .int .u8 0, .int .u8 0, .int .u8 0, .int .u8 0, .int .u8 0, .int .u8 0, .int .u8 0, .int .u8 0, .int .u8 0, .int .u8 0, .int .u8 0, .int .u8 0, .int .u8 0, .int .u8 0, .int .u8 0, .int .u8 0, .int .u8 0, .int .u8 0, .int .u8 0, .int .u8 0, .int .u8 0, .int .u8 0, .int .u8 0, .int .u8 0, .int .u8 0, .int .u8 0, .int .u8 0, .int .u8 0, .int .u8 0, .int .u8 0] 23) = W := ⟨_, rfl⟩
 rw [HZ.out] at hW1
 rw [hW1, hC] at tw
 obtain ⟨V1, hV1⟩ : ∃ V, (W1.setRow C (cellsN L1)).setRow (C + 1) (cellsN L2) = V := ⟨_, rfl⟩
 rw [hV1] at tw
 have hBV := hB1.trans ((hC ▸ tw.2.2.2.2).mono hB1.size)
 have HI1 : Hid (Obj V1 C 23 (cellsN L1) ∧ Obj V1 (C + 1) 23 (cellsN L2) ∧ Below w.heap.size w V1) := ⟨tw.2.2.1, tw.2.2.2.1, hBV⟩
 have HO1 := Lib.hid tw.1
 have HO2 := Lib.hid tw.2.1
 have HV1 := Lib.hid hV1
 rw [← HZ.out] at hW1
 clear tw hb hV1 HB2 hB1 hBV
 go_wp2_with (first
  | (refine wpList_store_row rfl 23 (.tmp 9) (.tmp 51) rfl C _ rfl rfl _ _ HO1.out HIF1.out HZF1.out (one_cellsN _) ?_)
  | (refine wpList_store_row rfl 23 (.tmp 10) (.tmp 52) rfl (C + 1) _ rfl rfl _ _ HO2.out HIF2.out HZF2.out (one_cellsN _) ?_; rw [HV1.out])
  | fail)
 clear hW1 hC HO1 HO2 HV1
 refine (newring_any V1).mono ?_
 rintro e w6 ⟨rfl, hp6, hb6⟩
 obtain ⟨R0, hR0⟩ : ∃ R, V1.heap.size = R := ⟨_, rfl⟩
 rw [hR0] at hp6
 rw [hR0]
 go_wp2_with fail
 refine (newring_any w6).mono ?_
 rintro e w7 ⟨rfl, hp7, hb7⟩
 obtain ⟨R1, hR1⟩ : ∃ R, w6.heap.size = R := ⟨_, rfl⟩
 rw [hR1] at hp7
 rw [hR1]
 have hlt6 := (hp6.obj.elim fun _ h => h.lt)
 have hlt7 := (hp7.obj.elim fun _ h => h.lt)
 have hB7 : Below w.heap.size w w7 := (HI1.out.2.2.trans (hb6.mono HI1.out.2.2.size)).trans (hb7.mono (HI1.out.2.2.trans (hb6.mono HI1.out.2.2.size)).size)
 obtain ⟨X, hX⟩ : ∃ X, w7.heap.size = X := ⟨_, rfl⟩
 obtain ⟨W8, hW8⟩ : ∃ W, w7.alloc (.cells #[.pointer (some ⟨R0, 0, none⟩), .pointer (some ⟨R1, 0, none⟩)] 44) = W := ⟨_, rfl⟩
 have hb78 : Below w7.heap.size w7 W8 := hW8 ▸ (Below.refl _ w7).alloc (Nat.le_refl _) _
 have hoX : Obj W8 X 44 #[.pointer (some ⟨R0, 0, none⟩), .pointer (some ⟨R1, 0, none⟩)] := hW8 ▸ hX ▸ Obj.new w7 _ _
 have HI8 : Hid (StI w C X R0 R1 L1 L2 Ky.rg0 Ky.rg0 W8) := ⟨((HI1.out.1.kept hb6).kept hb7).kept hb78, ((HI1.out.2.1.kept hb6).kept hb7).kept hb78, hoX, (hp6.kept hb7).kept hb78, hp7.kept hb78, hB7.trans (hb78.mono hB7.size), by have := HI1.out.2.2.size; omega, by omega, by omega⟩
 have HW8 := Lib.hid hW8
 clear hp6 hp7 hb6 hb7 hR0 hR1 hlt6 hlt7 hB7 hb78 hoX HI1 hW8
 go_upto_region 7 with fail
 try rw [hX]
 rw [HW8.out]
 clear hX HW8
 obtain ⟨r0, hr0⟩ : ∃ r, Ky.rg0.set 1 L1 L2 = r := ⟨_, rfl⟩
 obtain ⟨r1, hr1⟩ : ∃ r, Ky.rg0.set 1 L2 L1 = r := ⟨_, rfl⟩
 have HSA : Hid (∀ V, Below w.heap.size w V → RgP R0 Ky.rg0 V → Calls Tryd.prog 23 #[.pointer (some ⟨R0, 0, none⟩), .int .i64 1, .agg (cellsN L1), .agg (cellsN L2)] V fun e w' => e = .returned (.bool true) ∧ RgP R0 r0 w' ∧ Upd R0 V w') := fun V hb hp => by
  have := set_any R0 Ky.rg0 1 L1 L2 V (HT.out V hb) hp (fun _ => rfl) HLQ.out.1.1 HLQ.out.2.1 HLQ.out.1.2 HLQ.out.2.2
  rwa [show Ky.rg0.fresh 1 = true from rfl, if_pos rfl, hr0] at this
 have HSB : Hid (∀ V, Below w.heap.size w V → RgP R1 Ky.rg0 V → Calls Tryd.prog 23 #[.pointer (some ⟨R1, 0, none⟩), .int .i64 1, .agg (cellsN L2), .agg (cellsN L1)] V fun e w' => e = .returned (.bool true) ∧ RgP R1 r1 w' ∧ Upd R1 V w') := fun V hb hp => by
  have := set_any R1 Ky.rg0 1 L2 L1 V (HT.out V hb) hp (fun _ => rfl) HLQ.out.1.2 HLQ.out.2.2 HLQ.out.1.1 HLQ.out.2.1
  rwa [show Ky.rg0.fresh 1 = true from rfl, if_pos rfl, hr1] at this
 have HTW := Lib.hid (Ky.two_start L1 L2 r0 r1 hr0 hr1)
 clear hr0 hr1
 go_cut [71] (fun s wx => s = .bool false ∧ StI w C X R0 R1 L1 L2 r0 r1 wx)
 case first =>
  refine wp_region_held_drew (S := (fun wq => Obj wq C 23 (cellsN L1) ∧ Obj wq (C + 1) 23 (cellsN L2) ∧ Obj wq X 44 #[.pointer (some ⟨R0, 0, none⟩), .pointer (some ⟨R1, 0, none⟩)])) (by kernel_rfl) ⟨HI8.out.c1.drew, HI8.out.c2.drew, HI8.out.oX.drew⟩ (fun hHeld => ?_)
  refine tkH 0 ?_
  refine tkH 1 ?_
  refine tkH 2 ?_ (hy := by
   refine Or.inl ⟨by rfl, ?_⟩
   intro wq hSw
   have q0 : wq.cell? ⟨X, 0, none⟩ = some (.pointer (some ⟨R0, 0, none⟩)) := hSw.2.2.cell 0
   go_simp
   all_goals with_reducible rfl)
  refine tkH 3 ?_ (hy := by
   refine yieldsIf_load_row (g := C) (t := 23) (cs := cellsN L1) (ty := 23) (x := (.tmp 9)) ?_ ?_ ?_ ?_ Tryd.underlying23 rfl HIF1.out
   ·rfl
   ·rfl
   ·rfl
   ·exact fun w hSw => hSw.1)
  refine tkH 4 ?_ (hy := by
   refine yieldsIf_load_row (g := (C + 1)) (t := 23) (cs := cellsN L2) (ty := 23) (x := (.tmp 10)) ?_ ?_ ?_ ?_ Tryd.underlying23 rfl HIF2.out
   ·rfl
   ·rfl
   ·rfl
   ·exact fun w hSw => hSw.2.1)
  refine onH 5 (fun KK hKK => ?_)
  go_simp
  refine (HSA.out _ HI8.out.drew.bel HI8.out.drew.p0).mono ?_
  rintro e w9 ⟨rfl, hp9, hu9⟩
  have HI9 := Lib.hid (HI8.out.drew.up0 hu9 hp9)
  clear hp9 hu9
  try go_wp2_with fail
  refine hKK.out _ _ ?_ (fun hh => ?_)
  ·(try dsimp only)
   exact ⟨HI9.out.c1, HI9.out.c2, HI9.out.oX⟩
  clear hKK KK
  try simp only [Act.put, setIfInBounds_toArray, set_cons_zero, set_cons_succ]
  refine tkH 6 ?_
  refine tkH 7 ?_
  refine tkH 8 ?_
  refine tkH 9 ?_
  refine tkH 10 ?_ (hy := by
   refine Or.inl ⟨by rfl, ?_⟩
   intro wq hSw
   have q0 : wq.cell? ⟨X, 1, none⟩ = some (.pointer (some ⟨R1, 0, none⟩)) := hSw.2.2.cell 1
   go_simp
   all_goals with_reducible rfl)
  refine tkH 11 ?_ (hy := by
   refine yieldsIf_load_row (g := (C + 1)) (t := 23) (cs := cellsN L2) (ty := 23) (x := (.tmp 10)) ?_ ?_ ?_ ?_ Tryd.underlying23 rfl HIF2.out
   ·rfl
   ·rfl
   ·rfl
   ·exact fun w hSw => hSw.2.1)
  refine tkH 12 ?_ (hy := by
   refine yieldsIf_load_row (g := C) (t := 23) (cs := cellsN L1) (ty := 23) (x := (.tmp 9)) ?_ ?_ ?_ ?_ Tryd.underlying23 rfl HIF1.out
   ·rfl
   ·rfl
   ·rfl
   ·exact fun w hSw => hSw.1)
  refine onH 13 (fun KK hKK => ?_)
  go_simp
  refine (HSB.out _ HI9.out.bel HI9.out.p1).mono ?_
  rintro e w10 ⟨rfl, hp10, hu10⟩
  have HI10 := Lib.hid (HI9.out.up1 hu10 hp10)
  clear hp10 hu10
  try go_wp2_with fail
  refine hKK.out _ _ ?_ (fun hh2 => ?_)
  ·(try dsimp only)
   exact ⟨HI10.out.c1, HI10.out.c2, HI10.out.oX⟩
  clear hKK KK
  try simp only [Act.put, setIfInBounds_toArray, set_cons_zero, set_cons_succ]
  refine tkH 14 ?_
  refine tkH 15 ?_
  refine wpAnyH_done (by kernel_rfl) ?_ _
  go_wp2_with fail
  go_meet
  exact ⟨rfl, HI10.out⟩
 case rest =>
  obtain ⟨rfl, hI⟩ := hcut
  have HI := Lib.hid hI
  clear hI HI8 HSA HSB
  obtain ⟨sa, hsa⟩ : ∃ s, Ky.make L1 false = s := ⟨_, rfl⟩
  obtain ⟨sb, hsb⟩ : ∃ s, Ky.make L2 false = s := ⟨_, rfl⟩
  have oka : sa.Ok := hsa ▸ Ky.make_ok _ _
  have okb : sb.Ok := hsb ▸ Ky.make_ok _ _
  have HMA : Hid (∀ W, Below w.heap.size w W → Calls Tryd.prog 10 #[.agg (cellsN L1), .bool false] W fun e w' => e = .returned (.agg (secV sa)) ∧ Below W.heap.size W w') := fun W hb => hsa ▸ make_any L1 false W (HT.out W hb) HLQ.out.1.1 HLQ.out.2.1
  have HMB : Hid (∀ W, Below w.heap.size w W → Calls Tryd.prog 10 #[.agg (cellsN L2), .bool false] W fun e w' => e = .returned (.agg (secV sb)) ∧ Below W.heap.size W w') := fun W hb => hsb ▸ make_any L2 false W (HT.out W hb) HLQ.out.1.2 HLQ.out.2.2
  have HT2 : Hid (Ky.Two (fun n => if n = 0 then r0 else r1) (fun n => if n = 0 then sa else sb) (fun _ => [])) := hsa ▸ hsb ▸ HTW.out
  have HOK : Hid (∀ s ∈ [sa, sb], s.Ok) := fun s hs => by
   rcases List.mem_cons.1 hs with rfl | hs
   ·exact oka
   ·exact List.mem_singleton.1 hs ▸ okb
  clear hsa hsb HTW oka okb
  go_upto_region 9 with fail
  go_cut [12] (fun s wx => ∃ W, s = .slice (some ⟨W, 0, none⟩) 2 2 ∧ X < W ∧ Obj wx W 29 (flatS [sa, sb]).toArray ∧ StI w C X R0 R1 L1 L2 r0 r1 wx)
  case first =>
   refine wp_region_held_drew (S := (fun wq => Obj wq C 23 (cellsN L1) ∧ Obj wq (C + 1) 23 (cellsN L2))) (by kernel_rfl) ⟨HI.out.c1.drew, HI.out.c2.drew⟩ (fun hHeld => ?_)
   refine tkH 0 ?_ (hy := by
    refine yieldsIf_load_row (g := C) (t := 23) (cs := cellsN L1) (ty := 23) (x := (.tmp 9)) ?_ ?_ ?_ ?_ Tryd.underlying23 rfl HIF1.out
    ·rfl
    ·rfl
    ·rfl
    ·exact fun w hSw => hSw.1)
   refine tkH 2 ?_ (hy := by
    refine yieldsIf_load_row (g := (C + 1)) (t := 23) (cs := cellsN L2) (ty := 23) (x := (.tmp 10)) ?_ ?_ ?_ ?_ Tryd.underlying23 rfl HIF2.out
    ·rfl
    ·rfl
    ·rfl
    ·exact fun w hSw => hSw.2)
   refine onH 1 (fun KK hKK => ?_)
   go_simp
   refine (HMA.out _ HI.out.drew.bel).mono ?_
   rintro e w9 ⟨rfl, hb9⟩
   have HI9 := Lib.hid (HI.out.drew.kept hb9)
   clear hb9
   try go_wp2_with fail
   refine hKK.out _ _ ?_ (fun hh => ?_)
   ·(try dsimp only)
    exact ⟨HI9.out.c1, HI9.out.c2⟩
   clear hKK KK
   try simp only [Act.put, setIfInBounds_toArray, set_cons_zero, set_cons_succ]
   refine onH 3 (fun KK hKK => ?_)
   go_simp
   refine (HMB.out _ HI9.out.bel).mono ?_
   rintro e w10 ⟨rfl, hb10⟩
   have HI10 := Lib.hid (HI9.out.kept hb10)
   clear hb10
   try go_wp2_with fail
   refine hKK.out _ _ ?_ (fun hh2 => ?_)
   ·(try dsimp only)
    exact ⟨HI10.out.c1, HI10.out.c2⟩
   clear hKK KK
   try simp only [Act.put, setIfInBounds_toArray, set_cons_zero, set_cons_succ]
   refine onH 4 (fun KK hKK => ?_)
   rw [if_pos (by rfl)]
   refine wp_buildS 2 _ rfl [sa, sb] HOK.out rfl (by decide) (by simp [Act.eval]) ?_
   have HB11 : Hid (Obj (w10.alloc (.cells (flatS [sa, sb]).toArray 29)) w10.heap.size 29 (flatS [sa, sb]).toArray) := Obj.new _ _ _
   have HI11 := Lib.hid (HI10.out.kept ((Below.refl _ _).alloc (Nat.le_refl _) (.cells (flatS [sa, sb]).toArray 29)))
   have HX11 := Lib.hid HI10.out.oX.lt
   refine hKK.out _ _ ?_ (fun hh3 => ?_)
   ·(try dsimp only)
    exact ⟨HI11.out.c1, HI11.out.c2⟩
   clear hKK KK
   try simp only [Act.put, setIfInBounds_toArray, set_cons_zero, set_cons_succ]
   refine tkH 5 ?_
   refine wpAnyH_done (by kernel_rfl) ?_ _
   try go_wp2_with fail
   go_meet
   exact ⟨_, rfl, HX11.out, HB11.out, HI11.out⟩
  case rest =>
   obtain ⟨W, rfl, hXW, hW, hI⟩ := hcut
   have HIW := Lib.hid hI
   have HW := Lib.hid hW
   clear hI hW HI HMA HMB
   obtain ⟨P, hP⟩ : ∃ P, wc.heap.size = P := ⟨_, rfl⟩
   obtain ⟨W0, hW0⟩ : ∃ V, wc.alloc (.cells #[.slice none 0 0, .slice none 0 0] 68) = V := ⟨_, rfl⟩
   obtain ⟨R, x, own, past, pv, hT0, hI0, hL0⟩ := AcI.start HIW.out hXW HOK.out HW.out hP HT2.out
   rw [hW0] at hI0
   have HT0 := Lib.hid hT0
   have HI0 := Lib.hid hI0
   have HL0 := Lib.hid hL0
   have HW0 := Lib.hid hW0
   clear hT0 hI0 hL0 HT2 HIW HW HOK hXW hW0
   go_wp2
   rw [HW0.out]
   try rw [hP]
   clear hP HW0
   go_loopg [14] n3 (fun g i wr => ∃ (k : Nat) (x : Nat → Ky.Rg) (own : Nat → Ky.Sec) (past : Nat → List Ky.Sec) (pv : Nat → Value), k + g = n3 ∧ i = .int .i64 (k : Int) ∧ Ky.Two x own past ∧ (∀ n, n < 2 → (past n).length ≤ k) ∧ AcI w X W P R x own past pv wr)
   case atStart => exact ⟨0, x, own, past, pv, by omega, rfl, HT0.out, HL0.out, HI0.out⟩
   case round =>
    clear HT0 HL0 HI0
    obtain ⟨k, x, own, past, pv, hk, rfl, hT, hL, hI⟩ := hrel
    have HT1 := Lib.hid hT
    have HL := Lib.hid hL
    have HI := Lib.hid hI
    clear hT hL hI
    by_cases hlt : k < n3
    ·have hki : (k : Int) < (n3 : Int) := by omega
     obtain ⟨b3, o3, rfl, hc3⟩ := HBL.out wr HI.out.bel k hlt
     generalize l.getD k false = bk at *
     go_upto_if 86 with fail
     go_cut [15] (fun s wx => ∃ wv : Nat, wv < 2 ∧ s = .int .i64 (wv : Int) ∧ wx = wr)
     case first =>
      cases bk
      ·go_wp2_with fail
       go_meet
       exact ⟨0, by decide, rfl, rfl⟩
      ·go_wp2_with fail
       go_meet
       exact ⟨1, by decide, rfl, rfl⟩
     case rest =>
      obtain ⟨wv, hwv, rfl, rfl⟩ := hcut
      clear hc3
      go_upto_if 89 with fail
      go_cut [15] (fun s wx => s = .int .i64 (wv : Int) ∧ ∃ (d : Bool) (x : Nat → Ky.Rg) (own : Nat → Ky.Sec) (past : Nat → List Ky.Sec) (pv : Nat → Value), (∀ v, wv + v = 1 → if d = true then Ky.Ahd wv v x own past else Ky.Two x own past) ∧ (∀ n, n < 2 → (past n).length ≤ k + 1) ∧ AcI w X W P R x own past pv wx)
      case first =>
       by_cases hq : k % 3 = 2
       ·have hqi : (k : Int) % 3 = 2 := by omega
        have hqt : (k : Int).tmod 3 = 2 := by rw [pow3, hq]; rfl
        obtain ⟨v, hv⟩ : ∃ v, wv + v = 1 := ⟨1 - wv, by omega⟩
        have fX := HI.out.ptr hwv
        have hwi : (wv : Int) < 2 := by omega
        go_wp2_with fail
        refine (ac_turn HI.out (HT.out _ HI.out.bel) hv (HT1.out.s1 wv hwv)).mono ?_
        rintro e w4 ⟨rfl, hI4⟩
        have HI4 := Lib.hid hI4
        clear hI4 fX
        go_wp2_with fail
        go_loopw [16] (fun i wq => ∃ (j : Nat) (own' : Nat → Ky.Sec) (past' : Nat → List Ky.Sec) (pv' : Nat → Value), j ≤ 2 ∧ i = .int .i64 (j : Int) ∧ (∀ n, own' n = if n < j then Ky.upd (own n) else own n) ∧ (∀ n, past' n = if n < j then past n ++ [own n] else past n) ∧ AcI w X W P R (Ky.put x wv (x wv).turn) own' past' pv' wq) (fun i _ => 2 - (intOf i).toNat)
        case atStart => exact ⟨0, own, past, pv, by decide, rfl, fun n => (if_neg (Nat.not_lt_zero n)).symm, fun n => (if_neg (Nat.not_lt_zero n)).symm, HI4.out⟩
        case round =>
         clear HI4
         obtain ⟨j, own', past', pv', hj, rfl, ho, hp, hI⟩ := hrel
         have HI5 := Lib.hid (hI.kept (Below.refl _ wr).drew)
         have HO := Lib.hid ho
         have HP := Lib.hid hp
         by_cases hj2 : j < 2
         ·have hji : (j : Int) < 2 := by omega
          obtain ⟨m, hm⟩ : ∃ m, j + m = 1 := ⟨1 - j, by omega⟩
          have HM := Lib.hid hm
          have HK5 := Lib.hid (HI5.out.kw j hj2)
          have HPL : Hid ((past' j).length ≤ 1000) := by
           have h1 := HL.out j hj2
           unfold Hid
           rw [HP.out j, if_neg (Nat.lt_irrefl j)]; omega
          clear hI ho hp hm
          go_upto_region 23 with fail
          refine wp_region_T 11 (fun wq => wq.cell? ⟨P, j, none⟩ = some (pv' j) ∧ wq.rangeAt W (j * 61) (secL (own' j))) (by kernel_rfl) ⟨HI5.out.row hj2, HI5.out.rW j hj2⟩ (fun hHeld => ?_)
          refine tkT 0 ?_
          refine tkT 1 ?_
          refine tkT 2 ?_
          refine tkT 3 ?_ (hy := by
           refine Or.inl ⟨by rfl, ?_⟩
           intro wq hSw
           have q0 : wq.cell? ⟨P, j, none⟩ = some (pv' j) := hSw.1
           go_simp
           all_goals with_reducible rfl)
          refine tkT 4 ?_
          refine tkT 5 ?_
          refine tkT 6 ?_
          refine tkT 7 (v := .agg (secV (own' j))) ?_ (hy := by
           refine yieldsIf_load_mid ?_ 29 (.tmp 106) ?_ W (j * 61) ?_ (secL (own' j)) _ ?_ Tryd.underlying29 rfl (sizeSecL HK5.out)
           ·rfl
           ·rfl
           ·rfl
           ·exact fun wq hSw => hSw.2)
          refine onT 8 (fun KK hKK => ?_)
          rw [if_pos (by rfl)]
          refine wp_buildS 1 _ rfl [own' j] (fun s hs => List.mem_singleton.1 hs ▸ HK5.out) rfl (by decide) (by simp [Act.eval]) ?_
          obtain ⟨vb, hvb⟩ : ∃ b, wr.drew.heap.size = b := ⟨_, rfl⟩
          have hV6 : (wr.drew.alloc (.cells (flatS [own' j]).toArray 29)).rangeAt vb 0 (secL (own' j)) := rangeAt_flat (l := [own' j]) (k := 0) (fun s hs => List.mem_singleton.1 hs ▸ HK5.out) (hvb ▸ Obj.new _ _ _) rfl
          have hI6 := HI5.out.kept ((Below.refl _ _).alloc (Nat.le_refl _) (.cells (flatS [own' j]).toArray 29))
          rw [hvb]
          generalize wr.drew.alloc (.cells (flatS [own' j]).toArray 29) = W6 at *
          have HI6 := Lib.hid hI6
          obtain ⟨v6, V6, hr6, ⟨ho6, hg6⟩, hI7⟩ := hI6.app HM.out HPL.out 67 vb hV6
          have hI7n := hI7.pr j hj2
          rw [Ky.put_same, Ky.put_same] at hI7n
          generalize (past' j ++ [own' j]).length = n6 at hI7n
          obtain ⟨A6, c6, rfl, _, _⟩ := own_len hI7n
          have HI7 := Lib.hid hI7
          have HR6 := Lib.hid hr6
          have HO6 := Lib.hid (⟨ho6, hg6⟩ : Obj V6 P 68 #[pv' 0, pv' 1] ∧ V6.rangeAt W (j * 61) (secL (own' j)))
          clear hV6 hI6 hr6 ho6 hg6 hI7 hI7n hvb
          refine hKK.out _ _ ?_ (fun hh => ?_)
          ·(try dsimp only)
           exact ⟨HI6.out.row hj2, HI6.out.rW j hj2⟩
          clear hKK KK
          try simp only [Act.put, setIfInBounds_toArray, set_cons_zero, set_cons_succ]
          refine onT 9 (fun KK hKK => ?_)
          rw [if_pos (by rfl)]
          refine Lib.wp_append_run _ (.tmp 103) (.tmp 108) _ _ rfl _ _ rfl rfl _ _ HR6.out ?_
          refine hKK.out _ _ ?_ (fun hh2 => ?_)
          ·(try dsimp only)
           exact ⟨cell2 HO6.out.1 hj2, HO6.out.2⟩
          clear hKK KK
          try simp only [Act.put, setIfInBounds_toArray, set_cons_zero, set_cons_succ]
          refine onT 10 (fun KK hKK => ?_)
          go_simp
          refine hKK.out _ _ ?_ (fun hh3 => ?_)
          ·(try dsimp only)
           exact ⟨cell2 HO6.out.1 hj2, HO6.out.2⟩
          clear hKK KK
          try simp only [Act.put, setIfInBounds_toArray, set_cons_zero, set_cons_succ]
          refine laT (fun KK hKK => ?_)
          have q1 : V6.cell? ⟨P, j, none⟩ = some (pv' j) := cell2 HO6.out.1 hj2
          have q2 : V6.frozen? ⟨P, j, none⟩ = false := HO6.out.1.free j
          go_simp
          refine hKK.out _ _ ?_
          clear hKK KK
          try simp only [Act.put, setIfInBounds_toArray, set_cons_zero, set_cons_succ]
          refine wpAnyT_done (by kernel_rfl) ?_ _
          clear hh hh2 hh3 hHeld HR6 HO6 HI6
          generalize V6.setCell ⟨P, j, none⟩ (.slice A6 n6 c6) = V7 at *
          have HRW : Hid (V7.rangeAt W (j * 61) (secL (own' j))) := HI7.out.rW j hj2
          have HSL : Hid ((Tryd.prog.info? 29).map (·.size) = some (secL (own' j)).length) := sizeSecL HK5.out
          go_wp2_with (first
           | (refine wpList_load_mid rfl 29 (.tmp 115) rfl W (j * 61) rfl _ _ HRW.out Tryd.underlying29 rfl HSL.out ?_; rw [secL_arr])
           | fail)
          refine (ac_upd HI7.out (HT.out _ HI7.out.bel) hj2).mono ?_
          rintro e V8 ⟨rfl, hI8⟩
          obtain ⟨hth, hI9⟩ := hI8.store HM.out (Ky.upd_ok (own' j))
          have HTH := Lib.hid hth
          have HI9 := Lib.hid hI9
          have HSU := Lib.hid (sizeSec (Ky.upd_ok (own' j)))
          clear hI8 hth hI9 HI7 HRW HSL
          go_wp2_with (first
           | (refine wpList_store_mid rfl 29 (.tmp 118) (.tmp 117) rfl W (j * 61) (secV (Ky.upd (own' j))) rfl rfl HTH.out HSU.out (one_rowT _ _) ?_; rw [secV_list])
           | fail)
          go_roundw
          case measure => simp [intOf]; omega
          case rel =>
           refine ⟨j + 1, _, _, _, by omega, by simp, fun n => ?_, fun n => ?_, HI9.out⟩
           ·by_cases hnj : n = j
            ·rw [hnj, Ky.put_same, if_pos (Nat.lt_succ_self j), HO.out j, if_neg (Nat.lt_irrefl j)]
            ·rw [Ky.put_ne _ _ hnj, HO.out n]
             by_cases hlt2 : n < j
             ·rw [if_pos hlt2, if_pos (Nat.lt_succ_of_lt hlt2)]
             ·rw [if_neg hlt2, if_neg (by omega)]
           ·by_cases hnj : n = j
            ·rw [hnj, Ky.put_same, if_pos (Nat.lt_succ_self j), HP.out j, if_neg (Nat.lt_irrefl j), HO.out j, if_neg (Nat.lt_irrefl j)]
            ·rw [Ky.put_ne _ _ hnj, HP.out n]
             by_cases hlt2 : n < j
             ·rw [if_pos hlt2, if_pos (Nat.lt_succ_of_lt hlt2)]
             ·rw [if_neg hlt2, if_neg (by omega)]
         ·obtain rfl : 2 = j := by omega
          have hI6 := hI.cong (x' := Ky.put x wv (x wv).turn) (own' := fun n => Ky.upd (own n)) (past' := fun n => past n ++ [own n]) (pv' := pv') (fun _ _ => rfl) (fun n hn => by rw [ho n, if_pos hn]) (fun n hn => by rw [hp n, if_pos hn]) (fun _ _ => rfl)
          have HI6 := Lib.hid hI6
          clear hI6 hI ho hp HI5 HO HP
          go_wp2_with fail
          go_meet
          exact ⟨rfl, true, _, _, _, _, fun v hv => HT1.out.turn hv, fun n hn => by have := HL.out n hn; simp; omega, HI6.out⟩
       ·have hqi : ¬ (k : Int) % 3 = 2 := by omega
        have hqt : ¬ (k : Int).tmod 3 = 2 := by rw [pow3]; omega
        go_wp2_with fail
        go_meet
        exact ⟨rfl, false, x, own, past, pv, fun v _ => HT1.out, fun n hn => Nat.le_succ_of_le (HL.out n hn), HI.out⟩
      case rest =>
       obtain ⟨rfl, d, x2, own2, past2, pv2, hS2, hL2, hI2⟩ := hcut
       have HS2 := Lib.hid hS2
       have HL2 := Lib.hid hL2
       have HI2 := Lib.hid hI2
       clear hS2 hL2 hI2 HT1 HL HI
       obtain ⟨u, hu, hu2⟩ := u64_of (n := (k : Int))
       have HU : Hid (IntKind.u64.wrap (k : Int) = (u : Int) ∧ u < 18446744073709551616) := ⟨hu, hu2⟩
       clear hu hu2
       go_wp2_with fail
       go_loopg [17] 2 (fun g i wz => ∃ (j : Nat) (x : Nat → Ky.Rg), j + g = 2 ∧ i = .int .i64 (j : Int) ∧ (∀ v, wv + v = 1 → if j = 0 ∧ d = true then Ky.Ahd wv v x own2 past2 else Ky.Two x own2 past2) ∧ AcI w X W P R x own2 past2 pv2 wz)
       case atStart => exact ⟨0, x2, rfl, rfl, fun v hv => by have := HS2.out v hv; simpa using this, HI2.out⟩
       case round =>
        clear HS2 HI2
        obtain ⟨j, x, hj, rfl, hS, hI⟩ := hrel
        have HS := Lib.hid hS
        have HI := Lib.hid hI
        clear hS hI
        by_cases hj2 : j < 2
        ·have hji : (j : Int) < 2 := by omega
         obtain ⟨n, hn⟩ : ∃ n, (wv + j) % 2 = n := ⟨_, rfl⟩
         obtain ⟨m, hm⟩ : ∃ m, n + m = 1 := ⟨1 - n, by omega⟩
         obtain ⟨v, hv⟩ : ∃ v, wv + v = 1 := ⟨1 - wv, by omega⟩
         obtain ⟨s2, hs2⟩ : ∃ s, wv + j = s := ⟨_, rfl⟩
         have hn2 : n < 2 := by omega
         have hm2 : m < 2 := by omega
         have e1 : (wv : Int) + (j : Int) = (s2 : Int) := by omega
         have e2 : (s2 : Int) % 2 = (n : Int) := by omega
         have e2' : (s2 : Int).tmod 2 = (n : Int) := by rw [pow2]; omega
         have e3 : (1 : Int) - (n : Int) = (m : Int) := by omega
         have hni : (n : Int) < 2 := by omega
         have hmi : (m : Int) < 2 := by omega
         have HN : Hid (n = (wv + j) % 2 ∧ n + m = 1 ∧ wv + v = 1 ∧ j < 2 ∧ n < 2 ∧ m < 2) := ⟨hn.symm, hm, hv, hj2, hn2, hm2⟩
         clear hn hm hv hs2
         have fXn := HI.out.ptr hn2
         have fXm := HI.out.ptr hm2
         obtain ⟨S, hS⟩ : ∃ S, (x n).sealR 1 u [] text = S := ⟨_, rfl⟩
         have hs1 : (x n).s1 = 1 := by
          have h := HS.out v HN.out.2.2.1
          split at h
          ·exact h.s1 n hn2
          ·exact h.s1 n hn2
         have hsl := seal_len (x n) u text hs1 (HI.out.rg n hn2).1 HQ4.out.2.2.1
         rw [hS, HQ4.out.2.1] at hsl
         have HSS := Lib.hid hS
         have HS1 := Lib.hid hs1
         have HSL := Lib.hid hsl
         clear hS hs1 hsl
         go_wp2_with fail
         go_quiet (fail)
         go_wp2_with fail
         have HI3 := Lib.hid (HI.out.kept (below_drewN' (w := wr) (q := nq) rfl))
         clear HI
         refine (ac_seal HI3.out HN.out.2.1 HS1.out (k : Int) u HU.out.1 HU.out.2 HQ4.out.1 HQ4.out.2.1 HQ4.out.2.2.1 HQ4.out.2.2.2 HSS.out).mono ?_
         rintro e V4 ⟨A5, c5, rfl, hc5, hr5, hI4⟩
         have HC5 := Lib.hid hc5
         have HR5 := Lib.hid hr5
         have HI4 := Lib.hid hI4
         clear hc5 hr5 hI4 HI3 fXn fXm
         obtain ⟨L, hL⟩ : ∃ L, (past2 n).length = L := ⟨_, rfl⟩
         have HLP := Lib.hid hL
         clear hL
         obtain ⟨A6, c6, hpv, hc6a, hc6b⟩ := own_len (HLP.out ▸ HI4.out.pr n hn2)
         have HPV := Lib.hid hpv
         clear hpv
         have hL31 : L ≤ 1000 := by have := HL2.out n hn2; rw [HLP.out] at this; omega
         go_wp2_with fail
         go_loopw [22] (fun i wq => ∃ q : Nat, q ≤ L ∧ i = .int .i64 (q : Int) ∧ AcI w X W P R x own2 past2 pv2 wq ∧ Rd wq A5 S ∧ ∀ p, p < q → ∀ s, (past2 n)[p]? = some s → (Ky.open' s u [] S).1 ≠ 0) (fun i _ => L - (intOf i).toNat)
         case atStart => exact ⟨0, Nat.zero_le _, rfl, HI4.out, HR5.out, fun p hp => absurd hp (Nat.not_lt_zero p)⟩
         case round =>
          clear HI4 HR5
          obtain ⟨q, hq, rfl, hI, hR, hP⟩ := hrel
          have HI5 := Lib.hid hI
          have HR5 := Lib.hid hR
          have HP5 := Lib.hid hP
          have fP : wr.cell? ⟨P, n, none⟩ = some (.slice A6 L c6) := HPV.out ▸ HI5.out.row hn2
          clear hI hR hP
          by_cases hqL : q < L
          ·have hqi : (q : Int) < (L : Int) := by omega
           obtain ⟨s, hs⟩ : ∃ s, (past2 n)[q]? = some s := ⟨_, List.getElem?_eq_getElem (by rw [HLP.out]; exact hqL)⟩
           obtain ⟨g, c6', hpv2, hrg⟩ := own_sec (HI5.out.pr n hn2) (HI5.out.ok n hn2) hs
           have hok := HI5.out.ok n hn2 s (List.mem_of_getElem? hs)
           rw [HPV.out] at hpv2
           obtain ⟨rfl, -, -⟩ : A6 = some ⟨g, 0, none⟩ ∧ L = (past2 n).length ∧ c6 = c6' := by cases hpv2; exact ⟨rfl, rfl, rfl⟩
           have HRG := Lib.hid hrg
           have HOS := Lib.hid hok
           have HSZ := Lib.hid (sizeSecL hok)
           have HSQ := Lib.hid hs
           clear hpv2 hrg hok hs
           go_wp2_with (first
            | (refine wpList_load_mid rfl 29 (.tmp 153) rfl g (q * 61) rfl _ _ HRG.out Tryd.underlying29 rfl HSZ.out ?_; rw [secL_arr])
            | fail)
           refine (ac_past HI5.out HOS.out (k : Int) u HU.out.1 HU.out.2 HR5.out HSL.out.1 HSL.out.2 ⟨by have := HQ4.out.2.2.2.1; omega, HC5.out⟩).mono ?_
           rintro e V6 ⟨v6, rfl, hI6, hR6⟩
           have HI6 := Lib.hid hI6
           have HR6 := Lib.hid hR6
           clear hI6 hR6 HI5 HR5 fP HRG
           obtain ⟨E, hE⟩ : ∃ E, (Ky.open' s u [] S).1 = E := ⟨_, rfl⟩
           have HE := Lib.hid hE
           rw [hE]
           clear hE
           by_cases hE0 : E = 0
           ·subst hE0
            go_wp2
            go_ret
            exact ⟨rfl, HI6.out.bel⟩
           ·have hEi : ¬ (E : Int) = 0 := by omega
            have hEb : ((E : Int) == 0) = false := by simpa using hE0
            go_wp2_with fail
            go_roundw
            case measure => simp [intOf]; omega
            case rel =>
             refine ⟨q + 1, by omega, by simp, HI6.out, HR6.out, fun p hp s' hs' => ?_⟩
             by_cases hpq : p = q
             ·subst hpq
              rw [HSQ.out] at hs'
              cases hs'
              rw [HE.out]; exact hE0
             ·exact HP5.out p (by omega) s' hs'
          ·obtain rfl : L = q := by omega
           have hall : ∀ s ∈ past2 n, (Ky.open' s u [] S).1 ≠ 0 := fun s hs => by
            obtain ⟨p, hp, he⟩ := List.mem_iff_getElem.1 hs
            exact HP5.out p (by rw [← HLP.out]; exact hp) s (by rw [List.getElem?_eq_getElem hp, he])
           obtain ⟨hn, hm, hv, _, _, _⟩ := HN.out
           obtain ⟨r', hop, hT3, hph⟩ := Ky.opens hv hj2 hn hm (HS.out v hv) u text S HSS.out hall
           obtain ⟨ph, hph1⟩ : ∃ ph, (x n).phase = ph := ⟨_, rfl⟩
           rw [hph1] at hop hph
           have HOP := Lib.hid hop
           have HPH := Lib.hid (⟨hph1, hph.symm⟩ : (x n).phase = ph ∧ r'.phase = ph)
           have HT3 := Lib.hid hT3
           clear hall hn hm hv hop hT3 hph hph1 HP5
           have hpc := phase_any (R n) (x n) wr (HI5.out.rg n hn2)
           rw [HPH.out.1] at hpc
           have HPC := Lib.hid hpc
           clear hpc
           go_wp2_with fail
           refine HPC.out.mono ?_
           rintro e V5 ⟨rfl, rfl⟩
           go_wp2_with fail
           refine (ac_open HI5.out (HT.out _ HI5.out.bel) HN.out.2.1 ph (k : Int) u HU.out.1 HU.out.2 HR5.out HSL.out.1 HSL.out.2 ⟨by have := HQ4.out.2.2.2.1; omega, HC5.out⟩ HOP.out HQ4.out.2.1).mono ?_
           rintro e V6 ⟨A7, c7, rfl, hr7, hI7⟩
           have HI7 := Lib.hid hI7
           have hsame := same_any A7 A4 c7 c4 n4 n4 text text V6 hr7 (HQ4.out.1.below hI7.bel) HQ4.out.2.1 HQ4.out.2.1 (by have := HQ4.out.2.2.2.1; omega)
           rw [decide_eq_true rfl] at hsame
           have HSM := Lib.hid hsame
           clear hr7 hI7 hsame HI5 HR5 HPC fP
           go_wp2_with fail
           refine HSM.out.mono ?_
           rintro e V8 ⟨rfl, q8, hq8⟩
           have HI8 := Lib.hid (HI7.out.kept (below_drewN' hq8))
           clear hq8 HI7 HSM
           have hpn := phase_any (R n) (Ky.put x m r' n) V8 (HI8.out.rg n hn2)
           rw [Ky.put_ne x r' (show n ≠ m by omega), HPH.out.1] at hpn
           have hpm := phase_any (R m) (Ky.put x m r' m) V8 (HI8.out.rg m hm2)
           rw [Ky.put_same, HPH.out.2] at hpm
           have HPN := Lib.hid hpn
           have HPM := Lib.hid hpm
           clear hpn hpm
           go_wp2_with fail
           refine HPN.out.mono ?_
           rintro e V9 ⟨rfl, rfl⟩
           go_wp2_with fail
           refine HPM.out.mono ?_
           rintro e V9 ⟨rfl, rfl⟩
           go_wp2_with fail
           go_roundg (2 - (j + 1))
           case measure => omega
           case rel => exact ⟨j + 1, _, by omega, by simp, fun v hv => by rw [if_neg (by omega)]; exact HT3.out, HI8.out⟩
        ·obtain rfl : 2 = j := by omega
         have hT2 : Ky.Two x own2 past2 := by
          have h := HS.out (1 - wv) (by omega)
          rwa [if_neg (by omega)] at h
         have HT4 := Lib.hid hT2
         clear hT2
         go_wp2_with fail
         go_roundg (n3 - (k + 1))
         case measure => omega
         case rel => exact ⟨k + 1, x, own2, past2, pv2, by omega, by simp, HT4.out, HL2.out, HI.out⟩
    ·obtain rfl : n3 = k := by omega
     have hs1 := HT1.out.s1 0 (by decide)
     have hs0 := HT1.out.s0 0 (by decide)
     have hd := drop_any (R 0) (x 0) 1 wr (HI.out.rg 0 (by decide))
     rw [has_1 hs1, if_pos rfl] at hd
     obtain ⟨r', hr'⟩ : ∃ r, (x 0).drop 1 = r := ⟨_, rfl⟩
     rw [hr'] at hd
     have hh : r'.has 1 = false := by rw [← hr']; rfl
     have hlv : r'.live = 0 := by
      rw [← hr']
      show (if (x 0).s0 == 1 then 2 else 0) + (if (2 : Nat) == 1 then 2 else 0) + (if false then 1 else 0) = 0
      rw [hs0]; rfl
     have HD := Lib.hid hd
     have HH := Lib.hid hh
     have HLV := Lib.hid hlv
     have fX := HI.out.ptr (show 0 < 2 by decide)
     clear hs1 hs0 hd hr' hh hlv
     go_wp2_with fail
     refine HD.out.mono ?_
     rintro e V4 ⟨rfl, hp4, hu4⟩
     have hI4 := HI.out.ring (n := 0) (m := 1) rfl hp4 hu4
     have fX4 := hI4.ptr (show 0 < 2 by decide)
     have hse := ac_seal0 hI4 (n := 0) (m := 1) rfl (by rw [Ky.put_same]; exact HH.out) HQ4.out.1 HQ4.out.2.1 HQ4.out.2.2.1 HQ4.out.2.2.2
     have HSE := Lib.hid hse
     clear hp4 hu4 hI4 hse HI HD fX
     go_wp2_with fail
     refine HSE.out.mono ?_
     rintro e V5 ⟨A7, c7, rfl, hI5⟩
     have hl5 := live_any (R 0) (Ky.put x 0 r' 0) V5 (hI5.rg 0 (by decide))
     rw [Ky.put_same, HLV.out] at hl5
     have fX5 := hI5.ptr (show 0 < 2 by decide)
     have HL5 := Lib.hid hl5
     have HB5 := Lib.hid hI5.bel
     clear hI5 hl5 fX4 HSE
     go_wp2_with fail
     refine HL5.out.mono ?_
     rintro e V6 ⟨rfl, hb6⟩
     have HB6 := Lib.hid (HB5.out.trans (hb6.mono HB5.out.size))
     clear hb6
     go_wp2
     go_ret
     exact ⟨rfl, HB6.out⟩
set_option maxHeartbeats 4000000 in
theorem keysAcross_walk (A1 : Option Addr) (n1 c1 : Nat) (z1 : List Int) (A2 : Option Addr) (n2 c2 : Nat) (z2 : List Int) (A3 : Option Addr) (n3 c3 : Nat) (l : List Bool) (A4 : Option Addr) (n4 c4 : Nat) (z4 : List Int) (w : World)
  (i1 : Ints .u8 w A1 n1 z1) (x1 : n1 ≤ c1 ∧ c1 ≤ maxLen) (i2 : Ints .u8 w A2 n2 z2) (x2 : n2 ≤ c2 ∧ c2 ≤ maxLen) (i3 : Bls w A3 n3 l) (x3 : n3 ≤ c3 ∧ c3 ≤ maxLen) (i4 : Ints .u8 w A4 n4 z4) (x4 : n4 ≤ c4 ∧ c4 ≤ maxLen) (ht : KTab w) :
  Calls Tryd.prog 8 #[.slice A1 n1 c1, .slice A2 n2 c2, .slice A3 n3 c3, .slice A4 n4 c4] w fun e w' => e = .returned (.bool true) ∧ Below w.heap.size w w' := by
 obtain ⟨l1, m1, q1, r1⟩ := i1.rd
 obtain ⟨l2, m2, q2, r2⟩ := i2.rd
 obtain ⟨l4, m4, q4, r4⟩ := i4.rd
 by_cases hh : n1 ≤ 100 ∧ n2 ≤ 100 ∧ n3 ≤ 30 ∧ n4 ≤ 60
 ·exact keysAcross_small A1 n1 c1 l1 A2 n2 c2 l2 A3 n3 c3 l A4 n4 c4 l4 w ht r1 m1 q1 ⟨hh.1, x1⟩ r2 m2 q2 hh.2.1 i3 hh.2.2.1 r4 m4 q4 ⟨hh.2.2.2, x4⟩
 ·have HAL := Lib.hid (alive_true w ht)
  have hc : (100 < (n1 : Int)) ∨ (¬ 100 < (n1 : Int) ∧ 100 < (n2 : Int)) ∨ (¬ 100 < (n1 : Int) ∧ ¬ 100 < (n2 : Int) ∧ 30 < (n3 : Int)) ∨ (¬ 100 < (n1 : Int) ∧ ¬ 100 < (n2 : Int) ∧ ¬ 30 < (n3 : Int) ∧ 60 < (n4 : Int)) := by omega
  clear i1 m1 q1 r1 i2 m2 q2 r2 i3 i4 m4 q4 r4 ht hh x1 x2 x3 x4
  go_enter Tryd.func8, Tryd.ntmps8
  go_wp2_with fail
  refine HAL.out.mono ?_
  rintro e w1 ⟨rfl, hb1⟩
  have HA := Lib.hid hb1
  clear hb1
  rcases hc with h1 | ⟨h1, h2⟩ | ⟨h1, h2, h3⟩ | ⟨h1, h2, h3, h4⟩
  ·have h1' : (n1 : Int) > 100 := by omega
   go_wp2
   go_ret
   exact ⟨rfl, HA.out⟩
  ·have h1' : ¬ (n1 : Int) > 100 := by omega
   have h2' : (n2 : Int) > 100 := by omega
   go_wp2
   go_ret
   exact ⟨rfl, HA.out⟩
  ·have h1' : ¬ (n1 : Int) > 100 := by omega
   have h2' : ¬ (n2 : Int) > 100 := by omega
   have h3' : (n3 : Int) > 30 := by omega
   go_wp2
   go_ret
   exact ⟨rfl, HA.out⟩
  ·have h1' : ¬ (n1 : Int) > 100 := by omega
   have h2' : ¬ (n2 : Int) > 100 := by omega
   have h3' : ¬ (n3 : Int) > 30 := by omega
   have h4' : (n4 : Int) > 60 := by omega
   go_wp2
   go_ret
   exact ⟨rfl, HA.out⟩
end Go.Proofs.YtabfcaidioohfaaDoor
