/- LedgerOnce: the plain law, and what its walk keeps. -/
import Derived.Test.YtlldomgfjmkcdaaRows
import Derived.Test.YtlldomgfjmkcdaaAid
import Derived.Test.YtlldomgfjmkcdaaLgW
import Derived.Test.YtlldomgfjmkcdaaLgB
import Derived.Test.YtlldomgfjmkcdaaLgD
import Derived.Test.YtlldomgfjmkcdaaLgO
import Derived.Test.YtlldomgfjmkcdaaLgQ
import Derived.Test.YtlldomgfjmkcdaaLgU
import Derived.Test.YtlldomgfjmkcdaaLgV
import Derived.Test.YtlldomgfjmkcdaaLgX
import Derived.Test.YtlldomgfjmkcdaaLgZ
import Derived.Test.YtlldomgfjmkcdaaLgF2
namespace Go.Proofs.Ytlldomgfjmkcdaa
open Go Go.RowKit
set_option linter.unusedVariables false
set_option linter.unusedSimpArgs false

/-- The counts' cells. -/
def hcells (h : Nat → Nat) : Array Value := ((List.range 200).map fun n => Value.int .i64 ((h n : Nat) : Int)).toArray
def hz : Nat → Nat := fun _ => 0
theorem hcells_size (h : Nat → Nat) : (hcells h).size = 200 := by simp [hcells]
theorem hcells_get (h : Nat → Nat) (n : Nat) (hn : n < 200) : (hcells h)[n]? = some (.int .i64 ((h n : Nat) : Int)) := by
  simp [hcells, hn]
def hinc (h : Nat → Nat) (m : Nat) : Nat → Nat := fun n => if n = m then h n + 1 else h n
theorem hcells_set (h : Nat → Nat) (m : Nat) (hm : m < 200) : (hcells h).setIfInBounds m (.int .i64 ((h m + 1 : Nat) : Int)) = hcells (hinc h m) := by
  apply Array.ext_getElem?
  intro n
  rw [Array.getElem?_setIfInBounds]
  by_cases hn : n < 200
  · rw [hcells_get _ n hn]
    by_cases e : m = n
    · subst e; rw [if_pos rfl, if_pos (by rw [hcells_size]; exact hm), hcells_get _ m hm]; unfold hinc; rw [if_pos rfl]
    · rw [if_neg e, hcells_get _ n hn]; unfold hinc; rw [if_neg (fun h => e h.symm)]
  · have h1 : ¬ m = n := by omega
    rw [if_neg h1, Array.getElem?_eq_none (by rw [hcells_size]; omega), Array.getElem?_eq_none (by rw [hcells_size]; omega)]
theorem zero200 : (Try.prog.info? 28).map (fun i => (i.zero, i.size)) = some (some (.agg (hcells hz)), 200) := by kernel_rfl
/-- How often a number is in a list. -/
def nct (ks : List Key) (n : Nat) : Nat := (ks.filter (fun p => p.num == n)).length
theorem nct_app (a b : List Key) (n : Nat) : nct (a ++ b) n = nct a n + nct b n := by unfold nct; rw [List.filter_append, List.length_append]
theorem nct_one (p : Key) (n : Nat) : nct [p] n = if n = p.num then 1 else 0 := by
  unfold nct
  by_cases h : n = p.num
  · subst h; simp
  · have : (p.num == n) = false := by simp; omega
    simp [List.filter_cons, this, h]
theorem nct_cons (p : Key) (t : List Key) (n : Nat) : nct (p :: t) n = (if n = p.num then 1 else 0) + nct t n := by rw [← nct_one, ← nct_app]; rfl
theorem nct_part (ks : List Key) (f : Key → Bool) (n : Nat) : nct (ks.filter f) n + nct (ks.filter (fun p => !f p)) n = nct ks n := by
  induction ks with
  | nil => rfl
  | cons p t ih =>
    rw [List.filter_cons, List.filter_cons, nct_cons]
    cases h1 : f p
    · rw [if_neg (by simp), if_pos (by simp), nct_cons]; omega
    · rw [if_pos rfl, if_neg (by simp), nct_cons]; omega
/-- Each number is counted once: told, or there. -/
def OnceI (h : Nat → Nat) (ks : List Key) (nx : Nat) : Prop := ∀ n, h n + nct ks n = if n < nx then 1 else 0
theorem OnceI.start : OnceI hz [] 0 := fun n => by unfold hz nct; simp
theorem OnceI.send {h : Nat → Nat} {ks : List Key} {nx tm sz : Nat} {ask : Bool} (hi : OnceI h ks nx) : OnceI h (ks ++ [⟨nx, tm, sz, ask⟩]) (nx + 1) := fun n => by
  have := hi n
  rw [nct_app, nct_one]
  dsimp only
  split at this <;> split <;> split <;> omega
def hadd (h : Nat → Nat) (ks : List Key) : Nat → Nat := fun n => h n + nct ks n
theorem hadd_nil (h : Nat → Nat) : hadd h [] = h := by funext n; rfl
theorem hadd_next (h : Nat → Nat) (ks : List Key) (p : Key) : hinc (hadd h ks) p.num = hadd h (ks ++ [p]) := by
  funext n
  unfold hinc hadd
  rw [nct_app, nct_one]
  split <;> omega
theorem OnceI.part {h : Nat → Nat} {ks : List Key} {nx : Nat} (hi : OnceI h ks nx) (f : Key → Bool) : OnceI (hadd h (ks.filter f)) (ks.filter (fun p => !f p)) nx := fun n => by
  have h1 := hi n
  have h2 := nct_part ks f n
  unfold hadd
  omega
/-- The keys' bounds. -/
def OnceB (ks : List Key) (nx ak : Nat) : Prop := ks.length ≤ 64 ∧ ak ≤ nx ∧ ∀ p ∈ ks, p.num < nx ∧ p.tm ≤ 18446744073709551615 ∧ p.sz ≤ 1200
theorem OnceB.kb {ks : List Key} {nx ak : Nat} (h : OnceB ks nx ak) (hn : nx ≤ 1000000) : KB ks := fun p hp => by
  obtain ⟨h1, h2, h3⟩ := h.2.2 p hp
  exact ⟨by omega, h2, h3⟩
theorem OnceB.start : OnceB [] 0 0 := ⟨by simp, Nat.le_refl _, fun p hp => by cases hp⟩
theorem OnceB.send {ks : List Key} {nx ak tm sz : Nat} {ask : Bool} (h : OnceB ks nx ak) (hl : ks.length < 64) (ht : tm ≤ 18446744073709551615) (hs : sz ≤ 1200) : OnceB (ks ++ [⟨nx, tm, sz, ask⟩]) (nx + 1) ak := by
  refine ⟨by simp; omega, by have := h.2.1; omega, fun p hp => ?_⟩
  rcases List.mem_append.1 hp with hp | hp
  · obtain ⟨h1, h2, h3⟩ := h.2.2 p hp
    exact ⟨by omega, h2, h3⟩
  · simp only [List.mem_singleton] at hp
    subst hp
    exact ⟨Nat.lt_succ_self _, ht, hs⟩
theorem OnceB.filter {ks : List Key} {nx ak : Nat} (h : OnceB ks nx ak) (f : Key → Bool) : OnceB (ks.filter f) nx ak :=
  ⟨Nat.le_trans (List.length_filter_le _ _) h.1, h.2.1, fun p hp => h.2.2 p (List.mem_filter.1 hp).1⟩
theorem ackMK_le : ∀ (l : List Key) (ak b : Nat), ak ≤ b → (∀ p ∈ l, p.num + 1 ≤ b) → ackMK ak l ≤ b
  | [], _, _, h, _ => h
  | p :: t, ak, b, h, hp => ackMK_le t _ b (Nat.max_le.2 ⟨h, hp p (by simp)⟩) (fun q hq => hp q (by simp [hq]))
theorem OnceB.ack {ks : List Key} {nx ak : Nat} (h : OnceB ks nx ak) (f g : Key → Bool) : OnceB (ks.filter f) nx (ackMK ak (ks.filter g)) :=
  ⟨(h.filter f).1, ackMK_le _ _ _ h.2.1 (fun p hp => (h.2.2 p (List.mem_filter.1 hp).1).1), (h.filter f).2.2⟩
/-- A store into another block. -/
theorem LK.updH {w0 w w' : World} {base a h nx ak : Nat} {ks : List Key} (hL : LK w0 base a ks nx ak w) (hu : Upd h w w') (hb : h < base) (hne : h ≠ a) (hg : w0.heap.size ≤ h) : LK w0 base a ks nx ak w' := by
  obtain ⟨v, x, hs, h1⟩ := hL.ex
  refine ⟨hL.ge, Upd.below hL.bel hg hu, v, x, ⟨hs.obj.upd hu (fun e => hne e.symm), own_updG hs.own hu (fun e => by have := (hs.own.lt h e).1; omega), hs.lt, Nat.le_trans hs.le hu.size⟩, h1⟩
/-- What a call gave: packets that went. -/
structure GoneR (w w' : World) (w0 : World) (base a : Nat) (ks ks' : List Key) (nx ak' : Nat) (gv : Value) (G : List PS) : Prop where
  own : w'.ownsRow w.heap.size 32 5 gv G.length (flatS G)
  lk : LK w0 base a ks' nx ak' w'
  part : ∃ f : Key → Bool, G.map key = ks.filter f ∧ ks' = ks.filter (fun p => !f p)
  ob : OnceB ks' nx ak'
  keep : Keep base a w w'
theorem fr_of {w : World} {A : Option Addr} {n : Nat} {l : List Frm} (hl : l.length = n) (hr : 0 < n → ∃ b o, A = some ⟨b, o, none⟩ ∧ b < w.heap.size ∧ ∀ i, i < n → ∀ j v, (fcells (l.getD i default))[j]? = some v → w.cell? ⟨b, o + i * 24 + j, none⟩ = some v) (hf : ∀ f ∈ l, f.tok.length = 16) : FrAt w A n (flatF l) := by
  have hlen : ∀ l : List Frm, (∀ f ∈ l, f.tok.length = 16) → (flatF l).length = l.length * 24 ∧ (∀ u ∈ flatF l, u.oneCell' = true) ∧ ∀ i, i < l.length → ∀ j, j < 24 → (flatF l)[i * 24 + j]? = (fcells (l.getD i default))[j]? := by
    intro l
    induction l with
    | nil => intro _; exact ⟨rfl, (fun u h => by cases h), (fun i hi => by simp at hi)⟩
    | cons f t ih =>
      intro h
      obtain ⟨h1, h2, h3⟩ := ih (fun g hg => h g (by simp [hg]))
      have h16 := h f (by simp)
      have hfl : (fcells f).length = 24 := by simp [fcells, h16]
      refine ⟨by rw [flatF, List.length_append, hfl, h1, List.length_cons]; omega, fun u hu => ?_, fun i hi j hj => ?_⟩
      · rcases List.mem_append.1 hu with hu | hu
        · simp only [fcells, List.mem_cons, List.mem_map] at hu
          rcases hu with rfl | rfl | rfl | rfl | rfl | rfl | rfl | rfl | ⟨x, _, rfl⟩ <;> rfl
        · exact h2 u hu
      · cases i with
        | zero => rw [Nat.zero_mul, Nat.zero_add, flatF, List.getElem?_append_left (by omega)]; rfl
        | succ i =>
          rw [flatF, List.getElem?_append_right (by omega), hfl, show (i + 1) * 24 + j - 24 = i * 24 + j by omega, h3 i (by simpa using hi) j hj]
          rfl
  obtain ⟨h1, h2, h3⟩ := hlen l hf
  refine ⟨by rw [h1, hl], h2, fun hp => ?_⟩
  obtain ⟨b, o, e, hb, hc⟩ := hr hp
  refine ⟨b, o, e, hb, fun j u hu => ?_⟩
  have hj := (List.getElem?_eq_some_iff.1 hu).1
  rw [h1] at hj
  obtain ⟨i, k, hk, rfl⟩ : ∃ i k, k < 24 ∧ j = i * 24 + k := ⟨j / 24, j % 24, by omega, by omega⟩
  rw [h3 i (by omega) k hk] at hu
  have := hc i (by omega) k u hu
  rw [← Nat.add_assoc]; exact this
theorem AOk.below {w w' : World} {a : Act15} (h : AOk w a) (hb : Below w.heap.size w w') : RbR w' a.rA a.rngs ∧ FrAt w' a.fA a.fn (flatF a.frs) :=
  ⟨h.rb.below hb, (fr_of h.fl h.fr (fun f hf => (h.fok f hf).tl)).below hb⟩
end Go.Proofs.Ytlldomgfjmkcdaa
