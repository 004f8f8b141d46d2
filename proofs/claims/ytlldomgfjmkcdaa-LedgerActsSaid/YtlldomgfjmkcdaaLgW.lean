/- Layer 15's ledger in memory: packets' rows; a ledger behind a pointer. -/
import Derived.Test.YtlldomgfjmkcdaaRows
import Derived.Test.YtlldomgfjmkcdaaAid
import Derived.WalkKit
import Derived.OwnWalk
import Derived.Laws.Rows
import Derived.Laws.Tables
import Derived.Laws.AppendOwn
import Derived.ArgAppend
import Derived.WalkSpells
import Derived.WalkLawsBesides
import Derived.Handy
import Derived.Lib.Hide
import Derived.IntWalk
namespace Go.Proofs.Ytlldomgfjmkcdaa
open Go Go.RowKit
set_option linter.unusedVariables false
set_option linter.unusedSimpArgs false

/-- A packet. -/
structure PS where
  num : Nat
  tm : Nat
  sz : Nat
  ask : Bool
  fa : Option Addr
  fn : Nat
  fc : Nat
deriving Inhabited
def pc (p : PS) : List Value := [.int .i64 (p.num : Int), .int .u64 (p.tm : Int), .int .i64 (p.sz : Int), .bool p.ask, .slice p.fa p.fn p.fc]
def flatS : List PS → List Value
  | [] => []
  | p :: t => pc p ++ flatS t
theorem flatS_length (l : List PS) : (flatS l).length = l.length * 5 := by
  induction l with
  | nil => rfl
  | cons p t ih => rw [flatS, List.length_append, ih, List.length_cons]; show 5 + _ = _; omega
theorem flatS_append (a b : List PS) : flatS (a ++ b) = flatS a ++ flatS b := by
  induction a with
  | nil => rfl
  | cons p t ih => simp [flatS, ih]
theorem flatS_get (l : List PS) : ∀ i, i < l.length → ∀ k, k < 5 → (flatS l)[i * 5 + k]? = (pc (l.getD i default))[k]? := by
  induction l with
  | nil => intro i h; simp at h
  | cons p t ih =>
    intro i h k hk
    cases i with
    | zero => rw [Nat.zero_mul, Nat.zero_add, flatS, List.getElem?_append_left (show k < (pc p).length from hk)]; rfl
    | succ i =>
      have h5 : (pc p).length = 5 := rfl
      rw [flatS, List.getElem?_append_right (by omega), show (i + 1) * 5 + k - (pc p).length = i * 5 + k by omega, ih i (by simpa using h) k hk]
      rfl
theorem flatS_one (l : List PS) : ∀ v ∈ flatS l, v.oneCell' = true := by
  induction l with
  | nil => intro v h; cases h
  | cons p t ih =>
    intro v h
    rcases List.mem_append.1 h with h | h
    · simp only [pc, List.mem_cons, List.not_mem_nil, or_false] at h
      rcases h with rfl | rfl | rfl | rfl | rfl <;> rfl
    · exact ih v h
theorem flatS_take (l : List PS) : ∀ n, n ≤ l.length → (flatS l).take (n * 5) = flatS (l.take n) := by
  induction l with
  | nil => intro n h; simp at h; subst h; rfl
  | cons p t ih =>
    intro n h
    cases n with
    | zero => simp [flatS]
    | succ n =>
      have h5 : (pc p).length = 5 := rfl
      rw [flatS, List.take_succ_cons, flatS, List.take_append, List.take_of_length_le (by omega), show (n + 1) * 5 - (pc p).length = n * 5 by omega, ih n (by simpa using h)]
theorem infoSm : (Try.prog.info? 32).map (fun i => (i.zero, i.size, i.bytes)) = some (some (.agg #[.int .i64 0, .int .u64 0, .int .i64 0, .bool false, .slice none 0 0]), 5, 56) := by kernel_rfl
theorem infoS : ∃ i0, Try.prog.info? 32 = some i0 ∧ i0.zero = some (.agg #[.int .i64 0, .int .u64 0, .int .i64 0, .bool false, .slice none 0 0]) ∧ i0.size = 5 ∧ i0.bytes = 56 := info_parts infoSm
/-- Packets that lie at an address. -/
def RbS (w : World) (A : Option Addr) (l : List PS) : Prop := 0 < l.length → ∃ b o, A = some ⟨b, o, none⟩ ∧ b < w.heap.size ∧ ∀ i, i < l.length → ∀ k v, (pc (l.getD i default))[k]? = some v → w.cell? ⟨b, o + (i * 5 + k), none⟩ = some v
theorem RbS.below {w w' : World} {A : Option Addr} {l : List PS} (h : RbS w A l) (hb : Below w.heap.size w w') : RbS w' A l := fun hp => by
  obtain ⟨b, o, e, h1, h2⟩ := h hp
  exact ⟨b, o, e, Nat.lt_of_lt_of_le h1 hb.size, fun i hi k v hv => (World.cell?_of_block (a := ⟨b, o + (i * 5 + k), none⟩) (hb.block b h1)).trans (h2 i hi k v hv)⟩
theorem RbS.src {w : World} {A : Option Addr} {l : List PS} (h : RbS w A l) (hp : 0 < l.length) : ∃ ad, A = some ad ∧ ∀ j v, (flatS l)[j]? = some v → w.cell? (ad.add j) = some v := by
  obtain ⟨b, o, rfl, h1, h2⟩ := h hp
  refine ⟨_, rfl, fun j v hv => ?_⟩
  have hj := (List.getElem?_eq_some_iff.1 hv).1
  rw [flatS_length] at hj
  obtain ⟨i, k, hk, rfl⟩ : ∃ i k, k < 5 ∧ j = i * 5 + k := ⟨j / 5, j % 5, by omega, by omega⟩
  rw [flatS_get l i (by omega) k hk] at hv
  rw [Addr.add_lit]
  exact h2 i (by omega) k v hv
theorem ownS_rb {w : World} {base n : Nat} {v : Value} {l : List PS} (h : w.ownsRow base 32 5 v n (flatS l)) : ∃ A c, v = .slice A n c ∧ l.length = n ∧ n ≤ c ∧ c ≤ maxLen ∧ RbS w A l ∧ (A = none ∨ ∃ g, A = some ⟨g, 0, none⟩ ∧ base ≤ g) := by
  have hn : l.length = n := by have := h.1; rw [flatS_length] at this; omega
  rcases h.2 with ⟨rfl, h0⟩ | ⟨g, cap, cur, rfl, hb, hg, hnc, hcm, hcs, ht⟩
  · subst h0
    exact ⟨none, 0, rfl, hn, Nat.le_refl _, Nat.zero_le _, fun hp => by omega, Or.inl rfl⟩
  · have hO : Obj w g 32 cur := hg
    refine ⟨_, cap, rfl, hn, hnc, hcm, fun hp => ⟨g, 0, rfl, hO.lt, fun i hi k v hv => ?_⟩, Or.inr ⟨g, rfl, hb⟩⟩
    have hk := (List.getElem?_eq_some_iff.1 hv).1
    have hk5 : k < 5 := hk
    rw [← flatS_get l i hi k hk5, ← ht, List.getElem?_take_of_lt (by omega)] at hv
    rw [Nat.zero_add, hO.cell]
    simpa using hv
theorem ownS_app (w : World) (ty : TypeId) {base n : Nat} {v : Value} {l : List PS} (hown : w.ownsRow base 32 5 v n (flatS l)) (ad : Addr) (m c : Nat) (X : List PS) (hl : X.length = m) (hsrc : ∀ j u, (flatS X)[j]? = some u → w.cell? (ad.add j) = some u) (hm : n + m ≤ 1000000) (hbase : base ≤ w.heap.size) :
    ∃ v' w', (Builtin.append_ #[25, 25] ty #[v, .slice (some ad) m c]).run Try.prog w = .ok v' w' ∧ w'.ownsRow base 32 5 v' (n + m) (flatS (l ++ X)) ∧ w.grownBy w' v.ownBlock := by
  obtain ⟨i0, hi, hz0, hz1, hz2⟩ := infoS
  obtain ⟨v', w', h1, h2, h3, _⟩ := run_append_own (P := Try.prog) w base 25 ty 32 i0 _ 5 56 Try.underlying25 hi hz0 hz1 hz2 rfl (by decide) v n _ hown ad m c (flatS X) (by rw [flatS_length, hl]) hsrc (flatS_one X) (by unfold maxLen; omega) (by omega) hbase
  exact ⟨v', w', h1, by rw [flatS_append]; exact h2, h3⟩
/-- Of what was there nothing has turned, but one block and perhaps another. -/
structure UpdO (a : Nat) (r : Option Nat) (w w' : World) : Prop where
  os : w'.os = w.os
  tape : w'.tape = w.tape
  output : w'.output = w.output
  size : w.heap.size ≤ w'.heap.size
  block : ∀ k, k < w.heap.size → k ≠ a → some k ≠ r → w'.heap[k]? = w.heap[k]?
/-- A slice that is the old one's row, or a new one. -/
def Fresh (w : World) (v v' : Value) : Prop := ∀ g, v'.ownBlock = some g → v.ownBlock = some g ∨ w.heap.size ≤ g
structure LS where
  l : List PS
  next : Nat
  acked : Nat
/-- A ledger at a block. -/
structure StV (w : World) (base a : Nat) (v : Value) (x : LS) : Prop where
  obj : Obj w a 27 #[v, .int .i64 (x.next : Int), .int .i64 (x.acked : Int)]
  own : w.ownsRow base 32 5 v x.l.length (flatS x.l)
  lt : a < base
  le : base ≤ w.heap.size
theorem ownS_kept {V V' : World} {base n : Nat} {v : Value} {xs : List Value} {T : TypeId} {s : Nat} (h : V.ownsRow base T s v n xs) (hb : Below V.heap.size V V') : V'.ownsRow base T s v n xs := by
  refine ⟨h.1, ?_⟩
  rcases h.2 with h0 | ⟨g, cap, cur, e, hb1, hg, h3⟩
  · exact .inl h0
  · exact .inr ⟨g, cap, cur, e, hb1, (hb.block g (Array.getElem?_eq_some_iff.1 hg).1).trans hg, h3⟩
theorem StV.kept {w w' : World} {base a : Nat} {v : Value} {x : LS} (h : StV w base a v x) (hb : Below w.heap.size w w') : StV w' base a v x :=
  ⟨h.obj.kept hb, ownS_kept h.own hb, h.lt, Nat.le_trans h.le hb.size⟩
end Go.Proofs.Ytlldomgfjmkcdaa
