/- Small words and laws that every layer of this seat uses: bits of int64, a slice of bytes that reads as a list. -/
import Derived.WalkKit
import Derived.Below
import Derived.Laws.OwnMore
import Derived.Deep.Draws
import Derived.DataReads
import Derived.WalkSmall
import Derived.OpenShut
import Derived.Lib.Hide
namespace Go.Proofs.Ytlldomgfjmkcdaa
open Go.RowKit
set_option linter.unusedVariables false

theorem ret_int {k : IntKind} {a b : Int} (h : a = b) : Ending.returned (.int k a) = .returned (.int k b) := by rw [h]
theorem ret_bool {a b : Bool} (h : a = b) : Ending.returned (.bool a) = .returned (.bool b) := by rw [h]

theorem nat_andNot_low (a j : Nat) (hj : j ≤ 64) (ha : a < 2 ^ 64) : a &&& (2 ^ 64 - 1 - (2 ^ j - 1)) = a / 2 ^ j * 2 ^ j := by
  have hp : 0 < 2 ^ j := Nat.two_pow_pos j
  have he : 2 ^ 64 - 1 - (2 ^ j - 1) = 2 ^ 64 - (2 ^ j - 1 + 1) := by omega
  rw [he]
  apply Nat.eq_of_testBit_eq
  intro i
  have hl : 2 ^ j - 1 < 2 ^ 64 := by have := Nat.pow_le_pow_right (n := 2) (by decide) hj; omega
  rw [Nat.testBit_and, Nat.testBit_two_pow_sub_succ hl, Nat.testBit_two_pow_sub_one, Nat.testBit_mul_two_pow, Nat.testBit_div_two_pow]
  by_cases h : j ≤ i
  · by_cases h64 : i < 64
    · simp [h, h64]
    · have : a.testBit i = false := Nat.testBit_lt_two_pow (Nat.lt_of_lt_of_le ha (Nat.pow_le_pow_right (by decide) (by omega)))
      simp [h, this]
  · simp [h]; omega

theorem i64_andNot_low (e : Int) (j : Nat) (hj : j ≤ 62) (h0 : 0 ≤ e) (h1 : e < 9223372036854775808) : bits .andNot .i64 e (2 ^ j - 1) = e / 2 ^ j * 2 ^ j := by
  obtain ⟨a, rfl⟩ := Int.eq_ofNat_of_zero_le h0
  have hp : 0 < 2 ^ j := Nat.two_pow_pos j
  have hpl := Nat.pow_le_pow_right (n := 2) (by decide) hj
  have hc : ((2 : Int) ^ j - 1) = ((2 ^ j - 1 : Nat) : Int) := by rw [Int.natCast_sub hp]; simp
  rw [hc]
  show IntKind.i64.wrap ((BitVec.ofInt 64 (a : Int) &&& ~~~BitVec.ofInt 64 ((2 ^ j - 1 : Nat) : Int)).toNat : Int) = _
  rw [BitVec.toNat_and, BitVec.toNat_not, BitVec.ofInt_natCast, BitVec.ofInt_natCast, BitVec.toNat_ofNat, BitVec.toNat_ofNat]
  rw [Nat.mod_eq_of_lt (show a < 2 ^ 64 by omega), Nat.mod_eq_of_lt (show 2 ^ j - 1 < 2 ^ 64 by omega), nat_andNot_low a j (by omega) (by omega)]
  rw [IntKind.wrap_i64]
  have hle := Nat.div_mul_le_self a (2 ^ j)
  have : ((a / 2 ^ j * 2 ^ j : Nat) : Int) = (a : Int) / 2 ^ j * 2 ^ j := by simp
  omega

theorem wraps_i64 (n : Int) (h₀ : 0 ≤ n) (h₁ : n < 2 ^ 62) : IntKind.i64.wrap n = n := by rw [IntKind.wrap_i64]; omega

/-- Parts that do not overlap: an or is a sum. -/
theorem i64_join (i : Nat) (x y : Int) (hx0 : 0 ≤ x) (hx : x % 2 ^ i = 0) (hx1 : x < 2 ^ 62) (hy0 : 0 ≤ y) (hy : y < 2 ^ i) (hy1 : y < 2 ^ 62) : bits .or .i64 x y = x + y :=
  bits_join .i64 62 (by decide) wraps_i64 i x y hx0 hx hx1 hy0 hy hy1

/-- The same where the upper part may be 2^62 itself. -/
theorem or_top (i : Nat) (x y : Int) (hx0 : 0 ≤ x) (hx : x % 2 ^ i = 0) (hx1 : x ≤ 4611686018427387904) (hy0 : 0 ≤ y) (hy : y < 2 ^ i) (hi : i ≤ 62) : bits .or .i64 x y = x + y := by
  have h62 : (2 : Int) ^ i ≤ 2 ^ 62 := by exact_mod_cast Nat.pow_le_pow_right (n := 2) (by decide) hi
  exact bits_join .i64 63 (by decide) (fun n h₀ h₁ => by rw [IntKind.wrap_i64]; omega) i x y hx0 hx (by omega) hy0 hy (by omega)

def isByte (c : Int) : Prop := 0 ≤ c ∧ c ≤ 255

/-- A slice value of length n reads as the bytes l. -/
def Bytes (w : World) (A : Option Addr) (n : Nat) (l : List Int) : Prop :=
  l.length = n ∧ (∀ c ∈ l, isByte c) ∧ (0 < n → ∃ b off, A = some ⟨b, off, none⟩ ∧ b < w.heap.size ∧ ∀ j, j < n → w.cell? ⟨b, off + j, none⟩ = some (.int .u8 (l.getD j 0)))

theorem Bytes.below {w w' : World} {A : Option Addr} {n : Nat} {l : List Int} (h : Bytes w A n l) (hb : Below w.heap.size w w') : Bytes w' A n l := by
  obtain ⟨h1, h2, h3⟩ := h
  refine ⟨h1, h2, fun hn => ?_⟩
  obtain ⟨b, off, e, hlt, hc⟩ := h3 hn
  exact ⟨b, off, e, Nat.lt_of_lt_of_le hlt hb.size, fun j hj => (hb.cell (p := ⟨b, off + j, none⟩) hlt).trans (hc j hj)⟩

theorem Bytes.nil (w : World) (A : Option Addr) : Bytes w A 0 [] := ⟨rfl, by simp, fun h => absurd h (by omega)⟩

def cells8 (l : List Int) : Array Value := (l.map fun c => Value.int .u8 c).toArray

/-- A block that the call has just made. -/
theorem Bytes.new (w : World) (l : List Int) (t : TypeId) (hl : ∀ c ∈ l, isByte c) : Bytes (w.alloc (.cells (cells8 l) t)) (some ⟨w.heap.size, 0, none⟩) l.length l := by
  refine ⟨rfl, hl, fun _ => ⟨_, _, rfl, by simp, fun j hj => ?_⟩⟩
  rw [cell_of_row _ _ _ _ t (0, 0) (heap_alloc_new w _)]
  simp [cells8, List.getD_eq_getElem?_getD, List.getElem?_eq_getElem hj]

/-- A slice value of length n reads as the integers l. -/
def Ints (k : IntKind) (w : World) (A : Option Addr) (n : Nat) (l : List Int) : Prop :=
  l.length = n ∧ (∀ c ∈ l, (Lit.int k c).wf = true) ∧ (0 < n → ∃ b off, A = some ⟨b, off, none⟩ ∧ b < w.heap.size ∧ ∀ j, j < n → w.cell? ⟨b, off + j, none⟩ = some (.int k (l.getD j 0)))

theorem Ints.nil (k : IntKind) (w : World) (A : Option Addr) : Ints k w A 0 [] := ⟨rfl, by simp, fun h => absurd h (by omega)⟩

theorem Ints.of_row {k : IntKind} {w : World} {x : Addr} {len cap : Nat} {zs : List Int} (hl : len ≤ cap) (hz : zs.length = cap)
    (hcell : ∀ i, i < zs.length → w.cell? (x.add i) = some (.int k (zs.getD i 0))) (hwz : ∀ n ∈ zs, (Lit.int k n).wf = true) : Ints k w (some x) len (zs.take len) := by
  refine ⟨by simp; omega, fun c hc => hwz c (List.mem_of_mem_take hc), fun hn => ?_⟩
  obtain ⟨b, off, spot⟩ := x
  have h0 := hcell 0 (by omega)
  have hspot : spot = none := by simpa [Addr.add] using World.cell?_spot h0
  subst hspot
  refine ⟨b, off, rfl, ?_, fun j hj => ?_⟩
  · have := World.block_lt_of_cell? _ _ h0
    simpa [Addr.add] using this
  · have h := hcell j (by omega)
    have e : (zs.take len).getD j 0 = zs.getD j 0 := by simp [List.getD_eq_getElem?_getD, hj]
    rw [e, ← h]
    by_cases hj0 : j = 0
    · subst hj0; simp [Addr.add]
    · simp [Addr.add, hj0]

theorem Ints.bytes {w : World} {A : Option Addr} {n : Nat} {l : List Int} (h : Ints .u8 w A n l) : Bytes w A n l := by
  refine ⟨h.1, fun c hc => ?_, h.2.2⟩
  have := bounds_u8 (h.2.1 c hc)
  unfold isByte
  omega

theorem Ints.below {k : IntKind} {w w' : World} {A : Option Addr} {n : Nat} {l : List Int} (h : Ints k w A n l) (hb : Below w.heap.size w w') : Ints k w' A n l := by
  obtain ⟨h1, h2, h3⟩ := h
  refine ⟨h1, h2, fun hn => ?_⟩
  obtain ⟨b, off, e, hlt, hc⟩ := h3 hn
  exact ⟨b, off, e, Nat.lt_of_lt_of_le hlt hb.size, fun j hj => (hb.cell (p := ⟨b, off + j, none⟩) hlt).trans (hc j hj)⟩

/-- A callee that leaves the world alone, or only draws, inside a region that draws. -/
theorem quiet1 {P : Program} {f : FuncId} {args : Array Value} {w : World} {n : Nat} {v : Value}
    (h : Calls P f args (w.drewN n) fun e w' => e = .returned v ∧ w.drewN n = w') : Calls P f args (w.drewN n) fun e w'' => e = .returned v ∧ ∃ m, w'' = w.drewN m :=
  h.mono fun _ _ ⟨he, hm⟩ => ⟨he, n, hm.symm⟩
theorem quiet2 {P : Program} {f : FuncId} {args : Array Value} {w : World} {n : Nat} {v : Value}
    (h : Calls P f args (w.drewN n) fun e w' => e = .returned v ∧ ∃ m, w' = (w.drewN n).drewN m) : Calls P f args (w.drewN n) fun e w'' => e = .returned v ∧ ∃ m, w'' = w.drewN m :=
  h.mono fun _ _ ⟨he, m, hm⟩ => ⟨he, n + m, by rw [hm, World.drewN_drewN]⟩

theorem still1 {P : Program} {f : FuncId} {args : Array Value} {w : World} {v : Value}
    (h : Calls P f args w fun e w' => e = .returned v ∧ w = w') : Calls P f args w fun e w'' => e = .returned v ∧ w'' = w :=
  h.mono fun _ _ ⟨he, hm⟩ => ⟨he, hm.symm⟩

/-- Block b is just these cells, none of them frozen. -/
def Obj (w : World) (b : Nat) (t : TypeId) (cs : Array Value) : Prop := w.heap[b]? = some (.cells cs t (0, 0))

/-- Of what was there nothing has turned, but block b. -/
structure Upd (b : Nat) (w w' : World) : Prop where
  os : w'.os = w.os
  tape : w'.tape = w.tape
  output : w'.output = w.output
  size : w.heap.size ≤ w'.heap.size
  block : ∀ k, k < w.heap.size → k ≠ b → w'.heap[k]? = w.heap[k]?

section
variable {w w' w1 w2 : World} {b : Nat} {t : TypeId} {cs : Array Value}
theorem Obj.as {cs' : Array Value} (h : Obj w b t cs) (e : cs = cs') : Obj w b t cs' := e ▸ h
theorem Obj.lt (h : Obj w b t cs) : b < w.heap.size := by
  unfold Obj at h
  rcases Nat.lt_or_ge b w.heap.size with hl | hl
  · exact hl
  · rw [Array.getElem?_eq_none hl] at h; cases h
theorem Obj.cell (h : Obj w b t cs) (i : Nat) : w.cell? ⟨b, i, none⟩ = cs[i]? := cell_of_row w b i cs t (0, 0) h
theorem Obj.free (h : Obj w b t cs) (i : Nat) : w.frozen? ⟨b, i, none⟩ = false := by unfold Obj at h; simp [World.frozen?, h]
theorem Obj.drewN (h : Obj w b t cs) (n : Nat) : Obj (w.drewN n) b t cs := h
theorem Obj.drew (h : Obj w b t cs) : Obj w.drew b t cs := h
theorem Obj.alloc (h : Obj w b t cs) (o : _root_.Go.Obj) : Obj (w.alloc o) b t cs := (Below.heap_alloc w o b h.lt).trans h
theorem Obj.new (w : World) (t : TypeId) (cs : Array Value) : Obj (w.alloc (.cells cs t)) w.heap.size t cs := heap_alloc_new w _
theorem Obj.set (h : Obj w b t cs) (i : Nat) (u : Value) : Obj (w.setCell ⟨b, i, none⟩ u) b t (cs.setIfInBounds i u) := by
  unfold Obj at h ⊢
  simp [World.setCell, Array.getElem?_modify, h]
theorem Obj.far (h : Obj w b t cs) {p : Addr} (hp : b ≠ p.block) (u : Value) : Obj (w.setCell p u) b t cs := (Below.heap_setCell w p u b hp).trans h
theorem Obj.below {B : Nat} (h : Obj w b t cs) (hb : Below B w w') (hg : b < B) : Obj w' b t cs := (hb.block b hg).trans h
theorem Obj.kept (h : Obj w b t cs) (hb : Below w.heap.size w w') : Obj w' b t cs := (hb.block b h.lt).trans h
theorem Obj.upd {b' : Nat} (h : Obj w b t cs) (hu : Upd b' w w') (hne : b ≠ b') : Obj w' b t cs := (hu.block b h.lt hne).trans h

theorem Upd.refl (b : Nat) (w : World) : Upd b w w := ⟨rfl, rfl, rfl, Nat.le_refl _, fun _ _ _ => rfl⟩
theorem Upd.trans (h : Upd b w w1) (k : Upd b w1 w2) : Upd b w w2 :=
  ⟨k.os.trans h.os, k.tape.trans h.tape, k.output.trans h.output, Nat.le_trans h.size k.size, fun i hi hne => (k.block i (Nat.lt_of_lt_of_le hi h.size) hne).trans (h.block i hi hne)⟩
theorem Upd.drewN (h : Upd b w w1) (n : Nat) : Upd b w (w1.drewN n) := ⟨h.os, h.tape, h.output, h.size, h.block⟩
theorem Upd.drew (h : Upd b w w1) : Upd b w w1.drew := ⟨h.os, h.tape, h.output, h.size, h.block⟩
theorem Upd.alloc (h : Upd b w w1) (o : _root_.Go.Obj) : Upd b w (w1.alloc o) :=
  h.trans ⟨rfl, rfl, rfl, by simp, fun k hk _ => Below.heap_alloc _ _ _ hk⟩
theorem Upd.set (h : Upd b w w1) (i : Nat) (u : Value) : Upd b w (w1.setCell ⟨b, i, none⟩ u) :=
  h.trans ⟨rfl, rfl, rfl, by simp [World.setCell], fun k _ hne => Below.heap_setCell _ _ _ _ hne⟩
/-- A store into a block that is new since w. -/
theorem Upd.setNew (h : Upd b w w1) {p : Addr} (hp : w.heap.size ≤ p.block) (u : Value) : Upd b w (w1.setCell p u) :=
  ⟨h.os, h.tape, h.output, by simpa [World.setCell] using h.size, fun k hk hne => (Below.heap_setCell _ _ _ _ (by omega)).trans (h.block k hk hne)⟩
theorem Upd.of_below (h : Below w.heap.size w w1) (b : Nat) : Upd b w w1 := ⟨h.os, h.tape, h.output, h.size, fun k hk _ => h.block k hk⟩
/-- Where b is new since W, all is below. -/
theorem Upd.below {W : World} (h : Below W.heap.size W w) (hb : W.heap.size ≤ b) (k : Upd b w w') : Below W.heap.size W w' :=
  ⟨k.os.trans h.os, k.tape.trans h.tape, k.output.trans h.output, Nat.le_trans h.size k.size, fun i hi => (k.block i (Nat.lt_of_lt_of_le hi h.size) (by omega)).trans (h.block i hi)⟩
end

end Go.Proofs.Ytlldomgfjmkcdaa
