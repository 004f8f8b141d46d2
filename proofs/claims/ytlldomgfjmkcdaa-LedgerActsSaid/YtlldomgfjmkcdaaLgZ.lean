/- Layer 15's acts that came in: packets with their frames, frames with their bytes and ranges. -/
import Derived.Test.YtlldomgfjmkcdaaRows
import Derived.Test.YtlldomgfjmkcdaaAid
import Derived.Test.YtlldomgfjmkcdaaOpen
import Derived.Test.YtlldomgfjmkcdaaLgW
import Derived.Test.YtlldomgfjmkcdaaLgD
import Derived.Test.YtlldomgfjmkcdaaLgO
import Derived.Deep.Slices
import Derived.Deep.Fields
import Derived.ChangeSame
import Derived.OpenShut
namespace Go.Proofs.Ytlldomgfjmkcdaa
open Go.ChangeShapes Go.WideShapes Go.Deep Go.RowKit
set_option linter.unusedVariables false
set_option linter.unusedSimpArgs false

/-- Bytes that lie at an address. -/
def RbB (w : World) (A : Option Addr) (l : List Nat) : Prop := 0 < l.length → ∃ b o, A = some ⟨b, o, none⟩ ∧ b < w.heap.size ∧ ∀ i, i < l.length → w.cell? ⟨b, o + i, none⟩ = some (.int .u8 ((l.getD i 0 : Nat) : Int))
theorem RbB.below {w w' : World} {A : Option Addr} {l : List Nat} (h : RbB w A l) (hb : Below w.heap.size w w') : RbB w' A l := fun hp => by
  obtain ⟨b, o, e, h1, h2⟩ := h hp
  exact ⟨b, o, e, Nat.lt_of_lt_of_le h1 hb.size, fun i hi => (World.cell?_of_block (a := ⟨b, o + i, none⟩) (hb.block b h1)).trans (h2 i hi)⟩
/-- A frame. -/
structure Frm where
  kind : Int
  id : Nat
  a : Nat
  b : Nat
  code : Nat
  flag : Bool
  dA : Option Addr
  dn : Nat
  dc : Nat
  rA : Option Addr
  rn : Nat
  rc : Nat
  data : List Nat
  rngs : List (Nat × Nat)
  tok : List Nat
deriving Inhabited
def fcells (f : Frm) : List Value := .int .i64 f.kind :: .int .u64 (f.id : Int) :: .int .u64 (f.a : Int) :: .int .u64 (f.b : Int) :: .int .u64 (f.code : Int) :: .bool f.flag :: .slice f.dA f.dn f.dc :: .slice f.rA f.rn f.rc :: f.tok.map (fun x => .int .u8 ((x : Nat) : Int))
/-- What is known of a frame that came in. -/
structure FOk (w : World) (f : Frm) : Prop where
  kind : (Lit.int .i64 f.kind).wf = true
  nums : f.id ≤ 18446744073709551615 ∧ f.a ≤ 18446744073709551615 ∧ f.b ≤ 18446744073709551615 ∧ f.code ≤ 18446744073709551615
  tl : f.tok.length = 16
  toks : ∀ x ∈ f.tok, x < 256
  dl : f.data.length = f.dn
  bytes : ∀ x ∈ f.data, x < 256
  db : RbB w f.dA f.data
  dc : f.dn ≤ f.dc ∧ f.dc ≤ maxLen
  rl : f.rngs.length = f.rn
  rb : RbR w f.rA f.rngs
  rng : ∀ r ∈ f.rngs, r.1 ≤ 18446744073709551615 ∧ r.2 ≤ 18446744073709551615
  rc : f.rn ≤ f.rc ∧ f.rc ≤ maxLen
def flatF : List Frm → List Value
  | [] => []
  | f :: t => fcells f ++ flatF t
structure Act15 where
  kind : Int
  num : Int
  tm : Nat
  sz : Int
  ask : Bool
  fA : Option Addr
  fn : Nat
  fc : Nat
  frs : List Frm
  rA : Option Addr
  rn : Nat
  rc : Nat
  rngs : List (Nat × Nat)
  d : Nat
deriving Inhabited
def acells (a : Act15) : List Value := [.int .i64 a.kind, .int .i64 a.num, .int .u64 (a.tm : Int), .int .i64 a.sz, .bool a.ask, .slice a.fA a.fn a.fc, .slice a.rA a.rn a.rc, .int .u64 (a.d : Int)]
structure AOk (w : World) (a : Act15) : Prop where
  num : (Lit.int .i64 a.num).wf = true
  sz : (Lit.int .i64 a.sz).wf = true
  tm : a.tm ≤ 18446744073709551615
  d : a.d ≤ 18446744073709551615
  fl : a.frs.length = a.fn
  fc : a.fn ≤ a.fc ∧ a.fc ≤ maxLen
  fr : 0 < a.fn → ∃ b o, a.fA = some ⟨b, o, none⟩ ∧ b < w.heap.size ∧ ∀ i, i < a.fn → ∀ j v, (fcells (a.frs.getD i default))[j]? = some v → w.cell? ⟨b, o + i * 24 + j, none⟩ = some v
  fok : ∀ f ∈ a.frs, FOk w f
  rl : a.rngs.length = a.rn
  rc : a.rn ≤ a.rc ∧ a.rc ≤ maxLen
  rb : RbR w a.rA a.rngs
  rng : ∀ r ∈ a.rngs, r.1 ≤ 18446744073709551615 ∧ r.2 ≤ 18446744073709551615
def Acts15 (w : World) (A : Option Addr) (n : Nat) (l : List Act15) : Prop :=
  l.length = n ∧ (∀ a ∈ l, AOk w a) ∧ (0 < n → ∃ B off, A = some ⟨B, off, none⟩ ∧ B < w.heap.size ∧ ∀ i, i < n → ∀ j v, (acells (l.getD i default))[j]? = some v → w.cell? ⟨B, off + i * 8 + j, none⟩ = some v)

section
variable {H : Type} {enc : TypeId × Value → H} {w : World} {base : Nat} {spare : Nat → Bool} {held : Bool}

theorem rows_any {P : Program} {t e : TypeId} {k fuel n c : Nat} {A : Option Addr} {x : DataW H × List MemPlace} (ht : P.underlying t = some (.slice e)) (hk : P.cellsOf e = k) (hk0 : 0 < k) (h : DataW.trod enc P w base spare held fuel t [.slice A n c] = some x) :
    n ≤ c ∧ c ≤ maxLen ∧ (0 < n → ∃ b off, A = some ⟨b, off, none⟩ ∧ b < w.heap.size ∧
      ∀ i, i < n → ∃ (cs' : List Value) (y : DataW H × List MemPlace) (m : Nat), cs'.length = k ∧ (∀ j, j < k → w.cell? ⟨b, off + i * k + j, none⟩ = cs'[j]?) ∧ DataW.trod enc P w base spare held m e cs' = some y) := by
  rcases open_slice ht h with ⟨h0, _⟩ | ⟨a, len, cap, m, n', D, Pl, hcs, hb, hl, hm, hmm, _, hi⟩
  · simp only [List.cons.injEq, Value.slice.injEq, and_true] at h0
    obtain ⟨rfl, rfl, rfl⟩ := h0
    exact ⟨Nat.le_refl _, Nat.zero_le _, fun h => absurd h (by omega)⟩
  · simp only [List.cons.injEq, Value.slice.injEq, and_true] at hcs
    obtain ⟨rfl, rfl, rfl⟩ := hcs
    refine ⟨hl, hm, fun hn => ?_⟩
    have hnm : n ≤ m := by rw [hmm]; split <;> omega
    have key : ∀ i, i < n → ∃ (cs' : List Value), cs'.length = k ∧ (∀ j, j < k → w.cell? (a.add (i * k + j)) = cs'[j]?) ∧ DataW.trod enc P w base spare held n' e cs' = some (D i, Pl i) := by
      intro i hin
      obtain ⟨cs', hc, ht'⟩ := hi i (by omega)
      rw [hk] at hc
      obtain ⟨_, hcl, hat⟩ := World.cells?_some hc
      exact ⟨cs', hcl, fun j hj => by rw [← Go.Deep.add_add, hat j hj], ht'⟩
    obtain ⟨b, off, spot⟩ := a
    obtain ⟨c0, hl0, h0, _⟩ := key 0 hn
    have h00 := h0 0 hk0
    rw [List.getElem?_eq_getElem (by omega)] at h00
    have hspot : spot = none := by simpa [Addr.add] using World.cell?_spot h00
    subst hspot
    refine ⟨b, off, rfl, by simpa [Addr.add] using World.block_lt_of_cell? _ _ h00, fun i hin => ?_⟩
    obtain ⟨cs', h1, h2, h3⟩ := key i hin
    refine ⟨cs', _, n', h1, fun j hj => ?_, h3⟩
    have := h2 j hj
    rw [add_none] at this
    rw [show off + i * k + j = off + (i * k + j) by omega]
    exact this
theorem slice_val {P : Program} {t e : TypeId} {fuel : Nat} {v : Value} {x : DataW H × List MemPlace} (ht : P.underlying t = some (.slice e)) (h : DataW.trod enc P w base spare held fuel t [v] = some x) : ∃ A n c, v = .slice A n c := by
  rcases DataW.trod_slice ht h with ⟨h0, _⟩ | ⟨a, len, cap, _, _, _, _, h0, _⟩ <;> (simp only [List.cons.injEq, and_true] at h0; exact ⟨_, _, _, h0⟩)
theorem u64_val {fuel : Nat} {v : Value} {x : DataW H × List MemPlace} (h : DataW.trod enc Try.prog w base spare held fuel 29 [v] = some x) : ∃ n : Nat, v = .int .u64 (n : Int) ∧ n ≤ 18446744073709551615 := by
  obtain ⟨z, e, _, wz⟩ := DataW.trod_int Try.underlying29 h
  have hb := bounds_u64 wz
  simp only [List.cons.injEq, and_true] at e
  exact ⟨z.toNat, by rw [e]; congr 1; omega, by omega⟩
theorem u8_val {fuel : Nat} {v : Value} {x : DataW H × List MemPlace} (h : DataW.trod enc Try.prog w base spare held fuel 5 [v] = some x) : ∃ n : Nat, v = .int .u8 (n : Int) ∧ n < 256 := by
  obtain ⟨z, e, _, wz⟩ := DataW.trod_int Try.underlying5 h
  have hb := bounds_u8 wz
  simp only [List.cons.injEq, and_true] at e
  exact ⟨z.toNat, by rw [e]; congr 1; omega, by omega⟩
theorem bytes_open {fuel n c : Nat} {A : Option Addr} {x : DataW H × List MemPlace} (h : DataW.trod enc Try.prog w base spare held fuel 67 [.slice A n c] = some x) :
    ∃ l, l.length = n ∧ (∀ x ∈ l, x < 256) ∧ RbB w A l ∧ n ≤ c ∧ c ≤ maxLen := by
  obtain ⟨h1, h2, h3⟩ := rows_any (k := 1) Try.underlying67 (by kernel_rfl) (by decide) h
  rcases Nat.eq_zero_or_pos n with h0 | h0
  · subst h0; exact ⟨[], rfl, by simp, fun h => absurd h (by simp), h1, h2⟩
  · obtain ⟨b, off, rfl, hb, hc⟩ := h3 h0
    obtain ⟨l, hl, hr⟩ := list_of (α := Nat) (fun i a => a < 256 ∧ w.cell? ⟨b, off + i, none⟩ = some (.int .u8 (a : Int))) n (fun i hi => by
      obtain ⟨cs', y, m, q1, q2, q3⟩ := hc i hi
      obtain ⟨v, rfl⟩ : ∃ v, cs' = [v] := List.length_eq_one_iff.1 q1
      obtain ⟨a, rfl, ha⟩ := u8_val q3
      exact ⟨a, ha, by have := q2 0 (by decide); rw [Nat.mul_one] at this; exact this⟩)
    refine ⟨l, hl, fun x hx => ?_, fun _ => ⟨b, off, rfl, hb, fun i hi => (hr i (by omega)).2⟩, h1, h2⟩
    obtain ⟨i, hi, rfl⟩ := List.getElem_of_mem hx
    have := (hr i (by omega)).1
    rwa [List.getD_eq_getElem?_getD, List.getElem?_eq_getElem hi] at this
theorem ranges_open {fuel n c : Nat} {A : Option Addr} {x : DataW H × List MemPlace} (h : DataW.trod enc Try.prog w base spare held fuel 33 [.slice A n c] = some x) :
    ∃ l : List (Nat × Nat), l.length = n ∧ (∀ r ∈ l, r.1 ≤ 18446744073709551615 ∧ r.2 ≤ 18446744073709551615) ∧ RbR w A l ∧ n ≤ c ∧ c ≤ maxLen := by
  obtain ⟨h1, h2, h3⟩ := rows_any (k := 2) Try.underlying33 (by kernel_rfl) (by decide) h
  rcases Nat.eq_zero_or_pos n with h0 | h0
  · subst h0; exact ⟨[], rfl, by simp, fun h => absurd h (by simp), h1, h2⟩
  · obtain ⟨b, off, rfl, hb, hc⟩ := h3 h0
    obtain ⟨l, hl, hr⟩ := list_of (α := Nat × Nat) (fun i a => (a.1 ≤ 18446744073709551615 ∧ a.2 ≤ 18446744073709551615) ∧ w.cell? ⟨b, off + i * 2, none⟩ = some (.int .u64 (a.1 : Int)) ∧ w.cell? ⟨b, off + i * 2 + 1, none⟩ = some (.int .u64 (a.2 : Int))) n (fun i hi => by
      obtain ⟨cs', y, m, q1, q2, q3⟩ := hc i hi
      obtain ⟨xs, m', _, _, hl, hxl, hg⟩ := DataW.trod_struct Try.underlying49 q3
      rcases cs' with _ | ⟨v0, _ | ⟨v1, _ | ⟨v2, r⟩⟩⟩ <;> (try (simp at q1; done))
      have g0 : DataW.trod enc Try.prog w base spare held m' 29 ([v0, v1].take (Try.prog.cellsOf 29)) = xs[0]? := hg 0 _ rfl
      have g1 : DataW.trod enc Try.prog w base spare held m' 29 ([v1].take (Try.prog.cellsOf 29)) = xs[1]? := hg 1 _ rfl
      rw [show Try.prog.cellsOf 29 = 1 by kernel_rfl] at g0 g1
      have hx2 : xs.length = 2 := hxl
      rw [List.getElem?_eq_getElem (by omega)] at g0 g1
      obtain ⟨a0, rfl, b0⟩ := u64_val g0
      obtain ⟨a1, rfl, b1⟩ := u64_val g1
      exact ⟨(a0, a1), ⟨b0, b1⟩, q2 0 (by decide), q2 1 (by decide)⟩)
    refine ⟨l, hl, fun x hx => ?_, fun _ => ⟨b, off, rfl, hb, fun i hi => (hr i (by omega)).2⟩, h1, h2⟩
    obtain ⟨i, hi, rfl⟩ := List.getElem_of_mem hx
    have := (hr i (by omega)).1
    rwa [show l.getD i default = l[i] by rw [List.getD_eq_getElem?_getD, List.getElem?_eq_getElem hi]; rfl] at this
theorem cut_list {l : List Value} {n : Nat} (h : l.length = 8 + n) : ∃ c0 c1 c2 c3 c4 c5 c6 c7 r, l = c0 :: c1 :: c2 :: c3 :: c4 :: c5 :: c6 :: c7 :: r ∧ r.length = n := by
  rcases l with _ | ⟨c0, _ | ⟨c1, _ | ⟨c2, _ | ⟨c3, _ | ⟨c4, _ | ⟨c5, _ | ⟨c6, _ | ⟨c7, r⟩⟩⟩⟩⟩⟩⟩⟩ <;> (try (simp at h; omega))
  exact ⟨c0, c1, c2, c3, c4, c5, c6, c7, r, rfl, by simp at h; omega⟩
theorem one_int {k : IntKind} {t : TypeId} {fuel : Nat} {v : Value} {x : DataW H × List MemPlace} (ht : Try.prog.underlying t = some (.int k)) (h : DataW.trod enc Try.prog w base spare held fuel t [v] = some x) : ∃ z, v = .int k z ∧ (Lit.int k z).wf = true := by
  obtain ⟨z, e, _, wz⟩ := DataW.trod_int ht h
  simp only [List.cons.injEq, and_true] at e
  exact ⟨z, e, wz⟩
theorem one_bool {fuel : Nat} {v : Value} {x : DataW H × List MemPlace} (h : DataW.trod enc Try.prog w base spare held fuel 4 [v] = some x) : ∃ b, v = .bool b := by
  obtain ⟨z, e, _⟩ := DataW.trod_bool Try.underlying4 h
  simp only [List.cons.injEq, and_true] at e
  exact ⟨z, e⟩
theorem tok_open {fuel : Nat} {cs : List Value} {x : DataW H × List MemPlace} (h : DataW.trod enc Try.prog w base spare held fuel 68 cs = some x) : ∃ l : List Nat, l.length = 16 ∧ (∀ x ∈ l, x < 256) ∧ cs = l.map (fun x => .int .u8 ((x : Nat) : Int)) := by
  obtain ⟨ys, m, _, _, hl, hn, hg⟩ := DataW.trod_array Try.underlying68 h
  rw [show Try.prog.cellsOf 68 = 16 by kernel_rfl] at hl
  rw [show Try.prog.cellsOf 5 = 1 by kernel_rfl] at hg
  obtain ⟨l, hll, hr⟩ := list_of (α := Nat) (fun i a => a < 256 ∧ cs[i]? = some (.int .u8 (a : Int))) 16 (fun i hi => by
    have h1 := hg i hi
    rw [Nat.mul_one, List.drop_eq_getElem_cons (show i < cs.length by omega), List.take_succ_cons, List.take_zero, List.getElem?_eq_getElem (by omega)] at h1
    obtain ⟨a, e, ha⟩ := u8_val h1
    exact ⟨a, ha, by rw [List.getElem?_eq_getElem (by omega), e]⟩)
  refine ⟨l, hll, fun x hx => ?_, ?_⟩
  · obtain ⟨i, hi, rfl⟩ := List.getElem_of_mem hx
    have := (hr i (by omega)).1
    rwa [List.getD_eq_getElem?_getD, List.getElem?_eq_getElem hi] at this
  · refine List.ext_getElem? fun i => ?_
    by_cases hi : i < 16
    · rw [(hr i hi).2, List.getElem?_map, List.getElem?_eq_getElem (by omega)]
      simp [List.getD_eq_getElem?_getD, List.getElem?_eq_getElem (show i < l.length by omega)]
    · rw [List.getElem?_eq_none (by omega), List.getElem?_eq_none (by simp; omega)]
theorem frame_open {m : Nat} {cs : List Value} {y : DataW H × List MemPlace} (hl : cs.length = 24) (h : DataW.trod enc Try.prog w base spare held m 70 cs = some y) : ∃ f : Frm, cs = fcells f ∧ FOk w f := by
  obtain ⟨xs, m', _, _, _, hxl, hg⟩ := DataW.trod_struct Try.underlying70 h
  obtain ⟨v0, v1, v2, v3, v4, v5, v6, v7, r, rfl, hr⟩ := cut_list (n := 16) hl
  have hx9 : xs.length = 9 := hxl
  have g0 : DataW.trod enc Try.prog w base spare held m' 3 ((v0 :: v1 :: v2 :: v3 :: v4 :: v5 :: v6 :: v7 :: r).take (Try.prog.cellsOf 3)) = xs[0]? := hg 0 _ rfl
  have g1 : DataW.trod enc Try.prog w base spare held m' 29 ((v1 :: v2 :: v3 :: v4 :: v5 :: v6 :: v7 :: r).take (Try.prog.cellsOf 29)) = xs[1]? := hg 1 _ rfl
  have g2 : DataW.trod enc Try.prog w base spare held m' 29 ((v2 :: v3 :: v4 :: v5 :: v6 :: v7 :: r).take (Try.prog.cellsOf 29)) = xs[2]? := hg 2 _ rfl
  have g3 : DataW.trod enc Try.prog w base spare held m' 29 ((v3 :: v4 :: v5 :: v6 :: v7 :: r).take (Try.prog.cellsOf 29)) = xs[3]? := hg 3 _ rfl
  have g4 : DataW.trod enc Try.prog w base spare held m' 29 ((v4 :: v5 :: v6 :: v7 :: r).take (Try.prog.cellsOf 29)) = xs[4]? := hg 4 _ rfl
  have g5 : DataW.trod enc Try.prog w base spare held m' 4 ((v5 :: v6 :: v7 :: r).take (Try.prog.cellsOf 4)) = xs[5]? := hg 5 _ rfl
  have g6 : DataW.trod enc Try.prog w base spare held m' 67 ((v6 :: v7 :: r).take (Try.prog.cellsOf 67)) = xs[6]? := hg 6 _ rfl
  have g7 : DataW.trod enc Try.prog w base spare held m' 33 ((v7 :: r).take (Try.prog.cellsOf 33)) = xs[7]? := hg 7 _ rfl
  have g8 : DataW.trod enc Try.prog w base spare held m' 68 (r.take (Try.prog.cellsOf 68)) = xs[8]? := hg 8 _ rfl
  rw [show Try.prog.cellsOf 3 = 1 by kernel_rfl, List.getElem?_eq_getElem (by omega)] at g0
  rw [show Try.prog.cellsOf 29 = 1 by kernel_rfl, List.getElem?_eq_getElem (by omega)] at g1 g2 g3 g4
  rw [show Try.prog.cellsOf 4 = 1 by kernel_rfl, List.getElem?_eq_getElem (by omega)] at g5
  rw [show Try.prog.cellsOf 67 = 1 by kernel_rfl, List.getElem?_eq_getElem (by omega)] at g6
  rw [show Try.prog.cellsOf 33 = 1 by kernel_rfl, List.getElem?_eq_getElem (by omega)] at g7
  rw [show Try.prog.cellsOf 68 = 16 by kernel_rfl, List.getElem?_eq_getElem (by omega), List.take_of_length_le (by omega)] at g8
  obtain ⟨z, rfl, wz⟩ := one_int Try.underlying3 g0
  obtain ⟨a1, rfl, b1⟩ := u64_val g1
  obtain ⟨a2, rfl, b2⟩ := u64_val g2
  obtain ⟨a3, rfl, b3⟩ := u64_val g3
  obtain ⟨a4, rfl, b4⟩ := u64_val g4
  obtain ⟨fl, rfl⟩ := one_bool g5
  obtain ⟨dA, dn, dc, rfl⟩ := slice_val Try.underlying67 g6
  obtain ⟨rA, rn, rc, rfl⟩ := slice_val Try.underlying33 g7
  obtain ⟨dl, d1, d2, d3, d4⟩ := bytes_open g6
  obtain ⟨rl, r1, r2, r3, r4⟩ := ranges_open g7
  obtain ⟨tl, t1, t2, rfl⟩ := tok_open g8
  exact ⟨⟨z, a1, a2, a3, a4, fl, dA, dn, dc, rA, rn, rc, dl, rl, tl⟩, rfl, ⟨wz, ⟨b1, b2, b3, b4⟩, t1, t2, d1, d2, d3, d4, r1, r3, r2, r4⟩⟩
theorem frames_open {fuel n c : Nat} {A : Option Addr} {x : DataW H × List MemPlace} (h : DataW.trod enc Try.prog w base spare held fuel 30 [.slice A n c] = some x) :
    ∃ l : List Frm, l.length = n ∧ (∀ f ∈ l, FOk w f) ∧ (0 < n → ∃ b o, A = some ⟨b, o, none⟩ ∧ b < w.heap.size ∧ ∀ i, i < n → ∀ j v, (fcells (l.getD i default))[j]? = some v → w.cell? ⟨b, o + i * 24 + j, none⟩ = some v) ∧ n ≤ c ∧ c ≤ maxLen := by
  obtain ⟨h1, h2, h3⟩ := rows_any (k := 24) Try.underlying30 (by kernel_rfl) (by decide) h
  rcases Nat.eq_zero_or_pos n with h0 | h0
  · subst h0; exact ⟨[], rfl, by simp, fun h => absurd h (by simp), h1, h2⟩
  · obtain ⟨b, off, rfl, hb, hc⟩ := h3 h0
    obtain ⟨l, hl, hr⟩ := list_of (α := Frm) (fun i f => FOk w f ∧ ∀ j v, (fcells f)[j]? = some v → w.cell? ⟨b, off + i * 24 + j, none⟩ = some v) n (fun i hi => by
      obtain ⟨cs', y, m, q1, q2, q3⟩ := hc i hi
      obtain ⟨f, rfl, hf⟩ := frame_open q1 q3
      exact ⟨f, hf, fun j v hv => by
        have hj := (List.getElem?_eq_some_iff.1 hv).1
        rw [q2 j (by omega), hv]⟩)
    refine ⟨l, hl, fun x hx => ?_, fun _ => ⟨b, off, rfl, hb, fun i hi => (hr i hi).2⟩, h1, h2⟩
    obtain ⟨i, hi, rfl⟩ := List.getElem_of_mem hx
    have := (hr i (by omega)).1
    rwa [List.getD_eq_getElem?_getD, List.getElem?_eq_getElem hi] at this
theorem act_open {m : Nat} {cs : List Value} {y : DataW H × List MemPlace} (hl : cs.length = 8) (h : DataW.trod enc Try.prog w base spare held m 35 cs = some y) : ∃ a : Act15, cs = acells a ∧ AOk w a := by
  obtain ⟨xs, m', _, _, _, hxl, hg⟩ := DataW.trod_struct Try.underlying35 h
  obtain ⟨v0, v1, v2, v3, v4, v5, v6, v7, r, rfl, hr⟩ := cut_list (n := 0) hl
  obtain rfl : r = [] := List.eq_nil_of_length_eq_zero hr
  have hx4 : xs.length = 4 := hxl
  have g0 : DataW.trod enc Try.prog w base spare held m' 3 ([v0, v1, v2, v3, v4, v5, v6, v7].take (Try.prog.cellsOf 3)) = xs[0]? := hg 0 _ rfl
  have g1 : DataW.trod enc Try.prog w base spare held m' 32 ([v1, v2, v3, v4, v5, v6, v7].take (Try.prog.cellsOf 32)) = xs[1]? := hg 1 _ rfl
  have g6 : DataW.trod enc Try.prog w base spare held m' 33 ([v6, v7].take (Try.prog.cellsOf 33)) = xs[2]? := hg 2 _ rfl
  have g7 : DataW.trod enc Try.prog w base spare held m' 29 ([v7].take (Try.prog.cellsOf 29)) = xs[3]? := hg 3 _ rfl
  rw [show Try.prog.cellsOf 3 = 1 by kernel_rfl, List.getElem?_eq_getElem (by omega)] at g0
  rw [show Try.prog.cellsOf 32 = 5 by kernel_rfl, List.getElem?_eq_getElem (by omega)] at g1
  rw [show Try.prog.cellsOf 33 = 1 by kernel_rfl, List.getElem?_eq_getElem (by omega)] at g6
  rw [show Try.prog.cellsOf 29 = 1 by kernel_rfl, List.getElem?_eq_getElem (by omega)] at g7
  have g1' : DataW.trod enc Try.prog w base spare held m' 32 [v1, v2, v3, v4, v5] = some (xs[1]'(by omega)) := g1
  obtain ⟨ys, m2, _, _, _, hyl, hy⟩ := DataW.trod_struct Try.underlying32 g1'
  have hy5 : ys.length = 5 := hyl
  have k0 : DataW.trod enc Try.prog w base spare held m2 2 ([v1, v2, v3, v4, v5].take (Try.prog.cellsOf 2)) = ys[0]? := hy 0 _ rfl
  have k1 : DataW.trod enc Try.prog w base spare held m2 29 ([v2, v3, v4, v5].take (Try.prog.cellsOf 29)) = ys[1]? := hy 1 _ rfl
  have k2 : DataW.trod enc Try.prog w base spare held m2 3 ([v3, v4, v5].take (Try.prog.cellsOf 3)) = ys[2]? := hy 2 _ rfl
  have k3 : DataW.trod enc Try.prog w base spare held m2 4 ([v4, v5].take (Try.prog.cellsOf 4)) = ys[3]? := hy 3 _ rfl
  have k4 : DataW.trod enc Try.prog w base spare held m2 30 ([v5].take (Try.prog.cellsOf 30)) = ys[4]? := hy 4 _ rfl
  rw [show Try.prog.cellsOf 2 = 1 by kernel_rfl, List.getElem?_eq_getElem (by omega)] at k0
  rw [show Try.prog.cellsOf 29 = 1 by kernel_rfl, List.getElem?_eq_getElem (by omega)] at k1
  rw [show Try.prog.cellsOf 3 = 1 by kernel_rfl, List.getElem?_eq_getElem (by omega)] at k2
  rw [show Try.prog.cellsOf 4 = 1 by kernel_rfl, List.getElem?_eq_getElem (by omega)] at k3
  rw [show Try.prog.cellsOf 30 = 1 by kernel_rfl, List.getElem?_eq_getElem (by omega)] at k4
  obtain ⟨z, rfl, wz⟩ := one_int Try.underlying3 g0
  obtain ⟨num, rfl, wn⟩ := one_int Try.underlying2 k0
  obtain ⟨tm, rfl, bt⟩ := u64_val k1
  obtain ⟨sz, rfl, ws⟩ := one_int Try.underlying3 k2
  obtain ⟨ask, rfl⟩ := one_bool k3
  obtain ⟨fA, fn, fc, rfl⟩ := slice_val Try.underlying30 k4
  obtain ⟨rA, rn, rc, rfl⟩ := slice_val Try.underlying33 g6
  obtain ⟨d, rfl, bd⟩ := u64_val g7
  obtain ⟨fl, f1, f2, f3, f4⟩ := frames_open k4
  obtain ⟨rl, r1, r2, r3, r4⟩ := ranges_open g6
  exact ⟨⟨z, num, tm, sz, ask, fA, fn, fc, fl, rA, rn, rc, rl, d⟩, rfl, ⟨wn, ws, bt, bd, f1, f4, f3, f2, r1, r4, r3, r2⟩⟩
theorem acts15_open {fuel n c : Nat} {A : Option Addr} {x : DataW H × List MemPlace} (h : DataW.trod enc Try.prog w base spare held fuel 22 [.slice A n c] = some x) :
    ∃ l, Acts15 w A n l ∧ n ≤ c ∧ c ≤ maxLen := by
  obtain ⟨h1, h2, h3⟩ := rows_any (k := 8) Try.underlying22 (by kernel_rfl) (by decide) h
  rcases Nat.eq_zero_or_pos n with h0 | h0
  · subst h0; exact ⟨[], ⟨rfl, by simp, fun h => absurd h (by simp)⟩, h1, h2⟩
  · obtain ⟨b, off, rfl, hb, hc⟩ := h3 h0
    obtain ⟨l, hl, hr⟩ := list_of (α := Act15) (fun i f => AOk w f ∧ ∀ j v, (acells f)[j]? = some v → w.cell? ⟨b, off + i * 8 + j, none⟩ = some v) n (fun i hi => by
      obtain ⟨cs', y, m, q1, q2, q3⟩ := hc i hi
      obtain ⟨f, rfl, hf⟩ := act_open q1 q3
      exact ⟨f, hf, fun j v hv => by
        have hj := (List.getElem?_eq_some_iff.1 hv).1
        rw [q2 j (by omega), hv]⟩)
    refine ⟨l, ⟨hl, fun x hx => ?_, fun _ => ⟨b, off, rfl, hb, fun i hi => (hr i hi).2⟩⟩, h1, h2⟩
    obtain ⟨i, hi, rfl⟩ := List.getElem_of_mem hx
    have := (hr i (by omega)).1
    rwa [List.getD_eq_getElem?_getD, List.getElem?_eq_getElem hi] at this
end
end Go.Proofs.Ytlldomgfjmkcdaa
