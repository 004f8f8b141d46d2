/- A slice of acts of layer 19 that came in; what is done to a life, with what else stays. -/
import Derived.Test.YtckmnjeibikeeaaRows
import Derived.Test.YtckmnjeibikeeaaAid
import Derived.Test.YtckmnjeibikeeaaOpen
import Derived.Test.YtckmnjeibikeeaaLfLaws
namespace Go.Proofs.Ytckmnjeibikeeaa
open Go.ChangeShapes Go.WideShapes Go.Deep Go.RowKit
set_option linter.unusedVariables false

structure Act where
  kind : Int
  now : Int
  p : Int
  ask : Bool
instance : Inhabited Act := ⟨⟨0, 0, 0, false⟩⟩
def actCells (a : Act) : Array Value := #[.int .i64 a.kind, .int .u64 a.now, .int .u64 a.p, .bool a.ask]
def ActOk (a : Act) : Prop := 0 ≤ a.now ∧ a.now ≤ 18446744073709551615 ∧ 0 ≤ a.p ∧ a.p ≤ 18446744073709551615 ∧ -9223372036854775808 ≤ a.kind ∧ a.kind ≤ 9223372036854775807
def ActCell (w : World) (B off : Nat) (a : Act) : Prop :=
  w.cell? ⟨B, off, none⟩ = some (.int .i64 a.kind) ∧ w.cell? ⟨B, off + 1, none⟩ = some (.int .u64 a.now) ∧ w.cell? ⟨B, off + 2, none⟩ = some (.int .u64 a.p) ∧ w.cell? ⟨B, off + 3, none⟩ = some (.bool a.ask)
def Acts (w : World) (A : Option Addr) (n : Nat) (l : List Act) : Prop :=
  l.length = n ∧ (∀ j, j < n → ActOk (l.getD j default)) ∧ (0 < n → ∃ B off, A = some ⟨B, off, none⟩ ∧ B < w.heap.size ∧ ∀ j, j < n → ActCell w B (off + j * 4) (l.getD j default))
theorem ActCell.below {w w' : World} {B off : Nat} {a : Act} (h : ActCell w B off a) (hB : B < w.heap.size) (hb : Below w.heap.size w w') : ActCell w' B off a :=
  ⟨(hb.cell (p := ⟨B, off, none⟩) hB).trans h.1, (hb.cell (p := ⟨B, off + 1, none⟩) hB).trans h.2.1, (hb.cell (p := ⟨B, off + 2, none⟩) hB).trans h.2.2.1, (hb.cell (p := ⟨B, off + 3, none⟩) hB).trans h.2.2.2⟩

theorem acts_open {H : Type} {enc : TypeId × Value → H} {w : World} {base : Nat} {spare : Nat → Bool} {held : Bool} {fuel n c : Nat} {A : Option Addr} {x : DataW H × List MemPlace}
    (h : DataW.trod enc Try.prog w base spare held fuel 42 [.slice A n c] = some x) : ∃ l, Acts w A n l ∧ n ≤ c ∧ c ≤ maxLen := by
  obtain ⟨hl, hm, hc⟩ := rows_open Try.underlying42 Try.underlying44 (by kernel_rfl) (by kernel_rfl) (by decide) h
  by_cases hn : n = 0
  · subst hn
    exact ⟨[], ⟨rfl, fun j hj => absurd hj (by omega), fun h => absurd h (by omega)⟩, hl, hm⟩
  · obtain ⟨B, off, rfl, hb, hc⟩ := hc (by omega)
    obtain ⟨l, hll, hr⟩ := list_of (α := Act) (fun i a => ActOk a ∧ ActCell w B (off + i * 4) a) n (by
      intro i hi
      obtain ⟨v0, y0, m0, h0, t0⟩ := hc i 0 _ hi rfl
      obtain ⟨v1, y1, m1, h1, t1⟩ := hc i 1 _ hi rfl
      obtain ⟨v2, y2, m2, h2, t2⟩ := hc i 2 _ hi rfl
      obtain ⟨v3, y3, m3, h3, t3⟩ := hc i 3 _ hi rfl
      obtain ⟨k0, e0, _, wk⟩ := DataW.trod_int Try.underlying3 t0
      obtain ⟨k1, e1, _, wn⟩ := DataW.trod_int Try.underlying28 t1
      obtain ⟨k2, e2, _, wp⟩ := DataW.trod_int Try.underlying28 t2
      obtain ⟨k3, e3, _⟩ := DataW.trod_bool Try.underlying4 t3
      simp only [List.cons.injEq, and_true] at e0 e1 e2 e3
      subst e0 e1 e2 e3
      have b0 := bounds_i64 wk
      have b1 := bounds_u64 wn
      have b2 := bounds_u64 wp
      exact ⟨⟨k0, k1, k2, k3⟩, ⟨b1.1, b1.2, b2.1, b2.2, b0.1, b0.2⟩, h0, h1, h2, h3⟩)
    exact ⟨l, ⟨hll, fun j hj => (hr j hj).1, fun _ => ⟨B, off, rfl, hb, fun j hj => (hr j hj).2⟩⟩, hl, hm⟩

theorem u_idle (W w : World) (b : Nat) (l : Lf.Life) (n : Int) (h : OwnL W b l w) (hn : 0 ≤ n) (hn1 : n ≤ 18446744073709551615) :
    Calls Try.prog 23 #[.pointer (some ⟨b, 0, none⟩), .int .u64 n] w fun e w' => e = .returned (.tuple #[]) ∧ OwnL W b (Lf.setIdle l n) w' ∧ Upd b w w' :=
  (setIdle_any b l n w h.1).mono fun _ _ ⟨he, h2, h3⟩ => ⟨he, h.upd h2 (Lf.setIdle_ok l n h.2.1 hn hn1) h3, h3⟩
theorem u_came (W w : World) (b : Nat) (l : Lf.Life) (n : Int) (h : OwnL W b l w) (hn : 0 ≤ n) (hn1 : n ≤ 18446744073709551615) :
    Calls Try.prog 17 #[.pointer (some ⟨b, 0, none⟩), .int .u64 n] w fun e w' => e = .returned (.tuple #[]) ∧ OwnL W b (Lf.arrived l n) w' ∧ Upd b w w' :=
  (arrived_any b l n w h.1).mono fun _ _ ⟨he, h2, h3⟩ => ⟨he, h.upd h2 (Lf.arrived_ok l n h.2.1 hn hn1) h3, h3⟩
theorem u_sent (W w : World) (b : Nat) (l : Lf.Life) (n : Int) (a : Bool) (h : OwnL W b l w) (hn : 0 ≤ n) (hn1 : n ≤ 18446744073709551615) :
    Calls Try.prog 12 #[.pointer (some ⟨b, 0, none⟩), .int .u64 n, .bool a] w fun e w' => e = .returned (.tuple #[]) ∧ OwnL W b (Lf.sent l n a) w' ∧ Upd b w w' :=
  (sent_any b l n a w h.1).mono fun _ _ ⟨he, h2, h3⟩ => ⟨he, h.upd h2 (Lf.sent_ok l n a h.2.1 hn hn1) h3, h3⟩
theorem u_close (W w : World) (b : Nat) (l : Lf.Life) (n p : Int) (h : OwnL W b l w) (hn : 0 ≤ n) (hn1 : n ≤ 18446744073709551615) (hp : 0 ≤ p) (hp1 : p ≤ 18446744073709551615) :
    Calls Try.prog 20 #[.pointer (some ⟨b, 0, none⟩), .int .u64 n, .int .u64 p] w fun e w' => e = .returned (.bool (Lf.closes l)) ∧ OwnL W b (Lf.close l n p) w' ∧ Upd b w w' :=
  (close_any b l n p w h.1 hn hn1 hp hp1).mono fun _ _ ⟨he, h2, h3⟩ => ⟨he, h.upd h2 (Lf.close_ok l n p h.2.1 hn hp) h3, h3⟩
theorem u_drain (W w : World) (b : Nat) (l : Lf.Life) (n p : Int) (h : OwnL W b l w) (hn : 0 ≤ n) (hn1 : n ≤ 18446744073709551615) (hp : 0 ≤ p) (hp1 : p ≤ 18446744073709551615) :
    Calls Try.prog 22 #[.pointer (some ⟨b, 0, none⟩), .int .u64 n, .int .u64 p] w fun e w' => e = .returned (.bool (Lf.drains l)) ∧ OwnL W b (Lf.drain l n p) w' ∧ Upd b w w' :=
  (drain_any b l n p w h.1 hn hn1 hp hp1).mono fun _ _ ⟨he, h2, h3⟩ => ⟨he, h.upd h2 (Lf.drain_ok l n p h.2.1 hn hp) h3, h3⟩
theorem u_arrive (W w : World) (b : Nat) (l : Lf.Life) (h : OwnL W b l w) (hc : l.came < 1152921504606846976) :
    Calls Try.prog 21 #[.pointer (some ⟨b, 0, none⟩)] w fun e w' => e = .returned (.bool (Lf.answers l)) ∧ OwnL W b (Lf.count l) w' ∧ Upd b w w' :=
  (arrive_any b l w h.1 h.2.1).mono fun _ _ ⟨he, h2, h3⟩ => ⟨he, h.upd h2 (count_ok l h.2.1 hc) h3, h3⟩
theorem u_end (W w : World) (b : Nat) (l : Lf.Life) (h : OwnL W b l w) :
    Calls Try.prog 16 #[.pointer (some ⟨b, 0, none⟩)] w fun e w' => e = .returned (.bool (Lf.ends l)) ∧ OwnL W b (Lf.ended l) w' ∧ Upd b w w' :=
  (end_any b l w h.1).mono fun _ _ ⟨he, h2, h3⟩ => ⟨he, h.upd h2 (Lf.ended_ok l h.2.1) h3, h3⟩
theorem u_tick (W w : World) (b : Nat) (l : Lf.Life) (n p : Int) (h : OwnL W b l w) (hn : 0 ≤ n) (hn1 : n ≤ 18446744073709551615) (hp : 0 ≤ p) (hp1 : p ≤ 18446744073709551615) :
    Calls Try.prog 13 #[.pointer (some ⟨b, 0, none⟩), .int .u64 n, .int .u64 p] w fun e w' => e = .returned (.bool (Lf.ticks l n p)) ∧ OwnL W b (Lf.tick l n p) w' ∧ Upd b w w' :=
  (tick_any b l n p w h.1 h.2.1 hn hn1 hp hp1).mono fun _ _ ⟨he, h2, h3⟩ => ⟨he, h.upd h2 (Lf.tick_ok l n p h.2.1) h3, h3⟩

end Go.Proofs.Ytckmnjeibikeeaa
