/- Layer 16's reasm: a map from places to bytes, as a function; its laws at the operations. -/
import Derived.Test.YtdloeakmoaoalaaRows
import Derived.Test.YtdloeakmoaoalaaAid
import Derived.WalkKit
import Derived.OwnWalk
import Derived.Laws.Rows
import Derived.Laws.Tables
import Derived.Maps.OwnSet
import Derived.Maps.OwnIn
import Derived.Lib.Hide
namespace Go.Proofs.Ytdloeakmoaoalaa.Rm
open Go.RowKit Go.Maps
set_option linter.unusedVariables false
set_option linter.unusedSimpArgs false

theorem zero8 (w : World) : (zeroValue 5).run Try.prog w = .ok (.int .u8 0) w := by kernel_rfl
theorem key64 : Keyed Try.prog 22 := int_keyed Try.underlying22
/-- A place, as a key. -/
def kl (k : Nat) : Lit := .int .u64 (k : Int)
theorem kl_ne {j k : Nat} (h : j ≠ k) : kl j ≠ kl k := by
  unfold kl
  intro e
  have : (j : Int) = (k : Int) := by injection e
  omega
theorem key_ok (k : Nat) (hk : k < 18446744073709551616) : keyOf Try.prog 22 (.int .u64 (k : Int)) = some (kl k) :=
  keyOf_int_mk Try.underlying22 (WalkArith.wf_u64 (by omega))
theorem key_lit (k : Nat) : WideAt.IsKeyLit (kl k) := trivial
/-- A map that holds a function, of so many places. -/
def MpAt (w : World) (mb : Nat) (f : Nat → Option Nat) (sz : Nat) : Prop :=
  ∃ D : DataW Unit, w.ownsMap Try.prog 22 (plainElem Try.prog 5) mb sz D ∧ Maps.size D = sz ∧ ∀ k, k < 18446744073709551616 → Maps.has D (kl k) = (f k).isSome ∧ ∀ c, f k = some c → D.atKey (kl k) (.lit (.int .u8 0)) = .lit (.int .u8 (c : Int))
theorem MpAt.lt {w : World} {mb : Nat} {f : Nat → Option Nat} {sz : Nat} (h : MpAt w mb f sz) : mb < w.heap.size := by
  obtain ⟨D, h, _⟩ := h; exact h.lt
theorem MpAt.to {w w' : World} {mb : Nat} {f : Nat → Option Nat} {sz : Nat} (h : MpAt w mb f sz) (hb : w'.heap[mb]? = w.heap[mb]?) : MpAt w' mb f sz := by
  obtain ⟨D, ⟨es, clock, h1, h2⟩, h3⟩ := h
  exact ⟨D, ⟨es, clock, hb.trans h1, h2⟩, h3⟩
theorem MpAt.kept {w w' : World} {mb : Nat} {f : Nat → Option Nat} {sz : Nat} (h : MpAt w mb f sz) (hb : Below w.heap.size w w') : MpAt w' mb f sz := h.to (hb.block mb h.lt)
theorem MpAt.upd {w w' : World} {mb b : Nat} {f : Nat → Option Nat} {sz : Nat} (h : MpAt w mb f sz) (hb : Upd b w w') (hne : mb ≠ b) : MpAt w' mb f sz := h.to (hb.block mb h.lt hne)
theorem MpAt.ext {w : World} {mb : Nat} {f g : Nat → Option Nat} {sz : Nat} (h : MpAt w mb f sz) (hg : ∀ k, k < 18446744073709551616 → g k = f k) : MpAt w mb g sz := by
  obtain ⟨D, h1, h2, h3⟩ := h
  exact ⟨D, h1, h2, fun k hk => by rw [hg k hk]; exact h3 k hk⟩
theorem MpAt.new (w : World) : MpAt (w.alloc (.map #[] 0)) w.heap.size (fun _ => none) 0 :=
  ⟨_, World.ownsMap_made w Try.prog 22 _, rfl, fun k hk => ⟨rfl, fun c h => by cases h⟩⟩
theorem Upd.ofGrown {w w' : World} {b : Nat} (h : w.grownBy w' (some b)) : Upd b w w' :=
  ⟨h.os, h.tape, h.output, h.size, fun k hk hne => h.block k hk (fun e => hne (by cases e; rfl))⟩
theorem tight {w : World} {mb n : Nat} {D : DataW Unit} (h : w.ownsMap Try.prog 22 (plainElem Try.prog 5) mb n D) : w.ownsMap Try.prog 22 (plainElem Try.prog 5) mb (Maps.size D) D := by
  obtain ⟨es, clock, h1, h2, h3, h4⟩ := h
  refine ⟨es, clock, h1, h2, ?_, h4⟩
  rw [h4, size_eq, length_read]
  exact Nat.le_refl _

theorem MpAt.put_fn {D : DataW Unit} {f : Nat → Option Nat} {w : World} {mb sz : Nat} (ho : w.ownsMap Try.prog 22 (plainElem Try.prog 5) mb sz D) (hsz : Maps.size D = sz) (hf : ∀ k, k < 18446744073709551616 → Maps.has D (kl k) = (f k).isSome ∧ ∀ c, f k = some c → D.atKey (kl k) (.lit (.int .u8 0)) = .lit (.int .u8 (c : Int)))
    {k : Nat} (hk : k < 18446744073709551616) (hfk : f k = none) (c : Nat) {w' : World} (ho' : w'.ownsMap Try.prog 22 (plainElem Try.prog 5) mb (sz + 1) (D.put (kl k) (.lit (.int .u8 (c : Int))))) : MpAt w' mb (fun j => if j = k then some c else f j) (sz + 1) := by
  have hno : Maps.has D (kl k) = false := by rw [(hf k hk).1, hfk]; rfl
  refine ⟨_, ho', ?_, fun j hj => ?_⟩
  · rw [size_put (ho.tidy key64), hno]; simp [hsz]
  · dsimp only
    by_cases e : j = k
    · subst e
      rw [if_pos rfl]
      exact ⟨has_put_same ho.isMap (key_lit j) _, fun c' hc => by cases hc; exact atKey_put_same ho.isMap (key_lit j) _ _⟩
    · rw [if_neg e]
      have hne := kl_ne e
      exact ⟨by rw [has_put_other hne]; exact (hf j hj).1, fun c' hc => by rw [atKey_put_other hne]; exact (hf j hj).2 c' hc⟩
theorem MpAt.del_fn {D : DataW Unit} {f : Nat → Option Nat} {w : World} {mb sz : Nat} (ho : w.ownsMap Try.prog 22 (plainElem Try.prog 5) mb sz D) (hsz : Maps.size D = sz) (hf : ∀ k, k < 18446744073709551616 → Maps.has D (kl k) = (f k).isSome ∧ ∀ c, f k = some c → D.atKey (kl k) (.lit (.int .u8 0)) = .lit (.int .u8 (c : Int)))
    {k c : Nat} (hk : k < 18446744073709551616) (hfk : f k = some c) {w' : World} (ho' : w'.ownsMap Try.prog 22 (plainElem Try.prog 5) mb sz (D.del (kl k))) : MpAt w' mb (fun j => if j = k then none else f j) (sz - 1) := by
  have hyes : Maps.has D (kl k) = true := by rw [(hf k hk).1, hfk]; rfl
  have hs : Maps.size (D.del (kl k)) = sz - 1 := by
    have := size_del (k := kl k) (ho.tidy key64)
    rw [hyes, hsz] at this
    simp at this
    omega
  refine ⟨_, hs ▸ tight ho', hs, fun j hj => ?_⟩
  dsimp only
  by_cases e : j = k
  · subst e
    rw [if_pos rfl]
    exact ⟨has_del_same, fun c' hc => by cases hc⟩
  · rw [if_neg e]
    have hne := kl_ne e
    exact ⟨by rw [has_del_other hne]; exact (hf j hj).1, fun c' hc => by rw [atKey_del_other hne]; exact (hf j hj).2 c' hc⟩
theorem MpAt.look_fn {D : DataW Unit} {f : Nat → Option Nat} (hf : ∀ k, k < 18446744073709551616 → Maps.has D (kl k) = (f k).isSome ∧ ∀ c, f k = some c → D.atKey (kl k) (.lit (.int .u8 0)) = .lit (.int .u8 (c : Int))) {k : Nat} (hk : k < 18446744073709551616) {c : Int} (hat : D.atKey (kl k) (.lit (.int .u8 0)) = .lit (.int .u8 c)) :
    Maps.has D (kl k) = (f k).isSome ∧ c = (((f k).getD 0 : Nat) : Int) := by
  obtain ⟨h1, h2⟩ := hf k hk
  refine ⟨h1, ?_⟩
  cases hfk : f k with
  | none =>
    rw [hfk] at h1
    rw [atKey_of_not_has h1] at hat
    injection hat with h; injection h with _ h; exact h.symm
  | some v =>
    rw [h2 v hfk] at hat
    injection hat with h; injection h with _ h; exact h.symm

section
variable {ops : Array Oper} {rest : List Oper} {o : Oper} {a : Act} {Q : Exit → Act → World → Prop} {F : Fence} {nF : Nat}
theorem wpList_mlook (w : World) (hg : o.guard = none) (m x : Operand) (hop : o.op = Op.lookup 70 m x true) {mb sz : Nat} {f : Nat → Option Nat} (hm : a.eval m = .map (some mb)) (h : MpAt w mb f sz) (k : Nat) (hk : k < 18446744073709551616) (hx : a.eval x = .int .u64 (k : Int))
    (hK : wpList Try.prog ops Q rest (a.put o.dst (.tuple #[.int .u8 (((f k).getD 0 : Nat) : Int), .bool (f k).isSome])) w) : wpList Try.prog ops Q (o :: rest) a w := by
  obtain ⟨D, ho, hsz, hf⟩ := h
  refine wpList_lookup_own_ok_int w hg m x 70 hop 22 5 .u8 key64 Try.underlying70 Try.underlying5 (zero8 w) mb sz D hm ho _ (kl k) hx (key_ok k hk) (fun c hat hwc => ?_)
  obtain ⟨h1, rfl⟩ := MpAt.look_fn hf hk hat
  rw [h1]; exact hK
theorem wpListIn_mlook (w : World) (hg : o.guard = none) (m x : Operand) (hop : o.op = Op.lookup 70 m x true) {mb sz : Nat} {f : Nat → Option Nat} (hm : a.eval m = .map (some mb)) (h : MpAt w mb f sz) (k : Nat) (hk : k < 18446744073709551616) (hx : a.eval x = .int .u64 (k : Int))
    (hK : wpListIn F nF Try.prog ops Q rest (a.put o.dst (.tuple #[.int .u8 (((f k).getD 0 : Nat) : Int), .bool (f k).isSome])) w) : wpListIn F nF Try.prog ops Q (o :: rest) a w := by
  obtain ⟨D, ho, hsz, hf⟩ := h
  refine wpListIn_lookup_own_ok_int w hg m x 70 hop 22 5 .u8 key64 Try.underlying70 Try.underlying5 (zero8 w) mb sz D hm ho _ (kl k) hx (key_ok k hk) (fun c hat hwc => ?_)
  obtain ⟨h1, rfl⟩ := MpAt.look_fn hf hk hat
  rw [h1]; exact hK
theorem wpList_mput (w : World) (hg : o.guard = none) (m x v : Operand) (hop : o.op = Op.mapUpdate 70 m x v) {mb sz : Nat} {f : Nat → Option Nat} (hm : a.eval m = .map (some mb)) (h : MpAt w mb f sz) (hn : sz < 1000000) (k : Nat) (hk : k < 18446744073709551616) (hx : a.eval x = .int .u64 (k : Int)) (c : Nat) (hc : c < 256) (hv : a.eval v = .int .u8 (c : Int)) (hfk : f k = none)
    (hK : ∀ w', MpAt w' mb (fun j => if j = k then some c else f j) (sz + 1) → Upd mb w w' → wpList Try.prog ops Q rest (a.put o.dst undef) w') : wpList Try.prog ops Q (o :: rest) a w := by
  obtain ⟨D, ho, hsz, hf⟩ := h
  refine wpList_mapUpdate_own w hg m x v 70 hop 22 5 key64 Try.underlying70 _ mb sz D hm ho (by unfold maxLen; omega) _ _ (kl k) hx hv (key_ok k hk) _ [] (plainElem_int Try.underlying5 (WalkArith.wf_u8 (by omega))) (fun w' ho' hgr => ?_)
  exact hK w' (MpAt.put_fn ho hsz hf hk hfk c ho') (Upd.ofGrown hgr)
theorem wpListIn_mdel (w : World) (hg : o.guard = none) (m x : Operand) (hop : o.op = Op.call { callee := Callee.builtin Builtin.delete, args := #[m, x], argTypes := #[70, 22] }) {mb sz : Nat} {f : Nat → Option Nat} (hm : a.eval m = .map (some mb)) (h : MpAt w mb f sz) (k : Nat) (hk : k < 18446744073709551616) (hx : a.eval x = .int .u64 (k : Int)) {c : Nat} (hfk : f k = some c)
    (hK : ∀ w', MpAt w' mb (fun j => if j = k then none else f j) (sz - 1) → Upd mb w w' → wpListIn F nF Try.prog ops Q rest (a.put o.dst (.tuple #[])) w') : wpListIn F nF Try.prog ops Q (o :: rest) a w := by
  obtain ⟨D, ho, hsz, hf⟩ := h
  refine wpListIn_delete_own w hg m x 70 22 hop 5 key64 Try.underlying70 _ mb sz D hm ho _ (kl k) hx (key_ok k hk) (fun w' ho' hgr => ?_)
  exact hK w' (MpAt.del_fn ho hsz hf hk hfk ho') (Upd.ofGrown hgr.grown)
theorem wpList_mlen (w : World) (hg : o.guard = none) (m : Operand) (hop : o.op = Op.call { callee := Callee.builtin Builtin.len, args := #[m], argTypes := #[70] }) {mb sz : Nat} {f : Nat → Option Nat} (hm : a.eval m = .map (some mb)) (h : MpAt w mb f sz)
    (hK : wpList Try.prog ops Q rest (a.put o.dst (.int .i64 (sz : Int))) w) : wpList Try.prog ops Q (o :: rest) a w := by
  obtain ⟨D, ho, hsz, hf⟩ := h
  refine wpList_len_own w hg m 70 hop 22 5 Try.underlying70 _ mb sz D hm ho ?_
  rw [hsz]; exact hK
end
end Go.Proofs.Ytdloeakmoaoalaa.Rm
