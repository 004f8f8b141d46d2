/- Layer 15's ledger, walked: the closure that parts the packets. -/
import Derived.Test.YtlldomgfjmkcdaaRows
import Derived.Test.YtlldomgfjmkcdaaAid
import Derived.Test.YtlldomgfjmkcdaaLgW
import Derived.Test.YtlldomgfjmkcdaaLgA
import Derived.Test.YtlldomgfjmkcdaaLgB
import Derived.Test.YtlldomgfjmkcdaaLgC
import Derived.Test.YtlldomgfjmkcdaaLgD
namespace Go.Proofs.Ytlldomgfjmkcdaa
open Go Go.RowKit
set_option linter.unusedVariables false
set_option linter.unusedSimpArgs false

/-- What the closure has: the box of the asked one, the variable of those that go; of what was there at first only the ledger's row may have turned. -/
structure PJ (wp : World) (D gR bx bg : Nat) (gV : Value) (gone : List PS) (gv : Value) (W : World) : Prop where
  xO : Obj W bx 75 #[gV]
  gO : Obj W bg 25 #[gv]
  own : W.ownsRow D 32 5 gv gone.length (flatS gone)
  keep : ∀ k, k < D → k ≠ gR → k ≠ bg → W.heap[k]? = wp.heap[k]?
  os : W.os = wp.os
  tape : W.tape = wp.tape
  output : W.output = wp.output
  le : D ≤ W.heap.size
  lt : bx < D ∧ bg < D ∧ bx ≠ bg ∧ gR ≠ bg ∧ gR ≠ bx ∧ gR < D
theorem PJ.kept {wp V V' : World} {D gR bx bg : Nat} {gV gv : Value} {gone : List PS} (h : PJ wp D gR bx bg gV gone gv V) (hb : Below V.heap.size V V') : PJ wp D gR bx bg gV gone gv V' :=
  ⟨h.xO.kept hb, h.gO.kept hb, ownS_kept h.own hb, fun k h1 h2 h3 => (hb.block k (Nat.lt_of_lt_of_le h1 h.le)).trans (h.keep k h1 h2 h3), hb.os.trans h.os, hb.tape.trans h.tape, hb.output.trans h.output, Nat.le_trans h.le hb.size, h.lt⟩
/-- What asks: it tells Pd of a packet, and makes memory only. -/
def Asks (wp : World) (D gR bg gid : Nat) (cap : Array Value) (Pd : PS → Bool) (p : PS) : Prop :=
  ∀ W : World, (∀ k, k < D → k ≠ gR → k ≠ bg → W.heap[k]? = wp.heap[k]?) → W.os = wp.os → W.tape = wp.tape → D ≤ W.heap.size →
    Calls Try.prog gid (#[.agg #[.int .i64 (p.num : Int), .int .u64 (p.tm : Int), .int .i64 (p.sz : Int), .bool p.ask, .slice p.fa p.fn p.fc]] ++ cap) W fun e W' => e = .returned (.bool (Pd p)) ∧ Below W.heap.size W W'
theorem UpdO.below {a : Nat} {r : Option Nat} {w w1 w2 : World} (h : Below w.heap.size w w1) (k : UpdO a r w1 w2) : UpdO a r w w2 :=
  ⟨k.os.trans h.os, k.tape.trans h.tape, k.output.trans h.output, Nat.le_trans h.size k.size, fun j hj h1 h2 => (k.block j (Nat.lt_of_lt_of_le hj h.size) h1 h2).trans (h.block j hj)⟩
theorem Fresh.mono {w w1 : World} {v v' : Value} (h : Fresh w1 v v') (hs : w.heap.size ≤ w1.heap.size) : Fresh w v v' := fun g e => (h g e).imp id (fun h => Nat.le_trans hs h)
theorem Fresh.refl (w : World) (v : Value) : Fresh w v v := fun g e => .inl e

set_option maxHeartbeats 2000000 in
theorem part1_any (wp : World) (D gR bx bg gid : Nat) (cap : Array Value) (Pd : PS → Bool) (p : PS) (gone : List PS) (gv : Value) (W : World) (eg : ∀ args w, (callFunc gid args).run Try.prog w = .ok (.enter gid args) w)
    (h : PJ wp D gR bx bg (.func (.func gid) #[] cap) gone gv W) (ha : Asks wp D gR bg gid cap Pd p) (hn : gone.length ≤ 1000) :
    Calls Try.prog 40 (#[.agg #[.int .i64 (p.num : Int), .int .u64 (p.tm : Int), .int .i64 (p.sz : Int), .bool p.ask, .slice p.fa p.fn p.fc]] ++ #[.pointer (some ⟨bx, 0, none⟩), .pointer (some ⟨bg, 0, none⟩)]) W fun e W' =>
      e = .returned (.bool (Pd p)) ∧ ∃ gv', PJ wp D gR bx bg (.func (.func gid) #[] cap) (if Pd p then gone ++ [p] else gone) gv' W' ∧ UpdO bg gv.ownBlock W W' ∧ Fresh W gv gv' := by
  obtain ⟨num, tm, sz, ask, fa, fn, fc⟩ := p
  obtain ⟨S, hS⟩ : ∃ S, W.heap.size = S := ⟨_, rfl⟩
  obtain ⟨W1, hW1⟩ : ∃ W1, W.alloc (.cells #[.int .i64 (num : Int), .int .u64 (tm : Int), .int .i64 (sz : Int), .bool ask, .slice fa fn fc] 32) = W1 := ⟨_, rfl⟩
  have hb1 : Below W.heap.size W W1 := hW1 ▸ (Below.refl _ W).alloc (Nat.le_refl _) _
  have o1 : Obj W1 S 32 #[.int .i64 (num : Int), .int .u64 (tm : Int), .int .i64 (sz : Int), .bool ask, .slice fa fn fc] := hW1 ▸ hS ▸ Obj.new W _ _
  have h1 := h.kept hb1
  have hA := Lib.hid (ha W1 h1.keep h1.os h1.tape h1.le)
  have x0 : W1.cell? ⟨bx, 0, none⟩ = some (.func (.func gid) #[] cap) := by rw [h1.xO.cell]; rfl
  have s0 : W1.cell? ⟨S, 0, none⟩ = some (.int .i64 (num : Int)) := by rw [o1.cell]; rfl
  have s1 : W1.cell? ⟨S, 1, none⟩ = some (.int .u64 (tm : Int)) := by rw [o1.cell]; rfl
  have s2 : W1.cell? ⟨S, 2, none⟩ = some (.int .i64 (sz : Int)) := by rw [o1.cell]; rfl
  have s3 : W1.cell? ⟨S, 3, none⟩ = some (.bool ask) := by rw [o1.cell]; rfl
  have s4 : W1.cell? ⟨S, 4, none⟩ = some (.slice fa fn fc) := by rw [o1.cell]; rfl
  have hlt := h.lt
  have hle := h.le
  have hneS : ∀ k, gv.ownBlock = some k → k < S := fun k e => hS ▸ (h.own.lt k e).2
  obtain ⟨B, hB⟩ : ∃ B, Pd ⟨num, tm, sz, ask, fa, fn, fc⟩ = B := ⟨_, rfl⟩
  rw [hB] at hA ⊢
  have HB1 := Lib.hid hb1
  have HJ1 := Lib.hid h1
  have HO1 := Lib.hid o1
  have HNS := Lib.hid hneS
  have HS := Lib.hid hS
  clear ha h h1 hb1 o1 hB hneS
  dsimp only at hA
  cases B with
  | false =>
    go_enter Try.func40, Try.ntmps40
    go_wp2_with fail
    refine hA.out.mono ?_
    rintro e W2 ⟨rfl, hb2⟩
    have HB2 := Lib.hid hb2
    clear hb2
    go_wp2
    go_ret
    exact ⟨rfl, gv, HJ1.out.kept HB2.out, UpdO.below (HB1.out.trans (HB2.out.mono HB1.out.size)) ⟨rfl, rfl, rfl, Nat.le_refl _, fun _ _ _ _ => rfl⟩, Fresh.refl _ _⟩
  | true =>
    obtain ⟨A, c, rfl, _, _, _, _, _⟩ := ownS_rb HJ1.out.own
    obtain ⟨n, hn'⟩ : ∃ n, gone.length = n := ⟨_, rfl⟩
    have HN := Lib.hid hn'
    rw [hn'] at HJ1 HNS ⊢
    have HF : Hid (∀ W2, Below W1.heap.size W1 W2 → W2.cell? ⟨bg, 0, none⟩ = some (.slice A n c) ∧ W2.frozen? ⟨bg, 0, none⟩ = false ∧ (W2.cell? ⟨S, 0, none⟩ = some (.int .i64 (num : Int)) ∧ W2.cell? ⟨S, 1, none⟩ = some (.int .u64 (tm : Int)) ∧ W2.cell? ⟨S, 2, none⟩ = some (.int .i64 (sz : Int)) ∧ W2.cell? ⟨S, 3, none⟩ = some (.bool ask) ∧ W2.cell? ⟨S, 4, none⟩ = some (.slice fa fn fc)) ∧
        ∃ A3 c3 W3, (Builtin.append_ #[25, 25] 25 #[.slice A n c, .slice (some ⟨W2.heap.size, 0, none⟩) 1 1]).run Try.prog (W2.alloc (.cells #[.int .i64 (num : Int), .int .u64 (tm : Int), .int .i64 (sz : Int), .bool ask, .slice fa fn fc] 32)) = .ok (.slice A3 (n + 1) c3) W3 ∧
          W3.cell? ⟨bg, 0, none⟩ = some (.slice A n c) ∧ W3.frozen? ⟨bg, 0, none⟩ = false ∧
          PJ wp D gR bx bg (.func (.func gid) #[] cap) (gone ++ [⟨num, tm, sz, ask, fa, fn, fc⟩]) (.slice A3 (n + 1) c3) (W3.setCell ⟨bg, 0, none⟩ (.slice A3 (n + 1) c3)) ∧ UpdO bg (Value.slice A n c).ownBlock W (W3.setCell ⟨bg, 0, none⟩ (.slice A3 (n + 1) c3)) ∧ Fresh W (.slice A n c) (.slice A3 (n + 1) c3)) := fun W2 hb2 => by
      have h2 := HJ1.out.kept hb2
      have o2 := HO1.out.kept hb2
      have hba : Below W2.heap.size W2 (W2.alloc (.cells #[.int .i64 (num : Int), .int .u64 (tm : Int), .int .i64 (sz : Int), .bool ask, .slice fa fn fc] 32)) := (Below.refl _ W2).alloc (Nat.le_refl _) _
      have h2a := h2.kept hba
      have how := h2a.own
      rw [HN.out] at how
      obtain ⟨v3, W3, hr3, ho3, hg3, hf3⟩ := ownS_app2 (W2.alloc (.cells #[.int .i64 (num : Int), .int .u64 (tm : Int), .int .i64 (sz : Int), .bool ask, .slice fa fn fc] 32)) 25 how ⟨W2.heap.size, 0, none⟩ 1 1 [⟨num, tm, sz, ask, fa, fn, fc⟩] rfl (litS_src W2 ⟨num, tm, sz, ask, fa, fn, fc⟩) (by omega) h2a.le
      obtain ⟨A3, c3, rfl, _, _, _, _, _⟩ := ownS_rb ho3
      have hob : ∀ k, (Value.slice A n c).ownBlock = some k → D ≤ k := fun k e => (how.lt k e).1
      have gk : ∀ k, k < D → W3.heap[k]? = (W2.alloc (.cells #[.int .i64 (num : Int), .int .u64 (tm : Int), .int .i64 (sz : Int), .bool ask, .slice fa fn fc] 32)).heap[k]? := fun k hk => hg3.block k (Nat.lt_of_lt_of_le hk h2a.le) (fun e => by have := hob k e.symm; omega)
      have gO3 : Obj W3 bg 25 #[.slice A n c] := (gk bg hlt.2.1).trans h2a.gO
      have xO3 : Obj W3 bx 75 #[.func (.func gid) #[] cap] := (gk bx hlt.1).trans h2a.xO
      have u : Upd bg W3 (W3.setCell ⟨bg, 0, none⟩ (.slice A3 (n + 1) c3)) := (Upd.refl _ W3).set 0 _
      have hsW : W.heap.size ≤ W2.heap.size := Nat.le_trans HB1.out.size hb2.size
      have hbW : Below W.heap.size W (W2.alloc (.cells #[.int .i64 (num : Int), .int .u64 (tm : Int), .int .i64 (sz : Int), .bool ask, .slice fa fn fc] 32)) := (HB1.out.trans (hb2.mono HB1.out.size)).trans (hba.mono hsW)
      refine ⟨by rw [h2.gO.cell]; rfl, h2.gO.free 0, ⟨by rw [o2.cell]; rfl, by rw [o2.cell]; rfl, by rw [o2.cell]; rfl, by rw [o2.cell]; rfl, by rw [o2.cell]; rfl⟩, A3, c3, W3, hr3, by rw [gO3.cell]; rfl, gO3.free 0, ?_, ?_, ?_⟩
      · refine ⟨xO3.upd u hlt.2.2.1, gO3.set 0 _, ?_, fun k k1 k2 k3 => (u.block k (Nat.lt_of_lt_of_le k1 (Nat.le_trans h2a.le hg3.size)) k3).trans ((gk k k1).trans (h2a.keep k k1 k2 k3)), u.os.trans (hg3.os.trans h2a.os), u.tape.trans (hg3.tape.trans h2a.tape), u.output.trans (hg3.output.trans h2a.output), Nat.le_trans h2a.le (Nat.le_trans hg3.size u.size), hlt⟩
        rw [List.length_append, HN.out]
        exact own_updG ho3 u (fun e => by have := (ho3.lt bg e).1; omega)
      · exact UpdO.below hbW ⟨u.os.trans hg3.os, u.tape.trans hg3.tape, u.output.trans hg3.output, Nat.le_trans hg3.size u.size, fun k k1 k2 k3 => (u.block k (Nat.lt_of_lt_of_le k1 hg3.size) k2).trans (hg3.block k k1 k3)⟩
      · exact Fresh.mono hf3 (Nat.le_trans hsW hba.size)
    clear HJ1 HO1 HNS hn'
    go_enter Try.func40, Try.ntmps40
    go_wp2_with fail
    refine hA.out.mono ?_
    rintro e W2 ⟨rfl, hb2⟩
    obtain ⟨k0, k1, ⟨r0, r1, r2, r3, r4⟩, A3, c3, W3, hr3, k3, k4, hJ, hU, hFr⟩ := HF.out W2 hb2
    have HR3 := Lib.hid hr3
    have HJ := Lib.hid hJ
    have HU := Lib.hid hU
    have HFR := Lib.hid hFr
    clear hr3 hJ hU hFr hb2 HF
    go_wp2_with (at_builtin; refine Lib.wpList_append_run _ rfl (.tmp 8) (.tmp 10) _ _ rfl _ _ rfl rfl _ _ HR3.out ?_)
    go_ret
    exact ⟨rfl, _, HJ.out, HU.out, HFR.out⟩
end Go.Proofs.Ytlldomgfjmkcdaa
