/- Layer 15's ledger, walked: part. -/
import Derived.Test.YtlldomgfjmkcdaaRows
import Derived.Test.YtlldomgfjmkcdaaAid
import Derived.Test.YtlldomgfjmkcdaaLgW
import Derived.Test.YtlldomgfjmkcdaaLgA
import Derived.Test.YtlldomgfjmkcdaaLgB
import Derived.Test.YtlldomgfjmkcdaaLgD
import Derived.Test.YtlldomgfjmkcdaaLgE
import Derived.Test.YtlldomgfjmkcdaaLgF
import Derived.Test.YtlldomgfjmkcdaaLgG
import Derived.Test.YtlldomgfjmkcdaaLgH
import Derived.Test.YtlldomgfjmkcdaaLgI
import Derived.Shelf.Abstract
namespace Go.Proofs.Ytlldomgfjmkcdaa
open Go Go.RowKit
set_option linter.unusedVariables false
set_option linter.unusedSimpArgs false

/-- What asks, as part's caller gives it: of what was there only the ledger's row may have turned. -/
def AsksW (w : World) (gR gid : Nat) (cap : Array Value) (Pd : PS → Bool) (p : PS) : Prop :=
  ∀ V : World, (∀ k, k < w.heap.size → k ≠ gR → V.heap[k]? = w.heap[k]?) → V.os = w.os → V.tape = w.tape → w.heap.size ≤ V.heap.size →
    Calls Try.prog gid (#[.agg #[.int .i64 (p.num : Int), .int .u64 (p.tm : Int), .int .i64 (p.sz : Int), .bool p.ask, .slice p.fa p.fn p.fc]] ++ cap) V fun e W' => e = .returned (.bool (Pd p)) ∧ Below V.heap.size V W'
/-- Behind part. -/
structure PartR (w w' : World) (base a : Nat) (v : Value) (x : LS) (Pd : PS → Bool) (gv : Value) : Prop where
  gone : w'.ownsRow w.heap.size 32 5 gv (x.l.filter Pd).length (flatS (x.l.filter Pd))
  ex : ∃ v', StV w' base a v' ⟨x.l.filter (fun p => !Pd p), x.next, x.acked⟩ ∧ Fresh w v v'
  upd : UpdO a v.ownBlock w w'

set_option maxRecDepth 100000 in
set_option maxHeartbeats 2000000 in
theorem delete_nil (f : Value) (W : World) :
    Calls Try.prog 39 #[.slice none 0 0, f] W fun e W' => e = .returned (.slice none 0 0) ∧ W = W' := by
  have HI : Hid (Calls Try.prog 46 #[.slice none 0 0, f] W fun e W' => e = .returned (.int .i64 (-1)) ∧ W = W') := by
    unfold Hid
    go_enter Try.func46, Try.ntmps46
    go_wp2
    go_loopw [5, 8] (fun _ i wr => i = .int .i64 0 ∧ W = wr) (fun _ _ _ => 0)
    case atStart => exact ⟨rfl, rfl⟩
    case round =>
      obtain ⟨rfl, rfl⟩ := hrel
      go_wp2
      go_ret
      exact ⟨rfl, rfl⟩
  go_enter Try.func39, Try.ntmps39
  go_wp2_with fail
  refine HI.out.mono ?_
  rintro e w' ⟨rfl, rfl⟩
  go_wp2
  go_ret
  exact ⟨rfl, rfl⟩

set_option maxRecDepth 100000 in
set_option maxHeartbeats 2000000 in
theorem part_any (a base gid : Nat) (cap : Array Value) (Pd : PS → Bool) (v : Value) (x : LS) (w : World) (eg : ∀ args w, (callFunc gid args).run Try.prog w = .ok (.enter gid args) w) (h : StV w base a v x) (hn : x.l.length ≤ 1000)
    (ha : ∀ p ∈ x.l, ∀ gR, v.ownBlock = some gR → AsksW w gR gid cap Pd p) :
    Calls Try.prog 27 #[.pointer (some ⟨a, 0, none⟩), .func (.func gid) #[] cap] w fun e w' => ∃ gv, e = .returned gv ∧ PartR w w' base a v x Pd gv := by
  have f0 : w.cell? ⟨a, 0, none⟩ = some v := by rw [h.obj.cell]; rfl
  obtain ⟨S, hS⟩ : ∃ S, w.heap.size = S := ⟨_, rfl⟩
  obtain ⟨W2, hW2⟩ : ∃ W2, (w.alloc (.cells #[.func (.func gid) #[] cap] 75)).alloc (.cells #[.slice none 0 0] 25) = W2 := ⟨_, rfl⟩
  have hb2 : Below w.heap.size w W2 := hW2 ▸ ((Below.refl _ w).alloc (Nat.le_refl _) _).alloc (by simp) _
  have hs2 : W2.heap.size = S + 2 := by rw [← hW2, ← hS]; simp
  have ox : Obj W2 S 75 #[.func (.func gid) #[] cap] := hW2 ▸ hS ▸ (Obj.new w _ _).alloc _
  have og : Obj W2 (S + 1) 25 #[.slice none 0 0] := by
    have := Obj.new (w.alloc (.cells #[.func (.func gid) #[] cap] 75)) 25 #[.slice none 0 0]
    rw [World.size_alloc, hS] at this
    exact hW2 ▸ this
  have h2 := h.kept hb2
  have hle := h.le
  have hlt := h.lt
  have f2 : W2.cell? ⟨a, 0, none⟩ = some v := by rw [h2.obj.cell]; rfl
  rcases h.own.2 with ⟨rfl, h0⟩ | ⟨gR, c, cur, rfl, hbR, hgR, hnc, hcm, hcs, htk⟩
  · have hnil : x.l = [] := List.length_eq_zero_iff.1 h0
    have HD := Lib.hid (delete_nil (.func (.func 40) #[] #[.pointer (some ⟨S, 0, none⟩), .pointer (some ⟨S + 1, 0, none⟩)]) W2)
    have z0 := h2.obj.free 0
    have o3 := h2.obj.set 0 (.slice none 0 0)
    have u : Upd a W2 (W2.setCell ⟨a, 0, none⟩ (.slice none 0 0)) := (Upd.refl _ W2).set 0 _
    have g3 : (W2.setCell ⟨a, 0, none⟩ (.slice none 0 0)).cell? ⟨S + 1, 0, none⟩ = some (.slice none 0 0) := by rw [(og.upd u (by omega)).cell]; rfl
    have HFIN : Hid (PartR w (W2.setCell ⟨a, 0, none⟩ (.slice none 0 0)) base a (.slice none 0 0) x Pd (.slice none 0 0)) := by
      refine ⟨?_, ⟨.slice none 0 0, ⟨o3, ?_, hlt, Nat.le_trans hle (Nat.le_trans hb2.size u.size)⟩, Fresh.refl _ _⟩, UpdO.below hb2 ⟨u.os, u.tape, u.output, u.size, fun k k1 k2 _ => u.block k k1 k2⟩⟩
      · rw [hnil]; exact World.ownsRow_nil _ _ _ _
      · rw [hnil]; exact World.ownsRow_nil _ _ _ _
    clear h h2 hb2 ox og o3 u ha eg
    go_enter Try.func27, Try.ntmps27
    go_wp2_with fail
    refine HD.out.mono ?_
    rintro e w' ⟨rfl, rfl⟩
    go_wp2
    go_ret
    exact ⟨_, rfl, HFIN.out⟩
  · obtain ⟨n, hxn⟩ : ∃ n, x.l.length = n := ⟨_, rfl⟩
    obtain ⟨rest, hrs⟩ : ∃ rest, cur.toList.drop (n * 5) = rest := ⟨_, rfl⟩
    rw [hxn] at htk hnc hn
    have hgl : gR < S := by rw [← hS]; exact (Array.getElem?_eq_some_iff.1 hgR).1
    have hcur : cur = (flatS x.l ++ rest).toArray := by rw [← hrs, ← htk, List.take_append_drop]
    have hO2 : Obj W2 gR 32 (flatS x.l ++ rest).toArray := by
      rw [← hcur]; exact (hb2.block gR (hS ▸ hgl)).trans hgR
    have hrl : rest.length = (c - n) * 5 := by rw [← hrs, List.length_drop, Array.length_toList, hcs]; omega
    have hPJ : PJ W2 (S + 2) gR S (S + 1) (.func (.func gid) #[] cap) [] (.slice none 0 0) W2 := ⟨ox, og, World.ownsRow_nil _ _ _ _, fun _ _ _ _ => rfl, rfl, rfl, rfl, by omega, ⟨by omega, by omega, by omega, by omega, by omega, by omega⟩⟩
    have hask : ∀ p ∈ x.l, Asks W2 (S + 2) gR (S + 1) gid cap Pd p := fun p hp V k1 k2 k3 k4 =>
      ha p hp gR rfl V (fun k hk hne => (k1 k (by omega) hne (by omega)).trans (hb2.block k hk)) (k2.trans hb2.os) (k3.trans hb2.tape) (by omega)
    have HD := Lib.hid (delete_any W2 (S + 2) gR S (S + 1) gid cap Pd x.l n c rest (.slice none 0 0) W2 eg hPJ hxn hn ⟨hnc, hcm⟩ hO2 hrl hask)
    have hml : (x.l.filter (fun p => !Pd p)).length ≤ n := by have := List.length_filter_le (fun p => !Pd p) x.l; omega
    have HF : Hid (∀ (m : Nat) (gv' : Value) (rest' : List Value) (W3 : World), (x.l.filter (fun p => !Pd p)).length = m → rest'.length = (c - m) * 5 → Obj W3 gR 32 (flatS (x.l.filter (fun p => !Pd p)) ++ rest').toArray → PJ W2 (S + 2) gR S (S + 1) (.func (.func gid) #[] cap) (x.l.filter Pd) gv' W3 →
        (∃ v0, W3.cell? ⟨a, 0, none⟩ = some v0) ∧ W3.frozen? ⟨a, 0, none⟩ = false ∧ (W3.setCell ⟨a, 0, none⟩ (.slice (some ⟨gR, 0, none⟩) m c)).cell? ⟨S + 1, 0, none⟩ = some gv' ∧ PartR w (W3.setCell ⟨a, 0, none⟩ (.slice (some ⟨gR, 0, none⟩) m c)) base a (.slice (some ⟨gR, 0, none⟩) x.l.length c) x Pd gv') := fun m gv' rest' W3 q1 q2 q3 q4 => by
      have oa : Obj W3 a 27 #[.slice (some ⟨gR, 0, none⟩) x.l.length c, .int .i64 (x.next : Int), .int .i64 (x.acked : Int)] := (q4.keep a (by omega) (by omega) (by omega)).trans h2.obj
      have u : Upd a W3 (W3.setCell ⟨a, 0, none⟩ (.slice (some ⟨gR, 0, none⟩) m c)) := (Upd.refl _ W3).set 0 _
      have hsz3 : w.heap.size ≤ W3.heap.size := by have := q4.le; omega
      refine ⟨⟨_, by rw [oa.cell]; rfl⟩, oa.free 0, by rw [(q4.gO.upd u (by omega)).cell]; rfl, ?_, ⟨.slice (some ⟨gR, 0, none⟩) m c, ⟨oa.set 0 _, ?_, hlt, by have := u.size; omega⟩, fun g e => .inl e⟩, ?_⟩
      · exact own_base (own_updG q4.own u (fun e => by have := (q4.own.lt a e).1; omega)) (by omega)
      · show World.ownsRow _ _ _ _ _ (x.l.filter (fun p => !Pd p)).length _
        rw [q1]
        refine ⟨by rw [flatS_length, q1], .inr ⟨gR, c, _, rfl, hbR, (u.block gR q3.lt (by omega)).trans q3, by omega, hcm, ?_, ?_⟩⟩
        · simp only [List.size_toArray, List.length_append, flatS_length, q1, q2]; omega
        · show (flatS _ ++ rest').take (m * 5) = _
          rw [List.take_append_of_le_length (by rw [flatS_length, q1]; exact Nat.le_refl _), List.take_of_length_le (by rw [flatS_length, q1]; exact Nat.le_refl _)]
      · exact ⟨u.os.trans (q4.os.trans hb2.os), u.tape.trans (q4.tape.trans hb2.tape), u.output.trans (q4.output.trans hb2.output), Nat.le_trans hsz3 u.size, fun k k1 k2 k3 => (u.block k (by omega) k2).trans ((q4.keep k (by omega) (fun e => k3 (by rw [e]; rfl)) (by omega)).trans (hb2.block k k1))⟩
    rw [hxn] at f0 f2
    clear h h2 hb2 ox og ha eg hO2 hrl hPJ hask hml hcur hrs htk hcs hgR
    go_enter Try.func27, Try.ntmps27
    go_wp2_with fail
    refine HD.out.mono ?_
    rintro e W3 ⟨m, gv', rest', rfl, q1, q2, q3, q4⟩
    obtain ⟨⟨v0, k0⟩, k1, k2, HR⟩ := HF.out m gv' rest' W3 q1 q2 q3 q4
    have HRR := Lib.hid HR
    clear q1 q2 q3 q4 HR HF
    go_wp2
    go_ret
    exact ⟨_, rfl, HRR.out⟩
end Go.Proofs.Ytlldomgfjmkcdaa
