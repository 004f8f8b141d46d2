/- Layer 15's ledger by its packets' keys: what every operation tells and leaves. -/
import Derived.Test.YtlldomgfjmkcdaaRows
import Derived.Test.YtlldomgfjmkcdaaAid
import Derived.Test.YtlldomgfjmkcdaaLgW
import Derived.Test.YtlldomgfjmkcdaaLgA
import Derived.Test.YtlldomgfjmkcdaaLgB
import Derived.Test.YtlldomgfjmkcdaaLgC
import Derived.Test.YtlldomgfjmkcdaaLgD
import Derived.Test.YtlldomgfjmkcdaaLgE
import Derived.Test.YtlldomgfjmkcdaaLgJ
import Derived.Test.YtlldomgfjmkcdaaLgK
import Derived.Test.YtlldomgfjmkcdaaLgL
import Derived.Test.YtlldomgfjmkcdaaLgM
import Derived.Test.YtlldomgfjmkcdaaLgN
import Derived.Test.YtlldomgfjmkcdaaLgO
import Derived.Test.YtlldomgfjmkcdaaLgQ
import Derived.Test.YtlldomgfjmkcdaaLgS
namespace Go.Proofs.Ytlldomgfjmkcdaa
open Go Go.RowKit
set_option linter.unusedVariables false
set_option linter.unusedSimpArgs false

/-- What the ledger reckons with of a packet. -/
structure Key where
  num : Nat
  tm : Nat
  sz : Nat
  ask : Bool
deriving Inhabited, DecidableEq
def key (p : PS) : Key := ⟨p.num, p.tm, p.sz, p.ask⟩
def cntK : List Key → Nat
  | [] => 0
  | p :: t => (if p.ask then 1 else 0) + cntK t
def smsK : List Key → Nat
  | [] => 0
  | p :: t => (if p.ask then p.sz else 0) + smsK t
theorem sms_key : ∀ l : List PS, sms l = smsK (l.map key)
  | [] => rfl
  | p :: t => by
    have ih := sms_key t
    rw [List.map_cons, smsK, ← ih]
    rfl
theorem cnt_key : ∀ l : List PS, cnt l = cntK (l.map key)
  | [] => rfl
  | p :: t => by
    have ih := cnt_key t
    rw [List.map_cons, cntK, ← ih]
    rfl
def dueK (ak d : Nat) (t : Nat) (p : Key) : Nat := if p.num + 1 < ak then min t (tadd p.tm d) else t
def dueLK (l : List Key) (ak d : Nat) : Nat := l.foldl (dueK ak d) 18446744073709551615
theorem due_key (l : List PS) (ak d : Nat) : dueL l ak d = dueLK (l.map key) ak d := by
  unfold dueL dueLK
  rw [List.foldl_map]; rfl
def lostK (ak d nw : Nat) (p : Key) : Bool := decide (p.num + 1 < ak) && (decide (p.num + 4 ≤ ak) || decide (tadd p.tm d ≤ nw))
def inRsK (l : List (Nat × Nat)) (p : Key) : Bool := l.any (inR p.num)
def ackMK (ak : Nat) (l : List Key) : Nat := l.foldl (fun m p => max m (p.num + 1)) ak
theorem ackM_key (ak : Nat) (l : List PS) : ackM ak l = ackMK ak (l.map key) := by
  unfold ackM ackMK
  rw [List.foldl_map]; rfl
theorem filter_key (l : List PS) (f : Key → Bool) : (l.filter (fun p => f (key p))).map key = (l.map key).filter f := by
  rw [List.filter_map]; rfl
/-- A ledger that is new since w0, by keys. -/
structure LK (w0 : World) (base a : Nat) (ks : List Key) (nx ak : Nat) (w : World) : Prop where
  ge : w0.heap.size ≤ a
  bel : Below w0.heap.size w0 w
  ex : ∃ v x, StV w base a v x ∧ x.l.map key = ks ∧ x.next = nx ∧ x.acked = ak
/-- What a walk keeps beside the ledger. -/
def Keep (base a : Nat) (w w' : World) : Prop := w.heap.size ≤ w'.heap.size ∧ ∀ k, k < base → k ≠ a → w'.heap[k]? = w.heap[k]?
theorem Keep.refl (base a : Nat) (w : World) : Keep base a w w := ⟨Nat.le_refl _, fun _ _ _ => rfl⟩
theorem Keep.of (base a : Nat) {w w' : World} (h : Below w.heap.size w w') (hb : base ≤ w.heap.size) : Keep base a w w' := ⟨h.size, fun k hk _ => h.block k (by omega)⟩
theorem Keep.trans {base a : Nat} {w w1 w2 : World} (h : Keep base a w w1) (k : Keep base a w1 w2) : Keep base a w w2 := ⟨Nat.le_trans h.1 k.1, fun j h1 h2 => (k.2 j h1 h2).trans (h.2 j h1 h2)⟩
theorem Obj.keep {base a b : Nat} {w w' : World} {t : TypeId} {cs : Array Value} (h : Obj w b t cs) (hk : Keep base a w w') (hb : b < base) (hne : b ≠ a) : Obj w' b t cs := (hk.2 b hb hne).trans h
/-- The bounds on keys. -/
def KB (ks : List Key) : Prop := ∀ p ∈ ks, p.num + 1 ≤ 1000000 ∧ p.tm ≤ 18446744073709551615 ∧ p.sz ≤ 1200
theorem KB.get {ks : List Key} {l : List PS} (h : KB ks) (hl : l.map key = ks) : ∀ p ∈ l, p.num + 1 ≤ 1000000 ∧ p.tm ≤ 18446744073709551615 ∧ p.sz ≤ 1200 := fun p hp => h (key p) (by rw [← hl]; exact List.mem_map_of_mem hp)
theorem KB.filter {ks : List Key} (h : KB ks) (f : Key → Bool) : KB (ks.filter f) := fun p hp => h p (List.mem_filter.1 hp).1
theorem LK.upd {w0 w w' : World} {base a nx ak nx' ak' : Nat} {ks ks' : List Key} (h : LK w0 base a ks nx ak w) {v : Value} {x : LS} (hs : StV w base a v x) (hu : UpdO a v.ownBlock w w') (hv : ∃ v' x', StV w' base a v' x' ∧ x'.l.map key = ks' ∧ x'.next = nx' ∧ x'.acked = ak') : LK w0 base a ks' nx' ak' w' ∧ Keep base a w w' := by
  have hg := h.ge
  have hb := h.bel
  have hlt := hs.lt
  have hle := hs.le
  refine ⟨⟨hg, ⟨hu.os.trans hb.os, hu.tape.trans hb.tape, hu.output.trans hb.output, Nat.le_trans hb.size hu.size, fun k hk => (hu.block k (by have := hb.size; omega) (by omega) (fun e => by have := (hs.own.lt k e.symm).1; omega)).trans (hb.block k hk)⟩, hv⟩,
    hu.size, fun k hk hne => hu.block k (by omega) hne (fun e => by have := (hs.own.lt k e.symm).1; omega)⟩
theorem LK.kept {w0 w w' : World} {base a nx ak : Nat} {ks : List Key} (h : LK w0 base a ks nx ak w) (hb : Below w.heap.size w w') : LK w0 base a ks nx ak w' ∧ Keep base a w w' := by
  obtain ⟨v, x, hs, h1⟩ := h.ex
  exact ⟨⟨h.ge, h.bel.trans (hb.mono h.bel.size), v, x, hs.kept hb, h1⟩, Keep.of base a hb hs.le⟩
theorem LK.start {w0 w : World} {base a : Nat} (hb : Below w0.heap.size w0 w) (hg : w0.heap.size ≤ a) (ho : Obj w a 27 #[.slice none 0 0, .int .i64 0, .int .i64 0]) (h1 : a < base) (h2 : base ≤ w.heap.size) : LK w0 base a [] 0 0 w :=
  ⟨hg, hb, .slice none 0 0, ⟨[], 0, 0⟩, ⟨ho, World.ownsRow_nil _ _ _ _, h1, h2⟩, rfl, rfl, rfl⟩
theorem LK.lt {w0 w : World} {base a nx ak : Nat} {ks : List Key} (h : LK w0 base a ks nx ak w) : a < base ∧ base ≤ w.heap.size := by
  obtain ⟨v, x, hs, h1⟩ := h.ex
  exact ⟨hs.lt, hs.le⟩

theorem send_k {w0 w : World} {base a nx ak : Nat} {ks : List Key} (h : LK w0 base a ks nx ak w) (num : Int) (tm sz : Nat) (ask : Bool) (A : Option Addr) (n c : Nat) (news : List Value) (hs : sz ≤ 1200) (hf : ks.length < 64) (hx : nx ≤ 1000000) (hfr : FrAt w A n news) (hn : n ≤ 1000) :
    Calls Try.prog 9 #[.pointer (some ⟨a, 0, none⟩), .agg #[.int .i64 num, .int .u64 (tm : Int), .int .i64 (sz : Int), .bool ask, .slice A n c]] w fun e w' => e = .returned (.tuple #[.int .i64 (nx : Int), .int .i64 0]) ∧ LK w0 base a (ks ++ [⟨nx, tm, sz, ask⟩]) (nx + 1) ak w' ∧ Keep base a w w' := by
  obtain ⟨v, x, hst, rfl, rfl, rfl⟩ := h.ex
  rw [List.length_map] at hf
  refine (send_any a base v x num tm sz ask A n c news w hst hs hf hx hfr hn).mono ?_
  rintro e w' ⟨rfl, hr⟩
  obtain ⟨v', A', c', k1, k2, k3⟩ := hr.ex
  have := h.upd hst hr.upd ⟨v', _, k1, rfl, rfl, rfl⟩
  simp only [List.map_append, List.map_cons, List.map_nil] at this
  exact ⟨rfl, this⟩
theorem ack_k {w0 w : World} {base a nx ak : Nat} {ks : List Key} (h : LK w0 base a ks nx ak w) (A : Option Addr) (n c : Nat) (l : List (Nat × Nat)) (hks : ks.length ≤ 1000) (hkb : KB ks) (hak : ak ≤ 1000000) (hnx : nx ≤ 1000000) (hl : l.length = n) (hln : n ≤ 1000000) (hR : RbR w A l) (hne : ∀ v x, StV w base a v x → ∀ g b o, 0 < l.length → v.ownBlock = some g → A = some ⟨b, o, none⟩ → b ≠ g) (hb : ∀ r ∈ l, r.1 ≤ 18446744073709551615 ∧ r.2 ≤ 18446744073709551615)
    (hok : l.any (badR nx) = false) :
    Calls Try.prog 10 #[.pointer (some ⟨a, 0, none⟩), .slice A n c] w fun e w' => ∃ gv G, e = .returned (.tuple #[gv, .int .i64 0]) ∧ w'.ownsRow w.heap.size 32 5 gv (ks.filter (inRsK l)).length (flatS G) ∧ G.map key = ks.filter (inRsK l) ∧ LK w0 base a (ks.filter (fun p => !inRsK l p)) nx (ackMK ak (ks.filter (inRsK l))) w' ∧ Keep base a w w' := by
  obtain ⟨v, x, hst, rfl, rfl, rfl⟩ := h.ex
  rw [List.length_map] at hks
  refine (ack_any a base v x A n c l w hst hks hak hnx (fun p hp => (hkb.get rfl p hp).1) hl hln hR (hne v x hst) hb).mono ?_
  intro e w' hP
  unfold AckP at hP
  rw [if_neg (by rw [hok]; simp)] at hP
  obtain ⟨gv, rfl, hr⟩ := hP
  obtain ⟨v', k1, k2⟩ := hr.ex
  have e1 : (x.l.filter (inRs l)).map key = (x.l.map key).filter (inRsK l) := filter_key x.l (inRsK l)
  have e2 : (x.l.filter (fun p => !inRs l p)).map key = (x.l.map key).filter (fun p => !inRsK l p) := filter_key x.l (fun p => !inRsK l p)
  refine ⟨gv, _, rfl, ?_, e1, h.upd hst hr.upd ⟨v', _, k1, e2, rfl, ?_⟩⟩
  · have := hr.gone
    rw [← e1, List.length_map]; exact this
  · show ackM _ _ = _
    rw [ackM_key, e1]
theorem ackbad_k {w0 w : World} {base a nx ak : Nat} {ks : List Key} (h : LK w0 base a ks nx ak w) (A : Option Addr) (n c : Nat) (l : List (Nat × Nat)) (hks : ks.length ≤ 1000) (hkb : KB ks) (hak : ak ≤ 1000000) (hnx : nx ≤ 1000000) (hl : l.length = n) (hln : n ≤ 1000000) (hR : RbR w A l) (hne : ∀ v x, StV w base a v x → ∀ g b o, 0 < l.length → v.ownBlock = some g → A = some ⟨b, o, none⟩ → b ≠ g) (hb : ∀ r ∈ l, r.1 ≤ 18446744073709551615 ∧ r.2 ≤ 18446744073709551615)
    (hok : l.any (badR nx) = true) :
    Calls Try.prog 10 #[.pointer (some ⟨a, 0, none⟩), .slice A n c] w fun e w' => e = .returned (.tuple #[.slice none 0 0, .int .i64 3]) ∧ LK w0 base a ks nx ak w' ∧ Keep base a w w' := by
  obtain ⟨v, x, hst, rfl, rfl, rfl⟩ := h.ex
  rw [List.length_map] at hks
  refine (ack_any a base v x A n c l w hst hks hak hnx (fun p hp => (hkb.get rfl p hp).1) hl hln hR (hne v x hst) hb).mono ?_
  intro e w' hP
  unfold AckP at hP
  rw [if_pos hok] at hP
  obtain ⟨rfl, hr⟩ := hP
  exact ⟨rfl, h.kept hr⟩
theorem lost_k {w0 w : World} {base a nx ak : Nat} {ks : List Key} (h : LK w0 base a ks nx ak w) (nw d : Nat) (hks : ks.length ≤ 1000) (hkb : KB ks) (hak : ak ≤ 1000000) (hd : d ≤ 18446744073709551615) :
    Calls Try.prog 11 #[.pointer (some ⟨a, 0, none⟩), .int .u64 (nw : Int), .int .u64 (d : Int)] w fun e w' => ∃ gv G, e = .returned gv ∧ w'.ownsRow w.heap.size 32 5 gv (ks.filter (lostK ak d nw)).length (flatS G) ∧ G.map key = ks.filter (lostK ak d nw) ∧ LK w0 base a (ks.filter (fun p => !lostK ak d nw p)) nx ak w' ∧ Keep base a w w' := by
  obtain ⟨v, x, hst, rfl, rfl, rfl⟩ := h.ex
  rw [List.length_map] at hks
  refine (lost_any a base nw d v x w hst hks hak (fun p hp => ⟨by have := (hkb.get rfl p hp).1; omega, (hkb.get rfl p hp).2.1⟩) hd).mono ?_
  rintro e w' ⟨gv, rfl, hr⟩
  obtain ⟨v', k1, k2⟩ := hr.ex
  have e1 : (x.l.filter (lostP x.acked d nw)).map key = (x.l.map key).filter (lostK x.acked d nw) := filter_key x.l (lostK x.acked d nw)
  have e2 : (x.l.filter (fun p => !lostP x.acked d nw p)).map key = (x.l.map key).filter (fun p => !lostK x.acked d nw p) := filter_key x.l (fun p => !lostK x.acked d nw p)
  refine ⟨gv, _, rfl, ?_, e1, h.upd hst hr.upd ⟨v', _, k1, e2, rfl, rfl⟩⟩
  have := hr.gone
  rw [← e1, List.length_map]; exact this
theorem drop_k {w0 w : World} {base a nx ak : Nat} {ks : List Key} (h : LK w0 base a ks nx ak w) (hks : ks.length ≤ 1000) :
    Calls Try.prog 16 #[.pointer (some ⟨a, 0, none⟩)] w fun e w' => e = .returned (.int .i64 (ks.length : Int)) ∧ LK w0 base a [] nx ak w' ∧ Keep base a w w' := by
  obtain ⟨v, x, hst, rfl, rfl, rfl⟩ := h.ex
  rw [List.length_map] at hks
  refine (drop_any a base v x w hst hks).mono ?_
  rintro e w' ⟨rfl, gv, hr⟩
  obtain ⟨v', k1, k2⟩ := hr.ex
  refine ⟨by rw [List.length_map], h.upd hst hr.upd ⟨v', _, k1, ?_, rfl, rfl⟩⟩
  show (x.l.filter (fun _ => !true)).map key = []
  simp
theorem due_k {w0 w : World} {base a nx ak : Nat} {ks : List Key} (h : LK w0 base a ks nx ak w) (d : Nat) (hks : ks.length ≤ 1000) (hkb : KB ks) (hak : ak ≤ 1000000) (hd : d ≤ 18446744073709551615) :
    Calls Try.prog 15 #[.pointer (some ⟨a, 0, none⟩), .int .u64 (d : Int)] w fun e w' => e = .returned (.int .u64 ((dueLK ks ak d : Nat) : Int)) ∧ LK w0 base a ks nx ak w' ∧ Keep base a w w' := by
  obtain ⟨v, x, hst, rfl, rfl, rfl⟩ := h.ex
  rw [List.length_map] at hks
  refine (due_any a base d v x w hst hks hd (fun p hp => ⟨(hkb.get rfl p hp).2.1, by have := (hkb.get rfl p hp).1; omega⟩) hak).mono ?_
  rintro e w' ⟨rfl, hb⟩
  exact ⟨by rw [due_key], h.kept hb⟩
theorem flight_k {w0 w : World} {base a nx ak : Nat} {ks : List Key} (h : LK w0 base a ks nx ak w) (hks : ks.length ≤ 1000) (hkb : KB ks) :
    Calls Try.prog 14 #[.pointer (some ⟨a, 0, none⟩)] w fun e w' => e = .returned (.complex .f64 (Fl.F (cntK ks)) (Fl.F (smsK ks))) ∧ LK w0 base a ks nx ak w' ∧ Keep base a w w' := by
  obtain ⟨v, x, hst, rfl, rfl, rfl⟩ := h.ex
  rw [List.length_map] at hks
  refine (flight_any a base v x w hst hks (fun p hp => (hkb.get rfl p hp).2.2)).mono ?_
  rintro e w' ⟨rfl, hb⟩
  exact ⟨by rw [cnt_key, sms_key], h.kept hb⟩
theorem next_k {w0 w : World} {base a nx ak : Nat} {ks : List Key} (h : LK w0 base a ks nx ak w) :
    Calls Try.prog 13 #[.pointer (some ⟨a, 0, none⟩)] w fun e w' => e = .returned (.int .i64 (nx : Int)) ∧ w = w' := by
  obtain ⟨v, x, hst, rfl, rfl, rfl⟩ := h.ex
  exact next_any a base v x w hst
theorem acked_k {w0 w : World} {base a nx ak : Nat} {ks : List Key} (h : LK w0 base a ks nx ak w) (hak : ak ≤ 1000000) :
    Calls Try.prog 18 #[.pointer (some ⟨a, 0, none⟩)] w fun e w' => e = .returned (.int .i64 ((ak : Int) - 1)) ∧ w = w' := by
  obtain ⟨v, x, hst, rfl, rfl, rfl⟩ := h.ex
  exact acked_any a base v x w hst hak
theorem list_k {w0 w : World} {base a nx ak : Nat} {ks : List Key} (h : LK w0 base a ks nx ak w) (hks : ks.length ≤ 1000) :
    Calls Try.prog 12 #[.pointer (some ⟨a, 0, none⟩)] w fun e w' => ∃ gv G, e = .returned gv ∧ w'.ownsRow w.heap.size 32 5 gv ks.length (flatS G) ∧ G.map key = ks ∧ LK w0 base a ks nx ak w' ∧ Keep base a w w' := by
  obtain ⟨v, x, hst, rfl, rfl, rfl⟩ := h.ex
  rw [List.length_map] at hks
  refine (list_any a base v x w hst hks).mono ?_
  rintro e w' ⟨gv, rfl, ho, hb⟩
  exact ⟨gv, _, rfl, by rw [List.length_map]; exact ho, rfl, h.kept hb⟩
end Go.Proofs.Ytlldomgfjmkcdaa
