/- LedgerOnce, walked. -/
import Derived.Test.YtlldomgfjmkcdaaRows
import Derived.Test.YtlldomgfjmkcdaaAid
import Derived.Test.YtlldomgfjmkcdaaPlainFl
import Derived.Test.YtlldomgfjmkcdaaHeldT
import Derived.Test.YtlldomgfjmkcdaaLgW
import Derived.Test.YtlldomgfjmkcdaaLgB
import Derived.Test.YtlldomgfjmkcdaaLgD
import Derived.Test.YtlldomgfjmkcdaaLgO
import Derived.Test.YtlldomgfjmkcdaaLgQ
import Derived.Test.YtlldomgfjmkcdaaLgU
import Derived.Test.YtlldomgfjmkcdaaLgV
import Derived.Test.YtlldomgfjmkcdaaLgX
import Derived.Test.YtlldomgfjmkcdaaLgZ
import Derived.Test.YtlldomgfjmkcdaaLgF2
import Derived.Test.YtlldomgfjmkcdaaLgG2
import Derived.WalkLawsBesides
import Derived.Laws.ComplexArith
import Derived.OpenShut
namespace Go.Proofs.Ytlldomgfjmkcdaa
open Go Go.RowKit
set_option linter.unusedVariables false
set_option linter.unusedSimpArgs false

def OnceS (w : World) (B : Nat) (ks : List Key) (nx ak : Nat) (wr : World) (e : Ending) (w' : World) : Prop :=
  (∃ v, e = .returned v) ∧ ∃ ks' nx', LK w (B + 2) B ks' nx' ak w' ∧ OnceB ks' nx' ak ∧ (∀ h, OnceI h ks nx → OnceI h ks' nx') ∧ nx' ≤ nx + 1 ∧ Keep (B + 2) B wr w'
theorem once_send {w wr : World} {B nx ak : Nat} {ks : List Key} (h : LK w (B + 2) B ks nx ak wr) (hb : OnceB ks nx ak) (hnx : nx ≤ 120) (a : Act15) (ha : AOk w a) (hf : FewA a) :
    Calls Try.prog 9 #[.pointer (some ⟨B, 0, none⟩), .agg #[.int .i64 a.num, .int .u64 (a.tm : Int), .int .i64 a.sz, .bool a.ask, .slice a.fA a.fn a.fc]] wr (OnceS w B ks nx ak wr) := by
  by_cases hs : a.sz < 0 ∨ 1200 < a.sz
  · refine (send_arg B a.num a.tm a.sz a.ask a.fA a.fn a.fc wr hs).mono ?_
    rintro e w' ⟨he, hbel⟩
    have := h.kept hbel
    exact ⟨⟨_, he⟩, ks, nx, this.1, hb, fun _ h => h, by omega, this.2⟩
  · obtain ⟨s, hs2⟩ : ∃ s : Nat, a.sz = (s : Int) := ⟨a.sz.toNat, by omega⟩
    by_cases hl : ks.length < 64
    · have hfn : a.fn ≤ 5 := by have := hf.2.1; rw [ha.fl] at this; exact this
      rw [hs2]
      refine (send_k h a.num a.tm s a.ask a.fA a.fn a.fc (flatF a.frs) (by omega) hl (by omega) (ha.below h.bel).2 (by omega)).mono ?_
      rintro e w' ⟨he, h2, h3⟩
      exact ⟨⟨_, he⟩, _, _, h2, hb.send hl ha.tm (by omega), fun _ h => h.send, by omega, h3⟩
    · obtain ⟨v, x, hst, h1, h2, h3⟩ := h.ex
      have hxl : x.l.length = ks.length := by rw [← h1, List.length_map]
      refine (send_full B (B + 2) v x a.num a.tm a.sz a.ask a.fA a.fn a.fc wr hst (by omega) (by omega) (by have := hb.1; omega)).mono ?_
      rintro e w' ⟨he, hbel⟩
      have := h.kept hbel
      exact ⟨⟨_, he⟩, ks, nx, this.1, hb, fun _ h => h, by omega, this.2⟩
def OnceA (w : World) (B : Nat) (ks : List Key) (nx : Nat) (wr : World) (e : Ending) (w' : World) : Prop :=
  ∃ gv ke, e = .returned (.tuple #[gv, .int .i64 ke]) ∧ ∃ G ks' ak', GoneR wr w' w (B + 2) B ks ks' nx ak' gv G
theorem once_ack {w wr : World} {B nx ak : Nat} {ks : List Key} (h : LK w (B + 2) B ks nx ak wr) (hb : OnceB ks nx ak) (hnx : nx ≤ 120) (a : Act15) (ha : AOk w a) (hf : FewA a) :
    Calls Try.prog 10 #[.pointer (some ⟨B, 0, none⟩), .slice a.rA a.rn a.rc] wr (OnceA w B ks nx wr) := by
  have hrn : a.rn ≤ 20 := by have := hf.1; rw [ha.rl] at this; exact this
  have hne : ∀ v x, StV wr (B + 2) B v x → ∀ g b o, 0 < a.rngs.length → v.ownBlock = some g → a.rA = some ⟨b, o, none⟩ → b ≠ g := by
    intro v x hs g b o h0 hg he
    have h1 := (hs.own.lt g hg).1
    have h2 := h.ge
    obtain ⟨b', o', e, hb', _⟩ := ha.rb h0
    rw [he] at e; cases e
    omega
  cases hk : a.rngs.any (badR nx) with
  | true =>
    refine (ackbad_k h a.rA a.rn a.rc a.rngs (by have := hb.1; omega) (hb.kb (by omega)) (by have := hb.2.1; omega) (by omega) ha.rl (by omega) (ha.below h.bel).1 hne ha.rng hk).mono ?_
    rintro e w' ⟨he, h2, h3⟩
    have hf0 : ks.filter (fun _ => false) = [] := by simp
    have hf1 : ks.filter (fun _ => !false) = ks := by simp
    exact ⟨_, _, he, [], ks, ak, World.ownsRow_nil _ _ _ _, h2, ⟨fun _ => false, by rw [hf0]; rfl, by rw [hf1]⟩, hb, h3⟩
  | false =>
    refine (ack_k h a.rA a.rn a.rc a.rngs (by have := hb.1; omega) (hb.kb (by omega)) (by have := hb.2.1; omega) (by omega) ha.rl (by omega) (ha.below h.bel).1 hne ha.rng hk).mono ?_
    rintro e w' ⟨gv, G, he, h1, h2, h3, h4⟩
    exact ⟨_, _, he, G, _, _, by rw [← h2, List.length_map] at h1; exact h1, h3, ⟨_, h2, rfl⟩, hb.ack _ _, h4⟩
def OnceL (w : World) (B : Nat) (ks : List Key) (nx : Nat) (wr : World) (e : Ending) (w' : World) : Prop :=
  ∃ gv, e = .returned gv ∧ ∃ G ks' ak', GoneR wr w' w (B + 2) B ks ks' nx ak' gv G
theorem once_lost {w wr : World} {B nx ak : Nat} {ks : List Key} (h : LK w (B + 2) B ks nx ak wr) (hb : OnceB ks nx ak) (hnx : nx ≤ 120) (nw d : Nat) (hd : d ≤ 18446744073709551615) :
    Calls Try.prog 11 #[.pointer (some ⟨B, 0, none⟩), .int .u64 (nw : Int), .int .u64 (d : Int)] wr (OnceL w B ks nx wr) := by
  refine (lost_k h nw d (by have := hb.1; omega) (hb.kb (by omega)) (by have := hb.2.1; omega) hd).mono ?_
  rintro e w' ⟨gv, G, he, h1, h2, h3, h4⟩
  exact ⟨_, he, G, _, _, by rw [← h2, List.length_map] at h1; exact h1, h3, ⟨_, h2, rfl⟩, hb.filter _, h4⟩
/-- Between two acts. -/
structure OnceT (w : World) (B k : Nat) (ks : List Key) (nx ak : Nat) (h : Nat → Nat) (wr : World) : Prop where
  lk : LK w (B + 2) B ks nx ak wr
  hd : Obj wr (B + 1) 28 (hcells h)
  oi : OnceI h ks nx
  ob : OnceB ks nx ak
  nk : nx ≤ k
/-- Ahead of the counting. -/
structure OnceM (w : World) (B k : Nat) (ks' : List Key) (nx ak : Nat) (h : Nat → Nat) (A : Option Addr) (n c : Nat) (G : List PS) (wr : World) : Prop where
  own : wr.ownsRow (B + 2) 32 5 (.slice A n c) n (flatS G)
  len : G.length = n
  nums : ∀ p ∈ G, p.num < 120
  n64 : n ≤ 1000
  lk : LK w (B + 2) B ks' nx ak wr
  hd : Obj wr (B + 1) 28 (hcells h)
  oi : OnceI (hadd h (G.map key)) ks' nx
  ob : OnceB ks' nx ak
  nk : nx ≤ k
theorem OnceM.of {w wr w' : World} {B k nx ak ak' : Nat} {ks ks' : List Key} {h : Nat → Nat} {gv : Value} {G : List PS} (ht : OnceT w B k ks nx ak h wr) (hk : k ≤ 120) (hr : GoneR wr w' w (B + 2) B ks ks' nx ak' gv G) : ∃ A n c, gv = .slice A n c ∧ OnceM w B (k + 1) ks' nx ak' h A n c G w' := by
  obtain ⟨A, c, rfl, _, _, _, _, _⟩ := ownS_rb hr.own
  obtain ⟨f, h1, h2⟩ := hr.part
  have hlt := ht.lk.lt
  have hgl : G.length ≤ 64 := by rw [← List.length_map (f := key), h1]; exact Nat.le_trans (List.length_filter_le _ _) ht.ob.1
  have hnk := ht.nk
  refine ⟨A, _, c, rfl, own_base hr.own hlt.2, rfl, fun p hp => ?_, by omega, hr.lk, ht.hd.keep hr.keep (by omega) (by omega), by rw [h1, h2]; exact ht.oi.part f, hr.ob, by omega⟩
  have hm : key p ∈ ks.filter f := by rw [← h1]; exact List.mem_map_of_mem hp
  have : p.num < nx := (ht.ob.2.2 _ (List.mem_filter.1 hm).1).1
  omega
theorem OnceM.none {w wr : World} {B k nx ak : Nat} {ks : List Key} {h : Nat → Nat} (hl : LK w (B + 2) B ks nx ak wr) (hd : Obj wr (B + 1) 28 (hcells h)) (oi : OnceI h ks nx) (ob : OnceB ks nx ak) (nk : nx ≤ k) : OnceM w B k ks nx ak h none 0 0 [] wr :=
  ⟨World.ownsRow_nil _ _ _ _, rfl, (fun p hp => by cases hp), by omega, hl, hd, by rw [List.map_nil, hadd_nil]; exact oi, ob, nk⟩
theorem nct_take (l : List Key) (q n : Nat) : nct (l.take q) n ≤ nct l n := by
  have := nct_app (l.take q) (l.drop q) n
  rw [List.take_append_drop] at this
  omega
/-- Between two counts. -/
structure OnceQ (B : Nat) (h : Nat → Nat) (G : List PS) (W : World) (q : Nat) (wr : World) : Prop where
  hd : Obj wr (B + 1) 28 (hcells (hadd h ((G.take q).map key)))
  upd : Upd (B + 1) W wr
theorem OnceQ.next {B q : Nat} {h : Nat → Nat} {G : List PS} {W wr : World} (hq : OnceQ B h G W q wr) (hl : q < G.length) (hn : (G.getD q default).num < 200) :
    OnceQ B h G W (q + 1) (wr.setCell ⟨B + 1, (G.getD q default).num, none⟩ (.int .i64 ((hadd h ((G.take q).map key) (G.getD q default).num + 1 : Nat) : Int))) := by
  refine ⟨?_, hq.upd.set _ _⟩
  have := hq.hd.set (G.getD q default).num (.int .i64 ((hadd h ((G.take q).map key) (G.getD q default).num + 1 : Nat) : Int))
  rw [hcells_set _ _ hn, show (G.getD q default).num = (key (G.getD q default)).num from rfl, hadd_next] at this
  rw [take_next G q hl, List.map_append]
  exact this
theorem FOk.below {w w' : World} {f : Frm} (h : FOk w f) (hb : Below w.heap.size w w') : FOk w' f := ⟨h.kind, h.nums, h.tl, h.toks, h.dl, h.bytes, h.db.below hb, h.dc, h.rl, h.rb.below hb, h.rng, h.rc⟩
theorem AOk.kept {w w' : World} {a : Act15} (h : AOk w a) (hb : Below w.heap.size w w') : AOk w' a :=
  ⟨h.num, h.sz, h.tm, h.d, h.fl, h.fc, fun hp => by
    obtain ⟨b, o, e, h1, h2⟩ := h.fr hp
    exact ⟨b, o, e, Nat.lt_of_lt_of_le h1 hb.size, fun i hi j v hv => (World.cell?_of_block (a := ⟨b, o + i * 24 + j, none⟩) (hb.block b h1)).trans (h2 i hi j v hv)⟩, fun f hf => (h.fok f hf).below hb, h.rl, h.rc, h.rb.below hb, h.rng⟩
theorem Acts15.below {w w' : World} {A : Option Addr} {n : Nat} {l : List Act15} (h : Acts15 w A n l) (hb : Below w.heap.size w w') : Acts15 w' A n l :=
  ⟨h.1, fun a ha => (h.2.1 a ha).kept hb, fun hp => by
    obtain ⟨b, o, e, h1, h2⟩ := h.2.2 hp
    exact ⟨b, o, e, Nat.lt_of_lt_of_le h1 hb.size, fun i hi j v hv => (World.cell?_of_block (a := ⟨b, o + i * 8 + j, none⟩) (hb.block b h1)).trans (h2 i hi j v hv)⟩⟩
theorem OnceM.close {w W wr : World} {B k nx ak : Nat} {ks : List Key} {h : Nat → Nat} {A : Option Addr} {n c : Nat} {G : List PS} (hM : OnceM w B k ks nx ak h A n c G W) (hQ : OnceQ B h G W n wr) (hs : w.heap.size ≤ B) : OnceT w B k ks nx ak (hadd h (G.map key)) wr := by
  have hd := hQ.hd
  rw [List.take_of_length_le (by rw [hM.len]; exact Nat.le_refl _)] at hd
  exact ⟨hM.lk.updH hQ.upd (by omega) (by omega) (by omega), hd, hM.oi, hM.ob, hM.nk⟩
theorem OnceM.le {w W : World} {B k nx ak : Nat} {ks : List Key} {h : Nat → Nat} {A : Option Addr} {n c : Nat} {G : List PS} (hM : OnceM w B k ks nx ak h A n c G W) (q m : Nat) : hadd h ((G.take q).map key) m ≤ 1 := by
  have h1 := hM.oi m
  have h2 := nct_take (G.map key) q m
  rw [← List.map_take] at h2
  unfold hadd at h1 ⊢
  split at h1 <;> omega

set_option maxRecDepth 100000 in
set_option maxHeartbeats 16000000 in
theorem ledgerOnce_walk (A0 : Option Addr) (n0 c0 : Nat) (l0 : List Act15) (w : World) (hl : Acts15 w A0 n0 l0) (hc : n0 ≤ c0 ∧ c0 ≤ maxLen) :
    Calls Try.prog 3 #[.slice A0 n0 c0] w fun e w' => e = .returned (.bool true) ∧ Below w.heap.size w w' := by
  have hzr := (zero_of_info zero200).1
  have HL := Lib.hid hl
  have HC := Lib.hid hc
  have hcm : n0 ≤ c0 ∧ c0 ≤ 9223372036854775807 := ⟨hc.1, by have := hc.2; simp only [maxLen] at this; omega⟩
  clear hl hc
  go_enter Try.func3, Try.ntmps3
  go_wp2_with fail
  refine (alive_any w).mono ?_
  rintro e w1 ⟨rfl, hb⟩
  have HB := Lib.hid hb
  clear hb
  have HL1 := Lib.hid (HL.out.below HB.out)
  go_wp2_with fail
  refine (few_any A0 n0 c0 l0 w1 HL1.out HC.out).mono ?_
  rintro e w' ⟨b, rfl, hfew, rfl⟩
  have HFW := Lib.hid hfew
  clear hfew
  cases b with
  | false =>
    go_wp2
    go_ret
    exact ⟨rfl, HB.out⟩
  | true =>
    have HF : Hid (Few l0) := HFW.out rfl
    clear HFW
    obtain ⟨B, hB⟩ : ∃ B, w1.heap.size = B := ⟨_, rfl⟩
    obtain ⟨W1, hW1⟩ : ∃ W1, (w1.alloc (.cells #[.slice none 0 0, .int .i64 0, .int .i64 0] 27)).alloc (.cells (hcells hz) 28) = W1 := ⟨_, rfl⟩
    have hb1 : Below w1.heap.size w1 W1 := hW1 ▸ ((Below.refl _ w1).alloc (Nat.le_refl _) _).alloc (by simp) _
    have o0 : Obj W1 B 27 #[.slice none 0 0, .int .i64 0, .int .i64 0] := hW1 ▸ hB ▸ (Obj.new w1 _ _).alloc _
    have o1 : Obj W1 (B + 1) 28 (hcells hz) := by
      have := Obj.new (w1.alloc (.cells #[.slice none 0 0, .int .i64 0, .int .i64 0] 27)) 28 (hcells hz)
      rw [World.size_alloc, hB] at this
      exact hW1 ▸ this
    have hsB : w.heap.size ≤ B := by have := HB.out.size; omega
    have L1 : LK w (B + 2) B [] 0 0 W1 := LK.start (HB.out.trans (hb1.mono HB.out.size)) hsB o0 (by omega) (by rw [← hW1]; simp; omega)
    have T1 : Hid (OnceT w B 0 [] 0 0 hz W1) := ⟨L1, o1, OnceI.start, OnceB.start, Nat.le_refl _⟩
    have HLW : Hid (∀ (k : Nat) (W : World), k < n0 → Below w.heap.size w W → AOk w (l0.getD k default) ∧ FewA (l0.getD k default) ∧ ∃ D off, A0 = some ⟨D, off, none⟩ ∧ D < w.heap.size ∧ ∀ j v, (acells (l0.getD k default))[j]? = some v → W.cell? ⟨D, off + k * 8 + j, none⟩ = some v) := fun k W hk hbW => by
      obtain ⟨q1, q2, q3⟩ := HL.out
      obtain ⟨D, off, e, hD, hcl⟩ := q3 (by omega)
      have hm : l0.getD k default ∈ l0 := getD_mem (by omega)
      exact ⟨q2 _ hm, HF.out.2 _ hm, D, off, e, hD, fun j v hv => (World.cell?_of_block (a := ⟨D, off + k * 8 + j, none⟩) (hbW.block D hD)).trans (hcl k hk j v hv)⟩
    have h120 : n0 ≤ 120 := by have := HF.out.1; rw [HL.out.1] at this; exact this
    have HW1 := Lib.hid hW1
    have HB0 := Lib.hid hB
    clear hW1 hb1 o0 o1 L1
    go_wp2
    rw [HW1.out]
    clear hB
    go_loopw [5] (fun i wr => ∃ (k : Nat) (ks : List Key) (nx ak : Nat) (h : Nat → Nat), k ≤ n0 ∧ i = .int .i64 (k : Int) ∧ OnceT w B k ks nx ak h wr) (fun i _ => n0 - (intOf i).toNat)
    case atStart => exact ⟨0, [], 0, 0, hz, Nat.zero_le _, rfl, T1.out⟩
    case round =>
      clear T1 HW1 HL1
      obtain ⟨k, ks, nx, ak, h, hk, rfl, hT⟩ := hrel
      have HT := Lib.hid hT
      clear hT
      by_cases hlt : k < n0
      · have hki : (k : Int) < (n0 : Int) := by omega
        obtain ⟨hA, hF, D, off, rfl, hD, hcl⟩ := HLW.out k wr hlt HT.out.lk.bel
        generalize l0.getD k default = a at *
        have hnx : nx ≤ 120 := by have := HT.out.nk; omega
        have hbw := HT.out.lk.bel
        have hsend := Lib.hid (once_send HT.out.lk HT.out.ob hnx a hA hF)
        have hack := Lib.hid (once_ack HT.out.lk HT.out.ob hnx a hA hF)
        have hlost : Hid (∀ nw, Calls Try.prog 11 #[.pointer (some ⟨B, 0, none⟩), .int .u64 (nw : Nat), .int .u64 (a.d : Int)] wr.drew (OnceL w B ks nx wr.drew)) := fun nw => once_lost (HT.out.lk.kept (Below.refl _ wr).drew).1 HT.out.ob hnx nw a.d hA.d
        have HTD : Hid (OnceT w B k ks nx ak h wr.drew) := ⟨(HT.out.lk.kept (Below.refl _ wr).drew).1, HT.out.hd.drew, HT.out.oi, HT.out.ob, HT.out.nk⟩
        have HCL : Hid (∀ W, Below w.heap.size w W → (∀ j v, (acells a)[j]? = some v → W.cell? ⟨D, off + k * 8 + j, none⟩ = some v)) := fun W hbW j v hv => by
          have h1 := hcl j v hv
          have h2 := World.cell?_of_block (a := ⟨D, off + k * 8 + j, none⟩) ((hbW.block D hD).trans (hbw.block D hD).symm)
          exact h2.trans h1
        obtain ⟨kind, num, tm, sz, ask, fA, fn, fc, frs, rA, rn, rc, rngs, d⟩ := a
        have f0 : wr.cell? ⟨D, off + k * 8, none⟩ = some (.int .i64 kind) := hcl 0 _ rfl
        have f1 : wr.cell? ⟨D, off + k * 8 + 1, none⟩ = some (.int .i64 num) := hcl 1 _ rfl
        have f2 : wr.cell? ⟨D, off + k * 8 + 1 + 1, none⟩ = some (.int .u64 (tm : Int)) := hcl 2 _ rfl
        have f3 : wr.cell? ⟨D, off + k * 8 + 1 + 2, none⟩ = some (.int .i64 sz) := hcl 3 _ rfl
        have f4 : wr.cell? ⟨D, off + k * 8 + 1 + 3, none⟩ = some (.bool ask) := hcl 4 _ rfl
        have f5 : wr.cell? ⟨D, off + k * 8 + 1 + 4, none⟩ = some (.slice fA fn fc) := hcl 5 _ rfl
        have f6 : wr.cell? ⟨D, off + k * 8 + 6, none⟩ = some (.slice rA rn rc) := hcl 6 _ rfl
        have f7 : wr.cell? ⟨D, off + k * 8 + 7, none⟩ = some (.int .u64 (d : Int)) := hcl 7 _ rfl
        dsimp only at hsend hack hlost
        clear hA hF hcl hbw
        by_cases c0 : kind = 0
        · subst c0
          clear hack hlost f6 f7 HCL HTD
          go_wp2_with fail
          refine hsend.out.mono ?_
          rintro e W2 ⟨⟨v, rfl⟩, ks', nx', l2, b2, i2, n2, k2⟩
          have M2 : Hid (OnceT w B (k + 1) ks' nx' ak h W2) := ⟨l2, HT.out.hd.keep k2 (by omega) (by omega), i2 h HT.out.oi, b2, by have := HT.out.nk; omega⟩
          clear l2 b2 i2 k2 hsend HT
          go_wp2
          go_loopw [7] (fun i wr2 => i = .int .i64 0 ∧ wr2 = W2) (fun _ _ => 0)
          case atStart => exact ⟨rfl, rfl⟩
          case round =>
            obtain ⟨rfl, rfl⟩ := hrel
            go_wp2
            go_roundw
            case rel => exact ⟨k + 1, ks', nx', ak, h, by omega, by go_num, M2.out⟩
            case measure => simp [intOf]; omega
        · have d0 : (kind == 0) = false := by simpa using c0
          by_cases c1 : kind = 1
          · subst c1
            clear hsend hlost f1 f2 f3 f4 f5 f7 HCL HTD
            go_wp2_with fail
            refine hack.out.mono ?_
            rintro e W2 ⟨gv, ke, rfl, G, ks', ak', hr⟩
            obtain ⟨A, n, c, rfl, hm⟩ := OnceM.of HT.out (by omega) hr
            have M2 := Lib.hid hm
            clear hr hm hack HT
            go_wp2
            go_loopw [7] (fun i wr2 => ∃ q : Nat, q ≤ n ∧ i = .int .i64 (q : Int) ∧ OnceQ B h G W2 q wr2) (fun i _ => n - (intOf i).toNat)
            case atStart => exact ⟨0, Nat.zero_le _, rfl, ⟨M2.out.hd, Upd.refl _ _⟩⟩
            case round =>
              obtain ⟨wo, rfl⟩ : ∃ wo : World, wo = wr := ⟨_, rfl⟩
              obtain ⟨q, hq, rfl, hQ⟩ := hrel
              have HQ := Lib.hid hQ
              clear hQ
              have hn64 := M2.out.n64
              by_cases hlt2 : q < n
              · have hqi : (q : Int) < (n : Int) := by omega
                have hql : q < G.length := by rw [M2.out.len]; exact hlt2
                obtain ⟨g, c', e, hbg, hgl, g0, _, _, _, _⟩ := ownS_cells (own_updG M2.out.own HQ.out.upd (fun e => by have := (M2.out.own.lt _ e).1; omega)) hql
                cases e
                have hnum := M2.out.nums _ (getD_mem hql)
                have hle := M2.out.le q (G.getD q default).num
                have hnx := HQ.out.next hql (by omega)
                have r0 := HQ.out.hd.cell (G.getD q default).num
                rw [hcells_get _ _ (by omega)] at r0
                have z0 := HQ.out.hd.free (G.getD q default).num
                generalize (G.getD q default).num = num at *
                generalize hadd h ((G.take q).map key) num = hv at *
                have HN : Hid (OnceQ B h G W2 (q + 1) (_root_.Go.World.setCell _ ⟨B + 1, num, none⟩ (.int .i64 ((hv : Int) + 1)))) := hnx
                have hni : (num : Int) < 200 := by omega
                clear hnx
                go_wp2
                go_roundw
                case rel => exact ⟨q + 1, by omega, by go_num, HN.out⟩
                case measure => simp [intOf]; omega
              · obtain rfl : n = q := by omega
                have HT2 := Lib.hid (M2.out.close HQ.out hsB)
                go_wp2
                go_roundw
                case rel => exact ⟨k + 1, _, _, _, _, by omega, by go_num, HT2.out⟩
                case measure => simp [intOf]; omega
          · have d1 : (kind == 1) = false := by simpa using c1
            by_cases c2 : kind = 2
            · subst c2
              clear hsend hack f1 f3 f4 f5 f6
              go_wp2
              refine wp_region_held_drew (S := (fun wq => wq.cell? ⟨D, off + k * 8 + 1 + 1, none⟩ = some (.int .u64 (tm : Int)) ∧ wq.cell? ⟨D, off + k * 8 + 7, none⟩ = some (.int .u64 (d : Int)))) (by kernel_rfl) ⟨f2, f7⟩ (fun hHeld => ?_)
              refine wpAnyH_take (i := 0) (oi := ?_) (v := ?_) ?_ ?_ ?_ ?_ ?_ ?_ (by assumption) ?_
              rotate_left 2
              · simp only [List.getElem?_toArray, List.getElem?_cons_zero, List.getElem?_cons_succ]
                rfl
              · kernel_rfl
              · kernel_rfl
              · kernel_rfl
              · exact fun _ _ _ h => h
              · refine Or.inl ⟨by rfl, ?_⟩
                intro w hSw
                (try dsimp only at hSw)
                go_simp
                all_goals with_reducible rfl
              simp only [Act.put, List.setIfInBounds_toArray, List.set_cons_zero, List.set_cons_succ]
              refine wpAnyH_take (i := 1) (oi := ?_) (v := ?_) ?_ ?_ ?_ ?_ ?_ ?_ (by assumption) ?_
              rotate_left 2
              · simp only [List.getElem?_toArray, List.getElem?_cons_zero, List.getElem?_cons_succ]
                rfl
              · kernel_rfl
              · kernel_rfl
              · kernel_rfl
              · exact fun _ _ _ h => h
              · refine Or.inl ⟨by rfl, ?_⟩
                intro w hSw
                (try dsimp only at hSw)
                go_simp
                all_goals with_reducible rfl
              simp only [Act.put, List.setIfInBounds_toArray, List.set_cons_zero, List.set_cons_succ]
              refine wpAnyH_take (i := 2) (oi := ?_) (v := ?_) ?_ ?_ ?_ ?_ ?_ ?_ (by assumption) ?_
              rotate_left 2
              · simp only [List.getElem?_toArray, List.getElem?_cons_zero, List.getElem?_cons_succ]
                rfl
              · kernel_rfl
              · kernel_rfl
              · kernel_rfl
              · exact fun _ _ _ h => h
              · refine Or.inl ⟨by rfl, ?_⟩
                intro w' hSw
                obtain ⟨q0, q1⟩ := hSw
                go_simp
                all_goals with_reducible rfl
              simp only [Act.put, List.setIfInBounds_toArray, List.set_cons_zero, List.set_cons_succ]
              refine wpAnyH_take (i := 3) (oi := ?_) (v := ?_) ?_ ?_ ?_ ?_ ?_ ?_ (by assumption) ?_
              rotate_left 2
              · simp only [List.getElem?_toArray, List.getElem?_cons_zero, List.getElem?_cons_succ]
                rfl
              · kernel_rfl
              · kernel_rfl
              · kernel_rfl
              · exact fun _ _ _ h => h
              · refine Or.inl ⟨by rfl, ?_⟩
                intro w hSw
                (try dsimp only at hSw)
                go_simp
                all_goals with_reducible rfl
              simp only [Act.put, List.setIfInBounds_toArray, List.set_cons_zero, List.set_cons_succ]
              refine wpAnyH_take (i := 4) (oi := ?_) (v := ?_) ?_ ?_ ?_ ?_ ?_ ?_ (by assumption) ?_
              rotate_left 2
              · simp only [List.getElem?_toArray, List.getElem?_cons_zero, List.getElem?_cons_succ]
                rfl
              · kernel_rfl
              · kernel_rfl
              · kernel_rfl
              · exact fun _ _ _ h => h
              · refine Or.inl ⟨by rfl, ?_⟩
                intro w hSw
                (try dsimp only at hSw)
                go_simp
                all_goals with_reducible rfl
              simp only [Act.put, List.setIfInBounds_toArray, List.set_cons_zero, List.set_cons_succ]
              refine wpAnyH_take (i := 5) (oi := ?_) (v := ?_) ?_ ?_ ?_ ?_ ?_ ?_ (by assumption) ?_
              rotate_left 2
              · simp only [List.getElem?_toArray, List.getElem?_cons_zero, List.getElem?_cons_succ]
                rfl
              · kernel_rfl
              · kernel_rfl
              · kernel_rfl
              · exact fun _ _ _ h => h
              · refine Or.inl ⟨by rfl, ?_⟩
                intro w' hSw
                obtain ⟨q0, q1⟩ := hSw
                go_simp
                all_goals with_reducible rfl
              simp only [Act.put, List.setIfInBounds_toArray, List.set_cons_zero, List.set_cons_succ]
              refine wpAnyH_take (i := 6) (oi := ?_) (v := ?_) ?_ ?_ ?_ ?_ ?_ ?_ (by assumption) ?_
              rotate_left 2
              · simp only [List.getElem?_toArray, List.getElem?_cons_zero, List.getElem?_cons_succ]
                rfl
              · kernel_rfl
              · kernel_rfl
              · kernel_rfl
              · exact fun _ _ _ h => h
              · refine Or.inl ⟨by rfl, ?_⟩
                intro w hSw
                (try dsimp only at hSw)
                go_simp
                all_goals with_reducible rfl
              simp only [Act.put, List.setIfInBounds_toArray, List.set_cons_zero, List.set_cons_succ]
              refine wpAnyH_take (i := 7) (oi := ?_) (v := ?_) ?_ ?_ ?_ ?_ ?_ ?_ (by assumption) ?_
              rotate_left 2
              · simp only [List.getElem?_toArray, List.getElem?_cons_zero, List.getElem?_cons_succ]
                rfl
              · kernel_rfl
              · kernel_rfl
              · kernel_rfl
              · exact fun _ _ _ h => h
              · refine Or.inl ⟨by rfl, ?_⟩
                intro w hSw
                (try dsimp only at hSw)
                go_simp
                all_goals with_reducible rfl
              simp only [Act.put, List.setIfInBounds_toArray, List.set_cons_zero, List.set_cons_succ]
              refine wpAnyH_take (i := 8) (oi := ?_) (v := ?_) ?_ ?_ ?_ ?_ ?_ ?_ (by assumption) ?_
              rotate_left 2
              · simp only [List.getElem?_toArray, List.getElem?_cons_zero, List.getElem?_cons_succ]
                rfl
              · kernel_rfl
              · kernel_rfl
              · kernel_rfl
              · exact fun _ _ _ h => h
              · refine Or.inl ⟨by rfl, ?_⟩
                intro w' hSw
                obtain ⟨q0, q1⟩ := hSw
                go_simp
                all_goals with_reducible rfl
              simp only [Act.put, List.setIfInBounds_toArray, List.set_cons_zero, List.set_cons_succ]
              refine wpAnyH_take (i := 9) (oi := ?_) (v := ?_) ?_ ?_ ?_ ?_ ?_ ?_ (by assumption) ?_
              rotate_left 2
              · simp only [List.getElem?_toArray, List.getElem?_cons_zero, List.getElem?_cons_succ]
                rfl
              · kernel_rfl
              · kernel_rfl
              · kernel_rfl
              · exact fun _ _ _ h => h
              · refine Or.inl ⟨by rfl, ?_⟩
                intro w hSw
                (try dsimp only at hSw)
                go_simp
                all_goals with_reducible rfl
              simp only [Act.put, List.setIfInBounds_toArray, List.set_cons_zero, List.set_cons_succ]
              refine wpAnyH_take (i := 10) (oi := ?_) (v := ?_) ?_ ?_ ?_ ?_ ?_ ?_ (by assumption) ?_
              rotate_left 2
              · simp only [List.getElem?_toArray, List.getElem?_cons_zero, List.getElem?_cons_succ]
                rfl
              · kernel_rfl
              · kernel_rfl
              · kernel_rfl
              · exact fun _ _ _ h => h
              · refine Or.inl ⟨by rfl, ?_⟩
                intro w' hSw
                obtain ⟨q0, q1⟩ := hSw
                go_simp
                all_goals with_reducible rfl
              simp only [Act.put, List.setIfInBounds_toArray, List.set_cons_zero, List.set_cons_succ]
              refine wpAnyH_ready (rs := [11]) (by kernel_rfl) (by simp) ?_
              refine AllReadyH.cons (o := ?_) ?_ (fun KK hKK => ?_) AllReadyH.nil
              rotate_left
              · simp only [List.getElem?_toArray, List.getElem?_cons_zero, List.getElem?_cons_succ]
                rfl
              go_simp
              refine (hlost.out tm).mono ?_; rintro e W2 ⟨gv, rfl, G, ks', ak', hr⟩
              try go_wp2_with fail
              obtain ⟨A, n, c, rfl, hm⟩ := OnceM.of HTD.out (by omega) hr
              have M2 := Lib.hid hm
              have HS2 : Hid (W2.cell? ⟨D, off + k * 8 + 1 + 1, none⟩ = some (.int .u64 (tm : Int)) ∧ W2.cell? ⟨D, off + k * 8 + 7, none⟩ = some (.int .u64 (d : Int))) := ⟨HCL.out W2 hm.lk.bel 2 _ rfl, HCL.out W2 hm.lk.bel 7 _ rfl⟩
              clear hr hm
              refine hKK.out _ _ ?_ (fun hh1 => ?_)
              · (try dsimp only)
                exact HS2.out
              clear hKK KK
              try simp only [Act.put, List.setIfInBounds_toArray, List.set_cons_zero, List.set_cons_succ]
              refine wpAnyH_take (i := 12) (oi := ?_) (v := ?_) ?_ ?_ ?_ ?_ ?_ ?_ (by assumption) ?_
              rotate_left 2
              · simp only [List.getElem?_toArray, List.getElem?_cons_zero, List.getElem?_cons_succ]
                rfl
              · kernel_rfl
              · kernel_rfl
              · kernel_rfl
              · exact fun _ _ _ h => h
              · refine Or.inl ⟨by rfl, ?_⟩
                intro w hSw
                (try dsimp only at hSw)
                go_simp
                all_goals with_reducible rfl
              simp only [Act.put, List.setIfInBounds_toArray, List.set_cons_zero, List.set_cons_succ]
              refine wpAnyH_done (by kernel_rfl) ?_ _
              go_wp2
              go_loopw [7] (fun i wr2 => ∃ q : Nat, q ≤ n ∧ i = .int .i64 (q : Int) ∧ OnceQ B h G W2 q wr2) (fun i _ => n - (intOf i).toNat)
              case atStart => exact ⟨0, Nat.zero_le _, rfl, ⟨M2.out.hd, Upd.refl _ _⟩⟩
              case round =>
                obtain ⟨wo, rfl⟩ : ∃ wo : World, wo = wr := ⟨_, rfl⟩
                obtain ⟨q, hq, rfl, hQ⟩ := hrel
                have HQ := Lib.hid hQ
                clear hQ
                have hn64 := M2.out.n64
                by_cases hlt2 : q < n
                · have hqi : (q : Int) < (n : Int) := by omega
                  have hql : q < G.length := by rw [M2.out.len]; exact hlt2
                  obtain ⟨g, c', e, hbg, hgl, g0, _, _, _, _⟩ := ownS_cells (own_updG M2.out.own HQ.out.upd (fun e => by have := (M2.out.own.lt _ e).1; omega)) hql
                  cases e
                  have hnum := M2.out.nums _ (getD_mem hql)
                  have hle := M2.out.le q (G.getD q default).num
                  have hnx := HQ.out.next hql (by omega)
                  have r0 := HQ.out.hd.cell (G.getD q default).num
                  rw [hcells_get _ _ (by omega)] at r0
                  have z0 := HQ.out.hd.free (G.getD q default).num
                  generalize (G.getD q default).num = num at *
                  generalize hadd h ((G.take q).map key) num = hv at *
                  have HN : Hid (OnceQ B h G W2 (q + 1) (_root_.Go.World.setCell _ ⟨B + 1, num, none⟩ (.int .i64 ((hv : Int) + 1)))) := hnx
                  have hni : (num : Int) < 200 := by omega
                  clear hnx
                  go_wp2
                  go_roundw
                  case rel => exact ⟨q + 1, by omega, by go_num, HN.out⟩
                  case measure => simp [intOf]; omega
                · obtain rfl : n = q := by omega
                  have HT2 := Lib.hid (M2.out.close HQ.out hsB)
                  go_wp2
                  go_roundw
                  case rel => exact ⟨k + 1, _, _, _, _, by omega, by go_num, HT2.out⟩
                  case measure => simp [intOf]; omega
            · have d2 : (kind == 2) = false := by simpa using c2
              have M2 : Hid (OnceT w B (k + 1) ks nx ak h wr) := ⟨HT.out.lk, HT.out.hd, HT.out.oi, HT.out.ob, by have := HT.out.nk; omega⟩
              clear hsend hack hlost f1 f2 f3 f4 f5 f6 f7 HCL HTD HT
              obtain ⟨W2, rfl⟩ : ∃ W2 : World, W2 = wr := ⟨_, rfl⟩
              obtain ⟨ks', rfl⟩ : ∃ k', k' = ks := ⟨_, rfl⟩
              obtain ⟨nx', rfl⟩ : ∃ k', k' = nx := ⟨_, rfl⟩
              go_wp2
              go_loopw [7] (fun i wr2 => i = .int .i64 0 ∧ wr2 = W2) (fun _ _ => 0)
              case atStart => exact ⟨rfl, rfl⟩
              case round =>
                obtain ⟨rfl, rfl⟩ := hrel
                go_wp2
                go_roundw
                case rel => exact ⟨k + 1, ks', nx', ak, h, by omega, by go_num, M2.out⟩
                case measure => simp [intOf]; omega
      · obtain rfl : k = n0 := by omega
        have hl := list_k HT.out.lk (by have := HT.out.ob.1; omega)
        have HLI := Lib.hid hl
        clear hl
        go_wp2_with fail
        refine HLI.out.mono ?_
        rintro e W2 ⟨gv, G, rfl, hown, hG, l2, k2⟩
        obtain ⟨A, c, rfl, _, _, _, _, _⟩ := ownS_rb hown
        have hgl : G.length = ks.length := by rw [← hG, List.length_map]
        rw [← hgl] at hown ⊢
        obtain ⟨n, hn⟩ : ∃ n, G.length = n := ⟨_, rfl⟩
        rw [hn] at hown ⊢
        have hlt := HT.out.lk.lt
        have hnk := HT.out.nk
        have HOW := Lib.hid (own_base hown hlt.2)
        have HLEN := Lib.hid hn
        have hob := HT.out.ob
        have HNM : Hid (∀ p ∈ G, p.num < 120 ∧ p.sz ≤ 1200) := fun p hp => by
          have hm : key p ∈ ks := by rw [← hG]; exact List.mem_map_of_mem hp
          have h1 := hob.2.2 _ hm
          have h2 : p.num < nx := h1.1
          exact ⟨by omega, h1.2.2⟩
        have HLE : Hid (∀ q m, hadd h ((G.take q).map key) m ≤ 1) := fun q m => by
          have h1 := HT.out.oi m
          have h2 := nct_take (G.map key) q m
          rw [← List.map_take, hG] at h2
          unfold hadd
          split at h1 <;> omega
        have HD : Hid (Obj W2 (B + 1) 28 (hcells h)) := HT.out.hd.keep k2 (by omega) (by omega)
        have HFI : Hid (∀ m, m < nx → hadd h (G.map key) m = 1) := fun m hm => by
          have h1 := HT.out.oi m
          rw [if_pos hm] at h1
          unfold hadd; rw [hG]; exact h1
        have HCN : Hid (cntK ks = cnt G ∧ smsK ks = sms G) := ⟨by rw [cnt_key, hG], by rw [sms_key, hG]⟩
        have L2 := Lib.hid l2
        have h64 : n ≤ 64 := by have := hob.1; omega
        clear hown hgl hn l2 k2 hG HLI hob hlt
        have HKB := Lib.hid (HT.out.ob.kb (by omega))
        have HKL := Lib.hid HT.out.ob.1
        clear HT
        go_wp2
        go_loopw [9, 10] (fun s i wr3 => ∃ q : Nat, q ≤ n ∧ i = .int .i64 (q : Int) ∧ s = .complex .f64 (Fl.F (cnt (G.take q))) (Fl.F (sms (G.take q))) ∧ OnceQ B h G W2 q wr3) (fun _ i _ => n - (intOf i).toNat)
        case atStart => exact ⟨0, Nat.zero_le _, rfl, by rfl, ⟨HD.out, Upd.refl _ _⟩⟩
        case round =>
          obtain ⟨wo, rfl⟩ : ∃ wo : World, wo = wr := ⟨_, rfl⟩
          obtain ⟨q, hq, rfl, rfl, hQ⟩ := hrel
          have HQ := Lib.hid hQ
          clear hQ
          by_cases hlt2 : q < n
          · have hqi : (q : Int) < (n : Int) := by omega
            have hql : q < G.length := by rw [HLEN.out]; exact hlt2
            obtain ⟨g, c', e, hbg, hgl, g0, _, _, _, _⟩ := ownS_cells (own_updG HOW.out HQ.out.upd (fun e => by have := (HOW.out.lt _ e).1; omega)) hql
            cases e
            have hnm := HNM.out _ (getD_mem hql)
            have hle := HLE.out q (G.getD q default).num
            have hnx := HQ.out.next hql (by omega)
            obtain ⟨g', c'', e, _, _, _, _, g2, g3, _⟩ := ownS_cells (own_updG HOW.out hnx.upd (fun e => by have := (HOW.out.lt _ e).1; omega)) hql
            cases e
            have r0 := HQ.out.hd.cell (G.getD q default).num
            rw [hcells_get _ _ (by omega)] at r0
            have z0 := HQ.out.hd.free (G.getD q default).num
            have hn2 := take_next G q hql
            have hc1 : cnt (G.take (q + 1)) = cnt (G.take q) + (if (G.getD q default).ask then 1 else 0) := by rw [hn2, cnt_app]; simp [cnt]
            have hs1 : sms (G.take (q + 1)) = sms (G.take q) + (if (G.getD q default).ask then (G.getD q default).sz else 0) := by rw [hn2, sms_app]; simp [sms]
            have hcb := cnt_le (G.take q)
            have hsb := sms_le (G.take q) (fun p hp => (HNM.out p (List.mem_of_mem_take hp)).2)
            rw [List.length_take] at hcb hsb
            clear hn2
            generalize hadd h ((G.take q).map key) (G.getD q default).num = hv at *
            generalize G.getD q default = p at *
            obtain ⟨num, tm, sz, ask, fa, fn, fc⟩ := p
            dsimp only at g0 g2 g3 hnm hle hnx r0 z0 hc1 hs1
            generalize cnt (G.take q) = ca at *
            generalize sms (G.take q) = sa at *
            have HN : Hid (OnceQ B h G W2 (q + 1) (_root_.Go.World.setCell _ ⟨B + 1, num, none⟩ (.int .i64 ((hv : Int) + 1)))) := hnx
            have g2' : (_root_.Go.World.setCell wo ⟨B + 1, num, none⟩ (.int .i64 ((hv : Int) + 1))).cell? ⟨g, q * 5 + 2, none⟩ = some (.int .i64 (sz : Int)) := g2
            have g3' : (_root_.Go.World.setCell wo ⟨B + 1, num, none⟩ (.int .i64 ((hv : Int) + 1))).cell? ⟨g, q * 5 + 3, none⟩ = some (.bool ask) := g3
            have hni : (num : Int) < 200 := by omega
            have hcv := fun w => conv_f sz w
            have hcs := fun t w => cadd ca sa sz (by omega) (by omega) (by omega) t w
            clear hnx g2 g3
            cases ask with
            | true =>
              rw [if_pos rfl] at hc1 hs1
              have HC1 := Lib.hid hc1
              have HS1 := Lib.hid hs1
              clear hc1 hs1 hcb hsb
              go_wp2
              go_roundw
              case rel => exact ⟨q + 1, by omega, by go_num, by rw [HC1.out, HS1.out], HN.out⟩
              case measure => simp [intOf]; omega
            | false =>
              rw [if_neg (by simp)] at hc1 hs1
              have HC1 := Lib.hid hc1
              have HS1 := Lib.hid hs1
              clear hc1 hs1 hcb hsb hcs hcv
              go_wp2
              go_roundw
              case rel => exact ⟨q + 1, by omega, by go_num, by rw [HC1.out, HS1.out]; rfl, HN.out⟩
              case measure => simp [intOf]; omega
          · obtain rfl : q = n := by omega
            have hdq := HQ.out.hd
            have ht : G.take q = G := List.take_of_length_le (by rw [HLEN.out]; exact Nat.le_refl _)
            rw [ht] at hdq
            rw [ht]
            have HDQ := Lib.hid hdq
            have L3 := Lib.hid (L2.out.updH HQ.out.upd (by omega) (by omega) (by omega))
            have hcb := cnt_le G
            have hsb := sms_le G (fun p hp => (HNM.out p hp).2)
            rw [HLEN.out] at hcb hsb
            have o1 := ord_F (cnt G) (by omega)
            have o2 := ord_F (sms G) (by omega)
            clear hdq ht HQ
            go_wp2
            go_loop [11] (fun i => ∃ m : Nat, m ≤ nx ∧ i = .int .i64 (m : Int)) (fun i => nx - (intOf i).toNat)
            case atStart => exact ⟨0, Nat.zero_le _, rfl⟩
            case round =>
              obtain ⟨m, hm, rfl⟩ := hrel
              have HN := Lib.hid (next_k L3.out)
              by_cases hlt3 : m < nx
              · have hmi : (m : Int) < (nx : Int) := by omega
                have r0 := HDQ.out.cell m
                rw [hcells_get _ _ (by omega), HFI.out m hlt3] at r0
                have hm2 : (m : Int) < 200 := by omega
                go_wp2_with fail
                refine HN.out.mono ?_
                rintro e w' ⟨rfl, rfl⟩
                go_wp2
                go_round
                case rel => exact ⟨m + 1, by omega, by go_num⟩
                case measure => simp [intOf]; omega
              · obtain rfl : m = nx := by omega
                have hf := flight_k L3.out (by have := HKL.out; omega) HKB.out
                rw [HCN.out.1, HCN.out.2] at hf
                have HF := Lib.hid hf
                clear hf
                go_wp2_with fail
                refine HN.out.mono ?_
                rintro e w' ⟨rfl, rfl⟩
                go_wp2_with fail
                refine HF.out.mono ?_
                rintro e W4 ⟨rfl, l4, k4⟩
                have HB4 := Lib.hid l4.bel
                clear l4 k4
                go_wp2_with fail
                refine (alive_any W4).mono ?_
                rintro e W5 ⟨rfl, hb5⟩
                have HB5 := Lib.hid (HB4.out.trans (hb5.mono HB4.out.size))
                clear hb5
                go_wp2
                go_ret
                exact ⟨rfl, HB5.out⟩
end Go.Proofs.Ytlldomgfjmkcdaa
