/- Layer 15: the program's ledger beside the document's. -/
import Derived.Test.YtlldomgfjmkcdaaRows
import Derived.Test.YtlldomgfjmkcdaaAid
import Derived.Test.YtlldomgfjmkcdaaLgW
import Derived.Test.YtlldomgfjmkcdaaLgA
import Derived.Test.YtlldomgfjmkcdaaLgB
import Derived.Test.YtlldomgfjmkcdaaLgC
import Derived.Test.YtlldomgfjmkcdaaLgD
import Derived.Test.YtlldomgfjmkcdaaLgK
import Derived.Test.YtlldomgfjmkcdaaLgM
import Derived.Test.YtlldomgfjmkcdaaLgO
import Derived.Test.YtlldomgfjmkcdaaLgQ
import Derived.Test.YtlldomgfjmkcdaaLgS
import Derived.Test.YtlldomgfjmkcdaaLgU
import Derived.Test.YtlldomgfjmkcdaaLgZ
import Derived.Test.YtlldomgfjmkcdaaLgF2
import Derived.Test.YtlldomgfjmkcdaaLgG2
import Derived.Test.YtlldomgfjmkcdaaLaA
import Derived.Test.YtlldomgfjmkcdaaLaB
import Derived.Test.YtlldomgfjmkcdaaLaC
import Derived.Test.YtlldomgfjmkcdaaLaD
import Derived.Test.YtlldomgfjmkcdaaLaE
import Derived.Test.YtlldomgfjmkcdaaLaF
import Derived.Test.YtlldomgfjmkcdaaLaG
import Derived.Test.YtlldomgfjmkcdaaLaH
import Derived.Lib.Hide
namespace Go.Proofs.Ytlldomgfjmkcdaa
open Go Go.RowKit Rm
set_option linter.unusedVariables false
set_option linter.unusedSimpArgs false

abbrev KF := Key × List Frm
/-- Blocks that no ledger writes stay. -/
structure Sv (w w' : World) : Prop where
  size : w.heap.size ≤ w'.heap.size
  block : ∀ (g : Nat) (cs : Array Value) (t : TypeId) (m : Nat × Nat), w.heap[g]? = some (.cells cs t m) → t ≠ 27 → t ≠ 59 → t ≠ 32 → w'.heap[g]? = w.heap[g]?
theorem Sv.below {w w' : World} (h : Below w.heap.size w w') : Sv w w' := ⟨h.size, fun g cs t m hg _ _ _ => h.block g (Array.getElem?_eq_some_iff.1 hg).1⟩
theorem Sv.trans {w w1 w2 : World} (h : Sv w w1) (k : Sv w1 w2) : Sv w w2 :=
  ⟨Nat.le_trans h.size k.size, fun g cs t m hg h1 h2 h3 => (k.block g cs t m ((h.block g cs t m hg h1 h2 h3).trans hg) h1 h2 h3).trans (h.block g cs t m hg h1 h2 h3)⟩
theorem Sv.obj {w w' : World} (h : Sv w w') {b : Nat} {t : TypeId} {cs : Array Value} (ho : Obj w b t cs) (h1 : t ≠ 27) (h2 : t ≠ 59) (h3 : t ≠ 32) : Obj w' b t cs := (h.block b cs t (0, 0) ho h1 h2 h3).trans ho
theorem type_ne {w : World} {b b' : Nat} {cs cs' : Array Value} {t t' : TypeId} {m m' : Nat × Nat} (h : w.heap[b]? = some (.cells cs t m)) (h' : w.heap[b']? = some (.cells cs' t' m')) (hne : t ≠ t') : b ≠ b' := fun e => by
  subst e
  rw [h] at h'
  cases h'
  exact hne rfl
/-- Frames that lie in a block of frames. -/
def FT (w : World) (A : Option Addr) (n : Nat) : Prop := ∀ b o, 0 < n → A = some ⟨b, o, none⟩ → ∃ cs m, w.heap[b]? = some (.cells cs 70 m)
theorem FT.sv {w w' : World} {A : Option Addr} {n : Nat} (h : FT w A n) (hs : Sv w w') : FT w' A n := fun b o hn e => by
  obtain ⟨cs, m, hc⟩ := h b o hn e
  exact ⟨cs, m, (hs.block b cs _ m hc (by decide) (by decide) (by decide)).trans hc⟩
theorem PF.sv {w w' : World} {p : PS} {k : KF} (h : PF w p k) (ht : FT w p.fa p.fn) (hs : Sv w w') : PF w' p k :=
  ⟨h.key, h.fr.len, fun hp => by
    obtain ⟨b, o, e, h1, h2⟩ := h.fr.at0 hp
    obtain ⟨cs, m, hc⟩ := ht b o hp e
    have hk := hs.block b cs _ m hc (by decide) (by decide) (by decide)
    exact ⟨b, o, e, Nat.lt_of_lt_of_le h1 hs.size, fun i hi j v hv => (World.cell?_of_block (a := ⟨b, _, none⟩) hk).trans (h2 i hi j v hv)⟩⟩
theorem PL.sv {w w' : World} (hs : Sv w w') : ∀ {l : List PS} {ks : List KF}, PL w l ks → (∀ p ∈ l, FT w p.fa p.fn) → PL w' l ks
  | [], [], _, _ => trivial
  | p :: t, k :: ks, h, ht => ⟨h.1.sv (ht p (by simp)) hs, PL.sv hs h.2 fun q hq => ht q (by simp [hq])⟩
  | [], _ :: _, h, _ => h.elim
  | _ :: _, [], h, _ => h.elim
theorem own_updO {V V' : World} {base n a : Nat} {r : Option Nat} {v : Value} {xs : List Value} (h : V.ownsRow base 32 5 v n xs) (hu : UpdO a r V V') (hne : ∀ b, v.ownBlock = some b → b ≠ a ∧ some b ≠ r) : V'.ownsRow base 32 5 v n xs := by
  refine ⟨h.1, ?_⟩
  rcases h.2 with h0 | ⟨g, cap, cur, e, hb1, hg, h3⟩
  · exact .inl h0
  · have := hne g (by rw [e]; rfl)
    exact .inr ⟨g, cap, cur, e, hb1, (hu.block g (Array.getElem?_eq_some_iff.1 hg).1 this.1 this.2).trans hg, h3⟩
theorem own_type' {w : World} {base a : Nat} {v : Value} {x : LS} (h : StV w base a v x) {g : Nat} (hg : v.ownBlock = some g) : ∃ cur, w.heap[g]? = some (.cells cur 32 (0, 0)) := by
  rcases h.own.2 with ⟨rfl, _⟩ | ⟨g', c, cur, rfl, _, hb, _⟩
  · cases hg
  · cases hg; exact ⟨cur, hb⟩
/-- The two ledgers. -/
structure LV (w0 : World) (B D : Nat) (v vd : Value) (x : LS) (y : List PS) (ks js : List KF) (mx mk : Nat) (W : World) : Prop where
  bel : Below w0.heap.size w0 W
  ge : w0.heap.size ≤ B ∧ B < D
  st : StV W (D + 1) B v x
  pl : PL W x.l ks
  ft : ∀ p ∈ x.l, FT W p.fa p.fn
  ds : DS W D vd y mx mk
  pd : PL w0 y js
  sep : ∀ g, v.ownBlock = some g → vd.ownBlock = some g → False
/-- Packets that a call handed back. -/
structure GP (W : World) (D : Nat) (gv : Value) (G : List PS) (ks : List KF) : Prop where
  own : W.ownsRow (D + 1) 32 5 gv ks.length (flatS G)
  pl : PL W G ks
  ft : ∀ p ∈ G, FT W p.fa p.fn
structure GD (w0 W : World) (D : Nat) (gv : Value) (G : List PS) (ks : List KF) : Prop where
  own : W.ownsRow (D + 1) 32 5 gv ks.length (flatS G)
  pl : PL w0 G ks
section
variable {w0 W W' : World} {B D mx mk : Nat} {v vd : Value} {x : LS} {y : List PS} {ks js : List KF}
theorem LV.kept (h : LV w0 B D v vd x y ks js mx mk W) (hb : Below W.heap.size W W') : LV w0 B D v vd x y ks js mx mk W' :=
  ⟨h.bel.trans (hb.mono h.bel.size), h.ge, h.st.kept hb, h.pl.below hb, fun p hp => (h.ft p hp).sv (Sv.below hb), h.ds.kept hb, h.pd, h.sep⟩
theorem LV.svU (h : LV w0 B D v vd x y ks js mx mk W) (hu : UpdO B v.ownBlock W W') : Sv W W' :=
  ⟨hu.size, fun g cs t m hg h1 h2 h3 => hu.block g (Array.getElem?_eq_some_iff.1 hg).1 (type_ne hg h.st.obj h1) (fun e => by
    obtain ⟨cur, hc⟩ := own_type' h.st e.symm
    exact type_ne hg hc h3 rfl)⟩
theorem LV.prog (h : LV w0 B D v vd x y ks js mx mk W) (hu : UpdO B v.ownBlock W W') {v' : Value} {x' : LS} {ks' : List KF} (hst : StV W' (D + 1) B v' x') (hf : Fresh W v v') (hp : PL W' x'.l ks') (ht : ∀ p ∈ x'.l, FT W' p.fa p.fn) : LV w0 B D v' vd x' y ks' js mx mk W' := by
  have hg := h.ge
  have hb := h.bel
  have hvo : ∀ k, v.ownBlock = some k → D + 1 ≤ k ∧ k < W.heap.size := fun k e => h.st.own.lt k e
  have hdo : ∀ k, vd.ownBlock = some k → D + 1 ≤ k ∧ k < W.heap.size := fun k e => h.ds.own.lt k e
  refine ⟨⟨hu.os.trans hb.os, hu.tape.trans hb.tape, hu.output.trans hb.output, Nat.le_trans hb.size hu.size, fun k hk => (hu.block k (by have := hb.size; omega) (by omega) (fun e => by have := hvo k e.symm; omega)).trans (hb.block k hk)⟩, hg, hst, hp, ht,
    ⟨(hu.block D h.ds.obj.lt (by omega) (fun e => by have := hvo D e.symm; omega)).trans h.ds.obj, own_updO h.ds.own hu (fun b e => ⟨by have := hdo b e; omega, fun e2 => h.sep b e2.symm e⟩)⟩, h.pd, fun g e1 e2 => ?_⟩
  rcases hf g e1 with h1 | h1
  · exact h.sep g h1 e2
  · have := hdo g e2; omega
theorem LV.svD (h : LV w0 B D v vd x y ks js mx mk W) (hu : Upd D W W') : Sv W W' :=
  ⟨hu.size, fun g cs t m hg h1 h2 h3 => hu.block g (Array.getElem?_eq_some_iff.1 hg).1 (type_ne hg h.ds.obj h2)⟩
theorem LV.doc (h : LV w0 B D v vd x y ks js mx mk W) (hu : Upd D W W') {vd' : Value} {y' : List PS} {js' : List KF} {mx' mk' : Nat} (hds : DS W' D vd' y' mx' mk') (hn : ∀ g, vd'.ownBlock = some g → W.heap.size ≤ g) (hp : PL w0 y' js') : LV w0 B D v vd' x y' ks js' mx' mk' W' := by
  have hg := h.ge
  have hs := h.svD hu
  refine ⟨Upd.below h.bel (by omega) hu, hg, ⟨h.st.obj.upd hu (by omega), own_updG h.st.own hu (fun e => by have := (h.st.own.lt D e).1; omega), h.st.lt, Nat.le_trans h.st.le hu.size⟩, PL.sv hs h.pl h.ft, fun p hp => (h.ft p hp).sv hs, hds, hp, fun g e1 e2 => ?_⟩
  have := (h.st.own.lt g e1).2
  have := hn g e2
  omega
theorem LV.gone (h : LV w0 B D v vd x y ks js mx mk W) (hu : Upd D W W') {gv : Value} {G : List PS} {gs : List KF} (hG : GP W D gv G gs) : GP W' D gv G gs := by
  have hs := h.svD hu
  exact ⟨own_updG hG.own hu (fun e => by have := (hG.own.lt D e).1; omega), PL.sv hs hG.pl hG.ft, fun p hp => (hG.ft p hp).sv hs⟩
theorem GP.kept {gv : Value} {G : List PS} {gs : List KF} (hG : GP W D gv G gs) (hb : Below W.heap.size W W') : GP W' D gv G gs := ⟨ownS_kept hG.own hb, hG.pl.below hb, fun p hp => (hG.ft p hp).sv (Sv.below hb)⟩
theorem GD.kept {gv : Value} {G : List PS} {gs : List KF} (hG : GD w0 W D gv G gs) (hb : Below W.heap.size W W') : GD w0 W' D gv G gs := ⟨ownS_kept hG.own hb, hG.pl⟩
theorem same_gone {gv gd : Value} {G H : List PS} {gs : List KF} (hG : GP W D gv G gs) (hD : GD w0 W D gd H gs) (hb : Below w0.heap.size w0 W) (hf : ∀ k ∈ gs, FF w0 k.2) (hl : gs.length ≤ 1000) :
    Calls Try.prog 21 #[gv, gd] W fun e w' => e = .returned (.bool true) ∧ Below W.heap.size W w' := by
  obtain ⟨A1, c1, rfl, _, _, _, r1, _⟩ := ownS_rb hG.own
  obtain ⟨A2, c2, rfl, _, _, _, r2, _⟩ := ownS_rb hD.own
  exact same15_any A1 A2 gs.length c1 c2 G H gs W rfl r1 r2 hG.pl (hD.pl.below hb) (fun k hk => (hf k hk).below hb) hl
theorem keyL (h : PL W x.l ks) : x.l.map key = ks.map Prod.fst := h.keys
theorem kb_of {l : List PS} {nx ak : Nat} (hO : OnceB (ks.map Prod.fst) nx ak) (hp : l.map key = ks.map Prod.fst) (hn : nx ≤ 1000) : l.length ≤ 64 ∧ ∀ p ∈ l, p.num + 1 ≤ 1000000 ∧ p.tm ≤ 18446744073709551615 ∧ p.sz ≤ 1200 := by
  refine ⟨by have := hO.1; rw [← hp, List.length_map] at this; exact this, fun p hpp => ?_⟩
  have := hO.2.2 (key p) (by rw [← hp]; exact List.mem_map_of_mem hpp)
  exact ⟨by have h1 : p.num < nx := this.1; omega, this.2.1, this.2.2⟩
end
end Go.Proofs.Ytlldomgfjmkcdaa
