/- Layer 15: every act on the program's ledger beside the document's, each by its contract. -/
import Derived.Test.YtlldomgfjmkcdaaRows
import Derived.Test.YtlldomgfjmkcdaaAid
import Derived.Test.YtlldomgfjmkcdaaLgU
import Derived.Test.YtlldomgfjmkcdaaLgG2
import Derived.Test.YtlldomgfjmkcdaaLaI
import Derived.Lib.Hide
namespace Go.Proofs.Ytlldomgfjmkcdaa
open Go Go.RowKit Rm
set_option linter.unusedVariables false
set_option linter.unusedSimpArgs false

theorem own_fs {w : World} {base n c : Nat} {A : Option Addr} {l : List Frm} (h : w.ownsRow base 70 24 (.slice A n c) n (flatF l)) (hl : l.length = n) (ht : ∀ f ∈ l, f.tok.length = 16) : Fsl w A n l ∧ FT w A n := by
  rcases h.2 with ⟨e, h0⟩ | ⟨g, cap, cur, e, hb, hg, hnc, hcm, hcs, htk⟩
  · cases e
    exact ⟨⟨hl, fun hp => by omega⟩, fun b o hn e => by cases e⟩
  · cases e
    have hO : Obj w g 70 cur := hg
    refine ⟨⟨hl, fun hp => ⟨g, 0, rfl, hO.lt, fun i hi j v hv => ?_⟩⟩, fun b o hn e => by cases e; exact ⟨cur, _, hg⟩⟩
    have hj := (List.getElem?_eq_some_iff.1 hv).1
    have hm : l.getD i default ∈ l := getD_mem (by omega)
    rw [fcells_24 (ht _ hm)] at hj
    rw [← flatF_get l ht i (by omega) j hj, ← htk, List.getElem?_take_of_lt (by omega)] at hv
    rw [hO.cell, Nat.zero_add]
    simpa using hv
theorem AOk.fs {w : World} {a : Act15} (h : AOk w a) : Fsl w a.fA a.fn a.frs := ⟨h.fl, fun hp => by
  obtain ⟨b, o, e, h1, h2⟩ := h.fr hp
  exact ⟨b, o, e, h1, fun i hi j v hv => h2 i hi j v hv⟩⟩
theorem AOk.toks {w : World} {a : Act15} (h : AOk w a) : ∀ f ∈ a.frs, f.tok.length = 16 := fun f hf => (h.fok f hf).tl
theorem AOk.ff {w : World} {a : Act15} (h : AOk w a) (hf : FewA a) : FF w a.frs := ⟨hf.2.1, fun f hm => ⟨h.fok f hm, hf.2.2 f hm⟩⟩
theorem AOk.fr_at {w w' : World} {a : Act15} (h : AOk w a) (hb : Below w.heap.size w w') : RbR w' a.rA a.rngs ∧ FrAt w' a.fA a.fn (flatF a.frs) :=
  ⟨h.rb.below hb, (fr_of h.fl h.fr (fun f hf => (h.fok f hf).tl)).below hb⟩

section
variable {w0 W : World} {B D mx mk : Nat} {v vd : Value} {x : LS} {y : List PS} {ks js : List KF}
theorem LV.xlen (h : LV w0 B D v vd x y ks js mx mk W) : x.l.length = ks.length := h.pl.len
theorem LV.ylen (h : LV w0 B D v vd x y ks js mx mk W) : y.length = js.length := h.pd.len

/-- The program has sent. -/
theorem jp_send (h : LV w0 B D v vd x y ks js mx mk W) (hl : ks.length < 64) (hn : x.next ≤ 1000) (a : Act15) (ha : AOk w0 a) (hf : FewA a) (s : Nat) (hs : s ≤ 1200) (hsz : a.sz = (s : Int)) :
    Calls Try.prog 9 #[.pointer (some ⟨B, 0, none⟩), .agg #[.int .i64 a.num, .int .u64 (a.tm : Int), .int .i64 a.sz, .bool a.ask, .slice a.fA a.fn a.fc]] W fun e w' => e = .returned (.tuple #[.int .i64 (x.next : Int), .int .i64 0]) ∧
      ∃ v' x', LV w0 B D v' vd x' y (ks ++ [(⟨x.next, a.tm, s, a.ask⟩, a.frs)]) js mx mk w' ∧ x'.next = x.next + 1 ∧ x'.acked = x.acked ∧ Sv W w' := by
  have hfn : a.fn ≤ 5 := by have := hf.2.1; rw [ha.fl] at this; exact this
  have hxl := h.xlen
  rw [hsz]
  refine (send_any B (D + 1) v x a.num a.tm s a.ask a.fA a.fn a.fc (flatF a.frs) W h.st hs (by omega) (by omega) (ha.fr_at h.bel).2 (by omega)).mono ?_
  rintro e w' ⟨rfl, hr⟩
  obtain ⟨v', A', c', k1, k2, k3⟩ := hr.ex
  have hs' := h.svU hr.upd
  obtain ⟨f1, f2⟩ := own_fs k3 ha.fl ha.toks
  refine ⟨rfl, v', _, h.prog hr.upd k1 k2 (PL.app (PL.sv hs' h.pl h.ft) ⟨⟨rfl, f1⟩, trivial⟩) (fun p hp => ?_), rfl, rfl, hs'⟩
  rcases List.mem_append.1 hp with hp | hp
  · exact (h.ft p hp).sv hs'
  · simp only [List.mem_singleton] at hp
    subst hp
    exact f2
theorem jd_send (h : LV w0 B D v vd x y ks js mx mk W) (hl : js.length < 64) (hn : mx ≤ 1000) (a : Act15) (ha : AOk w0 a) (s : Nat) (hs : s ≤ 1200) (hsz : a.sz = (s : Int)) :
    Calls Try.prog 19 #[.pointer (some ⟨D, 0, none⟩), .agg #[.int .i64 a.num, .int .u64 (a.tm : Int), .int .i64 a.sz, .bool a.ask, .slice a.fA a.fn a.fc]] W fun e w' => e = .returned (.tuple #[.int .i64 (mx : Int), .int .i64 0]) ∧
      ∃ vd' y', LV w0 B D v vd' x y' ks (js ++ [(⟨mx, a.tm, s, a.ask⟩, a.frs)]) (mx + 1) mk w' ∧ Sv W w' := by
  have hyl := h.ylen
  rw [hsz]
  refine (rsend_any D mx mk vd y a.num a.tm s a.ask a.fA a.fn a.fc W h.ds hs (by omega) (by omega)).mono ?_
  rintro e w' ⟨rfl, hr⟩
  obtain ⟨vd', k1, k2⟩ := hr.ex
  exact ⟨rfl, vd', _, h.doc hr.upd k1 k2 (PL.app h.pd ⟨⟨rfl, ha.fs⟩, trivial⟩), h.svD hr.upd⟩

/-- Acks. -/
theorem ack_hne (h : LV w0 B D v vd x y ks js mx mk W) (a : Act15) (ha : AOk w0 a) : (∀ g b o, 0 < a.rngs.length → v.ownBlock = some g → a.rA = some ⟨b, o, none⟩ → b ≠ g) ∧ ∀ b o, 0 < a.rngs.length → a.rA = some ⟨b, o, none⟩ → b ≠ D := by
  have hg := h.ge
  have hb := h.bel.size
  refine ⟨fun g b o h0 hv he => ?_, fun b o h0 he => ?_⟩
  · have h1 := (h.st.own.lt g hv).1
    obtain ⟨b', o', e, hb', _⟩ := ha.rb h0
    rw [he] at e; cases e
    omega
  · obtain ⟨b', o', e, hb', _⟩ := ha.rb h0
    rw [he] at e; cases e
    omega
theorem jp_ackbad (h : LV w0 B D v vd x y ks js mx mk W) (hO : OnceB (ks.map Prod.fst) x.next x.acked) (hn : x.next ≤ 1000) (a : Act15) (ha : AOk w0 a) (hf : FewA a) (hok : a.rngs.any (badR x.next) = true) :
    Calls Try.prog 10 #[.pointer (some ⟨B, 0, none⟩), .slice a.rA a.rn a.rc] W fun e w' => e = .returned (.tuple #[.slice none 0 0, .int .i64 3]) ∧ Below W.heap.size W w' := by
  have hrn : a.rn ≤ 20 := by have := hf.1; rw [ha.rl] at this; exact this
  obtain ⟨k1, k2⟩ := kb_of hO h.pl.keys hn
  have hak := hO.2.1
  refine (ack_any B (D + 1) v x a.rA a.rn a.rc a.rngs W h.st (by omega) (by omega) (by omega) (fun p hp => (k2 p hp).1) ha.rl (by omega) (ha.fr_at h.bel).1 (ack_hne h a ha).1 ha.rng).mono ?_
  intro e w' hP
  unfold AckP at hP
  rw [if_pos hok] at hP
  exact hP
theorem jp_ack (h : LV w0 B D v vd x y ks js mx mk W) (hO : OnceB (ks.map Prod.fst) x.next x.acked) (hn : x.next ≤ 1000) (a : Act15) (ha : AOk w0 a) (hf : FewA a) (hok : a.rngs.any (badR x.next) = false) :
    Calls Try.prog 10 #[.pointer (some ⟨B, 0, none⟩), .slice a.rA a.rn a.rc] W fun e w' => ∃ gv, e = .returned (.tuple #[gv, .int .i64 0]) ∧
      ∃ G v' x', GP w' D gv G (ks.filter fun k => inRsK a.rngs k.1) ∧ LV w0 B D v' vd x' y (ks.filter fun k => !inRsK a.rngs k.1) js mx mk w' ∧ x'.next = x.next ∧ x'.acked = ackMK x.acked ((ks.filter fun k => inRsK a.rngs k.1).map Prod.fst) ∧ Sv W w' := by
  have hrn : a.rn ≤ 20 := by have := hf.1; rw [ha.rl] at this; exact this
  obtain ⟨k1, k2⟩ := kb_of hO h.pl.keys hn
  have hak := hO.2.1
  refine (ack_any B (D + 1) v x a.rA a.rn a.rc a.rngs W h.st (by omega) (by omega) (by omega) (fun p hp => (k2 p hp).1) ha.rl (by omega) (ha.fr_at h.bel).1 (ack_hne h a ha).1 ha.rng).mono ?_
  intro e w' hP
  unfold AckP at hP
  rw [if_neg (by rw [hok]; simp)] at hP
  obtain ⟨gv, rfl, hr⟩ := hP
  obtain ⟨v', q1, q2⟩ := hr.ex
  have hs' := h.svU hr.upd
  have hpl := PL.sv hs' h.pl h.ft
  have hft : ∀ p ∈ x.l, FT w' p.fa p.fn := fun p hp => (h.ft p hp).sv hs'
  have p1 : PL w' (x.l.filter (inRs a.rngs)) (ks.filter fun k => inRsK a.rngs k.1) := PL.filter (inRsK a.rngs) hpl
  have p2 : PL w' (x.l.filter fun p => !inRs a.rngs p) (ks.filter fun k => !inRsK a.rngs k.1) := PL.filter (fun k => !inRsK a.rngs k) hpl
  refine ⟨gv, rfl, _, v', _, ⟨?_, p1, fun p hp => hft p (List.mem_filter.1 hp).1⟩, h.prog hr.upd q1 q2 p2 (fun p hp => hft p (List.mem_filter.1 hp).1), rfl, ?_, hs'⟩
  · rw [← p1.len]
    exact own_base hr.gone h.st.le
  · show ackM _ _ = _
    rw [ackM_key, p1.keys]
theorem jd_ackbad (h : LV w0 B D v vd x y ks js mx mk W) (hO : OnceB (js.map Prod.fst) mx mk) (hn : mx ≤ 1000) (a : Act15) (ha : AOk w0 a) (hf : FewA a) (hok : a.rngs.any (badR mx) = true) :
    Calls Try.prog 20 #[.pointer (some ⟨D, 0, none⟩), .slice a.rA a.rn a.rc] W fun e w' => e = .returned (.tuple #[.slice none 0 0, .int .i64 3]) ∧ Below W.heap.size W w' := by
  have hrn : a.rn ≤ 20 := by have := hf.1; rw [ha.rl] at this; exact this
  obtain ⟨k1, k2⟩ := kb_of hO h.pd.keys hn
  refine (rack_any D mx mk vd y a.rA a.rn a.rc a.rngs W h.ds (by omega) (by omega) (fun p hp => (k2 p hp).1) ha.rl (by omega) (ha.fr_at h.bel).1 (ack_hne h a ha).2 ha.rng).mono ?_
  intro e w' hP
  unfold RAck at hP
  rw [if_pos hok] at hP
  exact hP
theorem jd_part {W' : World} {gv vd' : Value} {mx' mk' : Nat} (h : LV w0 B D v vd x y ks js mx mk W) (f : Key → Bool) (hr : RPart W W' D gv vd' y (fun p => f (key p)) mx' mk') :
    GD w0 W' D gv (y.filter fun p => f (key p)) (js.filter fun k => f k.1) ∧ LV w0 B D v vd' x (y.filter fun p => !f (key p)) ks (js.filter fun k => !f k.1) mx' mk' W' ∧ Sv W W' ∧ ∀ gp G gs, GP W D gp G gs → GP W' D gp G gs := by
  have p1 : PL w0 (y.filter fun p => f (key p)) (js.filter fun k => f k.1) := PL.filter f h.pd
  have p2 : PL w0 (y.filter fun p => !f (key p)) (js.filter fun k => !f k.1) := PL.filter (fun k => !f k) h.pd
  refine ⟨⟨?_, p1⟩, h.doc hr.upd hr.ds hr.new p2, h.svD hr.upd, fun gp G gs hG => h.gone hr.upd hG⟩
  rw [← p1.len]
  exact own_base hr.gone (by have := h.ds.obj.lt; omega)
theorem jd_ack (h : LV w0 B D v vd x y ks js mx mk W) (hO : OnceB (js.map Prod.fst) mx mk) (hn : mx ≤ 1000) (a : Act15) (ha : AOk w0 a) (hf : FewA a) (hok : a.rngs.any (badR mx) = false) :
    Calls Try.prog 20 #[.pointer (some ⟨D, 0, none⟩), .slice a.rA a.rn a.rc] W fun e w' => ∃ gv, e = .returned (.tuple #[gv, .int .i64 0]) ∧
      ∃ G vd' y', GD w0 w' D gv G (js.filter fun k => inRsK a.rngs k.1) ∧ LV w0 B D v vd' x y' ks (js.filter fun k => !inRsK a.rngs k.1) mx (ackMK mk ((js.filter fun k => inRsK a.rngs k.1).map Prod.fst)) w' ∧ Sv W w' ∧ ∀ gp G gs, GP W D gp G gs → GP w' D gp G gs := by
  have hrn : a.rn ≤ 20 := by have := hf.1; rw [ha.rl] at this; exact this
  obtain ⟨k1, k2⟩ := kb_of hO h.pd.keys hn
  refine (rack_any D mx mk vd y a.rA a.rn a.rc a.rngs W h.ds (by omega) (by omega) (fun p hp => (k2 p hp).1) ha.rl (by omega) (ha.fr_at h.bel).1 (ack_hne h a ha).2 ha.rng).mono ?_
  intro e w' hP
  unfold RAck at hP
  rw [if_neg (by rw [hok]; simp)] at hP
  obtain ⟨gv, vd', rfl, hr⟩ := hP
  have p1 : PL w0 (y.filter (inRs a.rngs)) (js.filter fun k => inRsK a.rngs k.1) := PL.filter (inRsK a.rngs) h.pd
  rw [ackM_key, p1.keys] at hr
  obtain ⟨q1, q2, q3, q4⟩ := jd_part h (inRsK a.rngs) hr
  exact ⟨gv, rfl, _, vd', _, q1, q2, q3, q4⟩

/-- Losses. -/
theorem jp_lost (h : LV w0 B D v vd x y ks js mx mk W) (hO : OnceB (ks.map Prod.fst) x.next x.acked) (hn : x.next ≤ 1000) (nw d : Nat) (hd : d ≤ 18446744073709551615) :
    Calls Try.prog 11 #[.pointer (some ⟨B, 0, none⟩), .int .u64 (nw : Int), .int .u64 (d : Int)] W fun e w' => ∃ gv, e = .returned gv ∧
      ∃ G v' x', GP w' D gv G (ks.filter fun k => lostK x.acked d nw k.1) ∧ LV w0 B D v' vd x' y (ks.filter fun k => !lostK x.acked d nw k.1) js mx mk w' ∧ x'.next = x.next ∧ x'.acked = x.acked ∧ Sv W w' := by
  obtain ⟨k1, k2⟩ := kb_of hO h.pl.keys hn
  have hak := hO.2.1
  refine (lost_any B (D + 1) nw d v x W h.st (by omega) (by omega) (fun p hp => ⟨by have := (k2 p hp).1; omega, (k2 p hp).2.1⟩) hd).mono ?_
  rintro e w' ⟨gv, rfl, hr⟩
  obtain ⟨v', q1, q2⟩ := hr.ex
  have hs' := h.svU hr.upd
  have hpl := PL.sv hs' h.pl h.ft
  have hft : ∀ p ∈ x.l, FT w' p.fa p.fn := fun p hp => (h.ft p hp).sv hs'
  have p1 : PL w' (x.l.filter (lostP x.acked d nw)) (ks.filter fun k => lostK x.acked d nw k.1) := PL.filter (lostK x.acked d nw) hpl
  have p2 : PL w' (x.l.filter fun p => !lostP x.acked d nw p) (ks.filter fun k => !lostK x.acked d nw k.1) := PL.filter (fun k => !lostK x.acked d nw k) hpl
  refine ⟨gv, rfl, _, v', _, ⟨?_, p1, fun p hp => hft p (List.mem_filter.1 hp).1⟩, h.prog hr.upd q1 q2 p2 (fun p hp => hft p (List.mem_filter.1 hp).1), rfl, rfl, hs'⟩
  rw [← p1.len]
  exact own_base hr.gone h.st.le
theorem jd_lost (h : LV w0 B D v vd x y ks js mx mk W) (hO : OnceB (js.map Prod.fst) mx mk) (hn : mx ≤ 1000) (nw d : Nat) (hd : d ≤ 18446744073709551615) :
    Calls Try.prog 22 #[.pointer (some ⟨D, 0, none⟩), .int .u64 (nw : Int), .int .u64 (d : Int)] W fun e w' => ∃ gv, e = .returned gv ∧
      ∃ G vd' y', GD w0 w' D gv G (js.filter fun k => lostK mk d nw k.1) ∧ LV w0 B D v vd' x y' ks (js.filter fun k => !lostK mk d nw k.1) mx mk w' ∧ Sv W w' ∧ ∀ gp G gs, GP W D gp G gs → GP w' D gp G gs := by
  obtain ⟨k1, k2⟩ := kb_of hO h.pd.keys hn
  refine (rlost_any D mx mk nw d vd y W h.ds (by omega) (fun p hp => ⟨by have := (k2 p hp).1; omega, (k2 p hp).2.1⟩) hd).mono ?_
  rintro e w' ⟨gv, vd', rfl, hr⟩
  obtain ⟨q1, q2, q3, q4⟩ := jd_part h (lostK mk d nw) hr
  exact ⟨gv, rfl, _, vd', _, q1, q2, q3, q4⟩

/-- All let go. -/
theorem jp_drop (h : LV w0 B D v vd x y ks js mx mk W) (hl : ks.length ≤ 1000) :
    Calls Try.prog 16 #[.pointer (some ⟨B, 0, none⟩)] W fun e w' => e = .returned (.int .i64 (ks.length : Int)) ∧
      ∃ v' x', LV w0 B D v' vd x' y [] js mx mk w' ∧ x'.next = x.next ∧ x'.acked = x.acked ∧ Sv W w' := by
  have hxl := h.xlen
  refine (drop_any B (D + 1) v x W h.st (by omega)).mono ?_
  rintro e w' ⟨rfl, gv, hr⟩
  obtain ⟨v', q1, q2⟩ := hr.ex
  have e0 : x.l.filter (fun _ => !true) = [] := by simp
  rw [e0] at q1
  exact ⟨by rw [hxl], v', _, h.prog hr.upd q1 q2 trivial (fun p hp => by cases hp), rfl, rfl, h.svU hr.upd⟩
theorem jd_drop (h : LV w0 B D v vd x y ks js mx mk W) : LV w0 B D v (.slice none 0 0) x [] ks [] mx mk (W.setCell ⟨D, 0, none⟩ (.slice none 0 0)) ∧ Sv W (W.setCell ⟨D, 0, none⟩ (.slice none 0 0)) := by
  have u : Upd D W (W.setCell ⟨D, 0, none⟩ (.slice none 0 0)) := (Upd.refl D W).set 0 _
  exact ⟨h.doc u ⟨h.ds.obj.set 0 (.slice none 0 0), World.ownsRow_nil _ _ _ _⟩ (fun g e => by cases e) trivial, h.svD u⟩

/-- What is seen. -/
theorem jp_flight (h : LV w0 B D v vd x y ks js mx mk W) (hO : OnceB (ks.map Prod.fst) x.next x.acked) (hn : x.next ≤ 1000) :
    Calls Try.prog 14 #[.pointer (some ⟨B, 0, none⟩)] W fun e w' => e = .returned (.complex .f64 (Fl.F (cntK (ks.map Prod.fst))) (Fl.F (smsK (ks.map Prod.fst)))) ∧ Below W.heap.size W w' := by
  obtain ⟨k1, k2⟩ := kb_of hO h.pl.keys hn
  refine (flight_any B (D + 1) v x W h.st (by omega) (fun p hp => (k2 p hp).2.2)).mono ?_
  rintro e w' ⟨rfl, hb⟩
  exact ⟨by rw [cnt_key, sms_key, h.pl.keys], hb⟩
theorem jd_flight (h : LV w0 B D v vd x y ks js mx mk W) (hO : OnceB (js.map Prod.fst) mx mk) (hn : mx ≤ 1000) :
    Calls Try.prog 23 #[.pointer (some ⟨D, 0, none⟩)] W fun e w' => e = .returned (.tuple #[.int .i64 ((cntK (js.map Prod.fst) : Nat) : Int), .int .i64 ((smsK (js.map Prod.fst) : Nat) : Int)]) ∧ W = w' := by
  obtain ⟨k1, k2⟩ := kb_of hO h.pd.keys hn
  refine (rflight_any D mx mk vd y W h.ds (by omega) (fun p hp => (k2 p hp).2.2)).mono ?_
  rintro e w' ⟨rfl, rfl⟩
  exact ⟨by rw [cnt_key, sms_key, h.pd.keys], rfl⟩
theorem jp_due (h : LV w0 B D v vd x y ks js mx mk W) (hO : OnceB (ks.map Prod.fst) x.next x.acked) (hn : x.next ≤ 1000) (d : Nat) (hd : d ≤ 18446744073709551615) :
    Calls Try.prog 15 #[.pointer (some ⟨B, 0, none⟩), .int .u64 (d : Int)] W fun e w' => e = .returned (.int .u64 ((dueLK (ks.map Prod.fst) x.acked d : Nat) : Int)) ∧ Below W.heap.size W w' := by
  obtain ⟨k1, k2⟩ := kb_of hO h.pl.keys hn
  have hak := hO.2.1
  refine (due_any B (D + 1) d v x W h.st (by omega) hd (fun p hp => ⟨(k2 p hp).2.1, by have := (k2 p hp).1; omega⟩) (by omega)).mono ?_
  rintro e w' ⟨rfl, hb⟩
  exact ⟨by rw [due_key, h.pl.keys], hb⟩
theorem jd_due (h : LV w0 B D v vd x y ks js mx mk W) (hO : OnceB (js.map Prod.fst) mx mk) (hn : mx ≤ 1000) (d : Nat) (hd : d ≤ 18446744073709551615) :
    Calls Try.prog 25 #[.pointer (some ⟨D, 0, none⟩), .int .u64 (d : Int)] W fun e w' => e = .returned (.int .u64 ((dueLK (js.map Prod.fst) mk d : Nat) : Int)) ∧ Below W.heap.size W w' := by
  obtain ⟨k1, k2⟩ := kb_of hO h.pd.keys hn
  refine (rdue_any D d mx mk vd y W h.ds (by omega) hd (fun p hp => ⟨(k2 p hp).2.1, by have := (k2 p hp).1; omega⟩)).mono ?_
  rintro e w' ⟨rfl, q, rfl⟩
  exact ⟨by rw [due_key, h.pd.keys], below_drewN'' W q⟩
def lastK (l : List Key) : Nat × Bool := l.foldl (fun r p => if p.ask then (p.tm, true) else r) (0, false)
theorem last_key (l : List PS) : lastL l = lastK (l.map key) := by
  unfold lastL lastK
  rw [List.foldl_map]
  rfl
theorem jp_last (h : LV w0 B D v vd x y ks js mx mk W) (hl : ks.length ≤ 1000) :
    Calls Try.prog 17 #[.pointer (some ⟨B, 0, none⟩)] W fun e w' => e = .returned (.tuple #[.int .u64 (((lastK (ks.map Prod.fst)).1 : Nat) : Int), .bool (lastK (ks.map Prod.fst)).2]) ∧ Below W.heap.size W w' := by
  have hxl := h.xlen
  refine (last_any B (D + 1) v x W h.st (by omega)).mono ?_
  rintro e w' ⟨rfl, hb⟩
  exact ⟨by rw [last_key, h.pl.keys], hb⟩
theorem jd_last (h : LV w0 B D v vd x y ks js mx mk W) (hl : js.length ≤ 1000) :
    Calls Try.prog 24 #[.pointer (some ⟨D, 0, none⟩)] W fun e w' => e = .returned (.tuple #[.int .u64 (((lastK (js.map Prod.fst)).1 : Nat) : Int), .bool (lastK (js.map Prod.fst)).2]) ∧ W = w' := by
  have hyl := h.ylen
  refine (rlast_any D mx mk vd y W h.ds (by omega)).mono ?_
  rintro e w' ⟨rfl, rfl⟩
  exact ⟨by rw [last_key, h.pd.keys], rfl⟩
theorem jp_list (h : LV w0 B D v vd x y ks js mx mk W) (hl : ks.length ≤ 1000) :
    Calls Try.prog 12 #[.pointer (some ⟨B, 0, none⟩)] W fun e w' => ∃ gv, e = .returned gv ∧ GP w' D gv x.l ks ∧ Below W.heap.size W w' := by
  have hxl := h.xlen
  refine (list_any B (D + 1) v x W h.st (by omega)).mono ?_
  rintro e w' ⟨gv, rfl, ho, hb⟩
  rw [hxl] at ho
  exact ⟨gv, rfl, ⟨own_base ho h.st.le, h.pl.below hb, fun p hp => (h.ft p hp).sv (Sv.below hb)⟩, hb⟩
theorem LV.gd (h : LV w0 B D v vd x y ks js mx mk W) : GD w0 W D vd y js := ⟨by rw [← h.ylen]; exact h.ds.own, h.pd⟩
end
end Go.Proofs.Ytlldomgfjmkcdaa
