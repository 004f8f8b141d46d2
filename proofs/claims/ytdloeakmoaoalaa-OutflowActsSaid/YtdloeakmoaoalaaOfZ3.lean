/- The document's answer for layer 17, walked: Next. -/
import Derived.Test.YtdloeakmoaoalaaRows
import Derived.Test.YtdloeakmoaoalaaAid
import Derived.Test.YtdloeakmoaoalaaPlainOf
import Derived.Test.YtdloeakmoaoalaaPlainOf2
import Derived.Test.YtdloeakmoaoalaaPlainOf4
import Derived.Test.YtdloeakmoaoalaaPlainOf5
import Derived.Test.YtdloeakmoaoalaaOfW
import Derived.Test.YtdloeakmoaoalaaOfX
import Derived.Test.YtdloeakmoaoalaaOfA
import Derived.Test.YtdloeakmoaoalaaOfB
import Derived.Test.YtdloeakmoaoalaaOfC
import Derived.Test.YtdloeakmoaoalaaOfE
import Derived.Test.YtdloeakmoaoalaaOfM
import Derived.Test.YtdloeakmoaoalaaOfN
import Derived.Test.YtdloeakmoaoalaaOfP
import Derived.Test.YtdloeakmoaoalaaOfQ
import Derived.Test.YtdloeakmoaoalaaOfR
import Derived.Test.YtdloeakmoaoalaaOfV
import Derived.Test.YtdloeakmoaoalaaOfZ
import Derived.Test.YtdloeakmoaoalaaOfZ2
import Derived.WalkKit
import Derived.OwnWalk
import Derived.Laws.Rows
import Derived.Laws.Tables
import Derived.WalkSpells
import Derived.WalkLawsBesides
import Derived.BigQuiet
import Derived.Handy
import Derived.Lib.Walk
import Derived.Lib.Hide
import Derived.Lib.AppendZeros
import Derived.IntWalk
import Derived.Deep.DeepCutAuto
namespace Go.Proofs.Ytdloeakmoaoalaa
open Go.RowKit
set_option linter.unusedVariables false
set_option linter.unusedSimpArgs false

/-- append([]byte{}, b[lo:hi]...) -/
theorem sub_append {w : World} {bb : Option Addr} {hb cb : Nat} {b : List Nat} (hR : RowB w (.slice bb b.length cb) hb b) (lo hi : Nat) (h1 : lo < hi) (h2 : hi ≤ b.length) (hcap : b.length ≤ 2000) :
    ∃ A c w', (∀ ty, (Builtin.append_ #[28, 28] ty #[.slice (some ⟨w.heap.size, 0, none⟩) 0 0, .slice (some ⟨hb, lo, none⟩) (hi - lo) (cb - lo)]).run Try.prog (w.alloc (.cells #[] 5)) = .ok (.slice A (hi - lo) c) w') ∧ bb = some ⟨hb, 0, none⟩ ∧ hi - lo ≤ c ∧ c ≤ maxLen ∧ Rb w' A ((b.drop lo).take (hi - lo)) ∧ Below w.heap.size w w' := by
  obtain ⟨base, c0, e1, hlc, hcm, _, hcell⟩ := hR.form
  cases e1
  obtain ⟨rfl, _⟩ := hcell lo (by omega)
  have hlen : ((b.drop lo).take (hi - lo)).length = hi - lo := by rw [List.length_take, List.length_drop]; omega
  have hal : Below w.heap.size w (w.alloc (.cells #[] 5)) := (Below.refl _ _).alloc (Nat.le_refl _) _
  have hR0 : RowB (w.alloc (.cells #[] 5)) (.slice (some ⟨w.heap.size, 0, none⟩) 0 0) w.heap.size [] := Or.inr ⟨0, [], rfl, Nat.le_refl _, Nat.zero_le _, Nat.le_refl _, (Obj.new w _ _).as (by simp)⟩
  have hd : Rb (w.alloc (.cells #[] 5)) (some ⟨hb, lo, none⟩) ((b.drop lo).take (hi - lo)) := fun hp => by
    refine ⟨hb, lo, rfl, ?_, fun i hi' => ?_⟩
    · have := (hR.rb (by omega))
      obtain ⟨b', off, e, hlt, _⟩ := this
      cases e
      have := hal.size; omega
    · rw [hlen] at hi'
      have := (hR.kept hal).form
      obtain ⟨base', c', e1, _, _, _, hcell'⟩ := this
      cases e1
      rw [(hcell' (lo + i) (by omega)).2]
      congr 2
      rw [Of.getD_take _ _ _ hi', Of.getD_drop]
  obtain ⟨v', w', g', hr, hR', hg, hu⟩ := hR0.appendRb hd (cb - lo) (by rw [hlen]; omega) (by rw [hlen]; simp; omega)
  rw [hlen] at hr
  rw [List.nil_append] at hR'
  obtain ⟨A, c, rfl, h3, h4, _, _⟩ := hR'.form
  rw [hlen] at hr h3
  have hrb := hR'.rb
  refine ⟨A, c, w', hr, rfl, h3, h4, hrb, ?_⟩
  have hz := hal.size
  exact ⟨hu.os.trans hal.os, hu.tape.trans hal.tape, hu.output.trans hal.output, Nat.le_trans hz hu.size, fun k hk => (hu.block k (by omega) (by omega)).trans (hal.block k hk)⟩

set_option maxRecDepth 100000 in
set_option maxHeartbeats 16000000 in
theorem rnextF_any (r hb0 hs0 many : Nat) (hm0 : 0 < many) (hm : many ≤ 9223372036854775807) (x : Of.B) (w : World) (h : Rf w r hb0 hs0 x) (hok : Of.Ok x) :
    Calls Try.prog 24 #[.pointer (some ⟨r, 0, none⟩), .int .i64 (many : Int), .bool false] w fun e w' => ∃ A c, e = .returned (.tuple #[.int .i64 ((Of.due x many).1 : Nat), .slice A (outB x many).length c, .bool (Of.due x many).2.2.1, .bool (Of.due x many).2.2.2])
      ∧ (outB x many).length ≤ c ∧ c ≤ maxLen ∧ Rb w' A (outB x many) ∧ ∃ hb hs, Rf w' r hb hs x ∧ (hb = hb0 ∨ w.heap.size ≤ hb) ∧ (hs = hs0 ∨ w.heap.size ≤ hs) ∧ Below w.heap.size w w' := by
  have HF0 : Hid (Calls Try.prog 45 #[.pointer (some ⟨r, 0, none⟩), .int .i64 0] w fun e w' => e = .returned (.int .i64 (idx 0 x.s)) ∧ w = w') := rfirst_any r hb0 hs0 x w h hok 0
  have HF2 : Hid (Calls Try.prog 45 #[.pointer (some ⟨r, 0, none⟩), .int .i64 2] w fun e w' => e = .returned (.int .i64 (idx 2 x.s)) ∧ w = w') := rfirst_any r hb0 hs0 x w h hok 2
  obtain ⟨hb, hs, h, hrb, hr, hbs, hfb, hfs⟩ := h.fresh
  have HH := Lib.hid h
  obtain ⟨vb, vs, hO, hb1, hs1⟩ := h
  have hcap := hok.cap
  have hlen := hok.len
  have hsl : x.s.length ≤ 2000 := by omega
  obtain ⟨base, cs, rfl, hlc, hcm, hbase, -⟩ := hs1.form
  obtain ⟨bb, cb, rfl, hlb, hbm, hbb, -⟩ := hb1.form
  have hcsi : cs ≤ 9223372036854775807 := by simp only [maxLen] at hcm; omega
  have hcbi : cb ≤ 9223372036854775807 := by simp only [maxLen] at hbm; omega
  have HFR := Lib.hid (And.intro hfb hfs)
  have hrl := hO.lt
  have f0 : w.cell? ⟨r, 0, none⟩ = some (.slice bb x.b.length cb) := by rw [hO.cell]; rfl
  have f1 : w.cell? ⟨r, 1, none⟩ = some (.slice base x.s.length cs) := by rw [hO.cell]; rfl
  have f2 : w.cell? ⟨r, 2, none⟩ = some (.bool x.fin) := by rw [hO.cell]; rfl
  have f3 : w.cell? ⟨r, 3, none⟩ = some (.int .i64 (x.en : Int)) := by rw [hO.cell]; rfl
  have f4 : w.cell? ⟨r, 4, none⟩ = some (.int .u64 (x.lim : Int)) := by rw [hO.cell]; rfl
  have z3 := hO.free 3
  have HF1 : Hid (∀ wq, Upd hs w wq → wq.cell? ⟨r, 0, none⟩ = some (.slice bb x.b.length cb) ∧ wq.cell? ⟨r, 1, none⟩ = some (.slice base x.s.length cs) ∧ wq.cell? ⟨r, 2, none⟩ = some (.bool x.fin) ∧ wq.cell? ⟨r, 3, none⟩ = some (.int .i64 (x.en : Int)) ∧ wq.cell? ⟨r, 4, none⟩ = some (.int .u64 (x.lim : Int)) ∧ wq.frozen? ⟨r, 3, none⟩ = false ∧ r < wq.heap.size) := fun wq hu => by
    have := hO.upd hu hr
    exact ⟨by rw [this.cell]; rfl, by rw [this.cell]; rfl, by rw [this.cell]; rfl, by rw [this.cell]; rfl, by rw [this.cell]; rfl, this.free _, this.lt⟩
  have HFIN : Hid (∀ wq l, Upd hs w wq → RowI wq (.slice base x.s.length cs) hs l → l.length = x.s.length → ∀ lo hi, lo < hi → hi ≤ x.b.length →
      (∃ A c w', (∀ ty, (Builtin.append_ #[28, 28] ty #[.slice (some ⟨wq.heap.size, 0, none⟩) 0 0, .slice (some ⟨hb, lo, none⟩) (hi - lo) (cb - lo)]).run Try.prog (wq.alloc (.cells #[] 5)) = .ok (.slice A (hi - lo) c) w') ∧ bb = some ⟨hb, 0, none⟩ ∧ hi - lo ≤ c ∧ c ≤ maxLen ∧ Rb w' A ((x.b.drop lo).take (hi - lo)) ∧ Rf w' r hb hs { x with s := l } ∧ Upd3 r hb0 hs0 w w' ∧ (wq = w → Below w.heap.size w w')) ∧
      (∃ A c w', (∀ ty, (Builtin.append_ #[28, 28] ty #[.slice (some ⟨wq.heap.size, 0, none⟩) 0 0, .slice (some ⟨hb, lo, none⟩) (hi - lo) (cb - lo)]).run Try.prog ((wq.setCell ⟨r, 3, none⟩ (.int .i64 1)).alloc (.cells #[] 5)) = .ok (.slice A (hi - lo) c) w') ∧ bb = some ⟨hb, 0, none⟩ ∧ hi - lo ≤ c ∧ c ≤ maxLen ∧ Rb w' A ((x.b.drop lo).take (hi - lo)) ∧ Rf w' r hb hs { x with s := l, en := 1 } ∧ Upd3 r hb0 hs0 w w')) := fun wq l hu hR hl lo hi h1 h2 => by
    have hO2 := hO.upd hu hr
    have hbq := hb1.upd hu hbs
    have hu3 : Upd3 r hb hs w wq := ⟨hu.os, hu.tape, hu.output, hu.size, fun k hk _ _ h3 => hu.block k hk h3⟩
    have hu4 : Upd r wq (wq.setCell ⟨r, 3, none⟩ (.int .i64 1)) := (Upd.refl r wq).set _ _
    have hO3 := hO2.set 3 (.int .i64 1)
    have hb3 := hbq.upd hu4 (Ne.symm hrb)
    have hs3 := hR.upd hu4 (Ne.symm hr)
    constructor
    · obtain ⟨A, c, w', q1, q2, q3, q4, q5, q6⟩ := sub_append hbq lo hi h1 h2 hcap
      refine ⟨A, c, w', q1, q2, q3, q4, q5, ⟨_, _, (hO2.kept q6).as rfl, hbq.kept q6, hR.kept q6⟩, (hu3.trans (Upd3.below q6 r hb hs)).back hfb hfs, fun e => by subst e; exact q6⟩
    · obtain ⟨A, c, w', q1, q2, q3, q4, q5, q6⟩ := sub_append hb3 lo hi h1 h2 hcap
      rw [show (wq.setCell ⟨r, 3, none⟩ (.int .i64 1)).heap.size = wq.heap.size by simp] at q1
      refine ⟨A, c, w', q1, q2, q3, q4, q5, ⟨_, _, (hO3.kept q6).as rfl, hb3.kept q6, hs3.kept q6⟩, ((hu3.trans (Upd3.one hu4 hb hs)).trans (Upd3.below q6 r hb hs)).back hfb hfs⟩
  have HEND0 : Hid (Rf (w.setCell ⟨r, 3, none⟩ (.int .i64 1)) r hb hs { x with en := 1 } ∧ Upd3 r hb0 hs0 w (w.setCell ⟨r, 3, none⟩ (.int .i64 1))) := by
    have hu4 : Upd r w (w.setCell ⟨r, 3, none⟩ (.int .i64 1)) := (Upd.refl r w).set _ _
    exact ⟨⟨_, _, (hO.set 3 (.int .i64 1)).as rfl, hb1.upd hu4 (Ne.symm hrb), hs1.upd hu4 (Ne.symm hr)⟩, (Upd3.one hu4 hb hs).back hfb hfs⟩
  have HRD : Hid (∀ l q wq, l.length = x.s.length → q < x.s.length → RowI wq (.slice base x.s.length cs) hs l → Upd hs w wq →
      base = some ⟨hs, 0, none⟩ ∧ wq.cell? ⟨hs, q, none⟩ = some (.int .i64 (l.getD q 0 : Nat)) ∧ wq.frozen? ⟨hs, q, none⟩ = false ∧ RowI (wq.setCell ⟨hs, q, none⟩ (.int .i64 1)) (.slice base x.s.length cs) hs (l.set q 1) ∧ Upd hs w (wq.setCell ⟨hs, q, none⟩ (.int .i64 1))) := fun l q wq hl hq hR hu => by
    have hR' : RowI wq (.slice base l.length cs) hs l := by rw [hl]; exact hR
    obtain ⟨b', c', e1, _, _, _, hcell⟩ := hR'.form
    cases e1
    obtain ⟨rfl, hc⟩ := hcell q (by omega)
    refine ⟨rfl, hc, ?_, ?_, hu.set _ _⟩
    · rcases hR' with ⟨e, _⟩ | ⟨c', rest, e1, e2, e3, e4, e5⟩
      · cases e
      · exact e5.free _
    · have := hR'.set (i := q) (by omega) 1
      rw [hl] at this
      exact this
  have HR0 : Hid (∀ lo, RowI w (.slice base x.s.length cs) hs (Of.setR x.s lo lo 1)) := fun lo => by rw [Of.setR_none]; exact hs1
  have HS0 := Lib.hid hs1
  have HOUT : Hid (outB x many = (x.b.drop (Of.due x many).1).take ((Of.due x many).2.1 - (Of.due x many).1)) := rfl
  have HNX : Hid (Of.next x many = { x with s := Of.setR x.s (Of.due x many).1 (Of.due x many).2.1 1, en := if (Of.due x many).2.2.1 then 1 else x.en }) := by
    unfold Hid Of.next; rw [if_neg (by omega)]
  have HX0 : Hid (idx 0 x.s = if Of.fst 0 x.s < x.s.length then (Of.fst 0 x.s : Int) else -1) := rfl
  have HX2 : Hid (idx 2 x.s = if Of.fst 2 x.s < x.s.length then (Of.fst 2 x.s : Int) else -1) := rfl
  obtain ⟨fin, hfin⟩ : ∃ fin, x.fin = fin := ⟨_, rfl⟩
  obtain ⟨en, hen⟩ : ∃ en, x.en = en := ⟨_, rfl⟩
  obtain ⟨E, hE⟩ : ∃ E, Of.ended x = E := ⟨_, rfl⟩
  have hE' : (fin && (en == 0 || en == 2)) = E := by rw [← hE, ← hfin, ← hen]; rfl
  have hc4 : (fin = false ∧ E = false) ∨ (fin = true ∧ en = 0 ∧ E = true) ∨ (fin = true ∧ en = 2 ∧ E = true) ∨ (fin = true ∧ ((en : Int) == 0) = false ∧ ((en : Int) == 2) = false ∧ E = false) := by
    cases fin with
    | false => exact Or.inl ⟨rfl, by rw [← hE']; rfl⟩
    | true =>
      by_cases e0 : en = 0
      · exact Or.inr (Or.inl ⟨rfl, e0, by rw [← hE', e0]; rfl⟩)
      · by_cases e2 : en = 2
        · exact Or.inr (Or.inr (Or.inl ⟨rfl, e2, by rw [← hE', e2]; rfl⟩))
        · refine Or.inr (Or.inr (Or.inr ⟨rfl, by simp; omega, by simp; omega, ?_⟩))
          rw [← hE']
          have h1 : (en == 0) = false := by simpa using e0
          have h2 : (en == 2) = false := by simpa using e2
          rw [h1, h2]; rfl
  have HC4 := Lib.hid hc4
  have HFIN2 : Hid (x.fin = fin ∧ x.en = en) := ⟨hfin, hen⟩
  have hd := Of.due_ways x many
  rw [hfin] at f2
  rw [hen] at f3
  rw [hfin, hen] at HF1
  clear hO hb1 hs1 hok hrb hr hbs hfb hfs hbase hbb hcm hbm hE' hc4 hfin hen
  rcases hd with ⟨at_, R, h1, h2, hr1, hr2, h3, hd⟩ | ⟨at_, R, h0, h1, h2, h4, hr1, hr2, h3, hd⟩ | ⟨h0, h2, h4, hd⟩ | ⟨h0, h1, h2, hd⟩ | ⟨h0, h1, h2, hd⟩
  · obtain ⟨tt, htt⟩ : ∃ tt, at_ + R = tt := ⟨_, rfl⟩
    rw [htt] at hd hr2
    have HG : Hid (∀ q, at_ ≤ q → q ≤ tt → (q < tt ↔ (q < x.s.length ∧ (q : Int) - (at_ : Int) < (many : Int) ∧ x.s.getD q 0 = 2))) := fun q hq1 hq2 => by
      have := h3 (q - at_) (by omega)
      rw [show at_ + (q - at_) = q by omega] at this
      constructor
      · intro hh
        have h5 := this.1 (by omega)
        exact ⟨by omega, by omega, h5.2.2⟩
      · rintro hh
        have h5 := this.2 ⟨hh.1, by omega, hh.2.2⟩
        omega
    have hlt2 : at_ < tt := by
      have := h3 0 (by omega)
      have h5 := this.2 ⟨by omega, hm0, by rw [Nat.add_zero, ← h1]; exact Of.fst_at (by omega)⟩
      omega
    have HD := Lib.hid hd
    clear hd h3 htt hr1
    rw [hE] at HD
    clear hE
    rw [HX2.out, h1, if_pos h2] at HF2
    clear HX0 HX2 HF0 h1
    have hEE : E = true ∨ E = false := by cases E <;> simp
    generalize hbl : x.b.length = bl at *
    generalize hml : x.s.length = m at *
    have HLN := Lib.hid hlen
    go_enter Try.func24, Try.ntmps24
    go_wp2_with fail
    refine HF2.out.mono ?_
    rintro e w1 ⟨rfl, rfl⟩
    go_upto_region 10 with fail
    go_cut [12] (fun v wx => v = .bool E ∧ wx = w)
    case first =>
      rcases HC4.out with ⟨rfl, rfl⟩ | ⟨rfl, rfl, rfl⟩ | ⟨rfl, rfl, rfl⟩ | ⟨rfl, he0, he2, rfl⟩
      all_goals
        go_wp2_with fail
        go_meet
        exact ⟨rfl, rfl⟩
    case rest =>
      obtain ⟨rfl, rfl⟩ := hcut
      clear f0 f1 f2 f3 f4 z3
      go_wp2
      go_loopw [13] (fun i wr => ∃ q : Nat, at_ ≤ q ∧ q ≤ tt ∧ i = .int .i64 q ∧ wr = wc) (fun i _ => tt - (intOf i).toNat)
      case atStart => exact ⟨at_, Nat.le_refl _, by omega, rfl, (by first | rfl | trivial)⟩
      case round =>
        obtain ⟨q, hq1, hq2, rfl, rfl⟩ := hrel
        obtain ⟨f0, f1, f2, f3, f4, z3, hrl⟩ := HF1.out wr (Upd.refl _ _)
        have hg := HG.out q hq1 hq2
        by_cases hqt : q < tt
        · obtain ⟨g1, g2, g3⟩ := hg.1 hqt
          obtain ⟨rfl, hc, hz, -, -⟩ := HRD.out x.s q wr hml g1 HS0.out (Upd.refl _ _)
          rw [g3] at hc
          have hk3 : IntKind.i64.wrap ((q : Int) + 1) = (q : Int) + 1 := by rw [IntKind.wrap_i64]; omega
          have hkc : q < cs := by omega
          clear hlen g3 hg HG HRD HF1 HFIN HEND0 HR0 HS0
          go_wp2
          go_roundw
          case rel => exact ⟨q + 1, by omega, by omega, by go_num, (by first | rfl | trivial)⟩
          case measure => simp [intOf]; omega
        · obtain rfl : tt = q := by omega
          by_cases hw1 : tt < m
          · have HD2 : Hid (Of.due x many = (at_, tt, E && false, true)) := by
              have := HD.out; unfold Hid; rw [this]; congr 3; congr 1; simp; omega
            clear HD
            have HD := HD2
            clear HD2
            have hbe : ((tt : Int) == (m : Int)) = false := by simp; omega
            have hbc : at_ < cb := by omega
            have hbt : tt ≤ cb := by omega
            have hwr : IntKind.i64.wrap ((tt : Int) - (at_ : Int)) = (tt : Int) - (at_ : Int) := by rw [IntKind.wrap_i64]; omega
            by_cases hw2 : (tt : Int) - (at_ : Int) < (many : Int)
            · obtain ⟨rfl, hc, hz, -, -⟩ := HRD.out x.s tt wr hml hw1 HS0.out (Upd.refl _ _)
              have hkc : tt < cs := by omega
              have hy : ¬ x.s.getD tt 0 = 2 := fun e => hqt (hg.2 ⟨hw1, hw2, e⟩)
              clear hg
              generalize x.s.getD tt 0 = y at *
              have hdy : ((y : Int) == (2 : Int)) = false := by simp; omega
              clear hy
              rcases hEE with hEt | hEf
              · subst hEt
                obtain ⟨A, c, w', q1, q2, q3, q4, q5, q6, q7, q8⟩ := (HFIN.out wr _ (Upd.refl _ _) HS0.out hml at_ tt hlt2 (by omega)).1
                subst q2
                have HQ1 := Lib.hid (q1 28)
                have HQ := Lib.hid (And.intro (And.intro q3 q4) (And.intro q5 (And.intro q6 (q8 rfl))))
                clear q1 q3 q4 q5 q6 q7 q8 hlen HF1 HFIN HEND0 HR0 HS0 HRD HG
                go_wp2_with (at_builtin; refine Lib.wpList_append_run _ rfl _ _ _ _ rfl _ _ rfl rfl _ _ HQ1.out ?_)
                ((try simp only [Exit.inBlock, Exit.then]); refine bodyPost_ret (results_tmp4 rfl _ _ _) rfl ?_)
                have HOL : Hid ((outB x many) = (x.b.drop at_).take (tt - at_)) := by
                  unfold Hid; rw [HOUT.out, HD.out]
                have HOLL : Hid ((outB x many).length = tt - at_) := by
                  unfold Hid; have := HLN.out; rw [HOL.out, List.length_take, List.length_drop]; omega
                rw [HOLL.out, HOL.out, HD.out]
                exact ⟨A, c, rfl, HQ.out.1.1, HQ.out.1.2, HQ.out.2.1, hb, hs, HQ.out.2.2.1, HFR.out.1, HFR.out.2, HQ.out.2.2.2⟩
              · subst hEf
                obtain ⟨A, c, w', q1, q2, q3, q4, q5, q6, q7, q8⟩ := (HFIN.out wr _ (Upd.refl _ _) HS0.out hml at_ tt hlt2 (by omega)).1
                subst q2
                have HQ1 := Lib.hid (q1 28)
                have HQ := Lib.hid (And.intro (And.intro q3 q4) (And.intro q5 (And.intro q6 (q8 rfl))))
                clear q1 q3 q4 q5 q6 q7 q8 hlen HF1 HFIN HEND0 HR0 HS0 HRD HG
                go_wp2_with (at_builtin; refine Lib.wpList_append_run _ rfl _ _ _ _ rfl _ _ rfl rfl _ _ HQ1.out ?_)
                ((try simp only [Exit.inBlock, Exit.then]); refine bodyPost_ret (results_tmp4 rfl _ _ _) rfl ?_)
                have HOL : Hid ((outB x many) = (x.b.drop at_).take (tt - at_)) := by
                  unfold Hid; rw [HOUT.out, HD.out]
                have HOLL : Hid ((outB x many).length = tt - at_) := by
                  unfold Hid; have := HLN.out; rw [HOL.out, List.length_take, List.length_drop]; omega
                rw [HOLL.out, HOL.out, HD.out]
                exact ⟨A, c, rfl, HQ.out.1.1, HQ.out.1.2, HQ.out.2.1, hb, hs, HQ.out.2.2.1, HFR.out.1, HFR.out.2, HQ.out.2.2.2⟩
            · rcases hEE with hEt | hEf
              · subst hEt
                obtain ⟨A, c, w', q1, q2, q3, q4, q5, q6, q7, q8⟩ := (HFIN.out wr _ (Upd.refl _ _) HS0.out hml at_ tt hlt2 (by omega)).1
                subst q2
                have HQ1 := Lib.hid (q1 28)
                have HQ := Lib.hid (And.intro (And.intro q3 q4) (And.intro q5 (And.intro q6 (q8 rfl))))
                clear q1 q3 q4 q5 q6 q7 q8 hlen HF1 HFIN HEND0 HR0 HS0 HRD HG hg
                go_wp2_with (at_builtin; refine Lib.wpList_append_run _ rfl _ _ _ _ rfl _ _ rfl rfl _ _ HQ1.out ?_)
                ((try simp only [Exit.inBlock, Exit.then]); refine bodyPost_ret (results_tmp4 rfl _ _ _) rfl ?_)
                have HOL : Hid ((outB x many) = (x.b.drop at_).take (tt - at_)) := by
                  unfold Hid; rw [HOUT.out, HD.out]
                have HOLL : Hid ((outB x many).length = tt - at_) := by
                  unfold Hid; have := HLN.out; rw [HOL.out, List.length_take, List.length_drop]; omega
                rw [HOLL.out, HOL.out, HD.out]
                exact ⟨A, c, rfl, HQ.out.1.1, HQ.out.1.2, HQ.out.2.1, hb, hs, HQ.out.2.2.1, HFR.out.1, HFR.out.2, HQ.out.2.2.2⟩
              · subst hEf
                obtain ⟨A, c, w', q1, q2, q3, q4, q5, q6, q7, q8⟩ := (HFIN.out wr _ (Upd.refl _ _) HS0.out hml at_ tt hlt2 (by omega)).1
                subst q2
                have HQ1 := Lib.hid (q1 28)
                have HQ := Lib.hid (And.intro (And.intro q3 q4) (And.intro q5 (And.intro q6 (q8 rfl))))
                clear q1 q3 q4 q5 q6 q7 q8 hlen HF1 HFIN HEND0 HR0 HS0 HRD HG hg
                go_wp2_with (at_builtin; refine Lib.wpList_append_run _ rfl _ _ _ _ rfl _ _ rfl rfl _ _ HQ1.out ?_)
                ((try simp only [Exit.inBlock, Exit.then]); refine bodyPost_ret (results_tmp4 rfl _ _ _) rfl ?_)
                have HOL : Hid ((outB x many) = (x.b.drop at_).take (tt - at_)) := by
                  unfold Hid; rw [HOUT.out, HD.out]
                have HOLL : Hid ((outB x many).length = tt - at_) := by
                  unfold Hid; have := HLN.out; rw [HOL.out, List.length_take, List.length_drop]; omega
                rw [HOLL.out, HOL.out, HD.out]
                exact ⟨A, c, rfl, HQ.out.1.1, HQ.out.1.2, HQ.out.2.1, hb, hs, HQ.out.2.2.1, HFR.out.1, HFR.out.2, HQ.out.2.2.2⟩
          · have hmt : tt = m := by omega
            have HD2 : Hid (Of.due x many = (at_, tt, E && true, true)) := by
              have := HD.out; unfold Hid; rw [this]; congr 3; congr 1; simpa using hmt
            clear HD
            have HD := HD2
            clear HD2
            subst hmt
            have hbc : at_ < cb := by omega
            have hbt : tt ≤ cb := by omega
            have hwr : IntKind.i64.wrap ((tt : Int) - (at_ : Int)) = (tt : Int) - (at_ : Int) := by rw [IntKind.wrap_i64]; omega
            rcases hEE with hEt | hEf
            · subst hEt
              obtain ⟨A, c, w', q1, q2, q3, q4, q5, q6, q7, q8⟩ := (HFIN.out wr _ (Upd.refl _ _) HS0.out hml at_ tt hlt2 (by omega)).1
              subst q2
              have HQ1 := Lib.hid (q1 28)
              have HQ := Lib.hid (And.intro (And.intro q3 q4) (And.intro q5 (And.intro q6 (q8 rfl))))
              clear q1 q3 q4 q5 q6 q7 q8 hlen HF1 HFIN HEND0 HR0 HS0 HRD HG hg
              go_wp2_with (at_builtin; refine Lib.wpList_append_run _ rfl _ _ _ _ rfl _ _ rfl rfl _ _ HQ1.out ?_)
              ((try simp only [Exit.inBlock, Exit.then]); refine bodyPost_ret (results_tmp4 rfl _ _ _) rfl ?_)
              have HOL : Hid ((outB x many) = (x.b.drop at_).take (tt - at_)) := by
                unfold Hid; rw [HOUT.out, HD.out]
              have HOLL : Hid ((outB x many).length = tt - at_) := by
                unfold Hid; have := HLN.out; rw [HOL.out, List.length_take, List.length_drop]; omega
              rw [HOLL.out, HOL.out, HD.out]
              exact ⟨A, c, rfl, HQ.out.1.1, HQ.out.1.2, HQ.out.2.1, hb, hs, HQ.out.2.2.1, HFR.out.1, HFR.out.2, HQ.out.2.2.2⟩
            · subst hEf
              obtain ⟨A, c, w', q1, q2, q3, q4, q5, q6, q7, q8⟩ := (HFIN.out wr _ (Upd.refl _ _) HS0.out hml at_ tt hlt2 (by omega)).1
              subst q2
              have HQ1 := Lib.hid (q1 28)
              have HQ := Lib.hid (And.intro (And.intro q3 q4) (And.intro q5 (And.intro q6 (q8 rfl))))
              clear q1 q3 q4 q5 q6 q7 q8 hlen HF1 HFIN HEND0 HR0 HS0 HRD HG hg
              go_wp2_with (at_builtin; refine Lib.wpList_append_run _ rfl _ _ _ _ rfl _ _ rfl rfl _ _ HQ1.out ?_)
              ((try simp only [Exit.inBlock, Exit.then]); refine bodyPost_ret (results_tmp4 rfl _ _ _) rfl ?_)
              have HOL : Hid ((outB x many) = (x.b.drop at_).take (tt - at_)) := by
                unfold Hid; rw [HOUT.out, HD.out]
              have HOLL : Hid ((outB x many).length = tt - at_) := by
                unfold Hid; have := HLN.out; rw [HOL.out, List.length_take, List.length_drop]; omega
              rw [HOLL.out, HOL.out, HD.out]
              exact ⟨A, c, rfl, HQ.out.1.1, HQ.out.1.2, HQ.out.2.1, hb, hs, HQ.out.2.2.1, HFR.out.1, HFR.out.2, HQ.out.2.2.2⟩
  · obtain ⟨tt, htt⟩ : ∃ tt, at_ + R = tt := ⟨_, rfl⟩
    rw [htt] at hd hr2
    have HG : Hid (∀ q, at_ ≤ q → q ≤ tt → (q < tt ↔ (q < x.s.length ∧ (q : Int) - (at_ : Int) < (many : Int) ∧ x.s.getD q 0 = 0 ∧ (q : Int) < (x.lim : Int)))) := fun q hq1 hq2 => by
      have := h3 (q - at_) (by omega)
      rw [show at_ + (q - at_) = q by omega] at this
      constructor
      · intro hh
        have h5 := this.1 (by omega)
        exact ⟨by omega, by omega, h5.2.2.1, by omega⟩
      · rintro hh
        have h5 := this.2 ⟨hh.1, by omega, hh.2.2.1, by omega⟩
        omega
    have hlt2 : at_ < tt := by
      have := h3 0 (by omega)
      have h5 := this.2 ⟨by omega, hm0, by rw [Nat.add_zero, ← h1]; exact Of.fst_at (by omega), by omega⟩
      omega
    have HD := Lib.hid hd
    clear hd h3 htt hr1
    rw [hE] at HD
    clear hE
    rw [HX2.out, h0, if_neg (by omega)] at HF2
    rw [HX0.out, h1, if_pos h2] at HF0
    have h4' : ¬ (x.lim : Int) ≤ (at_ : Int) := by omega
    clear HX0 HX2 h1 h0
    have hEE : E = true ∨ E = false := by cases E <;> simp
    generalize hbl : x.b.length = bl at *
    generalize hml : x.s.length = m at *
    have HLN := Lib.hid hlen
    go_enter Try.func24, Try.ntmps24
    go_wp2_with fail
    refine HF2.out.mono ?_
    rintro e w1 ⟨rfl, rfl⟩
    go_wp2_with fail
    refine HF0.out.mono ?_
    rintro e w1 ⟨rfl, rfl⟩
    go_upto_region 10 with fail
    go_cut [12] (fun v wx => v = .bool E ∧ wx = w)
    case first =>
      rcases HC4.out with ⟨rfl, rfl⟩ | ⟨rfl, rfl, rfl⟩ | ⟨rfl, rfl, rfl⟩ | ⟨rfl, he0, he2, rfl⟩
      all_goals
        go_wp2_with fail
        go_meet
        exact ⟨rfl, rfl⟩
    case rest =>
      obtain ⟨rfl, rfl⟩ := hcut
      clear f0 f1 f2 f3 f4 z3
      go_wp2
      go_loopw [13] (fun i wr => ∃ q : Nat, at_ ≤ q ∧ q ≤ tt ∧ i = .int .i64 q ∧ wr = wc) (fun i _ => tt - (intOf i).toNat)
      case atStart => exact ⟨at_, Nat.le_refl _, by omega, rfl, (by first | rfl | trivial)⟩
      case round =>
        obtain ⟨q, hq1, hq2, rfl, rfl⟩ := hrel
        obtain ⟨f0, f1, f2, f3, f4, z3, hrl⟩ := HF1.out wr (Upd.refl _ _)
        have hg := HG.out q hq1 hq2
        by_cases hqt : q < tt
        · obtain ⟨g1, g2, g3, g4⟩ := hg.1 hqt
          obtain ⟨rfl, hc, hz, -, -⟩ := HRD.out x.s q wr hml g1 HS0.out (Upd.refl _ _)
          rw [g3] at hc
          have hk3 : IntKind.i64.wrap ((q : Int) + 1) = (q : Int) + 1 := by rw [IntKind.wrap_i64]; omega
          have hkc : q < cs := by omega
          clear hlen g3 hg HG HRD HF1 HFIN HEND0 HR0 HS0
          go_wp2
          go_roundw
          case rel => exact ⟨q + 1, by omega, by omega, by go_num, (by first | rfl | trivial)⟩
          case measure => simp [intOf]; omega
        · obtain rfl : tt = q := by omega
          by_cases hw1 : tt < m
          · have HD2 : Hid (Of.due x many = (at_, tt, E && false, true)) := by
              have := HD.out; unfold Hid; rw [this]; congr 3; congr 1; simp; omega
            clear HD
            have HD := HD2
            clear HD2
            have hbe : ((tt : Int) == (m : Int)) = false := by simp; omega
            have hbc : at_ < cb := by omega
            have hbt : tt ≤ cb := by omega
            have hwr : IntKind.i64.wrap ((tt : Int) - (at_ : Int)) = (tt : Int) - (at_ : Int) := by rw [IntKind.wrap_i64]; omega
            by_cases hw2 : (tt : Int) - (at_ : Int) < (many : Int)
            · obtain ⟨rfl, hc, hz, -, -⟩ := HRD.out x.s tt wr hml hw1 HS0.out (Upd.refl _ _)
              have hkc : tt < cs := by omega
              by_cases hy : x.s.getD tt 0 = 0
              · have hw4 : ¬ (tt : Int) < (x.lim : Int) := fun e => hqt (hg.2 ⟨hw1, hw2, hy, e⟩)
                rw [hy] at hc
                clear hy hg
                rcases hEE with hEt | hEf
                · subst hEt
                  obtain ⟨A, c, w', q1, q2, q3, q4, q5, q6, q7, q8⟩ := (HFIN.out wr _ (Upd.refl _ _) HS0.out hml at_ tt hlt2 (by omega)).1
                  subst q2
                  have HQ1 := Lib.hid (q1 28)
                  have HQ := Lib.hid (And.intro (And.intro q3 q4) (And.intro q5 (And.intro q6 (q8 rfl))))
                  clear q1 q3 q4 q5 q6 q7 q8 hlen HF1 HFIN HEND0 HR0 HS0 HRD HG
                  go_wp2_with (at_builtin; refine Lib.wpList_append_run _ rfl _ _ _ _ rfl _ _ rfl rfl _ _ HQ1.out ?_)
                  ((try simp only [Exit.inBlock, Exit.then]); refine bodyPost_ret (results_tmp4 rfl _ _ _) rfl ?_)
                  have HOL : Hid ((outB x many) = (x.b.drop at_).take (tt - at_)) := by
                    unfold Hid; rw [HOUT.out, HD.out]
                  have HOLL : Hid ((outB x many).length = tt - at_) := by
                    unfold Hid; have := HLN.out; rw [HOL.out, List.length_take, List.length_drop]; omega
                  rw [HOLL.out, HOL.out, HD.out]
                  exact ⟨A, c, rfl, HQ.out.1.1, HQ.out.1.2, HQ.out.2.1, hb, hs, HQ.out.2.2.1, HFR.out.1, HFR.out.2, HQ.out.2.2.2⟩
                · subst hEf
                  obtain ⟨A, c, w', q1, q2, q3, q4, q5, q6, q7, q8⟩ := (HFIN.out wr _ (Upd.refl _ _) HS0.out hml at_ tt hlt2 (by omega)).1
                  subst q2
                  have HQ1 := Lib.hid (q1 28)
                  have HQ := Lib.hid (And.intro (And.intro q3 q4) (And.intro q5 (And.intro q6 (q8 rfl))))
                  clear q1 q3 q4 q5 q6 q7 q8 hlen HF1 HFIN HEND0 HR0 HS0 HRD HG
                  go_wp2_with (at_builtin; refine Lib.wpList_append_run _ rfl _ _ _ _ rfl _ _ rfl rfl _ _ HQ1.out ?_)
                  ((try simp only [Exit.inBlock, Exit.then]); refine bodyPost_ret (results_tmp4 rfl _ _ _) rfl ?_)
                  have HOL : Hid ((outB x many) = (x.b.drop at_).take (tt - at_)) := by
                    unfold Hid; rw [HOUT.out, HD.out]
                  have HOLL : Hid ((outB x many).length = tt - at_) := by
                    unfold Hid; have := HLN.out; rw [HOL.out, List.length_take, List.length_drop]; omega
                  rw [HOLL.out, HOL.out, HD.out]
                  exact ⟨A, c, rfl, HQ.out.1.1, HQ.out.1.2, HQ.out.2.1, hb, hs, HQ.out.2.2.1, HFR.out.1, HFR.out.2, HQ.out.2.2.2⟩
              · clear hg
                generalize x.s.getD tt 0 = y at *
                have hdy : ((y : Int) == (0 : Int)) = false := by simp; omega
                clear hy
                rcases hEE with hEt | hEf
                · subst hEt
                  obtain ⟨A, c, w', q1, q2, q3, q4, q5, q6, q7, q8⟩ := (HFIN.out wr _ (Upd.refl _ _) HS0.out hml at_ tt hlt2 (by omega)).1
                  subst q2
                  have HQ1 := Lib.hid (q1 28)
                  have HQ := Lib.hid (And.intro (And.intro q3 q4) (And.intro q5 (And.intro q6 (q8 rfl))))
                  clear q1 q3 q4 q5 q6 q7 q8 hlen HF1 HFIN HEND0 HR0 HS0 HRD HG
                  go_wp2_with (at_builtin; refine Lib.wpList_append_run _ rfl _ _ _ _ rfl _ _ rfl rfl _ _ HQ1.out ?_)
                  ((try simp only [Exit.inBlock, Exit.then]); refine bodyPost_ret (results_tmp4 rfl _ _ _) rfl ?_)
                  have HOL : Hid ((outB x many) = (x.b.drop at_).take (tt - at_)) := by
                    unfold Hid; rw [HOUT.out, HD.out]
                  have HOLL : Hid ((outB x many).length = tt - at_) := by
                    unfold Hid; have := HLN.out; rw [HOL.out, List.length_take, List.length_drop]; omega
                  rw [HOLL.out, HOL.out, HD.out]
                  exact ⟨A, c, rfl, HQ.out.1.1, HQ.out.1.2, HQ.out.2.1, hb, hs, HQ.out.2.2.1, HFR.out.1, HFR.out.2, HQ.out.2.2.2⟩
                · subst hEf
                  obtain ⟨A, c, w', q1, q2, q3, q4, q5, q6, q7, q8⟩ := (HFIN.out wr _ (Upd.refl _ _) HS0.out hml at_ tt hlt2 (by omega)).1
                  subst q2
                  have HQ1 := Lib.hid (q1 28)
                  have HQ := Lib.hid (And.intro (And.intro q3 q4) (And.intro q5 (And.intro q6 (q8 rfl))))
                  clear q1 q3 q4 q5 q6 q7 q8 hlen HF1 HFIN HEND0 HR0 HS0 HRD HG
                  go_wp2_with (at_builtin; refine Lib.wpList_append_run _ rfl _ _ _ _ rfl _ _ rfl rfl _ _ HQ1.out ?_)
                  ((try simp only [Exit.inBlock, Exit.then]); refine bodyPost_ret (results_tmp4 rfl _ _ _) rfl ?_)
                  have HOL : Hid ((outB x many) = (x.b.drop at_).take (tt - at_)) := by
                    unfold Hid; rw [HOUT.out, HD.out]
                  have HOLL : Hid ((outB x many).length = tt - at_) := by
                    unfold Hid; have := HLN.out; rw [HOL.out, List.length_take, List.length_drop]; omega
                  rw [HOLL.out, HOL.out, HD.out]
                  exact ⟨A, c, rfl, HQ.out.1.1, HQ.out.1.2, HQ.out.2.1, hb, hs, HQ.out.2.2.1, HFR.out.1, HFR.out.2, HQ.out.2.2.2⟩
            · rcases hEE with hEt | hEf
              · subst hEt
                obtain ⟨A, c, w', q1, q2, q3, q4, q5, q6, q7, q8⟩ := (HFIN.out wr _ (Upd.refl _ _) HS0.out hml at_ tt hlt2 (by omega)).1
                subst q2
                have HQ1 := Lib.hid (q1 28)
                have HQ := Lib.hid (And.intro (And.intro q3 q4) (And.intro q5 (And.intro q6 (q8 rfl))))
                clear q1 q3 q4 q5 q6 q7 q8 hlen HF1 HFIN HEND0 HR0 HS0 HRD HG hg
                go_wp2_with (at_builtin; refine Lib.wpList_append_run _ rfl _ _ _ _ rfl _ _ rfl rfl _ _ HQ1.out ?_)
                ((try simp only [Exit.inBlock, Exit.then]); refine bodyPost_ret (results_tmp4 rfl _ _ _) rfl ?_)
                have HOL : Hid ((outB x many) = (x.b.drop at_).take (tt - at_)) := by
                  unfold Hid; rw [HOUT.out, HD.out]
                have HOLL : Hid ((outB x many).length = tt - at_) := by
                  unfold Hid; have := HLN.out; rw [HOL.out, List.length_take, List.length_drop]; omega
                rw [HOLL.out, HOL.out, HD.out]
                exact ⟨A, c, rfl, HQ.out.1.1, HQ.out.1.2, HQ.out.2.1, hb, hs, HQ.out.2.2.1, HFR.out.1, HFR.out.2, HQ.out.2.2.2⟩
              · subst hEf
                obtain ⟨A, c, w', q1, q2, q3, q4, q5, q6, q7, q8⟩ := (HFIN.out wr _ (Upd.refl _ _) HS0.out hml at_ tt hlt2 (by omega)).1
                subst q2
                have HQ1 := Lib.hid (q1 28)
                have HQ := Lib.hid (And.intro (And.intro q3 q4) (And.intro q5 (And.intro q6 (q8 rfl))))
                clear q1 q3 q4 q5 q6 q7 q8 hlen HF1 HFIN HEND0 HR0 HS0 HRD HG hg
                go_wp2_with (at_builtin; refine Lib.wpList_append_run _ rfl _ _ _ _ rfl _ _ rfl rfl _ _ HQ1.out ?_)
                ((try simp only [Exit.inBlock, Exit.then]); refine bodyPost_ret (results_tmp4 rfl _ _ _) rfl ?_)
                have HOL : Hid ((outB x many) = (x.b.drop at_).take (tt - at_)) := by
                  unfold Hid; rw [HOUT.out, HD.out]
                have HOLL : Hid ((outB x many).length = tt - at_) := by
                  unfold Hid; have := HLN.out; rw [HOL.out, List.length_take, List.length_drop]; omega
                rw [HOLL.out, HOL.out, HD.out]
                exact ⟨A, c, rfl, HQ.out.1.1, HQ.out.1.2, HQ.out.2.1, hb, hs, HQ.out.2.2.1, HFR.out.1, HFR.out.2, HQ.out.2.2.2⟩
          · have hmt : tt = m := by omega
            have HD2 : Hid (Of.due x many = (at_, tt, E && true, true)) := by
              have := HD.out; unfold Hid; rw [this]; congr 3; congr 1; simpa using hmt
            clear HD
            have HD := HD2
            clear HD2
            subst hmt
            have hbc : at_ < cb := by omega
            have hbt : tt ≤ cb := by omega
            have hwr : IntKind.i64.wrap ((tt : Int) - (at_ : Int)) = (tt : Int) - (at_ : Int) := by rw [IntKind.wrap_i64]; omega
            rcases hEE with hEt | hEf
            · subst hEt
              obtain ⟨A, c, w', q1, q2, q3, q4, q5, q6, q7, q8⟩ := (HFIN.out wr _ (Upd.refl _ _) HS0.out hml at_ tt hlt2 (by omega)).1
              subst q2
              have HQ1 := Lib.hid (q1 28)
              have HQ := Lib.hid (And.intro (And.intro q3 q4) (And.intro q5 (And.intro q6 (q8 rfl))))
              clear q1 q3 q4 q5 q6 q7 q8 hlen HF1 HFIN HEND0 HR0 HS0 HRD HG hg
              go_wp2_with (at_builtin; refine Lib.wpList_append_run _ rfl _ _ _ _ rfl _ _ rfl rfl _ _ HQ1.out ?_)
              ((try simp only [Exit.inBlock, Exit.then]); refine bodyPost_ret (results_tmp4 rfl _ _ _) rfl ?_)
              have HOL : Hid ((outB x many) = (x.b.drop at_).take (tt - at_)) := by
                unfold Hid; rw [HOUT.out, HD.out]
              have HOLL : Hid ((outB x many).length = tt - at_) := by
                unfold Hid; have := HLN.out; rw [HOL.out, List.length_take, List.length_drop]; omega
              rw [HOLL.out, HOL.out, HD.out]
              exact ⟨A, c, rfl, HQ.out.1.1, HQ.out.1.2, HQ.out.2.1, hb, hs, HQ.out.2.2.1, HFR.out.1, HFR.out.2, HQ.out.2.2.2⟩
            · subst hEf
              obtain ⟨A, c, w', q1, q2, q3, q4, q5, q6, q7, q8⟩ := (HFIN.out wr _ (Upd.refl _ _) HS0.out hml at_ tt hlt2 (by omega)).1
              subst q2
              have HQ1 := Lib.hid (q1 28)
              have HQ := Lib.hid (And.intro (And.intro q3 q4) (And.intro q5 (And.intro q6 (q8 rfl))))
              clear q1 q3 q4 q5 q6 q7 q8 hlen HF1 HFIN HEND0 HR0 HS0 HRD HG hg
              go_wp2_with (at_builtin; refine Lib.wpList_append_run _ rfl _ _ _ _ rfl _ _ rfl rfl _ _ HQ1.out ?_)
              ((try simp only [Exit.inBlock, Exit.then]); refine bodyPost_ret (results_tmp4 rfl _ _ _) rfl ?_)
              have HOL : Hid ((outB x many) = (x.b.drop at_).take (tt - at_)) := by
                unfold Hid; rw [HOUT.out, HD.out]
              have HOLL : Hid ((outB x many).length = tt - at_) := by
                unfold Hid; have := HLN.out; rw [HOL.out, List.length_take, List.length_drop]; omega
              rw [HOLL.out, HOL.out, HD.out]
              exact ⟨A, c, rfl, HQ.out.1.1, HQ.out.1.2, HQ.out.2.1, hb, hs, HQ.out.2.2.1, HFR.out.1, HFR.out.2, HQ.out.2.2.2⟩
  · rw [HX2.out, h0, if_neg (by omega)] at HF2
    rw [HX0.out, if_pos h2] at HF0
    have h4' : (x.lim : Int) ≤ (Of.fst 0 x.s : Int) := by omega
    have HD := Lib.hid hd
    have HOL : Hid ((outB x many).length = 0) := by
      unfold Hid; rw [HOUT.out, HD.out]; simp
    clear hd HFIN HF1 HRD HR0 HX0 HX2 h0 hE
    generalize Of.fst 0 x.s = p0 at *
    obtain ⟨bl, hbl⟩ : ∃ bl, x.b.length = bl := ⟨_, rfl⟩
    rw [hbl] at f0
    clear hlen
    go_enter Try.func24, Try.ntmps24
    go_wp2_with fail
    refine HF2.out.mono ?_
    rintro e w1 ⟨rfl, rfl⟩
    go_wp2_with fail
    refine HF0.out.mono ?_
    rintro e w1 ⟨rfl, rfl⟩
    go_wp2
    ((try simp only [Exit.inBlock, Exit.then]); refine bodyPost_ret (results_tmp4 rfl _ _ _) rfl ?_)
    refine ⟨none, 0, ?_, ?_, Nat.zero_le _, fun hp => absurd hp (by rw [HOL.out]; omega), hb, hs, ?_, HFR.out.1, HFR.out.2, ?_⟩
    · rw [HOL.out, HD.out]; rfl
    · rw [HOL.out]; omega
    · exact HH.out
    · exact Below.refl _ _
  · rw [HX2.out, h0, if_neg (by omega)] at HF2
    rw [HX0.out, h1, if_neg (by omega)] at HF0
    obtain rfl : E = true := by rw [← hE]; exact h2
    have HD := Lib.hid hd
    have HLL : Hid (x.s.length = x.b.length) := hlen
    have HOL : Hid ((outB x many).length = 0) := by
      unfold Hid; rw [HOUT.out, HD.out]; simp
    clear hd HFIN HF1 HRD HR0 HX0 HX2 h0 hE h1
    generalize Of.fst 0 x.s = p0 at *
    obtain ⟨bl, hbl⟩ : ∃ bl, x.b.length = bl := ⟨_, rfl⟩
    rw [hbl] at f0
    clear hlen
    go_enter Try.func24, Try.ntmps24
    go_wp2_with fail
    refine HF2.out.mono ?_
    rintro e w1 ⟨rfl, rfl⟩
    go_wp2_with fail
    refine HF0.out.mono ?_
    rintro e w1 ⟨rfl, rfl⟩
    go_upto_region 10 with fail
    go_cut [12] (fun v wx => v = .bool true ∧ wx = w)
    case first =>
      rcases HC4.out with ⟨rfl, he⟩ | ⟨rfl, rfl, he⟩ | ⟨rfl, rfl, he⟩ | ⟨rfl, he0, he2, he⟩
      all_goals try cases he
      all_goals
        go_wp2_with fail
        go_meet
        exact ⟨rfl, rfl⟩
    case rest =>
      obtain ⟨rfl, rfl⟩ := hcut
      go_wp2
      ((try simp only [Exit.inBlock, Exit.then]); refine bodyPost_ret (results_tmp4 rfl _ _ _) rfl ?_)
      refine ⟨none, 0, ?_, ?_, Nat.zero_le _, fun hp => absurd hp (by rw [HOL.out]; omega), hb, hs, ?_, HFR.out.1, HFR.out.2, ?_⟩
      · rw [HOL.out, HD.out]; simp only [HLL.out, hbl]; rfl
      · rw [HOL.out]; omega
      · exact HH.out
      · exact Below.refl _ _
  · rw [HX2.out, h0, if_neg (by omega)] at HF2
    rw [HX0.out, h1, if_neg (by omega)] at HF0
    obtain rfl : E = false := by rw [← hE]; exact h2
    have HD := Lib.hid hd
    have HOL : Hid ((outB x many).length = 0) := by
      unfold Hid; rw [HOUT.out, HD.out]; simp
    clear hd HFIN HF1 HRD HR0 HX0 HX2 h0 hE h1
    generalize Of.fst 0 x.s = p0 at *
    obtain ⟨bl, hbl⟩ : ∃ bl, x.b.length = bl := ⟨_, rfl⟩
    rw [hbl] at f0
    clear hlen
    go_enter Try.func24, Try.ntmps24
    go_wp2_with fail
    refine HF2.out.mono ?_
    rintro e w1 ⟨rfl, rfl⟩
    go_wp2_with fail
    refine HF0.out.mono ?_
    rintro e w1 ⟨rfl, rfl⟩
    go_upto_region 10 with fail
    go_cut [12] (fun v wx => v = .bool false ∧ wx = w)
    case first =>
      rcases HC4.out with ⟨rfl, he⟩ | ⟨rfl, rfl, he⟩ | ⟨rfl, rfl, he⟩ | ⟨rfl, he0, he2, he⟩
      all_goals try cases he
      all_goals
        go_wp2_with fail
        go_meet
        exact ⟨rfl, rfl⟩
    case rest =>
      obtain ⟨rfl, rfl⟩ := hcut
      go_wp2
      ((try simp only [Exit.inBlock, Exit.then]); refine bodyPost_ret (results_tmp4 rfl _ _ _) rfl ?_)
      refine ⟨none, 0, ?_, ?_, Nat.zero_le _, fun hp => absurd hp (by rw [HOL.out]; omega), hb, hs, ?_, HFR.out.1, HFR.out.2, ?_⟩
      · rw [HOL.out, HD.out]; rfl
      · rw [HOL.out]; omega
      · exact HH.out
      · exact Below.refl _ _

set_option maxRecDepth 100000 in
set_option maxHeartbeats 16000000 in
theorem rnextT_any (r hb0 hs0 many : Nat) (hm0 : 0 < many) (hm : many ≤ 9223372036854775807) (x : Of.B) (w : World) (h : Rf w r hb0 hs0 x) (hok : Of.Ok x) :
    Calls Try.prog 24 #[.pointer (some ⟨r, 0, none⟩), .int .i64 (many : Int), .bool true] w fun e w' => ∃ A c, e = .returned (.tuple #[.int .i64 ((Of.due x many).1 : Nat), .slice A (outB x many).length c, .bool (Of.due x many).2.2.1, .bool (Of.due x many).2.2.2])
      ∧ (outB x many).length ≤ c ∧ c ≤ maxLen ∧ Rb w' A (outB x many) ∧ ∃ hb hs, Rf w' r hb hs (Of.next x many) ∧ (hb = hb0 ∨ w.heap.size ≤ hb) ∧ (hs = hs0 ∨ w.heap.size ≤ hs) ∧ Upd3 r hb0 hs0 w w' := by
  have HF0 : Hid (Calls Try.prog 45 #[.pointer (some ⟨r, 0, none⟩), .int .i64 0] w fun e w' => e = .returned (.int .i64 (idx 0 x.s)) ∧ w = w') := rfirst_any r hb0 hs0 x w h hok 0
  have HF2 : Hid (Calls Try.prog 45 #[.pointer (some ⟨r, 0, none⟩), .int .i64 2] w fun e w' => e = .returned (.int .i64 (idx 2 x.s)) ∧ w = w') := rfirst_any r hb0 hs0 x w h hok 2
  obtain ⟨hb, hs, h, hrb, hr, hbs, hfb, hfs⟩ := h.fresh
  have HH := Lib.hid h
  obtain ⟨vb, vs, hO, hb1, hs1⟩ := h
  have hcap := hok.cap
  have hlen := hok.len
  have hsl : x.s.length ≤ 2000 := by omega
  obtain ⟨base, cs, rfl, hlc, hcm, hbase, -⟩ := hs1.form
  obtain ⟨bb, cb, rfl, hlb, hbm, hbb, -⟩ := hb1.form
  have hcsi : cs ≤ 9223372036854775807 := by simp only [maxLen] at hcm; omega
  have hcbi : cb ≤ 9223372036854775807 := by simp only [maxLen] at hbm; omega
  have HFR := Lib.hid (And.intro hfb hfs)
  have hrl := hO.lt
  have f0 : w.cell? ⟨r, 0, none⟩ = some (.slice bb x.b.length cb) := by rw [hO.cell]; rfl
  have f1 : w.cell? ⟨r, 1, none⟩ = some (.slice base x.s.length cs) := by rw [hO.cell]; rfl
  have f2 : w.cell? ⟨r, 2, none⟩ = some (.bool x.fin) := by rw [hO.cell]; rfl
  have f3 : w.cell? ⟨r, 3, none⟩ = some (.int .i64 (x.en : Int)) := by rw [hO.cell]; rfl
  have f4 : w.cell? ⟨r, 4, none⟩ = some (.int .u64 (x.lim : Int)) := by rw [hO.cell]; rfl
  have z3 := hO.free 3
  have HF1 : Hid (∀ wq, Upd hs w wq → wq.cell? ⟨r, 0, none⟩ = some (.slice bb x.b.length cb) ∧ wq.cell? ⟨r, 1, none⟩ = some (.slice base x.s.length cs) ∧ wq.cell? ⟨r, 2, none⟩ = some (.bool x.fin) ∧ wq.cell? ⟨r, 3, none⟩ = some (.int .i64 (x.en : Int)) ∧ wq.cell? ⟨r, 4, none⟩ = some (.int .u64 (x.lim : Int)) ∧ wq.frozen? ⟨r, 3, none⟩ = false ∧ r < wq.heap.size) := fun wq hu => by
    have := hO.upd hu hr
    exact ⟨by rw [this.cell]; rfl, by rw [this.cell]; rfl, by rw [this.cell]; rfl, by rw [this.cell]; rfl, by rw [this.cell]; rfl, this.free _, this.lt⟩
  have HFIN : Hid (∀ wq l, Upd hs w wq → RowI wq (.slice base x.s.length cs) hs l → l.length = x.s.length → ∀ lo hi, lo < hi → hi ≤ x.b.length →
      (∃ A c w', (∀ ty, (Builtin.append_ #[28, 28] ty #[.slice (some ⟨wq.heap.size, 0, none⟩) 0 0, .slice (some ⟨hb, lo, none⟩) (hi - lo) (cb - lo)]).run Try.prog (wq.alloc (.cells #[] 5)) = .ok (.slice A (hi - lo) c) w') ∧ bb = some ⟨hb, 0, none⟩ ∧ hi - lo ≤ c ∧ c ≤ maxLen ∧ Rb w' A ((x.b.drop lo).take (hi - lo)) ∧ Rf w' r hb hs { x with s := l } ∧ Upd3 r hb0 hs0 w w' ∧ (wq = w → Below w.heap.size w w')) ∧
      (∃ A c w', (∀ ty, (Builtin.append_ #[28, 28] ty #[.slice (some ⟨wq.heap.size, 0, none⟩) 0 0, .slice (some ⟨hb, lo, none⟩) (hi - lo) (cb - lo)]).run Try.prog ((wq.setCell ⟨r, 3, none⟩ (.int .i64 1)).alloc (.cells #[] 5)) = .ok (.slice A (hi - lo) c) w') ∧ bb = some ⟨hb, 0, none⟩ ∧ hi - lo ≤ c ∧ c ≤ maxLen ∧ Rb w' A ((x.b.drop lo).take (hi - lo)) ∧ Rf w' r hb hs { x with s := l, en := 1 } ∧ Upd3 r hb0 hs0 w w')) := fun wq l hu hR hl lo hi h1 h2 => by
    have hO2 := hO.upd hu hr
    have hbq := hb1.upd hu hbs
    have hu3 : Upd3 r hb hs w wq := ⟨hu.os, hu.tape, hu.output, hu.size, fun k hk _ _ h3 => hu.block k hk h3⟩
    have hu4 : Upd r wq (wq.setCell ⟨r, 3, none⟩ (.int .i64 1)) := (Upd.refl r wq).set _ _
    have hO3 := hO2.set 3 (.int .i64 1)
    have hb3 := hbq.upd hu4 (Ne.symm hrb)
    have hs3 := hR.upd hu4 (Ne.symm hr)
    constructor
    · obtain ⟨A, c, w', q1, q2, q3, q4, q5, q6⟩ := sub_append hbq lo hi h1 h2 hcap
      refine ⟨A, c, w', q1, q2, q3, q4, q5, ⟨_, _, (hO2.kept q6).as rfl, hbq.kept q6, hR.kept q6⟩, (hu3.trans (Upd3.below q6 r hb hs)).back hfb hfs, fun e => by subst e; exact q6⟩
    · obtain ⟨A, c, w', q1, q2, q3, q4, q5, q6⟩ := sub_append hb3 lo hi h1 h2 hcap
      rw [show (wq.setCell ⟨r, 3, none⟩ (.int .i64 1)).heap.size = wq.heap.size by simp] at q1
      refine ⟨A, c, w', q1, q2, q3, q4, q5, ⟨_, _, (hO3.kept q6).as rfl, hb3.kept q6, hs3.kept q6⟩, ((hu3.trans (Upd3.one hu4 hb hs)).trans (Upd3.below q6 r hb hs)).back hfb hfs⟩
  have HEND0 : Hid (Rf (w.setCell ⟨r, 3, none⟩ (.int .i64 1)) r hb hs { x with en := 1 } ∧ Upd3 r hb0 hs0 w (w.setCell ⟨r, 3, none⟩ (.int .i64 1))) := by
    have hu4 : Upd r w (w.setCell ⟨r, 3, none⟩ (.int .i64 1)) := (Upd.refl r w).set _ _
    exact ⟨⟨_, _, (hO.set 3 (.int .i64 1)).as rfl, hb1.upd hu4 (Ne.symm hrb), hs1.upd hu4 (Ne.symm hr)⟩, (Upd3.one hu4 hb hs).back hfb hfs⟩
  have HRD : Hid (∀ l q wq, l.length = x.s.length → q < x.s.length → RowI wq (.slice base x.s.length cs) hs l → Upd hs w wq →
      base = some ⟨hs, 0, none⟩ ∧ wq.cell? ⟨hs, q, none⟩ = some (.int .i64 (l.getD q 0 : Nat)) ∧ wq.frozen? ⟨hs, q, none⟩ = false ∧ RowI (wq.setCell ⟨hs, q, none⟩ (.int .i64 1)) (.slice base x.s.length cs) hs (l.set q 1) ∧ Upd hs w (wq.setCell ⟨hs, q, none⟩ (.int .i64 1))) := fun l q wq hl hq hR hu => by
    have hR' : RowI wq (.slice base l.length cs) hs l := by rw [hl]; exact hR
    obtain ⟨b', c', e1, _, _, _, hcell⟩ := hR'.form
    cases e1
    obtain ⟨rfl, hc⟩ := hcell q (by omega)
    refine ⟨rfl, hc, ?_, ?_, hu.set _ _⟩
    · rcases hR' with ⟨e, _⟩ | ⟨c', rest, e1, e2, e3, e4, e5⟩
      · cases e
      · exact e5.free _
    · have := hR'.set (i := q) (by omega) 1
      rw [hl] at this
      exact this
  have HR0 : Hid (∀ lo, RowI w (.slice base x.s.length cs) hs (Of.setR x.s lo lo 1)) := fun lo => by rw [Of.setR_none]; exact hs1
  have HS0 := Lib.hid hs1
  have HOUT : Hid (outB x many = (x.b.drop (Of.due x many).1).take ((Of.due x many).2.1 - (Of.due x many).1)) := rfl
  have HNX : Hid (Of.next x many = { x with s := Of.setR x.s (Of.due x many).1 (Of.due x many).2.1 1, en := if (Of.due x many).2.2.1 then 1 else x.en }) := by
    unfold Hid Of.next; rw [if_neg (by omega)]
  have HX0 : Hid (idx 0 x.s = if Of.fst 0 x.s < x.s.length then (Of.fst 0 x.s : Int) else -1) := rfl
  have HX2 : Hid (idx 2 x.s = if Of.fst 2 x.s < x.s.length then (Of.fst 2 x.s : Int) else -1) := rfl
  obtain ⟨fin, hfin⟩ : ∃ fin, x.fin = fin := ⟨_, rfl⟩
  obtain ⟨en, hen⟩ : ∃ en, x.en = en := ⟨_, rfl⟩
  obtain ⟨E, hE⟩ : ∃ E, Of.ended x = E := ⟨_, rfl⟩
  have hE' : (fin && (en == 0 || en == 2)) = E := by rw [← hE, ← hfin, ← hen]; rfl
  have hc4 : (fin = false ∧ E = false) ∨ (fin = true ∧ en = 0 ∧ E = true) ∨ (fin = true ∧ en = 2 ∧ E = true) ∨ (fin = true ∧ ((en : Int) == 0) = false ∧ ((en : Int) == 2) = false ∧ E = false) := by
    cases fin with
    | false => exact Or.inl ⟨rfl, by rw [← hE']; rfl⟩
    | true =>
      by_cases e0 : en = 0
      · exact Or.inr (Or.inl ⟨rfl, e0, by rw [← hE', e0]; rfl⟩)
      · by_cases e2 : en = 2
        · exact Or.inr (Or.inr (Or.inl ⟨rfl, e2, by rw [← hE', e2]; rfl⟩))
        · refine Or.inr (Or.inr (Or.inr ⟨rfl, by simp; omega, by simp; omega, ?_⟩))
          rw [← hE']
          have h1 : (en == 0) = false := by simpa using e0
          have h2 : (en == 2) = false := by simpa using e2
          rw [h1, h2]; rfl
  have HC4 := Lib.hid hc4
  have HFIN2 : Hid (x.fin = fin ∧ x.en = en) := ⟨hfin, hen⟩
  have hd := Of.due_ways x many
  rw [hfin] at f2
  rw [hen] at f3
  rw [hfin, hen] at HF1
  clear hO hb1 hs1 hok hrb hr hbs hfb hfs hbase hbb hcm hbm hE' hc4 hfin hen
  rcases hd with ⟨at_, R, h1, h2, hr1, hr2, h3, hd⟩ | ⟨at_, R, h0, h1, h2, h4, hr1, hr2, h3, hd⟩ | ⟨h0, h2, h4, hd⟩ | ⟨h0, h1, h2, hd⟩ | ⟨h0, h1, h2, hd⟩
  · obtain ⟨tt, htt⟩ : ∃ tt, at_ + R = tt := ⟨_, rfl⟩
    rw [htt] at hd hr2
    have HG : Hid (∀ q, at_ ≤ q → q ≤ tt → (q < tt ↔ (q < x.s.length ∧ (q : Int) - (at_ : Int) < (many : Int) ∧ x.s.getD q 0 = 2))) := fun q hq1 hq2 => by
      have := h3 (q - at_) (by omega)
      rw [show at_ + (q - at_) = q by omega] at this
      constructor
      · intro hh
        have h5 := this.1 (by omega)
        exact ⟨by omega, by omega, h5.2.2⟩
      · rintro hh
        have h5 := this.2 ⟨hh.1, by omega, hh.2.2⟩
        omega
    have hlt2 : at_ < tt := by
      have := h3 0 (by omega)
      have h5 := this.2 ⟨by omega, hm0, by rw [Nat.add_zero, ← h1]; exact Of.fst_at (by omega)⟩
      omega
    have HD := Lib.hid hd
    clear hd h3 htt hr1
    rw [hE] at HD
    clear hE
    rw [HX2.out, h1, if_pos h2] at HF2
    clear HX0 HX2 HF0 h1
    have hEE : E = true ∨ E = false := by cases E <;> simp
    generalize hbl : x.b.length = bl at *
    generalize hml : x.s.length = m at *
    have HLN := Lib.hid hlen
    go_enter Try.func24, Try.ntmps24
    go_wp2_with fail
    refine HF2.out.mono ?_
    rintro e w1 ⟨rfl, rfl⟩
    go_upto_region 10 with fail
    go_cut [12] (fun v wx => v = .bool E ∧ wx = w)
    case first =>
      rcases HC4.out with ⟨rfl, rfl⟩ | ⟨rfl, rfl, rfl⟩ | ⟨rfl, rfl, rfl⟩ | ⟨rfl, he0, he2, rfl⟩
      all_goals
        go_wp2_with fail
        go_meet
        exact ⟨rfl, rfl⟩
    case rest =>
      obtain ⟨rfl, rfl⟩ := hcut
      clear f0 f1 f2 f3 f4 z3
      go_wp2
      go_loopw [13] (fun i wr => ∃ q : Nat, at_ ≤ q ∧ q ≤ tt ∧ i = .int .i64 q ∧ RowI wr (.slice base m cs) hs (Of.setR x.s at_ q 1) ∧ Upd hs wc wr) (fun i _ => tt - (intOf i).toNat)
      case atStart => exact ⟨at_, Nat.le_refl _, by omega, rfl, HR0.out at_, Upd.refl _ _⟩
      case round =>
        obtain ⟨q, hq1, hq2, rfl, hR, hu⟩ := hrel
        obtain ⟨f0, f1, f2, f3, f4, z3, hrl⟩ := HF1.out wr hu
        have hg := HG.out q hq1 hq2
        by_cases hqt : q < tt
        · obtain ⟨g1, g2, g3⟩ := hg.1 hqt
          obtain ⟨rfl, hc, hz, hR2, hu2⟩ := HRD.out _ q wr (by rw [Of.setR_len]; exact hml) g1 hR hu
          rw [Of.setR_getD _ _ _ _ _ (by rw [hml]; exact g1), if_neg (by omega), g3] at hc
          rw [Of.setR_set _ _ _ _ hq1 (by rw [hml]; exact g1)] at hR2
          have HQ := Lib.hid (And.intro hR2 hu2)
          clear hR2 hu2 hR hu
          have hk3 : IntKind.i64.wrap ((q : Int) + 1) = (q : Int) + 1 := by rw [IntKind.wrap_i64]; omega
          have hkc : q < cs := by omega
          clear hlen g3 hg HG HRD HF1 HFIN HEND0 HR0 HS0
          go_wp2
          go_roundw
          case rel => exact ⟨q + 1, by omega, by omega, by go_num, HQ.out.1, HQ.out.2⟩
          case measure => simp [intOf]; omega
        · obtain rfl : tt = q := by omega
          by_cases hw1 : tt < m
          · have HD2 : Hid (Of.due x many = (at_, tt, E && false, true)) := by
              have := HD.out; unfold Hid; rw [this]; congr 3; congr 1; simp; omega
            clear HD
            have HD := HD2
            clear HD2
            have hbe : ((tt : Int) == (m : Int)) = false := by simp; omega
            have hbc : at_ < cb := by omega
            have hbt : tt ≤ cb := by omega
            have hwr : IntKind.i64.wrap ((tt : Int) - (at_ : Int)) = (tt : Int) - (at_ : Int) := by rw [IntKind.wrap_i64]; omega
            by_cases hw2 : (tt : Int) - (at_ : Int) < (many : Int)
            · obtain ⟨rfl, hc, hz, -, -⟩ := HRD.out _ tt wr (by rw [Of.setR_len]; exact hml) hw1 hR hu
              rw [Of.setR_getD _ _ _ _ _ (by rw [hml]; exact hw1), if_neg (by omega)] at hc
              have hkc : tt < cs := by omega
              have hy : ¬ x.s.getD tt 0 = 2 := fun e => hqt (hg.2 ⟨hw1, hw2, e⟩)
              clear hg
              generalize x.s.getD tt 0 = y at *
              have hdy : ((y : Int) == (2 : Int)) = false := by simp; omega
              clear hy
              rcases hEE with hEt | hEf
              · subst hEt
                obtain ⟨A, c, w', q1, q2, q3, q4, q5, q6, q7, q8⟩ := (HFIN.out wr _ hu hR (by rw [Of.setR_len]; exact hml) at_ tt hlt2 (by omega)).1
                subst q2
                have HQ1 := Lib.hid (q1 28)
                have HQ := Lib.hid (And.intro (And.intro q3 q4) (And.intro q5 (And.intro q6 q7)))
                clear q1 q3 q4 q5 q6 q7 q8 hlen HF1 HFIN HEND0 HR0 HS0 HRD HG
                go_wp2_with (at_builtin; refine Lib.wpList_append_run _ rfl _ _ _ _ rfl _ _ rfl rfl _ _ HQ1.out ?_)
                ((try simp only [Exit.inBlock, Exit.then]); refine bodyPost_ret (results_tmp4 rfl _ _ _) rfl ?_)
                have HOL : Hid ((outB x many) = (x.b.drop at_).take (tt - at_)) := by
                  unfold Hid; rw [HOUT.out, HD.out]
                have HOLL : Hid ((outB x many).length = tt - at_) := by
                  unfold Hid; have := HLN.out; rw [HOL.out, List.length_take, List.length_drop]; omega
                rw [HOLL.out, HOL.out, HD.out]
                refine ⟨A, c, rfl, HQ.out.1.1, HQ.out.1.2, HQ.out.2.1, hb, hs, ?_, HFR.out.1, HFR.out.2, HQ.out.2.2.2⟩
                rw [HNX.out, HD.out]
                exact HQ.out.2.2.1
              · subst hEf
                obtain ⟨A, c, w', q1, q2, q3, q4, q5, q6, q7, q8⟩ := (HFIN.out wr _ hu hR (by rw [Of.setR_len]; exact hml) at_ tt hlt2 (by omega)).1
                subst q2
                have HQ1 := Lib.hid (q1 28)
                have HQ := Lib.hid (And.intro (And.intro q3 q4) (And.intro q5 (And.intro q6 q7)))
                clear q1 q3 q4 q5 q6 q7 q8 hlen HF1 HFIN HEND0 HR0 HS0 HRD HG
                go_wp2_with (at_builtin; refine Lib.wpList_append_run _ rfl _ _ _ _ rfl _ _ rfl rfl _ _ HQ1.out ?_)
                ((try simp only [Exit.inBlock, Exit.then]); refine bodyPost_ret (results_tmp4 rfl _ _ _) rfl ?_)
                have HOL : Hid ((outB x many) = (x.b.drop at_).take (tt - at_)) := by
                  unfold Hid; rw [HOUT.out, HD.out]
                have HOLL : Hid ((outB x many).length = tt - at_) := by
                  unfold Hid; have := HLN.out; rw [HOL.out, List.length_take, List.length_drop]; omega
                rw [HOLL.out, HOL.out, HD.out]
                refine ⟨A, c, rfl, HQ.out.1.1, HQ.out.1.2, HQ.out.2.1, hb, hs, ?_, HFR.out.1, HFR.out.2, HQ.out.2.2.2⟩
                rw [HNX.out, HD.out]
                exact HQ.out.2.2.1
            · rcases hEE with hEt | hEf
              · subst hEt
                obtain ⟨A, c, w', q1, q2, q3, q4, q5, q6, q7, q8⟩ := (HFIN.out wr _ hu hR (by rw [Of.setR_len]; exact hml) at_ tt hlt2 (by omega)).1
                subst q2
                have HQ1 := Lib.hid (q1 28)
                have HQ := Lib.hid (And.intro (And.intro q3 q4) (And.intro q5 (And.intro q6 q7)))
                clear q1 q3 q4 q5 q6 q7 q8 hlen HF1 HFIN HEND0 HR0 HS0 HRD HG hg
                go_wp2_with (at_builtin; refine Lib.wpList_append_run _ rfl _ _ _ _ rfl _ _ rfl rfl _ _ HQ1.out ?_)
                ((try simp only [Exit.inBlock, Exit.then]); refine bodyPost_ret (results_tmp4 rfl _ _ _) rfl ?_)
                have HOL : Hid ((outB x many) = (x.b.drop at_).take (tt - at_)) := by
                  unfold Hid; rw [HOUT.out, HD.out]
                have HOLL : Hid ((outB x many).length = tt - at_) := by
                  unfold Hid; have := HLN.out; rw [HOL.out, List.length_take, List.length_drop]; omega
                rw [HOLL.out, HOL.out, HD.out]
                refine ⟨A, c, rfl, HQ.out.1.1, HQ.out.1.2, HQ.out.2.1, hb, hs, ?_, HFR.out.1, HFR.out.2, HQ.out.2.2.2⟩
                rw [HNX.out, HD.out]
                exact HQ.out.2.2.1
              · subst hEf
                obtain ⟨A, c, w', q1, q2, q3, q4, q5, q6, q7, q8⟩ := (HFIN.out wr _ hu hR (by rw [Of.setR_len]; exact hml) at_ tt hlt2 (by omega)).1
                subst q2
                have HQ1 := Lib.hid (q1 28)
                have HQ := Lib.hid (And.intro (And.intro q3 q4) (And.intro q5 (And.intro q6 q7)))
                clear q1 q3 q4 q5 q6 q7 q8 hlen HF1 HFIN HEND0 HR0 HS0 HRD HG hg
                go_wp2_with (at_builtin; refine Lib.wpList_append_run _ rfl _ _ _ _ rfl _ _ rfl rfl _ _ HQ1.out ?_)
                ((try simp only [Exit.inBlock, Exit.then]); refine bodyPost_ret (results_tmp4 rfl _ _ _) rfl ?_)
                have HOL : Hid ((outB x many) = (x.b.drop at_).take (tt - at_)) := by
                  unfold Hid; rw [HOUT.out, HD.out]
                have HOLL : Hid ((outB x many).length = tt - at_) := by
                  unfold Hid; have := HLN.out; rw [HOL.out, List.length_take, List.length_drop]; omega
                rw [HOLL.out, HOL.out, HD.out]
                refine ⟨A, c, rfl, HQ.out.1.1, HQ.out.1.2, HQ.out.2.1, hb, hs, ?_, HFR.out.1, HFR.out.2, HQ.out.2.2.2⟩
                rw [HNX.out, HD.out]
                exact HQ.out.2.2.1
          · have hmt : tt = m := by omega
            have HD2 : Hid (Of.due x many = (at_, tt, E && true, true)) := by
              have := HD.out; unfold Hid; rw [this]; congr 3; congr 1; simpa using hmt
            clear HD
            have HD := HD2
            clear HD2
            subst hmt
            have hbc : at_ < cb := by omega
            have hbt : tt ≤ cb := by omega
            have hwr : IntKind.i64.wrap ((tt : Int) - (at_ : Int)) = (tt : Int) - (at_ : Int) := by rw [IntKind.wrap_i64]; omega
            rcases hEE with hEt | hEf
            · subst hEt
              obtain ⟨A, c, w', q1, q2, q3, q4, q5, q6, q7⟩ := (HFIN.out wr _ hu hR (by rw [Of.setR_len]; exact hml) at_ tt hlt2 (by omega)).2
              subst q2
              have HQ1 := Lib.hid (q1 28)
              have HQ := Lib.hid (And.intro (And.intro q3 q4) (And.intro q5 (And.intro q6 q7)))
              clear q1 q3 q4 q5 q6 q7 hlen HF1 HFIN HEND0 HR0 HS0 HRD HG hg
              go_wp2_with (at_builtin; refine Lib.wpList_append_run _ rfl _ _ _ _ rfl _ _ rfl rfl _ _ HQ1.out ?_)
              ((try simp only [Exit.inBlock, Exit.then]); refine bodyPost_ret (results_tmp4 rfl _ _ _) rfl ?_)
              have HOL : Hid ((outB x many) = (x.b.drop at_).take (tt - at_)) := by
                unfold Hid; rw [HOUT.out, HD.out]
              have HOLL : Hid ((outB x many).length = tt - at_) := by
                unfold Hid; have := HLN.out; rw [HOL.out, List.length_take, List.length_drop]; omega
              rw [HOLL.out, HOL.out, HD.out]
              refine ⟨A, c, rfl, HQ.out.1.1, HQ.out.1.2, HQ.out.2.1, hb, hs, ?_, HFR.out.1, HFR.out.2, HQ.out.2.2.2⟩
              rw [HNX.out, HD.out]
              exact HQ.out.2.2.1
            · subst hEf
              obtain ⟨A, c, w', q1, q2, q3, q4, q5, q6, q7, q8⟩ := (HFIN.out wr _ hu hR (by rw [Of.setR_len]; exact hml) at_ tt hlt2 (by omega)).1
              subst q2
              have HQ1 := Lib.hid (q1 28)
              have HQ := Lib.hid (And.intro (And.intro q3 q4) (And.intro q5 (And.intro q6 q7)))
              clear q1 q3 q4 q5 q6 q7 q8 hlen HF1 HFIN HEND0 HR0 HS0 HRD HG hg
              go_wp2_with (at_builtin; refine Lib.wpList_append_run _ rfl _ _ _ _ rfl _ _ rfl rfl _ _ HQ1.out ?_)
              ((try simp only [Exit.inBlock, Exit.then]); refine bodyPost_ret (results_tmp4 rfl _ _ _) rfl ?_)
              have HOL : Hid ((outB x many) = (x.b.drop at_).take (tt - at_)) := by
                unfold Hid; rw [HOUT.out, HD.out]
              have HOLL : Hid ((outB x many).length = tt - at_) := by
                unfold Hid; have := HLN.out; rw [HOL.out, List.length_take, List.length_drop]; omega
              rw [HOLL.out, HOL.out, HD.out]
              refine ⟨A, c, rfl, HQ.out.1.1, HQ.out.1.2, HQ.out.2.1, hb, hs, ?_, HFR.out.1, HFR.out.2, HQ.out.2.2.2⟩
              rw [HNX.out, HD.out]
              exact HQ.out.2.2.1
  · obtain ⟨tt, htt⟩ : ∃ tt, at_ + R = tt := ⟨_, rfl⟩
    rw [htt] at hd hr2
    have HG : Hid (∀ q, at_ ≤ q → q ≤ tt → (q < tt ↔ (q < x.s.length ∧ (q : Int) - (at_ : Int) < (many : Int) ∧ x.s.getD q 0 = 0 ∧ (q : Int) < (x.lim : Int)))) := fun q hq1 hq2 => by
      have := h3 (q - at_) (by omega)
      rw [show at_ + (q - at_) = q by omega] at this
      constructor
      · intro hh
        have h5 := this.1 (by omega)
        exact ⟨by omega, by omega, h5.2.2.1, by omega⟩
      · rintro hh
        have h5 := this.2 ⟨hh.1, by omega, hh.2.2.1, by omega⟩
        omega
    have hlt2 : at_ < tt := by
      have := h3 0 (by omega)
      have h5 := this.2 ⟨by omega, hm0, by rw [Nat.add_zero, ← h1]; exact Of.fst_at (by omega), by omega⟩
      omega
    have HD := Lib.hid hd
    clear hd h3 htt hr1
    rw [hE] at HD
    clear hE
    rw [HX2.out, h0, if_neg (by omega)] at HF2
    rw [HX0.out, h1, if_pos h2] at HF0
    have h4' : ¬ (x.lim : Int) ≤ (at_ : Int) := by omega
    clear HX0 HX2 h1 h0
    have hEE : E = true ∨ E = false := by cases E <;> simp
    generalize hbl : x.b.length = bl at *
    generalize hml : x.s.length = m at *
    have HLN := Lib.hid hlen
    go_enter Try.func24, Try.ntmps24
    go_wp2_with fail
    refine HF2.out.mono ?_
    rintro e w1 ⟨rfl, rfl⟩
    go_wp2_with fail
    refine HF0.out.mono ?_
    rintro e w1 ⟨rfl, rfl⟩
    go_upto_region 10 with fail
    go_cut [12] (fun v wx => v = .bool E ∧ wx = w)
    case first =>
      rcases HC4.out with ⟨rfl, rfl⟩ | ⟨rfl, rfl, rfl⟩ | ⟨rfl, rfl, rfl⟩ | ⟨rfl, he0, he2, rfl⟩
      all_goals
        go_wp2_with fail
        go_meet
        exact ⟨rfl, rfl⟩
    case rest =>
      obtain ⟨rfl, rfl⟩ := hcut
      clear f0 f1 f2 f3 f4 z3
      go_wp2
      go_loopw [13] (fun i wr => ∃ q : Nat, at_ ≤ q ∧ q ≤ tt ∧ i = .int .i64 q ∧ RowI wr (.slice base m cs) hs (Of.setR x.s at_ q 1) ∧ Upd hs wc wr) (fun i _ => tt - (intOf i).toNat)
      case atStart => exact ⟨at_, Nat.le_refl _, by omega, rfl, HR0.out at_, Upd.refl _ _⟩
      case round =>
        obtain ⟨q, hq1, hq2, rfl, hR, hu⟩ := hrel
        obtain ⟨f0, f1, f2, f3, f4, z3, hrl⟩ := HF1.out wr hu
        have hg := HG.out q hq1 hq2
        by_cases hqt : q < tt
        · obtain ⟨g1, g2, g3, g4⟩ := hg.1 hqt
          obtain ⟨rfl, hc, hz, hR2, hu2⟩ := HRD.out _ q wr (by rw [Of.setR_len]; exact hml) g1 hR hu
          rw [Of.setR_getD _ _ _ _ _ (by rw [hml]; exact g1), if_neg (by omega), g3] at hc
          rw [Of.setR_set _ _ _ _ hq1 (by rw [hml]; exact g1)] at hR2
          have HQ := Lib.hid (And.intro hR2 hu2)
          clear hR2 hu2 hR hu
          have hk3 : IntKind.i64.wrap ((q : Int) + 1) = (q : Int) + 1 := by rw [IntKind.wrap_i64]; omega
          have hkc : q < cs := by omega
          clear hlen g3 hg HG HRD HF1 HFIN HEND0 HR0 HS0
          go_wp2
          go_roundw
          case rel => exact ⟨q + 1, by omega, by omega, by go_num, HQ.out.1, HQ.out.2⟩
          case measure => simp [intOf]; omega
        · obtain rfl : tt = q := by omega
          by_cases hw1 : tt < m
          · have HD2 : Hid (Of.due x many = (at_, tt, E && false, true)) := by
              have := HD.out; unfold Hid; rw [this]; congr 3; congr 1; simp; omega
            clear HD
            have HD := HD2
            clear HD2
            have hbe : ((tt : Int) == (m : Int)) = false := by simp; omega
            have hbc : at_ < cb := by omega
            have hbt : tt ≤ cb := by omega
            have hwr : IntKind.i64.wrap ((tt : Int) - (at_ : Int)) = (tt : Int) - (at_ : Int) := by rw [IntKind.wrap_i64]; omega
            by_cases hw2 : (tt : Int) - (at_ : Int) < (many : Int)
            · obtain ⟨rfl, hc, hz, -, -⟩ := HRD.out _ tt wr (by rw [Of.setR_len]; exact hml) hw1 hR hu
              rw [Of.setR_getD _ _ _ _ _ (by rw [hml]; exact hw1), if_neg (by omega)] at hc
              have hkc : tt < cs := by omega
              by_cases hy : x.s.getD tt 0 = 0
              · have hw4 : ¬ (tt : Int) < (x.lim : Int) := fun e => hqt (hg.2 ⟨hw1, hw2, hy, e⟩)
                rw [hy] at hc
                clear hy hg
                rcases hEE with hEt | hEf
                · subst hEt
                  obtain ⟨A, c, w', q1, q2, q3, q4, q5, q6, q7, q8⟩ := (HFIN.out wr _ hu hR (by rw [Of.setR_len]; exact hml) at_ tt hlt2 (by omega)).1
                  subst q2
                  have HQ1 := Lib.hid (q1 28)
                  have HQ := Lib.hid (And.intro (And.intro q3 q4) (And.intro q5 (And.intro q6 q7)))
                  clear q1 q3 q4 q5 q6 q7 q8 hlen HF1 HFIN HEND0 HR0 HS0 HRD HG
                  go_wp2_with (at_builtin; refine Lib.wpList_append_run _ rfl _ _ _ _ rfl _ _ rfl rfl _ _ HQ1.out ?_)
                  ((try simp only [Exit.inBlock, Exit.then]); refine bodyPost_ret (results_tmp4 rfl _ _ _) rfl ?_)
                  have HOL : Hid ((outB x many) = (x.b.drop at_).take (tt - at_)) := by
                    unfold Hid; rw [HOUT.out, HD.out]
                  have HOLL : Hid ((outB x many).length = tt - at_) := by
                    unfold Hid; have := HLN.out; rw [HOL.out, List.length_take, List.length_drop]; omega
                  rw [HOLL.out, HOL.out, HD.out]
                  refine ⟨A, c, rfl, HQ.out.1.1, HQ.out.1.2, HQ.out.2.1, hb, hs, ?_, HFR.out.1, HFR.out.2, HQ.out.2.2.2⟩
                  rw [HNX.out, HD.out]
                  exact HQ.out.2.2.1
                · subst hEf
                  obtain ⟨A, c, w', q1, q2, q3, q4, q5, q6, q7, q8⟩ := (HFIN.out wr _ hu hR (by rw [Of.setR_len]; exact hml) at_ tt hlt2 (by omega)).1
                  subst q2
                  have HQ1 := Lib.hid (q1 28)
                  have HQ := Lib.hid (And.intro (And.intro q3 q4) (And.intro q5 (And.intro q6 q7)))
                  clear q1 q3 q4 q5 q6 q7 q8 hlen HF1 HFIN HEND0 HR0 HS0 HRD HG
                  go_wp2_with (at_builtin; refine Lib.wpList_append_run _ rfl _ _ _ _ rfl _ _ rfl rfl _ _ HQ1.out ?_)
                  ((try simp only [Exit.inBlock, Exit.then]); refine bodyPost_ret (results_tmp4 rfl _ _ _) rfl ?_)
                  have HOL : Hid ((outB x many) = (x.b.drop at_).take (tt - at_)) := by
                    unfold Hid; rw [HOUT.out, HD.out]
                  have HOLL : Hid ((outB x many).length = tt - at_) := by
                    unfold Hid; have := HLN.out; rw [HOL.out, List.length_take, List.length_drop]; omega
                  rw [HOLL.out, HOL.out, HD.out]
                  refine ⟨A, c, rfl, HQ.out.1.1, HQ.out.1.2, HQ.out.2.1, hb, hs, ?_, HFR.out.1, HFR.out.2, HQ.out.2.2.2⟩
                  rw [HNX.out, HD.out]
                  exact HQ.out.2.2.1
              · clear hg
                generalize x.s.getD tt 0 = y at *
                have hdy : ((y : Int) == (0 : Int)) = false := by simp; omega
                clear hy
                rcases hEE with hEt | hEf
                · subst hEt
                  obtain ⟨A, c, w', q1, q2, q3, q4, q5, q6, q7, q8⟩ := (HFIN.out wr _ hu hR (by rw [Of.setR_len]; exact hml) at_ tt hlt2 (by omega)).1
                  subst q2
                  have HQ1 := Lib.hid (q1 28)
                  have HQ := Lib.hid (And.intro (And.intro q3 q4) (And.intro q5 (And.intro q6 q7)))
                  clear q1 q3 q4 q5 q6 q7 q8 hlen HF1 HFIN HEND0 HR0 HS0 HRD HG
                  go_wp2_with (at_builtin; refine Lib.wpList_append_run _ rfl _ _ _ _ rfl _ _ rfl rfl _ _ HQ1.out ?_)
                  ((try simp only [Exit.inBlock, Exit.then]); refine bodyPost_ret (results_tmp4 rfl _ _ _) rfl ?_)
                  have HOL : Hid ((outB x many) = (x.b.drop at_).take (tt - at_)) := by
                    unfold Hid; rw [HOUT.out, HD.out]
                  have HOLL : Hid ((outB x many).length = tt - at_) := by
                    unfold Hid; have := HLN.out; rw [HOL.out, List.length_take, List.length_drop]; omega
                  rw [HOLL.out, HOL.out, HD.out]
                  refine ⟨A, c, rfl, HQ.out.1.1, HQ.out.1.2, HQ.out.2.1, hb, hs, ?_, HFR.out.1, HFR.out.2, HQ.out.2.2.2⟩
                  rw [HNX.out, HD.out]
                  exact HQ.out.2.2.1
                · subst hEf
                  obtain ⟨A, c, w', q1, q2, q3, q4, q5, q6, q7, q8⟩ := (HFIN.out wr _ hu hR (by rw [Of.setR_len]; exact hml) at_ tt hlt2 (by omega)).1
                  subst q2
                  have HQ1 := Lib.hid (q1 28)
                  have HQ := Lib.hid (And.intro (And.intro q3 q4) (And.intro q5 (And.intro q6 q7)))
                  clear q1 q3 q4 q5 q6 q7 q8 hlen HF1 HFIN HEND0 HR0 HS0 HRD HG
                  go_wp2_with (at_builtin; refine Lib.wpList_append_run _ rfl _ _ _ _ rfl _ _ rfl rfl _ _ HQ1.out ?_)
                  ((try simp only [Exit.inBlock, Exit.then]); refine bodyPost_ret (results_tmp4 rfl _ _ _) rfl ?_)
                  have HOL : Hid ((outB x many) = (x.b.drop at_).take (tt - at_)) := by
                    unfold Hid; rw [HOUT.out, HD.out]
                  have HOLL : Hid ((outB x many).length = tt - at_) := by
                    unfold Hid; have := HLN.out; rw [HOL.out, List.length_take, List.length_drop]; omega
                  rw [HOLL.out, HOL.out, HD.out]
                  refine ⟨A, c, rfl, HQ.out.1.1, HQ.out.1.2, HQ.out.2.1, hb, hs, ?_, HFR.out.1, HFR.out.2, HQ.out.2.2.2⟩
                  rw [HNX.out, HD.out]
                  exact HQ.out.2.2.1
            · rcases hEE with hEt | hEf
              · subst hEt
                obtain ⟨A, c, w', q1, q2, q3, q4, q5, q6, q7, q8⟩ := (HFIN.out wr _ hu hR (by rw [Of.setR_len]; exact hml) at_ tt hlt2 (by omega)).1
                subst q2
                have HQ1 := Lib.hid (q1 28)
                have HQ := Lib.hid (And.intro (And.intro q3 q4) (And.intro q5 (And.intro q6 q7)))
                clear q1 q3 q4 q5 q6 q7 q8 hlen HF1 HFIN HEND0 HR0 HS0 HRD HG hg
                go_wp2_with (at_builtin; refine Lib.wpList_append_run _ rfl _ _ _ _ rfl _ _ rfl rfl _ _ HQ1.out ?_)
                ((try simp only [Exit.inBlock, Exit.then]); refine bodyPost_ret (results_tmp4 rfl _ _ _) rfl ?_)
                have HOL : Hid ((outB x many) = (x.b.drop at_).take (tt - at_)) := by
                  unfold Hid; rw [HOUT.out, HD.out]
                have HOLL : Hid ((outB x many).length = tt - at_) := by
                  unfold Hid; have := HLN.out; rw [HOL.out, List.length_take, List.length_drop]; omega
                rw [HOLL.out, HOL.out, HD.out]
                refine ⟨A, c, rfl, HQ.out.1.1, HQ.out.1.2, HQ.out.2.1, hb, hs, ?_, HFR.out.1, HFR.out.2, HQ.out.2.2.2⟩
                rw [HNX.out, HD.out]
                exact HQ.out.2.2.1
              · subst hEf
                obtain ⟨A, c, w', q1, q2, q3, q4, q5, q6, q7, q8⟩ := (HFIN.out wr _ hu hR (by rw [Of.setR_len]; exact hml) at_ tt hlt2 (by omega)).1
                subst q2
                have HQ1 := Lib.hid (q1 28)
                have HQ := Lib.hid (And.intro (And.intro q3 q4) (And.intro q5 (And.intro q6 q7)))
                clear q1 q3 q4 q5 q6 q7 q8 hlen HF1 HFIN HEND0 HR0 HS0 HRD HG hg
                go_wp2_with (at_builtin; refine Lib.wpList_append_run _ rfl _ _ _ _ rfl _ _ rfl rfl _ _ HQ1.out ?_)
                ((try simp only [Exit.inBlock, Exit.then]); refine bodyPost_ret (results_tmp4 rfl _ _ _) rfl ?_)
                have HOL : Hid ((outB x many) = (x.b.drop at_).take (tt - at_)) := by
                  unfold Hid; rw [HOUT.out, HD.out]
                have HOLL : Hid ((outB x many).length = tt - at_) := by
                  unfold Hid; have := HLN.out; rw [HOL.out, List.length_take, List.length_drop]; omega
                rw [HOLL.out, HOL.out, HD.out]
                refine ⟨A, c, rfl, HQ.out.1.1, HQ.out.1.2, HQ.out.2.1, hb, hs, ?_, HFR.out.1, HFR.out.2, HQ.out.2.2.2⟩
                rw [HNX.out, HD.out]
                exact HQ.out.2.2.1
          · have hmt : tt = m := by omega
            have HD2 : Hid (Of.due x many = (at_, tt, E && true, true)) := by
              have := HD.out; unfold Hid; rw [this]; congr 3; congr 1; simpa using hmt
            clear HD
            have HD := HD2
            clear HD2
            subst hmt
            have hbc : at_ < cb := by omega
            have hbt : tt ≤ cb := by omega
            have hwr : IntKind.i64.wrap ((tt : Int) - (at_ : Int)) = (tt : Int) - (at_ : Int) := by rw [IntKind.wrap_i64]; omega
            rcases hEE with hEt | hEf
            · subst hEt
              obtain ⟨A, c, w', q1, q2, q3, q4, q5, q6, q7⟩ := (HFIN.out wr _ hu hR (by rw [Of.setR_len]; exact hml) at_ tt hlt2 (by omega)).2
              subst q2
              have HQ1 := Lib.hid (q1 28)
              have HQ := Lib.hid (And.intro (And.intro q3 q4) (And.intro q5 (And.intro q6 q7)))
              clear q1 q3 q4 q5 q6 q7 hlen HF1 HFIN HEND0 HR0 HS0 HRD HG hg
              go_wp2_with (at_builtin; refine Lib.wpList_append_run _ rfl _ _ _ _ rfl _ _ rfl rfl _ _ HQ1.out ?_)
              ((try simp only [Exit.inBlock, Exit.then]); refine bodyPost_ret (results_tmp4 rfl _ _ _) rfl ?_)
              have HOL : Hid ((outB x many) = (x.b.drop at_).take (tt - at_)) := by
                unfold Hid; rw [HOUT.out, HD.out]
              have HOLL : Hid ((outB x many).length = tt - at_) := by
                unfold Hid; have := HLN.out; rw [HOL.out, List.length_take, List.length_drop]; omega
              rw [HOLL.out, HOL.out, HD.out]
              refine ⟨A, c, rfl, HQ.out.1.1, HQ.out.1.2, HQ.out.2.1, hb, hs, ?_, HFR.out.1, HFR.out.2, HQ.out.2.2.2⟩
              rw [HNX.out, HD.out]
              exact HQ.out.2.2.1
            · subst hEf
              obtain ⟨A, c, w', q1, q2, q3, q4, q5, q6, q7, q8⟩ := (HFIN.out wr _ hu hR (by rw [Of.setR_len]; exact hml) at_ tt hlt2 (by omega)).1
              subst q2
              have HQ1 := Lib.hid (q1 28)
              have HQ := Lib.hid (And.intro (And.intro q3 q4) (And.intro q5 (And.intro q6 q7)))
              clear q1 q3 q4 q5 q6 q7 q8 hlen HF1 HFIN HEND0 HR0 HS0 HRD HG hg
              go_wp2_with (at_builtin; refine Lib.wpList_append_run _ rfl _ _ _ _ rfl _ _ rfl rfl _ _ HQ1.out ?_)
              ((try simp only [Exit.inBlock, Exit.then]); refine bodyPost_ret (results_tmp4 rfl _ _ _) rfl ?_)
              have HOL : Hid ((outB x many) = (x.b.drop at_).take (tt - at_)) := by
                unfold Hid; rw [HOUT.out, HD.out]
              have HOLL : Hid ((outB x many).length = tt - at_) := by
                unfold Hid; have := HLN.out; rw [HOL.out, List.length_take, List.length_drop]; omega
              rw [HOLL.out, HOL.out, HD.out]
              refine ⟨A, c, rfl, HQ.out.1.1, HQ.out.1.2, HQ.out.2.1, hb, hs, ?_, HFR.out.1, HFR.out.2, HQ.out.2.2.2⟩
              rw [HNX.out, HD.out]
              exact HQ.out.2.2.1
  · rw [HX2.out, h0, if_neg (by omega)] at HF2
    rw [HX0.out, if_pos h2] at HF0
    have h4' : (x.lim : Int) ≤ (Of.fst 0 x.s : Int) := by omega
    have HD := Lib.hid hd
    have HOL : Hid ((outB x many).length = 0) := by
      unfold Hid; rw [HOUT.out, HD.out]; simp
    clear hd HFIN HF1 HRD HR0 HX0 HX2 h0 hE
    generalize Of.fst 0 x.s = p0 at *
    obtain ⟨bl, hbl⟩ : ∃ bl, x.b.length = bl := ⟨_, rfl⟩
    rw [hbl] at f0
    clear hlen
    go_enter Try.func24, Try.ntmps24
    go_wp2_with fail
    refine HF2.out.mono ?_
    rintro e w1 ⟨rfl, rfl⟩
    go_wp2_with fail
    refine HF0.out.mono ?_
    rintro e w1 ⟨rfl, rfl⟩
    go_wp2
    ((try simp only [Exit.inBlock, Exit.then]); refine bodyPost_ret (results_tmp4 rfl _ _ _) rfl ?_)
    refine ⟨none, 0, ?_, ?_, Nat.zero_le _, fun hp => absurd hp (by rw [HOL.out]; omega), hb, hs, ?_, HFR.out.1, HFR.out.2, ?_⟩
    · rw [HOL.out, HD.out]; rfl
    · rw [HOL.out]; omega
    · rw [HNX.out, HD.out]; simp only [Of.setR_none]; exact HH.out
    · exact Upd3.refl _ _ _ _
  · rw [HX2.out, h0, if_neg (by omega)] at HF2
    rw [HX0.out, h1, if_neg (by omega)] at HF0
    obtain rfl : E = true := by rw [← hE]; exact h2
    have HD := Lib.hid hd
    have HLL : Hid (x.s.length = x.b.length) := hlen
    have HOL : Hid ((outB x many).length = 0) := by
      unfold Hid; rw [HOUT.out, HD.out]; simp
    clear hd HFIN HF1 HRD HR0 HX0 HX2 h0 hE h1
    generalize Of.fst 0 x.s = p0 at *
    obtain ⟨bl, hbl⟩ : ∃ bl, x.b.length = bl := ⟨_, rfl⟩
    rw [hbl] at f0
    clear hlen
    go_enter Try.func24, Try.ntmps24
    go_wp2_with fail
    refine HF2.out.mono ?_
    rintro e w1 ⟨rfl, rfl⟩
    go_wp2_with fail
    refine HF0.out.mono ?_
    rintro e w1 ⟨rfl, rfl⟩
    go_upto_region 10 with fail
    go_cut [12] (fun v wx => v = .bool true ∧ wx = w)
    case first =>
      rcases HC4.out with ⟨rfl, he⟩ | ⟨rfl, rfl, he⟩ | ⟨rfl, rfl, he⟩ | ⟨rfl, he0, he2, he⟩
      all_goals try cases he
      all_goals
        go_wp2_with fail
        go_meet
        exact ⟨rfl, rfl⟩
    case rest =>
      obtain ⟨rfl, rfl⟩ := hcut
      go_wp2
      ((try simp only [Exit.inBlock, Exit.then]); refine bodyPost_ret (results_tmp4 rfl _ _ _) rfl ?_)
      refine ⟨none, 0, ?_, ?_, Nat.zero_le _, fun hp => absurd hp (by rw [HOL.out]; omega), hb, hs, ?_, HFR.out.1, HFR.out.2, ?_⟩
      · rw [HOL.out, HD.out]; simp only [HLL.out, hbl]; rfl
      · rw [HOL.out]; omega
      · rw [HNX.out, HD.out]; simp only [Of.setR_none]; exact HEND0.out.1
      · exact HEND0.out.2
  · rw [HX2.out, h0, if_neg (by omega)] at HF2
    rw [HX0.out, h1, if_neg (by omega)] at HF0
    obtain rfl : E = false := by rw [← hE]; exact h2
    have HD := Lib.hid hd
    have HOL : Hid ((outB x many).length = 0) := by
      unfold Hid; rw [HOUT.out, HD.out]; simp
    clear hd HFIN HF1 HRD HR0 HX0 HX2 h0 hE h1
    generalize Of.fst 0 x.s = p0 at *
    obtain ⟨bl, hbl⟩ : ∃ bl, x.b.length = bl := ⟨_, rfl⟩
    rw [hbl] at f0
    clear hlen
    go_enter Try.func24, Try.ntmps24
    go_wp2_with fail
    refine HF2.out.mono ?_
    rintro e w1 ⟨rfl, rfl⟩
    go_wp2_with fail
    refine HF0.out.mono ?_
    rintro e w1 ⟨rfl, rfl⟩
    go_upto_region 10 with fail
    go_cut [12] (fun v wx => v = .bool false ∧ wx = w)
    case first =>
      rcases HC4.out with ⟨rfl, he⟩ | ⟨rfl, rfl, he⟩ | ⟨rfl, rfl, he⟩ | ⟨rfl, he0, he2, he⟩
      all_goals try cases he
      all_goals
        go_wp2_with fail
        go_meet
        exact ⟨rfl, rfl⟩
    case rest =>
      obtain ⟨rfl, rfl⟩ := hcut
      go_wp2
      ((try simp only [Exit.inBlock, Exit.then]); refine bodyPost_ret (results_tmp4 rfl _ _ _) rfl ?_)
      refine ⟨none, 0, ?_, ?_, Nat.zero_le _, fun hp => absurd hp (by rw [HOL.out]; omega), hb, hs, ?_, HFR.out.1, HFR.out.2, ?_⟩
      · rw [HOL.out, HD.out]; rfl
      · rw [HOL.out]; omega
      · rw [HNX.out, HD.out]; simp only [Of.setR_none]; exact HH.out
      · exact Upd3.refl _ _ _ _
end Go.Proofs.Ytdloeakmoaoalaa
