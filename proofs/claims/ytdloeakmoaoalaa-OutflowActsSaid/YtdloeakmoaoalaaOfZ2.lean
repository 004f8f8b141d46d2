/- The document's answer for layer 17, walked: Had, Done, within, Acked, Lost. -/
import Derived.Test.YtdloeakmoaoalaaRows
import Derived.Test.YtdloeakmoaoalaaAid
import Derived.Test.YtdloeakmoaoalaaPlainOf
import Derived.Test.YtdloeakmoaoalaaPlainOf2
import Derived.Test.YtdloeakmoaoalaaPlainOf4
import Derived.Test.YtdloeakmoaoalaaPlainOf5
import Derived.Test.YtdloeakmoaoalaaOfW
import Derived.Test.YtdloeakmoaoalaaOfX
import Derived.Test.YtdloeakmoaoalaaOfA
import Derived.Test.YtdloeakmoaoalaaOfB
import Derived.Test.YtdloeakmoaoalaaOfC
import Derived.Test.YtdloeakmoaoalaaOfM
import Derived.Test.YtdloeakmoaoalaaOfP
import Derived.Test.YtdloeakmoaoalaaOfQ
import Derived.Test.YtdloeakmoaoalaaOfV
import Derived.Test.YtdloeakmoaoalaaOfZ
import Derived.WalkKit
import Derived.OwnWalk
import Derived.Laws.Rows
import Derived.Laws.Tables
import Derived.WalkSpells
import Derived.WalkLawsBesides
import Derived.BigQuiet
import Derived.Handy
import Derived.Lib.Walk
import Derived.Lib.Hide
import Derived.IntWalk
namespace Go.Proofs.Ytdloeakmoaoalaa
open Go.RowKit
set_option linter.unusedVariables false
set_option linter.unusedSimpArgs false

/-- Numbers for the rows that are none of the others'. -/
theorem Rf.fresh {w : World} {r hb hs : Nat} {x : Of.B} (h : Rf w r hb hs x) : ∃ hb' hs', Rf w r hb' hs' x ∧ r ≠ hb' ∧ r ≠ hs' ∧ hb' ≠ hs' ∧ (hb' = hb ∨ w.heap.size ≤ hb') ∧ (hs' = hs ∨ w.heap.size ≤ hs') := by
  obtain ⟨vb, vs, hO, hb1, hs1⟩ := h
  have hr := hO.lt
  rcases hb1 with h1 | ⟨c, rest, e1, e2, e3, e4, e5⟩
  · rcases hs1 with h2 | ⟨c', rest', q1, q2, q3, q4, q5⟩
    · exact ⟨w.heap.size, w.heap.size + 1, ⟨vb, vs, hO, Or.inl h1, Or.inl h2⟩, by omega, by omega, by omega, Or.inr (by omega), Or.inr (by omega)⟩
    · have hq := q5.lt
      have := hO.apart q5 (by decide)
      exact ⟨w.heap.size, hs, ⟨vb, vs, hO, Or.inl h1, Or.inr ⟨c', rest', q1, q2, q3, q4, q5⟩⟩, by omega, this, by omega, Or.inr (by omega), Or.inl rfl⟩
  · have he := e5.lt
    have hrb := hO.apart e5 (by decide)
    rcases hs1 with h2 | ⟨c', rest', q1, q2, q3, q4, q5⟩
    · exact ⟨hb, w.heap.size, ⟨vb, vs, hO, Or.inr ⟨c, rest, e1, e2, e3, e4, e5⟩, Or.inl h2⟩, hrb, by omega, by omega, Or.inl rfl, Or.inr (by omega)⟩
    · exact ⟨hb, hs, ⟨vb, vs, hO, Or.inr ⟨c, rest, e1, e2, e3, e4, e5⟩, Or.inr ⟨c', rest', q1, q2, q3, q4, q5⟩⟩, hrb, hO.apart q5 (by decide), e5.apart q5 (by decide), Or.inl rfl, Or.inl rfl⟩
theorem Upd3.back {r hb hs hb' hs' : Nat} {w w' : World} (h : Upd3 r hb' hs' w w') (h1 : hb' = hb ∨ w.heap.size ≤ hb') (h2 : hs' = hs ∨ w.heap.size ≤ hs') : Upd3 r hb hs w w' :=
  ⟨h.os, h.tape, h.output, h.size, fun k hk a b c => h.block k hk a (by omega) (by omega)⟩

theorem rhad_any (r hb hs off : Nat) (n : Int) (x : Of.B) (w : World) (h : Rf w r hb hs x) (hok : Of.Ok x) :
    Calls Try.prog 31 #[.pointer (some ⟨r, 0, none⟩), .int .u64 (off : Int), .int .i64 n] w fun e w' => e = .returned (.bool (hadI x off n)) ∧ w = w' := by
  obtain ⟨vb, vs, hO, hb1, hs1⟩ := h
  have hsl : x.s.length ≤ 2000 := by have := hok.len; have := hok.cap; omega
  obtain ⟨base, cs, rfl, hlc, hcm, _, hcell⟩ := hs1.form
  have hcsi : cs ≤ 9223372036854775807 := by simp only [maxLen] at hcm; omega
  have f1 : w.cell? ⟨r, 1, none⟩ = some (.slice base x.s.length cs) := by rw [hO.cell]; rfl
  have HDEF : Hid (hadI x off n = (decide (0 ≤ n) && Of.had x off n.toNat)) := rfl
  have HCELL := Lib.hid hcell
  have HM : Hid (x.s.length = x.s.length) := rfl
  clear hO hb1 hs1 hcell hok
  by_cases h1 : n < 0
  · have HF : Hid (hadI x off n = false) := by
      have := HDEF.out; unfold Hid; rw [this, decide_eq_false (by omega)]; rfl
    rw [HF.out]
    clear HDEF HCELL HF
    go_enter Try.func31, Try.ntmps31
    go_wp2
    go_ret
    exact ⟨rfl, rfl⟩
  · obtain ⟨k, rfl⟩ : ∃ k : Nat, n = k := ⟨n.toNat, by omega⟩
    rw [Int.toNat_natCast, decide_eq_true (by omega), Bool.true_and] at HDEF
    by_cases h2 : x.s.length < off
    · have HF : Hid (hadI x off k = false) := by
        have := HDEF.out; unfold Hid; rw [this]; unfold Of.had; rw [decide_eq_false (by omega)]; rfl
      rw [HF.out]
      clear HDEF HCELL HF
      generalize x.s.length = m at *
      go_enter Try.func31, Try.ntmps31
      go_wp2
      go_ret
      exact ⟨rfl, rfl⟩
    · by_cases h3 : x.s.length < off + k
      · have HF : Hid (hadI x off k = false) := by
          have := HDEF.out; unfold Hid; rw [this]; unfold Of.had; rw [decide_eq_false (by omega)]; rfl
        rw [HF.out]
        have h3' : (x.s.length : Int) - (off : Int) < (k : Int) := by omega
        clear HDEF HCELL HF h3
        generalize x.s.length = m at *
        go_enter Try.func31, Try.ntmps31
        go_wp2
        go_ret
        exact ⟨rfl, rfl⟩
      · have h3' : ¬ (x.s.length : Int) - (off : Int) < (k : Int) := by omega
        have HALL : Hid (hadI x off k = true ↔ ∀ i, off ≤ i → i < off + k → x.s.getD i 0 = 3) := by
          unfold Hid; rw [HDEF.out, Of.had_all _ _ _ (by omega)]; exact Of.all_at _ _ _ (by omega)
        clear HDEF
        generalize hadI x off k = R at *
        obtain ⟨E, hE⟩ : ∃ E, off + k = E := ⟨_, rfl⟩
        have hEm : E ≤ x.s.length := by omega
        have hwE : IntKind.i64.wrap ((off : Int) + (k : Int)) = (E : Int) := by rw [IntKind.wrap_i64]; omega
        have HLE : Hid (off ≤ E) := by unfold Hid; omega
        rw [hE] at HALL
        clear h3 hE
        generalize x.s.length = m at *
        go_enter Try.func31, Try.ntmps31
        go_wp2
        go_loopw [7] (fun i wr => ∃ q : Nat, off ≤ q ∧ q ≤ E ∧ i = .int .i64 q ∧ (∀ j, off ≤ j → j < q → x.s.getD j 0 = 3) ∧ wr = w) (fun i _ => E - (intOf i).toNat)
        case atStart => exact ⟨off, Nat.le_refl _, HLE.out, rfl, fun j h1 h2 => absurd h1 (by omega), (by first | rfl | trivial)⟩
        case round =>
          obtain ⟨q, hq1, hq2, rfl, hall, rfl⟩ := hrel
          have HAL := Lib.hid hall
          clear hall
          by_cases hqE : q < E
          · obtain ⟨rfl, hc⟩ := HCELL.out q (by omega)
            have hk3 : IntKind.i64.wrap ((q : Int) + 1) = (q : Int) + 1 := by rw [IntKind.wrap_i64]; omega
            have hkc : q < cs := by omega
            simp only [i64v] at hc
            by_cases hy : x.s.getD q 0 = 3
            · have HY := Lib.hid hy
              rw [hy] at hc
              clear hy
              go_wp2
              go_roundw
              case rel => exact ⟨q + 1, by omega, by omega, by go_num, fun j h1 h2 => by
                rcases Nat.lt_or_ge j q with h | h
                · exact HAL.out j h1 h
                · rw [show j = q by omega]; exact HY.out, (by first | rfl | trivial)⟩
              case measure => simp [intOf]; omega
            · have HR : Hid (R = false) := by
                unfold Hid
                cases hR : R with
                | false => rfl
                | true => exact absurd (HALL.out.1 hR q hq1 hqE) hy
              generalize x.s.getD q 0 = y at *
              have hd : ((y : Int) != (3 : Int)) = true := by simp; omega
              clear hy
              go_wp2
              go_ret
              exact ⟨by rw [HR.out]; rfl, (by first | rfl | trivial)⟩
          · obtain rfl : E = q := by omega
            have HR : Hid (R = true) := HALL.out.2 HAL.out
            go_wp2
            go_ret
            exact ⟨by rw [HR.out]; rfl, (by first | rfl | trivial)⟩

theorem rdone_any (r hb hs : Nat) (x : Of.B) (w : World) (h : Rf w r hb hs x) (hok : Of.Ok x) :
    Calls Try.prog 30 #[.pointer (some ⟨r, 0, none⟩)] w fun e w' => e = .returned (.bool (Of.done x)) ∧ w = w' := by
  have hH : Calls Try.prog 31 #[.pointer (some ⟨r, 0, none⟩), .int .u64 0, .int .i64 (x.s.length : Int)] w fun e w' => e = .returned (.bool (hadI x 0 x.s.length)) ∧ w = w' := rhad_any r hb hs 0 x.s.length x w h hok
  have HE : Hid (hadI x 0 x.s.length = x.s.all (· == 3)) := by
    unfold Hid hadI Of.had
    rw [Int.toNat_natCast, decide_eq_true (by omega), decide_eq_true (by omega), List.drop_zero, List.take_length]; rfl
  rw [HE.out] at hH
  have HD : Hid (Of.done x = (x.fin && x.en == 3 && x.s.all (· == 3))) := rfl
  obtain ⟨vb, vs, hO, hb1, hs1⟩ := h
  have hsl : x.s.length ≤ 2000 := by have := hok.len; have := hok.cap; omega
  obtain ⟨base, cs, rfl, hlc, hcm, _, hcell⟩ := hs1.form
  have hcsi : cs ≤ 9223372036854775807 := by simp only [maxLen] at hcm; omega
  have f1 : w.cell? ⟨r, 1, none⟩ = some (.slice base x.s.length cs) := by rw [hO.cell]; rfl
  have f2 : w.cell? ⟨r, 2, none⟩ = some (.bool x.fin) := by rw [hO.cell]; rfl
  have f3 : w.cell? ⟨r, 3, none⟩ = some (.int .i64 (x.en : Int)) := by rw [hO.cell]; rfl
  have HH := Lib.hid hH
  clear hO hb1 hs1 hcell hok hH HE
  rw [HD.out]
  clear HD
  generalize x.s.all (· == 3) = R at *
  generalize x.s.length = m at *
  generalize x.en = en at *
  cases hf : x.fin with
  | false =>
    rw [hf] at f2
    clear hf
    go_enter Try.func30, Try.ntmps30
    go_wp2
    go_ret
    exact ⟨rfl, rfl⟩
  | true =>
    rw [hf] at f2
    clear hf
    by_cases he : en = 3
    · subst he
      go_enter Try.func30, Try.ntmps30
      go_wp2_with fail
      refine HH.out.mono ?_
      rintro e w1 ⟨rfl, rfl⟩
      go_wp2
      go_ret
      exact ⟨by simp, rfl⟩
    · have hd : ((en : Int) == 3) = false := by simp; omega
      have HN := Lib.hid he
      clear he
      go_enter Try.func30, Try.ntmps30
      go_wp2
      go_ret
      exact ⟨by simp [HN.out], rfl⟩

theorem rwithin_any (k off : Nat) (n : Int) (hk : k ≤ 1000000) (hoff : off < 18446744073709551616) (hn : -9223372036854775808 ≤ n ∧ n ≤ 9223372036854775807) (w : World) :
    Calls Try.prog 46 #[.int .i64 (k : Int), .int .u64 (off : Int), .int .i64 n] w fun e w' => e = .returned (.bool (decide (off ≤ k ∧ (k : Int) < off + n))) ∧ w = w' := by
  by_cases h1 : off ≤ k
  · by_cases h2 : 0 < n
    · obtain ⟨N, rfl⟩ : ∃ N : Nat, n = N := ⟨n.toNat, by omega⟩
      have h2N : decide (0 < N) = true := decide_eq_true (by omega)
      by_cases h3 : k < off + N
      · have HR : Hid (decide (off ≤ k ∧ (k : Int) < off + (N : Int)) = true) := by unfold Hid; rw [decide_eq_true_eq]; omega
        have h3' : (k : Int) - (off : Int) < (N : Int) := by omega
        have h1' : (off : Int) ≤ (k : Int) := by omega
        rw [HR.out]
        clear HR
        go_enter Try.func46, Try.ntmps46
        go_wp2
        go_ret
        exact ⟨rfl, rfl⟩
      · have HR : Hid (decide (off ≤ k ∧ (k : Int) < off + (N : Int)) = false) := by unfold Hid; rw [decide_eq_false_iff_not]; omega
        have h3' : ¬ (k : Int) - (off : Int) < (N : Int) := by omega
        have h1' : (off : Int) ≤ (k : Int) := by omega
        rw [HR.out]
        clear HR
        go_enter Try.func46, Try.ntmps46
        go_wp2
        go_ret
        exact ⟨rfl, rfl⟩
    · have HR : Hid (decide (off ≤ k ∧ (k : Int) < off + n) = false) := by unfold Hid; rw [decide_eq_false_iff_not]; omega
      have h1' : (off : Int) ≤ (k : Int) := by omega
      rw [HR.out]
      clear HR
      by_cases h3 : (k : Int) - (off : Int) < IntKind.u64.wrap n
      · go_enter Try.func46, Try.ntmps46
        go_wp2
        all_goals go_ret
        all_goals exact ⟨rfl, rfl⟩
      · go_enter Try.func46, Try.ntmps46
        go_wp2
        all_goals go_ret
        all_goals exact ⟨rfl, rfl⟩
  · have HR : Hid (decide (off ≤ k ∧ (k : Int) < off + n) = false) := by unfold Hid; rw [decide_eq_false_iff_not]; omega
    have h1' : ¬ (off : Int) ≤ (k : Int) := by omega
    rw [HR.out]
    clear HR
    go_enter Try.func46, Try.ntmps46
    go_wp2
    go_ret
    exact ⟨rfl, rfl⟩

set_option maxHeartbeats 4000000 in
theorem racked_any (r hb0 hs0 off : Nat) (hoff : off < 18446744073709551616) (n : Int) (hn : -9223372036854775808 ≤ n ∧ n ≤ 9223372036854775807) (en : Bool) (x : Of.B) (w : World) (h : Rf w r hb0 hs0 x) (hok : Of.Ok x) :
    Calls Try.prog 26 #[.pointer (some ⟨r, 0, none⟩), .int .u64 (off : Int), .int .i64 n, .bool en] w fun e w' => e = .returned (.tuple #[]) ∧ ∃ hb hs, Rf w' r hb hs (Of.turn x off n en Of.fAck) ∧ (hb = hb0 ∨ w.heap.size ≤ hb) ∧ (hs = hs0 ∨ w.heap.size ≤ hs) ∧ Upd3 r hb0 hs0 w w' := by
  obtain ⟨hb, hs, h, hrb, hr, hbs, hfb, hfs⟩ := h.fresh
  obtain ⟨vb, vs, hO, hb1, hs1⟩ := h
  have hsl : x.s.length ≤ 2000 := by have := hok.len; have := hok.cap; omega
  have HW : Hid (∀ (k : Nat) (wq : World), k < x.s.length → Calls Try.prog 46 #[.int .i64 (k : Int), .int .u64 (off : Int), .int .i64 n] wq fun e w' => e = .returned (.bool (decide (off ≤ k ∧ (k : Int) < off + n))) ∧ wq = w') := fun k wq hk => rwithin_any k off n (by omega) hoff hn wq
  obtain ⟨m, hm⟩ : ∃ m, x.s.length = m := ⟨_, rfl⟩
  obtain ⟨base, cs, rfl, hlc, hcm, hbase, _⟩ := hs1.form
  have hcsi : cs ≤ 9223372036854775807 := by simp only [maxLen] at hcm; omega
  obtain ⟨t, ht⟩ : ∃ t, (Of.turn x off n en Of.fAck).s = t := ⟨_, rfl⟩
  have htl : t.length = m := by rw [← ht, Of.turn_len]; exact hm
  have hta : ∀ k, k < m → t.getD k 0 = if off ≤ k ∧ (k : Int) < off + n then Of.fAck (x.s.getD k 0) else x.s.getD k 0 := fun k hk => by
    rw [← ht]; exact Of.turn_at x off n en _ k (by omega)
  have hst : ∀ k, k < m → (t.take k ++ x.s.drop k).set k (t.getD k 0) = t.take (k + 1) ++ x.s.drop (k + 1) := fun k hk => by
    rw [← ht]; exact Of.turn_step x off n en _ k (by omega)
  have HEND : Hid (Of.turn x off n en Of.fAck = { x with s := t, en := if en && x.fin then Of.fAck x.en else x.en }) := by rw [← ht]; exact Of.turn_end ..
  have hmid : ∀ k, k ≤ m → (t.take k ++ x.s.drop k).length = m := fun k hk => by rw [Of.mid_len t x.s (by omega) k (by omega)]; exact hm
  have HRD : Hid (∀ k wq, k < m → RowI wq (.slice base m cs) hs (t.take k ++ x.s.drop k) → Upd hs w wq →
      base = some ⟨hs, 0, none⟩ ∧ wq.cell? ⟨hs, k, none⟩ = some (.int .i64 (x.s.getD k 0 : Nat)) ∧ wq.frozen? ⟨hs, k, none⟩ = false ∧
      (∀ v, v = t.getD k 0 → RowI (wq.setCell ⟨hs, k, none⟩ (.int .i64 (v : Nat))) (.slice base m cs) hs (t.take (k + 1) ++ x.s.drop (k + 1)) ∧ Upd hs w (wq.setCell ⟨hs, k, none⟩ (.int .i64 (v : Nat)))) ∧
      (t.getD k 0 = x.s.getD k 0 → RowI wq (.slice base m cs) hs (t.take (k + 1) ++ x.s.drop (k + 1)))) := fun k wq hk hR hu => by
    have hl := hmid k (by omega)
    have hR' : RowI wq (.slice base (t.take k ++ x.s.drop k).length cs) hs (t.take k ++ x.s.drop k) := by rw [hl]; exact hR
    have hgk : (t.take k ++ x.s.drop k).getD k 0 = x.s.getD k 0 := by rw [Of.mid_at t x.s (by omega) k k (by omega), if_neg (by omega)]
    obtain ⟨b', c', e1, _, _, _, hcell⟩ := hR'.form
    cases e1
    obtain ⟨rfl, hc⟩ := hcell k (by omega)
    rw [hgk] at hc
    refine ⟨rfl, hc, ?_, fun v hv => ⟨?_, hu.set _ _⟩, fun he => ?_⟩
    · rcases hR' with ⟨e, _⟩ | ⟨c', rest, e1, e2, e3, e4, e5⟩
      · cases e
      · exact e5.free _
    · have := hR'.set (i := k) (by omega) v
      rw [hl, hv, hst k hk] at this
      rw [hv]
      exact this
    · have h2 := hst k hk
      rw [he, ← hgk] at h2
      rw [← h2]
      have h3 : (t.take k ++ x.s.drop k).set k ((t.take k ++ x.s.drop k).getD k 0) = t.take k ++ x.s.drop k := by
        apply Of.list_ext (by simp)
        intro i hi
        rw [List.length_set] at hi
        rw [Of.set_getD _ _ _ _ hi]
        split
        · rename_i e; rw [e]
        · rfl
      rw [h3]; exact hR
  have HTA := Lib.hid hta
  have HF1 : Hid (∀ wq, Upd hs w wq → wq.cell? ⟨r, 1, none⟩ = some (.slice base m cs) ∧ wq.cell? ⟨r, 2, none⟩ = some (.bool x.fin) ∧ wq.cell? ⟨r, 3, none⟩ = some (.int .i64 (x.en : Int)) ∧ wq.frozen? ⟨r, 3, none⟩ = false) := fun wq hu => by
    have := hO.upd hu hr
    exact ⟨by rw [this.cell, ← hm]; rfl, by rw [this.cell]; rfl, by rw [this.cell]; rfl, this.free _⟩
  have HFIN : Hid (∀ wq, Upd hs w wq → RowI wq (.slice base m cs) hs (t.take m ++ x.s.drop m) → (Rf wq r hb hs { x with s := t } ∧ Upd3 r hb0 hs0 w wq) ∧ (∀ v : Nat, Rf (wq.setCell ⟨r, 3, none⟩ (.int .i64 (v : Int))) r hb hs { x with s := t, en := v } ∧ Upd3 r hb0 hs0 w (wq.setCell ⟨r, 3, none⟩ (.int .i64 (v : Int))))) := fun wq hu hR => by
    have hE : t.take m ++ x.s.drop m = t := by rw [List.take_of_length_le (by omega), List.drop_of_length_le (by omega), List.append_nil]
    rw [hE] at hR
    have hO2 := hO.upd hu hr
    have hbq := hb1.upd hu hbs
    have hu3 : Upd3 r hb hs w wq := ⟨hu.os, hu.tape, hu.output, hu.size, fun k hk _ _ h3 => hu.block k hk h3⟩
    refine ⟨⟨⟨vb, _, ?_, hbq, hR⟩, hu3.back hfb hfs⟩, fun v => ?_⟩
    · refine hO2.as ?_
      rw [hm]
    · have hu4 : Upd r wq (wq.setCell ⟨r, 3, none⟩ (.int .i64 (v : Int))) := (Upd.refl r wq).set _ _
      refine ⟨⟨vb, _, ?_, hbq.upd hu4 (Ne.symm hrb), hR.upd hu4 (Ne.symm hr)⟩, (hu3.trans (Upd3.one hu4 hb hs)).back hfb hfs⟩
      refine (hO2.set 3 _).as ?_
      rw [hm]
      rfl
  have HFR := Lib.hid (And.intro hfb hfs)
  have HS0 : Hid (RowI w (.slice base m cs) hs (t.take 0 ++ x.s.drop 0)) := by
    show RowI w (.slice base m cs) hs (t.take 0 ++ x.s.drop 0)
    rw [List.take_zero, List.nil_append, List.drop_zero, ← hm]; exact hs1
  rw [HEND.out]
  obtain ⟨ne, hne⟩ : ∃ ne, (if (en && x.fin) = true then Of.fAck x.en else x.en) = ne := ⟨_, rfl⟩
  rw [hne]
  have HNE := Lib.hid hne
  clear hne
  rw [hm] at hsl HW hlc
  have hen3 : x.en ≤ 3 := hok.en
  clear HEND hta htl ht hmid hst hO hb1 hs1 hok hrb hr hbs hfb hfs hbase hcm
  generalize x.fin = fin at *
  generalize hxe : x.en = xe at *
  go_enter Try.func26, Try.ntmps26
  go_wp2
  go_loopw [8] (fun i wq => ∃ k : Nat, k ≤ m ∧ i = .int .i64 k ∧ RowI wq (.slice base m cs) hs (t.take k ++ x.s.drop k) ∧ Upd hs w wq) (fun i _ => m - (intOf i).toNat)
  case atStart => exact ⟨0, Nat.zero_le _, rfl, HS0.out, Upd.refl _ _⟩
  case round =>
    obtain ⟨k, hk, rfl, hR, hu⟩ := hrel
    obtain ⟨f1, f2, f3, z3⟩ := HF1.out wr hu
    by_cases hkm : k < m
    · obtain ⟨rfl, hc, hz, hset, hsame⟩ := HRD.out k wr hkm hR hu
      have hta := HTA.out k hkm
      have hk3 : IntKind.i64.wrap ((k : Int) + 1) = (k : Int) + 1 := by rw [IntKind.wrap_i64]; omega
      have hkc : k < cs := by omega
      have HU := Lib.hid hu
      have HSET := Lib.hid hset
      have HSAME := Lib.hid hsame
      have HTK := Lib.hid hta
      clear hu hset hsame hta hR HRD HTA HF1 HFIN HS0
      generalize x.s.getD k 0 = y at *
      by_cases hin : off ≤ k ∧ (k : Int) < off + n
      · have hdec : decide (off ≤ k ∧ (k : Int) < off + n) = true := decide_eq_true hin
        have HT2 : Hid (t.getD k 0 = Of.fAck y) := by unfold Hid; rw [HTK.out, if_pos hin]
        have HWK := Lib.hid (HW.out k wr hkm)
        rw [hdec] at HWK
        clear HTK hin hdec HW
        by_cases hy : y ≠ 0
        · have HT3 : Hid (3 = t.getD k 0) := by unfold Hid; rw [HT2.out]; unfold Of.fAck; simp [hy]
          have hd : ((y : Int) != 0) = true := by simp; omega
          have HQ := Lib.hid (HSET.out 3 HT3.out)
          clear hy HSET HSAME HT2 HT3
          go_wp2_with fail
          refine HWK.out.mono ?_
          rintro e w1 ⟨rfl, rfl⟩
          go_wp2
          go_roundw
          case rel => exact ⟨k + 1, by omega, by go_num, HQ.out.1, HQ.out.2⟩
          case measure => simp [intOf]; omega
        · have HT3 : Hid (t.getD k 0 = y) := by unfold Hid; rw [HT2.out]; unfold Of.fAck; simp [Decidable.not_not.1 hy]
          have hd : ((y : Int) != 0) = false := by simp; omega
          have HQ := Lib.hid (HSAME.out HT3.out)
          clear hy HSET HSAME HT2 HT3
          go_wp2_with fail
          refine HWK.out.mono ?_
          rintro e w1 ⟨rfl, rfl⟩
          go_wp2
          go_roundw
          case rel => exact ⟨k + 1, by omega, by go_num, HQ.out, HU.out⟩
          case measure => simp [intOf]; omega
      · have hdec : decide (off ≤ k ∧ (k : Int) < off + n) = false := decide_eq_false hin
        have HT3 : Hid (t.getD k 0 = y) := by unfold Hid; rw [HTK.out, if_neg hin]
        have HWK := Lib.hid (HW.out k wr hkm)
        rw [hdec] at HWK
        have HQ := Lib.hid (HSAME.out HT3.out)
        clear HTK hin hdec HSET HSAME HT3 HW
        go_wp2_with fail
        refine HWK.out.mono ?_
        rintro e w1 ⟨rfl, rfl⟩
        go_wp2
        go_roundw
        case rel => exact ⟨k + 1, by omega, by go_num, HQ.out, HU.out⟩
        case measure => simp [intOf]; omega
    · obtain rfl : m = k := by omega
      have HQ := Lib.hid (HFIN.out wr hu hR)
      clear hu hR HRD HTA HF1 HFIN HS0 HW
      have hcase : ((en && fin) = false) ∨ (en = true ∧ fin = true) := by cases en <;> cases fin <;> simp
      rcases hcase with hc0 | ⟨rfl, rfl⟩
      · have HE : Hid (ne = xe) := by unfold Hid; rw [← HNE.out, hc0]; rfl
        cases en with
        | false =>
          go_wp2
          go_end0
          exact ⟨rfl, hb, hs, by rw [HE.out]; exact HQ.out.1.1, HFR.out.1, HFR.out.2, HQ.out.1.2⟩
        | true =>
          obtain rfl : fin = false := by simpa using hc0
          go_wp2
          go_end0
          exact ⟨rfl, hb, hs, by rw [HE.out]; exact HQ.out.1.1, HFR.out.1, HFR.out.2, HQ.out.1.2⟩
      · have HE : Hid (ne = Of.fAck xe) := HNE.out.symm
        by_cases hy : xe ≠ 0
        · have HT3 : Hid (Of.fAck xe = 3) := by unfold Hid Of.fAck; simp [hy]
          have hd : ((xe : Int) != 0) = true := by simp; omega
          clear hy
          go_wp2
          go_end0
          exact ⟨rfl, hb, hs, by rw [HE.out, HT3.out]; exact (HQ.out.2 3).1, HFR.out.1, HFR.out.2, (HQ.out.2 3).2⟩
        · have HT3 : Hid (Of.fAck xe = xe) := by unfold Hid Of.fAck; simp [Decidable.not_not.1 hy]
          have hd : ((xe : Int) != 0) = false := by simp; omega
          clear hy
          go_wp2
          go_end0
          exact ⟨rfl, hb, hs, by rw [HE.out, HT3.out]; exact HQ.out.1.1, HFR.out.1, HFR.out.2, HQ.out.1.2⟩

set_option maxHeartbeats 4000000 in
theorem rlost_any (r hb0 hs0 off : Nat) (hoff : off < 18446744073709551616) (n : Int) (hn : -9223372036854775808 ≤ n ∧ n ≤ 9223372036854775807) (en : Bool) (x : Of.B) (w : World) (h : Rf w r hb0 hs0 x) (hok : Of.Ok x) :
    Calls Try.prog 27 #[.pointer (some ⟨r, 0, none⟩), .int .u64 (off : Int), .int .i64 n, .bool en] w fun e w' => e = .returned (.tuple #[]) ∧ ∃ hb hs, Rf w' r hb hs (Of.turn x off n en Of.fLost) ∧ (hb = hb0 ∨ w.heap.size ≤ hb) ∧ (hs = hs0 ∨ w.heap.size ≤ hs) ∧ Upd3 r hb0 hs0 w w' := by
  obtain ⟨hb, hs, h, hrb, hr, hbs, hfb, hfs⟩ := h.fresh
  obtain ⟨vb, vs, hO, hb1, hs1⟩ := h
  have hsl : x.s.length ≤ 2000 := by have := hok.len; have := hok.cap; omega
  have HW : Hid (∀ (k : Nat) (wq : World), k < x.s.length → Calls Try.prog 46 #[.int .i64 (k : Int), .int .u64 (off : Int), .int .i64 n] wq fun e w' => e = .returned (.bool (decide (off ≤ k ∧ (k : Int) < off + n))) ∧ wq = w') := fun k wq hk => rwithin_any k off n (by omega) hoff hn wq
  obtain ⟨m, hm⟩ : ∃ m, x.s.length = m := ⟨_, rfl⟩
  obtain ⟨base, cs, rfl, hlc, hcm, hbase, _⟩ := hs1.form
  have hcsi : cs ≤ 9223372036854775807 := by simp only [maxLen] at hcm; omega
  obtain ⟨t, ht⟩ : ∃ t, (Of.turn x off n en Of.fLost).s = t := ⟨_, rfl⟩
  have htl : t.length = m := by rw [← ht, Of.turn_len]; exact hm
  have hta : ∀ k, k < m → t.getD k 0 = if off ≤ k ∧ (k : Int) < off + n then Of.fLost (x.s.getD k 0) else x.s.getD k 0 := fun k hk => by
    rw [← ht]; exact Of.turn_at x off n en _ k (by omega)
  have hst : ∀ k, k < m → (t.take k ++ x.s.drop k).set k (t.getD k 0) = t.take (k + 1) ++ x.s.drop (k + 1) := fun k hk => by
    rw [← ht]; exact Of.turn_step x off n en _ k (by omega)
  have HEND : Hid (Of.turn x off n en Of.fLost = { x with s := t, en := if en && x.fin then Of.fLost x.en else x.en }) := by rw [← ht]; exact Of.turn_end ..
  have hmid : ∀ k, k ≤ m → (t.take k ++ x.s.drop k).length = m := fun k hk => by rw [Of.mid_len t x.s (by omega) k (by omega)]; exact hm
  have HRD : Hid (∀ k wq, k < m → RowI wq (.slice base m cs) hs (t.take k ++ x.s.drop k) → Upd hs w wq →
      base = some ⟨hs, 0, none⟩ ∧ wq.cell? ⟨hs, k, none⟩ = some (.int .i64 (x.s.getD k 0 : Nat)) ∧ wq.frozen? ⟨hs, k, none⟩ = false ∧
      (∀ v, v = t.getD k 0 → RowI (wq.setCell ⟨hs, k, none⟩ (.int .i64 (v : Nat))) (.slice base m cs) hs (t.take (k + 1) ++ x.s.drop (k + 1)) ∧ Upd hs w (wq.setCell ⟨hs, k, none⟩ (.int .i64 (v : Nat)))) ∧
      (t.getD k 0 = x.s.getD k 0 → RowI wq (.slice base m cs) hs (t.take (k + 1) ++ x.s.drop (k + 1)))) := fun k wq hk hR hu => by
    have hl := hmid k (by omega)
    have hR' : RowI wq (.slice base (t.take k ++ x.s.drop k).length cs) hs (t.take k ++ x.s.drop k) := by rw [hl]; exact hR
    have hgk : (t.take k ++ x.s.drop k).getD k 0 = x.s.getD k 0 := by rw [Of.mid_at t x.s (by omega) k k (by omega), if_neg (by omega)]
    obtain ⟨b', c', e1, _, _, _, hcell⟩ := hR'.form
    cases e1
    obtain ⟨rfl, hc⟩ := hcell k (by omega)
    rw [hgk] at hc
    refine ⟨rfl, hc, ?_, fun v hv => ⟨?_, hu.set _ _⟩, fun he => ?_⟩
    · rcases hR' with ⟨e, _⟩ | ⟨c', rest, e1, e2, e3, e4, e5⟩
      · cases e
      · exact e5.free _
    · have := hR'.set (i := k) (by omega) v
      rw [hl, hv, hst k hk] at this
      rw [hv]
      exact this
    · have h2 := hst k hk
      rw [he, ← hgk] at h2
      rw [← h2]
      have h3 : (t.take k ++ x.s.drop k).set k ((t.take k ++ x.s.drop k).getD k 0) = t.take k ++ x.s.drop k := by
        apply Of.list_ext (by simp)
        intro i hi
        rw [List.length_set] at hi
        rw [Of.set_getD _ _ _ _ hi]
        split
        · rename_i e; rw [e]
        · rfl
      rw [h3]; exact hR
  have HTA := Lib.hid hta
  have HF1 : Hid (∀ wq, Upd hs w wq → wq.cell? ⟨r, 1, none⟩ = some (.slice base m cs) ∧ wq.cell? ⟨r, 2, none⟩ = some (.bool x.fin) ∧ wq.cell? ⟨r, 3, none⟩ = some (.int .i64 (x.en : Int)) ∧ wq.frozen? ⟨r, 3, none⟩ = false) := fun wq hu => by
    have := hO.upd hu hr
    exact ⟨by rw [this.cell, ← hm]; rfl, by rw [this.cell]; rfl, by rw [this.cell]; rfl, this.free _⟩
  have HFIN : Hid (∀ wq, Upd hs w wq → RowI wq (.slice base m cs) hs (t.take m ++ x.s.drop m) → (Rf wq r hb hs { x with s := t } ∧ Upd3 r hb0 hs0 w wq) ∧ (∀ v : Nat, Rf (wq.setCell ⟨r, 3, none⟩ (.int .i64 (v : Int))) r hb hs { x with s := t, en := v } ∧ Upd3 r hb0 hs0 w (wq.setCell ⟨r, 3, none⟩ (.int .i64 (v : Int))))) := fun wq hu hR => by
    have hE : t.take m ++ x.s.drop m = t := by rw [List.take_of_length_le (by omega), List.drop_of_length_le (by omega), List.append_nil]
    rw [hE] at hR
    have hO2 := hO.upd hu hr
    have hbq := hb1.upd hu hbs
    have hu3 : Upd3 r hb hs w wq := ⟨hu.os, hu.tape, hu.output, hu.size, fun k hk _ _ h3 => hu.block k hk h3⟩
    refine ⟨⟨⟨vb, _, ?_, hbq, hR⟩, hu3.back hfb hfs⟩, fun v => ?_⟩
    · refine hO2.as ?_
      rw [hm]
    · have hu4 : Upd r wq (wq.setCell ⟨r, 3, none⟩ (.int .i64 (v : Int))) := (Upd.refl r wq).set _ _
      refine ⟨⟨vb, _, ?_, hbq.upd hu4 (Ne.symm hrb), hR.upd hu4 (Ne.symm hr)⟩, (hu3.trans (Upd3.one hu4 hb hs)).back hfb hfs⟩
      refine (hO2.set 3 _).as ?_
      rw [hm]
      rfl
  have HFR := Lib.hid (And.intro hfb hfs)
  have HS0 : Hid (RowI w (.slice base m cs) hs (t.take 0 ++ x.s.drop 0)) := by
    show RowI w (.slice base m cs) hs (t.take 0 ++ x.s.drop 0)
    rw [List.take_zero, List.nil_append, List.drop_zero, ← hm]; exact hs1
  rw [HEND.out]
  obtain ⟨ne, hne⟩ : ∃ ne, (if (en && x.fin) = true then Of.fLost x.en else x.en) = ne := ⟨_, rfl⟩
  rw [hne]
  have HNE := Lib.hid hne
  clear hne
  rw [hm] at hsl HW hlc
  have hen3 : x.en ≤ 3 := hok.en
  clear HEND hta htl ht hmid hst hO hb1 hs1 hok hrb hr hbs hfb hfs hbase hcm
  generalize x.fin = fin at *
  generalize hxe : x.en = xe at *
  go_enter Try.func27, Try.ntmps27
  go_wp2
  go_loopw [8] (fun i wq => ∃ k : Nat, k ≤ m ∧ i = .int .i64 k ∧ RowI wq (.slice base m cs) hs (t.take k ++ x.s.drop k) ∧ Upd hs w wq) (fun i _ => m - (intOf i).toNat)
  case atStart => exact ⟨0, Nat.zero_le _, rfl, HS0.out, Upd.refl _ _⟩
  case round =>
    obtain ⟨k, hk, rfl, hR, hu⟩ := hrel
    obtain ⟨f1, f2, f3, z3⟩ := HF1.out wr hu
    by_cases hkm : k < m
    · obtain ⟨rfl, hc, hz, hset, hsame⟩ := HRD.out k wr hkm hR hu
      have hta := HTA.out k hkm
      have hk3 : IntKind.i64.wrap ((k : Int) + 1) = (k : Int) + 1 := by rw [IntKind.wrap_i64]; omega
      have hkc : k < cs := by omega
      have HU := Lib.hid hu
      have HSET := Lib.hid hset
      have HSAME := Lib.hid hsame
      have HTK := Lib.hid hta
      clear hu hset hsame hta hR HRD HTA HF1 HFIN HS0
      generalize x.s.getD k 0 = y at *
      by_cases hin : off ≤ k ∧ (k : Int) < off + n
      · have hdec : decide (off ≤ k ∧ (k : Int) < off + n) = true := decide_eq_true hin
        have HT2 : Hid (t.getD k 0 = Of.fLost y) := by unfold Hid; rw [HTK.out, if_pos hin]
        have HWK := Lib.hid (HW.out k wr hkm)
        rw [hdec] at HWK
        clear HTK hin hdec HW
        by_cases hy : y = 1
        · have HT3 : Hid (2 = t.getD k 0) := by unfold Hid; rw [HT2.out]; unfold Of.fLost; simp [hy]
          have hd : ((y : Int) == 1) = true := by simp; omega
          have HQ := Lib.hid (HSET.out 2 HT3.out)
          clear hy HSET HSAME HT2 HT3
          go_wp2_with fail
          refine HWK.out.mono ?_
          rintro e w1 ⟨rfl, rfl⟩
          go_wp2
          go_roundw
          case rel => exact ⟨k + 1, by omega, by go_num, HQ.out.1, HQ.out.2⟩
          case measure => simp [intOf]; omega
        · have HT3 : Hid (t.getD k 0 = y) := by unfold Hid; rw [HT2.out]; unfold Of.fLost; simp [hy]
          have hd : ((y : Int) == 1) = false := by simp; omega
          have HQ := Lib.hid (HSAME.out HT3.out)
          clear hy HSET HSAME HT2 HT3
          go_wp2_with fail
          refine HWK.out.mono ?_
          rintro e w1 ⟨rfl, rfl⟩
          go_wp2
          go_roundw
          case rel => exact ⟨k + 1, by omega, by go_num, HQ.out, HU.out⟩
          case measure => simp [intOf]; omega
      · have hdec : decide (off ≤ k ∧ (k : Int) < off + n) = false := decide_eq_false hin
        have HT3 : Hid (t.getD k 0 = y) := by unfold Hid; rw [HTK.out, if_neg hin]
        have HWK := Lib.hid (HW.out k wr hkm)
        rw [hdec] at HWK
        have HQ := Lib.hid (HSAME.out HT3.out)
        clear HTK hin hdec HSET HSAME HT3 HW
        go_wp2_with fail
        refine HWK.out.mono ?_
        rintro e w1 ⟨rfl, rfl⟩
        go_wp2
        go_roundw
        case rel => exact ⟨k + 1, by omega, by go_num, HQ.out, HU.out⟩
        case measure => simp [intOf]; omega
    · obtain rfl : m = k := by omega
      have HQ := Lib.hid (HFIN.out wr hu hR)
      clear hu hR HRD HTA HF1 HFIN HS0 HW
      have hcase : ((en && fin) = false) ∨ (en = true ∧ fin = true) := by cases en <;> cases fin <;> simp
      rcases hcase with hc0 | ⟨rfl, rfl⟩
      · have HE : Hid (ne = xe) := by unfold Hid; rw [← HNE.out, hc0]; rfl
        cases en with
        | false =>
          go_wp2
          go_end0
          exact ⟨rfl, hb, hs, by rw [HE.out]; exact HQ.out.1.1, HFR.out.1, HFR.out.2, HQ.out.1.2⟩
        | true =>
          obtain rfl : fin = false := by simpa using hc0
          go_wp2
          go_end0
          exact ⟨rfl, hb, hs, by rw [HE.out]; exact HQ.out.1.1, HFR.out.1, HFR.out.2, HQ.out.1.2⟩
      · have HE : Hid (ne = Of.fLost xe) := HNE.out.symm
        by_cases hy : xe = 1
        · have HT3 : Hid (Of.fLost xe = 2) := by unfold Hid Of.fLost; simp [hy]
          have hd : ((xe : Int) == 1) = true := by simp; omega
          clear hy
          go_wp2
          go_end0
          exact ⟨rfl, hb, hs, by rw [HE.out, HT3.out]; exact (HQ.out.2 2).1, HFR.out.1, HFR.out.2, (HQ.out.2 2).2⟩
        · have HT3 : Hid (Of.fLost xe = xe) := by unfold Hid Of.fLost; simp [hy]
          have hd : ((xe : Int) == 1) = false := by simp; omega
          clear hy
          go_wp2
          go_end0
          exact ⟨rfl, hb, hs, by rw [HE.out, HT3.out]; exact HQ.out.1.1, HFR.out.1, HFR.out.2, HQ.out.1.2⟩
end Go.Proofs.Ytdloeakmoaoalaa
