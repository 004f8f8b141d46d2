/- Layer 17's outflow, walked: Had, Done, Some, Blocked, Next of nothing; the nil buffer. -/
import Derived.Test.YtdloeakmoaoalaaRows
import Derived.Test.YtdloeakmoaoalaaAid
import Derived.Test.YtdloeakmoaoalaaPlainOf
import Derived.Test.YtdloeakmoaoalaaOfW
import Derived.Test.YtdloeakmoaoalaaOfX
import Derived.Test.YtdloeakmoaoalaaOfA
import Derived.Test.YtdloeakmoaoalaaOfB
import Derived.Test.YtdloeakmoaoalaaOfC
import Derived.Test.YtdloeakmoaoalaaOfD
import Derived.Test.YtdloeakmoaoalaaOfE
import Derived.Test.YtdloeakmoaoalaaOfM
import Derived.WalkKit
import Derived.OwnWalk
import Derived.Laws.Rows
import Derived.Laws.Tables
import Derived.WalkSpells
import Derived.WalkLawsBesides
import Derived.BigQuiet
import Derived.Handy
import Derived.Lib.Walk
import Derived.Lib.Hide
import Derived.IntWalk
import Derived.Shelf.SlicesE.IndexFunc
import Derived.Test.YtdloeakmoaoalaaOfLay
namespace Go.Proofs.Ytdloeakmoaoalaa
open Go.RowKit Go.Shelf
set_option linter.unusedVariables false
set_option linter.unusedSimpArgs false

theorem next0_any (p : Option Addr) (n : Int) (hn : n < 1 ∨ p = none) (w : World) :
    Calls Try.prog 12 #[.pointer p, .int .i64 n] w fun e w' => e = .returned (.tuple #[.int .u64 0, .slice none 0 0, .bool false, .bool false]) ∧ w = w' := by
  rcases p with _ | p
  · clear hn
    go_enter Try.func12, Try.ntmps12
    go_wp2
    ((try simp only [Exit.inBlock, Exit.then]); refine bodyPost_ret (results_tmp4 rfl _ _ _) rfl ?_)
    exact ⟨rfl, rfl⟩
  · have hn' : n < 1 := by rcases hn with h | h; exact h; cases h
    clear hn
    go_enter Try.func12, Try.ntmps12
    go_wp2
    ((try simp only [Exit.inBlock, Exit.then]); refine bodyPost_ret (results_tmp4 rfl _ _ _) rfl ?_)
    exact ⟨rfl, rfl⟩

theorem some_any (a gb gs : Nat) (x : Of.B) (w : World) (h : Bf w a gb gs x) (hok : Of.Ok x) :
    Calls Try.prog 18 #[.pointer (some ⟨a, 0, none⟩)] w fun e w' => e = .returned (.bool (Of.some_ x)) ∧ ∃ q, w' = w.drewN q := by
  have hd : Calls Try.prog 39 #[.pointer (some ⟨a, 0, none⟩), .int .i64 1] w fun e w' => e = .returned (dueV (Of.due x 1)) ∧ ∃ q, w' = w.drewN q := due_any a gb gs 1 x w h hok (by omega)
  have HS : Hid (Of.some_ x = (Of.due x 1).2.2.2) := rfl
  rw [HS.out]
  generalize Of.due x 1 = D at *
  obtain ⟨d1, d2, d3, d4⟩ := D
  unfold dueV at hd
  have HD := Lib.hid hd
  clear hd h hok HS
  go_enter Try.func18, Try.ntmps18
  go_wp2_with fail
  refine HD.out.mono ?_
  rintro e w1 ⟨rfl, q, rfl⟩
  go_wp2
  go_ret
  exact ⟨rfl, q, rfl⟩

/-- Had, of any length. -/
def hadI (x : Of.B) (off : Nat) (n : Int) : Bool := decide (0 ≤ n) && Of.had x off n.toNat

theorem had1_pred (w : World) : PredAt Try.prog 44 #[] b8 (fun x : Nat => decide (x ≠ 3)) w := fun W x hb => by
  show Calls Try.prog 44 #[b8 x] W _
  clear hb
  by_cases h : x = 3
  · subst h
    go_enter Try.func44, Try.ntmps44
    simp only [b8]
    go_wp2
    go_ret
    exact ⟨rfl, 0, rfl⟩
  · have HF : Hid (decide (x ≠ 3) = true) := decide_eq_true h
    have hd : ((x : Int) != 3) = true := by simp; omega
    go_enter Try.func44, Try.ntmps44
    simp only [b8]
    go_wp2
    go_ret
    refine ⟨?_, 0, rfl⟩
    rw [HF.out]; rfl
set_option maxHeartbeats 2000000 in
theorem had_any (a gb gs off : Nat) (n : Int) (x : Of.B) (w : World) (h : Bf w a gb gs x) (hok : Of.Ok x) :
    Calls Try.prog 21 #[.pointer (some ⟨a, 0, none⟩), .int .u64 (off : Int), .int .i64 n] w fun e w' => e = .returned (.bool (hadI x off n)) ∧ ∃ q, w' = w.drewN q := by
  obtain ⟨vb, vs, hO, hb, hs, hsep⟩ := h
  have hsl : x.s.length ≤ 2000 := by have := hok.len; have := hok.cap; omega
  obtain ⟨base, cs, rfl, hlc, hcm, _, hcell⟩ := hs.form
  have hcsi : cs ≤ 9223372036854775807 := by simp only [maxLen] at hcm; omega
  have f1 : w.cell? ⟨a, 1, none⟩ = some (.slice base x.s.length cs) := by rw [hO.cell]; rfl
  have HDEF : Hid (hadI x off n = (decide (0 ≤ n) && (decide (off + n.toNat ≤ x.s.length) && ((x.s.drop off).take n.toNat).all (· == 3)))) := rfl
  have HCELL := Lib.hid hcell
  clear hO hb hs hsep hcell hok
  by_cases h1 : n < 0
  · have HF : Hid (hadI x off n = false) := by
      have := HDEF.out; unfold Hid; rw [this, decide_eq_false (by omega)]; rfl
    clear HDEF HCELL
    go_enter Try.func21, Try.ntmps21
    go_wp2
    go_ret
    rw [HF.out]
    exact ⟨rfl, 0, rfl⟩
  · obtain ⟨k, rfl⟩ : ∃ k : Nat, n = k := ⟨n.toNat, by omega⟩
    rw [Int.toNat_natCast] at HDEF
    by_cases h2 : x.s.length < off
    · have HF : Hid (hadI x off k = false) := by
        have := HDEF.out; unfold Hid; rw [this, decide_eq_false (show ¬ off + k ≤ x.s.length by omega)]; simp
      clear HDEF HCELL
      generalize x.s.length = m at *
      go_enter Try.func21, Try.ntmps21
      go_wp2
      go_ret
      rw [HF.out]
      exact ⟨rfl, 0, rfl⟩
    · by_cases h3 : x.s.length < off + k
      · have HF : Hid (hadI x off k = false) := by
          have := HDEF.out; unfold Hid; rw [this, decide_eq_false (show ¬ off + k ≤ x.s.length by omega)]; simp
        have h3' : (x.s.length : Int) - (off : Int) < (k : Int) := by omega
        clear HDEF HCELL h3
        generalize x.s.length = m at *
        go_enter Try.func21, Try.ntmps21
        go_wp2
        go_ret
        rw [HF.out]
        exact ⟨rfl, 0, rfl⟩
      · have h3' : ¬ (x.s.length : Int) - (off : Int) < (k : Int) := by omega
        by_cases hk : k = 0
        · subst hk
          have HF : Hid (hadI x off (0 : Nat) = true) := by
            have := HDEF.out; unfold Hid; rw [this, decide_eq_true (show off + 0 ≤ x.s.length by omega)]; simp
          rw [HF.out]
          clear HDEF HCELL h3
          generalize x.s.length = m at *
          by_cases hac : off < cs
          · go_enter Try.func21, Try.ntmps21
            go_wp2_with (go_at_call 43; refine (AnyE.slices_ContainsFunc_empty Ytdloeakmoaoalaa.containsFunc _ _ _ _).mono ?_; rintro e w1 ⟨rfl, rfl⟩)
            go_ret
            exact ⟨rfl, 0, rfl⟩
          · go_enter Try.func21, Try.ntmps21
            go_wp2_with (go_at_call 43; refine (AnyE.slices_ContainsFunc_empty Ytdloeakmoaoalaa.containsFunc _ _ _ _).mono ?_; rintro e w1 ⟨rfl, rfl⟩)
            go_ret
            exact ⟨rfl, 0, rfl⟩
        · have hac : off < cs := by omega
          obtain rfl : base = some ⟨gs, 0, none⟩ := (HCELL.out 0 (by omega)).1
          have hzl : ((x.s.drop off).take k).length = k := by rw [List.length_take, List.length_drop]; omega
          have hC := AnyE.slices_ContainsFunc Ytdloeakmoaoalaa.containsFunc b8 (fun x : Nat => decide (x ≠ 3)) 44 #[] (enters_of Try.func44 (by kernel_rfl) rfl) gs off k (cs - off) ((x.s.drop off).take k) w
            (had1_pred w) (by omega) (by omega) (fun j hj => by
              rw [hzl] at hj
              rw [(HCELL.out (off + j) (by omega)).2]
              congr 2
              rw [List.getElem!_eq_getElem?_getD, List.getD_eq_getElem?_getD, List.getElem?_take, if_pos hj, List.getElem?_drop]; rfl)
          change Calls Try.prog 43 _ _ _ at hC
          rw [List.take_of_length_le (by omega)] at hC
          have HF : Hid (hadI x off k = !((x.s.drop off).take k).any (fun x : Nat => decide (x ≠ 3))) := by
            have := HDEF.out; unfold Hid
            rw [this, decide_eq_true (show off + k ≤ x.s.length by omega), decide_eq_true (by omega), Bool.true_and, Bool.true_and, List.not_any_eq_all_not]
            congr 1
            funext y
            by_cases hy : y = 3 <;> simp [hy]
          rw [HF.out]
          have HC := Lib.hid hC
          clear hC HDEF HCELL HF hzl h3
          generalize ((x.s.drop off).take k).any (fun x : Nat => decide (x ≠ 3)) = r at *
          generalize x.s.length = m at *
          go_enter Try.func21, Try.ntmps21
          go_wp2_with (go_at_call 43; refine HC.out.mono ?_; rintro e w1 ⟨rfl, q, rfl⟩)
          go_ret
          exact ⟨rfl, q, rfl⟩

set_option maxHeartbeats 2000000 in
theorem blocked_any (a gb gs : Nat) (x : Of.B) (w : World) (h : Bf w a gb gs x) (hok : Of.Ok x) :
    Calls Try.prog 19 #[.pointer (some ⟨a, 0, none⟩)] w fun e w' => e = .returned (.bool (Of.blocked x)) ∧ ∃ q, w' = w.drewN q := by
  have hop := open_any a gb gs x w h hok
  obtain ⟨vb, vs, hO, hb, hs, hsep⟩ := h
  have hsl : x.s.length ≤ 2000 := by have := hok.len; have := hok.cap; omega
  have hst := hok.st
  obtain ⟨base, cs, rfl, hlc, hcm, _, hcell⟩ := hs.form
  have f1 : w.cell? ⟨a, 1, none⟩ = some (.slice base x.s.length cs) := by rw [hO.cell]; rfl
  have hI : ∀ (c : Nat) (hc : c < 256) q, Calls Try.prog 41 #[.slice base x.s.length cs, .int .u8 (c : Int)] (w.drewN q) fun e w' => e = .returned (.int .i64 (idx c x.s)) ∧ w.drewN q = w' := fun c hc q => by
    have := idx_any gs x.s.length cs c base x.s (w.drewN q) (hs.kept (below_draws w q)) (Nat.le_refl _) hc (fun y hy => by have := hst y hy; omega)
    rw [List.take_length] at this
    exact this
  have HI0 : Hid (∀ q, Calls Try.prog 41 #[.slice base x.s.length cs, .int .u8 0] (w.drewN q) fun e w' => e = .returned (.int .i64 (idx 0 x.s)) ∧ w.drewN q = w') := fun q => hI 0 (by omega) q
  have HI2 : Hid (∀ q, Calls Try.prog 41 #[.slice base x.s.length cs, .int .u8 2] (w.drewN q) fun e w' => e = .returned (.int .i64 (idx 2 x.s)) ∧ w.drewN q = w') := fun q => hI 2 (by omega) q
  have HI00 : Hid (Calls Try.prog 41 #[.slice base x.s.length cs, .int .u8 0] w fun e w' => e = .returned (.int .i64 (idx 0 x.s)) ∧ w = w') := HI0.out 0
  have HOP := Lib.hid hop
  have HB : Hid (Of.blocked x = (decide (Of.fst 0 x.s < x.s.length) && decide (Of.openB x ≤ Of.fst 0 x.s) && decide (Of.fst 2 x.s = x.s.length))) := rfl
  have HX0 : Hid (idx 0 x.s = if Of.fst 0 x.s < x.s.length then (Of.fst 0 x.s : Int) else -1) := rfl
  have HX2 : Hid (idx 2 x.s = if Of.fst 2 x.s < x.s.length then (Of.fst 2 x.s : Int) else -1) := rfl
  have HL := Lib.hid (And.intro (Of.fst_le 0 x.s) (Of.fst_le 2 x.s))
  clear hO hb hs hsep hcell hok hop hI hst
  generalize Of.openB x = o at *
  generalize Of.fst 0 x.s = p0 at *
  generalize Of.fst 2 x.s = p2 at *
  generalize idx 0 x.s = q0 at *
  generalize idx 2 x.s = q2 at *
  generalize x.s.length = m at *
  by_cases h1 : (o : Int) ≤ q0
  · by_cases h2 : q2 < 0
    · have h3 : 0 ≤ q0 := by omega
      have HF : Hid (Of.blocked x = true) := by
        have e0 := HX0.out; have e2 := HX2.out; have hl := HL.out
        unfold Hid
        have a0 : p0 < m := by
          rcases Nat.lt_or_ge p0 m with h | h
          · exact h
          · rw [if_neg (by omega)] at e0; omega
        rw [if_pos a0] at e0
        have a2 : p2 = m := by
          rcases Nat.lt_or_ge p2 m with h | h
          · rw [if_pos h] at e2; omega
          · omega
        rw [HB.out, decide_eq_true a0, decide_eq_true a2, decide_eq_true (by omega)]; rfl
      rw [HF.out]
      clear HX0 HX2 HL HF HB
      go_enter Try.func19, Try.ntmps19
      go_wp2_with fail
      refine HI00.out.mono ?_
      rintro e w1 ⟨rfl, rfl⟩
      go_wp2_with fail
      refine HOP.out.mono ?_
      rintro e w1 ⟨rfl, q, rfl⟩
      go_wp2_with fail
      refine (HI2.out _).mono ?_
      rintro e w1 ⟨rfl, rfl⟩
      go_wp2_with fail
      refine (HI0.out _).mono ?_
      rintro e w1 ⟨rfl, rfl⟩
      go_wp2
      go_ret
      exact ⟨rfl, q, rfl⟩
    · have HF : Hid (Of.blocked x = false) := by
        have e2 := HX2.out; have hl := HL.out
        unfold Hid
        rw [HB.out, decide_eq_false (show ¬ p2 = m by
          intro e
          rw [if_neg (by omega)] at e2; omega)]
        simp
      rw [HF.out]
      clear HX0 HX2 HL HF HB
      go_enter Try.func19, Try.ntmps19
      go_wp2_with fail
      refine HI00.out.mono ?_
      rintro e w1 ⟨rfl, rfl⟩
      go_wp2_with fail
      refine HOP.out.mono ?_
      rintro e w1 ⟨rfl, q, rfl⟩
      go_wp2_with fail
      refine (HI2.out _).mono ?_
      rintro e w1 ⟨rfl, rfl⟩
      go_wp2
      go_ret
      exact ⟨rfl, q, rfl⟩
  · have HF : Hid (Of.blocked x = false) := by
      have e0 := HX0.out; have hl := HL.out
      unfold Hid
      rw [HB.out]
      rcases Nat.lt_or_ge p0 m with h | h
      · rw [if_pos h] at e0
        rw [decide_eq_false (show ¬ o ≤ p0 by omega)]; simp
      · rw [decide_eq_false (show ¬ p0 < m by omega)]; simp
    rw [HF.out]
    clear HX0 HX2 HL HF HB
    go_enter Try.func19, Try.ntmps19
    go_wp2_with fail
    refine HI00.out.mono ?_
    rintro e w1 ⟨rfl, rfl⟩
    go_wp2_with fail
    refine HOP.out.mono ?_
    rintro e w1 ⟨rfl, q, rfl⟩
    go_wp2
    go_ret
    exact ⟨rfl, q, rfl⟩

theorem done_any (a gb gs : Nat) (x : Of.B) (w : World) (h : Bf w a gb gs x) (hok : Of.Ok x) :
    Calls Try.prog 20 #[.pointer (some ⟨a, 0, none⟩)] w fun e w' => e = .returned (.bool (Of.done x)) ∧ ∃ q, w' = w.drewN q := by
  have hH : Calls Try.prog 21 #[.pointer (some ⟨a, 0, none⟩), .int .u64 0, .int .i64 (x.s.length : Int)] w fun e w' => e = .returned (.bool (hadI x 0 x.s.length)) ∧ ∃ q, w' = w.drewN q := had_any a gb gs 0 x.s.length x w h hok
  have HE : Hid (hadI x 0 x.s.length = x.s.all (· == 3)) := by
    unfold Hid hadI Of.had
    rw [Int.toNat_natCast, decide_eq_true (by omega), decide_eq_true (by omega), List.drop_zero, List.take_length]; rfl
  rw [HE.out] at hH
  have HD : Hid (Of.done x = (x.fin && x.en == 3 && x.s.all (· == 3))) := rfl
  obtain ⟨vb, vs, hO, hb, hs, hsep⟩ := h
  have hsl : x.s.length ≤ 2000 := by have := hok.len; have := hok.cap; omega
  obtain ⟨base, cs, rfl, hlc, hcm, _, hcell⟩ := hs.form
  have f1 : w.cell? ⟨a, 1, none⟩ = some (.slice base x.s.length cs) := by rw [hO.cell]; rfl
  have f2 : w.cell? ⟨a, 2, none⟩ = some (.bool x.fin) := by rw [hO.cell]; rfl
  have f3 : w.cell? ⟨a, 3, none⟩ = some (.int .u8 (x.en : Int)) := by rw [hO.cell]; rfl
  have HH := Lib.hid hH
  clear hO hb hs hsep hcell hok hH HE
  rw [HD.out]
  clear HD
  generalize x.s.all (· == 3) = r at *
  generalize x.s.length = m at *
  generalize x.en = en at *
  cases hf : x.fin with
  | false =>
    rw [hf] at f2
    clear hf
    go_enter Try.func20, Try.ntmps20
    go_wp2
    go_ret
    exact ⟨rfl, 0, rfl⟩
  | true =>
    rw [hf] at f2
    clear hf
    by_cases he : en = 3
    · subst he
      go_enter Try.func20, Try.ntmps20
      go_wp2_with fail
      refine HH.out.mono ?_
      rintro e w1 ⟨rfl, q, rfl⟩
      go_wp2
      go_ret
      exact ⟨by simp, q, rfl⟩
    · have hd : ((en : Int) == 3) = false := by simp; omega
      have HN := Lib.hid he
      clear he
      go_enter Try.func20, Try.ntmps20
      go_wp2
      go_ret
      exact ⟨by simp [HN.out], 0, rfl⟩
end Go.Proofs.Ytdloeakmoaoalaa
