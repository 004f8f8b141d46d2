/- Layer 17's outflow: OutflowActs, walked. -/
import Derived.Test.YtdloeakmoaoalaaRows
import Derived.Test.YtdloeakmoaoalaaAid
import Derived.Test.YtdloeakmoaoalaaPlainOf
import Derived.Test.YtdloeakmoaoalaaPlainOf2
import Derived.Test.YtdloeakmoaoalaaPlainOf3
import Derived.Test.YtdloeakmoaoalaaPlainOf4
import Derived.Test.YtdloeakmoaoalaaPlainOf5
import Derived.Test.YtdloeakmoaoalaaOfW
import Derived.Test.YtdloeakmoaoalaaOfX
import Derived.Test.YtdloeakmoaoalaaOfA
import Derived.Test.YtdloeakmoaoalaaOfB
import Derived.Test.YtdloeakmoaoalaaOfC
import Derived.Test.YtdloeakmoaoalaaOfE
import Derived.Test.YtdloeakmoaoalaaOfM
import Derived.Test.YtdloeakmoaoalaaOfN
import Derived.Test.YtdloeakmoaoalaaOfP
import Derived.Test.YtdloeakmoaoalaaOfQ
import Derived.Test.YtdloeakmoaoalaaOfR
import Derived.Test.YtdloeakmoaoalaaOfU
import Derived.Test.YtdloeakmoaoalaaOfV
import Derived.Test.YtdloeakmoaoalaaOfZ
import Derived.Test.YtdloeakmoaoalaaOfZ2
import Derived.Test.YtdloeakmoaoalaaOfZ3
import Derived.Test.YtdloeakmoaoalaaOfZ4
import Derived.Test.YtdloeakmoaoalaaOfZ5
import Derived.WalkKit
import Derived.OwnWalk
import Derived.Laws.Rows
import Derived.Laws.Tables
import Derived.WalkSpells
import Derived.WalkLawsBesides
import Derived.Deep.RegionHeld3
import Derived.BigQuiet
import Derived.Handy
import Derived.Lib.Walk
import Derived.Lib.Hide
import Derived.Lib.SlBytesConst
import Derived.IntWalk
import Derived.OpenShut
import Derived.Deep.QuietTactic
import Derived.Deep.DeepCutAuto
import Derived.Deep.CutBlock
import Derived.Deep.LoopGhost
namespace Go.Proofs.Ytdloeakmoaoalaa
open Go.RowKit Go.Deep
set_option linter.unusedVariables false
set_option linter.unusedSimpArgs false

def DuX (W : World) (a r : Nat) (x : Of.B) (w : World) : Prop := ∃ gb gs hb hs, Du W a gb gs r hb hs x x w
theorem DuX.new {W w1 : World} {a lim : Nat} (hB : Bf w1 a a a ⟨[], [], false, 0, lim⟩) (hW : Below W.heap.size W w1) (ha : W.heap.size ≤ a) :
    DuX W a w1.heap.size ⟨[], [], false, 0, lim⟩ (w1.alloc (.cells #[.slice none 0 0, .slice none 0 0, .bool false, .int .i64 0, .int .u64 (lim : Int)] 40)) := by
  have hal : Below w1.heap.size w1 (w1.alloc (.cells #[.slice none 0 0, .slice none 0 0, .bool false, .int .i64 0, .int .u64 (lim : Int)] 40)) := (Below.refl _ _).alloc (Nat.le_refl _) _
  have hz : (w1.alloc (.cells #[.slice none 0 0, .slice none 0 0, .bool false, .int .i64 0, .int .u64 (lim : Int)] 40)).heap.size = w1.heap.size + 1 := by simp
  have h1 := hW.size
  have hla : a < w1.heap.size := by
    obtain ⟨vb, vs, hO, _⟩ := hB; exact hO.lt
  exact ⟨a, a, w1.heap.size, w1.heap.size, hB.kept hal, Rf.new lim w1, hW.trans (hal.mono hW.size), ⟨ha, ha, ha⟩, ⟨h1, h1, h1⟩, ⟨by omega, by omega, by omega⟩, ⟨by omega, by omega, by omega⟩, ⟨by omega, by omega, by omega⟩, ⟨by omega, by omega, by omega⟩, ⟨by omega, by omega, by omega⟩⟩
theorem DuX.bel {W w : World} {a r : Nat} {x : Of.B} (h : DuX W a r x w) : Below W.heap.size W w := by
  obtain ⟨gb, gs, hb, hs, h⟩ := h; exact h.bel
theorem DuX.act {W w : World} {a r : Nat} {x : Of.B} (h : DuX W a r x w) (cs : Array Value) : DuA W a r w.heap.size cs x x (w.alloc (.cells cs 42)) := by
  obtain ⟨gb, gs, hb, hs, h⟩ := h; exact DuA.mk' h
theorem DuA.dux {W w : World} {a r g : Nat} {cs : Array Value} {x : Of.B} (h : DuA W a r g cs x x w) : DuX W a r x w := by
  obtain ⟨gb, gs, hb, hs, h, _⟩ := h; exact ⟨gb, gs, hb, hs, h⟩
theorem DuX.lt {W w : World} {a r : Nat} {x : Of.B} (h : DuX W a r x w) : a < w.heap.size ∧ r < w.heap.size := by
  obtain ⟨gb, gs, hb, hs, h⟩ := h; exact ⟨h.la.1, h.lr.1⟩
theorem finish_two (x : Of.B) : (Of.finish x).1 = !x.fin ∧ (Of.finish x).2 = { x with fin := true } := by
  unfold Of.finish
  obtain ⟨b, s, fin, en, lim⟩ := x
  cases fin <;> simp
theorem raise_two (x : Of.B) (l : Nat) : (x.lim < l → Of.raise x l = (true, { x with lim := l })) ∧ (¬ x.lim < l → Of.raise x l = (false, x)) := by
  unfold Of.raise
  constructor
  · intro h; rw [if_neg (by omega)]
  · intro h; rw [if_pos (by omega)]

set_option maxRecDepth 100000 in
set_option maxHeartbeats 60000000 in
theorem outflowActs_walk (a0 : Int) (A0 : Option Addr) (n0 c0 : Nat) (l : List Act17) (w : World) (w0 : (Lit.int .u64 a0).wf = true) (w1 : Acts17 w A0 n0 l) (x1 : n0 ≤ c0 ∧ c0 ≤ maxLen) :
    Calls Try.prog 3 #[.int .u64 a0, .slice A0 n0 c0] w fun e w' => e = .returned (.bool true) ∧ Below w.heap.size w w' := by
  have hb0 := bounds_u64 w0
  obtain ⟨lim, rfl⟩ : ∃ lim : Nat, a0 = lim := ⟨a0.toNat, by omega⟩
  have HAL := Lib.hid (alive_any w)
  have HFEW : Hid (∀ w', Below w.heap.size w w' → Calls Try.prog 9 #[.slice A0 n0 c0] w' fun e w'' => e = .returned (.bool (fewB n0 l)) ∧ w' = w'') := fun w' hb => few_any A0 n0 c0 l w w' w1 x1 hb
  cases hf : fewB n0 l with
  | false =>
    rw [hf] at HFEW
    clear w1 x1 w0 hf hb0
    go_enter Try.func3, Try.ntmps3
    go_wp2_with fail
    refine HAL.out.mono ?_
    rintro e wA ⟨rfl, hL⟩
    have HL := Lib.hid hL
    clear hL
    go_wp2_with fail
    refine (HFEW.out _ HL.out).mono ?_
    rintro e wB ⟨rfl, rfl⟩
    go_wp2
    go_ret
    exact ⟨rfl, HL.out⟩
  | true =>
    rw [hf] at HFEW
    have hn60 : n0 ≤ 60 := by
      unfold fewB at hf
      rw [Bool.and_eq_true, decide_eq_true_eq] at hf
      exact hf.1
    have HDL : Hid (∀ j, j < n0 → (l.getD j default).data.length ≤ 1200) := fun j hj => by
      unfold fewB at hf
      rw [Bool.and_eq_true, List.all_eq_true] at hf
      simpa using hf.2 j (List.mem_range.2 hj)
    have HAT : Hid (∀ w' j, Below w.heap.size w w' → j < n0 → ∃ B off, A0 = some ⟨B, off, none⟩ ∧ ActAt w' B (off + j * 5) (l.getD j default)) := fun w' j hb hj => w1.at hb hj
    have HOK2 : Hid (∀ j, j < n0 → ActOk w (l.getD j default)) := w1.2.1
    have hc0 : n0 ≤ c0 ∧ c0 ≤ 9223372036854775807 := ⟨x1.1, by have := x1.2; simp only [maxLen] at this; omega⟩
    have hlim : lim < 18446744073709551616 := by omega
    clear w1 x1 w0 hf hb0
    go_enter Try.func3, Try.ntmps3
    go_wp2_with fail
    refine HAL.out.mono ?_
    rintro e wA ⟨rfl, hL⟩
    have HL := Lib.hid hL
    clear hL HAL
    go_wp2_with fail
    refine (HFEW.out _ HL.out).mono ?_
    rintro e wB ⟨rfl, rfl⟩
    clear HFEW
    have kcv := fun (w : World) (C : Array Value) (n c : Nat) => Lib.run_convert_bytes_const (P := Try.prog) w 28 5 C n c Try.underlying28 Try.underlying5
    go_wp2_with fail
    refine (nil_acked _).mono ?_
    rintro e wn ⟨rfl, rfl⟩
    go_wp2_with fail
    refine (nil_lost _).mono ?_
    rintro e wn ⟨rfl, rfl⟩
    go_wp2_with fail
    refine (next0_any none 5 (Or.inr rfl) _).mono ?_
    rintro e wn ⟨rfl, rfl⟩
    go_wp2_with fail
    refine (nil_write _ _).mono ?_
    rintro e wn ⟨rfl, rfl⟩
    go_wp2_with fail
    refine (nil_finish _).mono ?_
    rintro e wn ⟨rfl, rfl⟩
    go_wp2_with fail
    refine (nil_raise _).mono ?_
    rintro e wn ⟨rfl, rfl⟩
    go_wp2_with fail
    refine (nil_written _).mono ?_
    rintro e wn ⟨rfl, rfl⟩
    go_wp2_with fail
    refine (nil_sent _).mono ?_
    rintro e wn ⟨rfl, rfl⟩
    go_wp2_with fail
    refine (nil_some _).mono ?_
    rintro e wn ⟨rfl, rfl⟩
    go_wp2_with fail
    refine (nil_blocked _).mono ?_
    rintro e wn ⟨rfl, rfl⟩
    go_wp2_with fail
    refine (nil_done _).mono ?_
    rintro e wn ⟨rfl, rfl⟩
    go_wp2_with fail
    refine (nil_had _).mono ?_
    rintro e wn ⟨rfl, rfl⟩
    go_wp2_with fail
    clear kcv
    refine (new_own lim _).mono ?_
    rintro e wB ⟨a, rfl, ha, hB, hb⟩
    have HB : Hid (DuX w a wB.heap.size ⟨[], [], false, 0, lim⟩ (wB.alloc (.cells #[.slice none 0 0, .slice none 0 0, .bool false, .int .i64 0, .int .u64 (lim : Int)] 40))) := by
      have h1 : Below w.heap.size w (wA.alloc (.cells #[.int .u8 97] 5 (1, 2))) := HL.out.alloc HL.out.size _
      exact DuX.new hB (h1.trans (hb.mono h1.size)) (Nat.le_trans h1.size ha)
    clear ha hB hb
    go_wp2
    generalize wB.heap.size = r at *
    go_loopg [12] n0 (fun g i wr => ∃ (k : Nat) (x : Of.B), k + g = n0 ∧ i = .int .i64 k ∧ DuX w a r x wr ∧ Of.Ok x ∧ Of.Pre x)
    case atStart => exact ⟨0, _, by omega, rfl, HB.out, Of.Ok.new lim, Of.pre_new lim⟩
    case round =>
      clear HB
      obtain ⟨k, x, hk, rfl, hD, hok, hpre⟩ := hrel
      have HD := Lib.hid hD
      have HOK := Lib.hid hok
      have HPRE := Lib.hid hpre
      clear hD hok hpre
      by_cases hlt : k < n0
      · obtain ⟨B, off, rfl, hAt⟩ := HAT.out _ k HD.out.bel hlt
        have HOJ := Lib.hid (HOK2.out k hlt)
        have HDJ := Lib.hid (HDL.out k hlt)
        obtain ⟨f0, f1, f2, f3, f4⟩ := hAt
        clear HL
        generalize l.getD k default = yy at *
        obtain ⟨kd, N, ao, d, dA, dc, ae⟩ := yy
        simp only at f0 f1 f2 f3 f4
        have HN := Lib.hid (show -9223372036854775808 ≤ N ∧ N ≤ 9223372036854775807 from ⟨HOJ.out.n0, HOJ.out.n1⟩)
        have HAO : Hid (ao < 18446744073709551616) := HOJ.out.off
        have HDB := Lib.hid (show Rb w dA d from HOJ.out.d)
        have HDC := Lib.hid (show d.length ≤ dc ∧ dc ≤ maxLen from HOJ.out.c)
        have HDL2 : Hid (d.length ≤ 1200) := HDJ.out
        clear HOJ HDJ
        have hls : r < wr.heap.size := HD.out.lt.2
        obtain ⟨g, hg⟩ : ∃ g, wr.heap.size = g := ⟨_, rfl⟩
        have HA : Hid (DuA w a r g #[.int .i64 kd, .int .i64 N, .int .u64 (ao : Int), .slice dA d.length dc, .bool ae] x x (wr.alloc (.cells #[.int .i64 kd, .int .i64 N, .int .u64 (ao : Int), .slice dA d.length dc, .bool ae] 42))) := by rw [← hg]; exact HD.out.act _
        clear HD
        go_upto_block 2 with fail
        go_cut [14] (fun s wx => s = .bool true ∧ ∃ x', DuA w a r g #[.int .i64 kd, .int .i64 N, .int .u64 (ao : Int), .slice dA d.length dc, .bool ae] x' x' wx ∧ Of.Ok x' ∧ Of.Pre x')
        case first =>
          by_cases k0 : kd = 0
          · subst k0
            as_aux_lemma =>
              obtain ⟨n1, x1, hw1⟩ : ∃ n1 x1, Of.write x d = (n1, x1) := ⟨_, _, rfl⟩
              have HW := Lib.hid hw1
              have HO1 := Lib.hid (show Of.Ok x1 by have := HOK.out.write d; rw [hw1] at this; exact this)
              have HP1 := Lib.hid (show Of.Pre x1 by have := Of.pre_write HPRE.out d; rw [hw1] at this; exact this)
              clear hw1
              have hgl : g < (wr.alloc (.cells #[.int .i64 0, .int .i64 N, .int .u64 (ao : Int), .slice dA d.length dc, .bool ae] 42)).heap.size := HA.out.lt.2.2
              have h0S : (fun w' => ∃ x1 y1, DuA w a r g #[.int .i64 0, .int .i64 N, .int .u64 (ao : Int), .slice dA d.length dc, .bool ae] x1 y1 w') (wr.alloc (.cells #[.int .i64 0, .int .i64 N, .int .u64 (ao : Int), .slice dA d.length dc, .bool ae] 42)).drew := ⟨_, _, HA.out.below (Below.refl _ _).drew⟩
              have HA2 := Lib.hid (HA.out.below (Below.refl _ _).drew)
              go_wp2
              refine wp_region_held_drew (S := (fun w' => ∃ x1 y1, DuA w a r g #[.int .i64 0, .int .i64 N, .int .u64 (ao : Int), .slice dA d.length dc, .bool ae] x1 y1 w')) (by kernel_rfl) h0S (fun hHeld => ?_)
              refine wpAnyH_take (i := 0) (oi := ?_) (v := ?_) ?_ ?_ ?_ ?_ ?_ ?_ (by assumption) ?_
              rotate_left 2
              · simp only [List.getElem?_toArray, List.getElem?_cons_zero, List.getElem?_cons_succ]
                rfl
              · kernel_rfl
              · kernel_rfl
              · kernel_rfl
              · exact fun _ _ _ h => h
              · refine Or.inl ⟨by rfl, ?_⟩
                intro w hSw
                (try dsimp only at hSw)
                go_simp
                all_goals with_reducible rfl
              simp only [Act.put, List.setIfInBounds_toArray, List.set_cons_zero, List.set_cons_succ]
              refine wpAnyH_take (i := 1) (oi := ?_) (v := ?_) ?_ ?_ ?_ ?_ ?_ ?_ (by assumption) ?_
              rotate_left 2
              · simp only [List.getElem?_toArray, List.getElem?_cons_zero, List.getElem?_cons_succ]
                rfl
              · kernel_rfl
              · kernel_rfl
              · kernel_rfl
              · exact fun _ _ _ h => h
              · refine Or.inl ⟨by rfl, ?_⟩
                intro w hSw
                (try dsimp only at hSw)
                go_simp
                all_goals with_reducible rfl
              simp only [Act.put, List.setIfInBounds_toArray, List.set_cons_zero, List.set_cons_succ]
              refine wpAnyH_take (i := 2) (oi := ?_) (v := ?_) ?_ ?_ ?_ ?_ ?_ ?_ (by assumption) ?_
              rotate_left 2
              · simp only [List.getElem?_toArray, List.getElem?_cons_zero, List.getElem?_cons_succ]
                rfl
              · kernel_rfl
              · kernel_rfl
              · kernel_rfl
              · exact fun _ _ _ h => h
              · refine Or.inl ⟨by rfl, ?_⟩
                intro w' hSw
                obtain ⟨x1, y1, hSw⟩ := hSw
                have q : w'.cell? ⟨g, 3, none⟩ = some (.slice dA d.length dc) := hSw.act.cell 3
                clear hSw
                go_simp
                all_goals with_reducible rfl
              simp only [Act.put, List.setIfInBounds_toArray, List.set_cons_zero, List.set_cons_succ]
              refine wpAnyH_take (i := 4) (oi := ?_) (v := ?_) ?_ ?_ ?_ ?_ ?_ ?_ (by assumption) ?_
              rotate_left 2
              · simp only [List.getElem?_toArray, List.getElem?_cons_zero, List.getElem?_cons_succ]
                rfl
              · kernel_rfl
              · kernel_rfl
              · kernel_rfl
              · exact fun _ _ _ h => h
              · refine Or.inl ⟨by rfl, ?_⟩
                intro w hSw
                (try dsimp only at hSw)
                go_simp
                all_goals with_reducible rfl
              simp only [Act.put, List.setIfInBounds_toArray, List.set_cons_zero, List.set_cons_succ]
              refine wpAnyH_take (i := 5) (oi := ?_) (v := ?_) ?_ ?_ ?_ ?_ ?_ ?_ (by assumption) ?_
              rotate_left 2
              · simp only [List.getElem?_toArray, List.getElem?_cons_zero, List.getElem?_cons_succ]
                rfl
              · kernel_rfl
              · kernel_rfl
              · kernel_rfl
              · exact fun _ _ _ h => h
              · refine Or.inl ⟨by rfl, ?_⟩
                intro w hSw
                (try dsimp only at hSw)
                go_simp
                all_goals with_reducible rfl
              simp only [Act.put, List.setIfInBounds_toArray, List.set_cons_zero, List.set_cons_succ]
              refine wpAnyH_take (i := 6) (oi := ?_) (v := ?_) ?_ ?_ ?_ ?_ ?_ ?_ (by assumption) ?_
              rotate_left 2
              · simp only [List.getElem?_toArray, List.getElem?_cons_zero, List.getElem?_cons_succ]
                rfl
              · kernel_rfl
              · kernel_rfl
              · kernel_rfl
              · exact fun _ _ _ h => h
              · refine Or.inl ⟨by rfl, ?_⟩
                intro w' hSw
                obtain ⟨x1, y1, hSw⟩ := hSw
                have q : w'.cell? ⟨g, 3, none⟩ = some (.slice dA d.length dc) := hSw.act.cell 3
                clear hSw
                go_simp
                all_goals with_reducible rfl
              simp only [Act.put, List.setIfInBounds_toArray, List.set_cons_zero, List.set_cons_succ]
              refine wpAnyH_ready (rs := [3]) (by kernel_rfl) (by simp) ?_
              refine AllReadyH.cons (o := ?_) ?_ (fun KK hKK => ?_) AllReadyH.nil
              rotate_left
              · simp only [List.getElem?_toArray, List.getElem?_cons_zero, List.getElem?_cons_succ]
                rfl
              go_simp
              refine (HA2.out.write HOK.out dA dc d HDB.out HDC.out.1 HDC.out.2 (by have := HDL2.out; omega)).mono ?_; rintro e wa ⟨rfl, hq1⟩; rw [HW.out] at hq1 ⊢
              try go_wp2_with fail
              refine hKK.out _ _ ?_ (fun h3 => ?_)
              · (try dsimp only)
                exact ⟨_, _, hq1⟩
              clear hKK KK
              try simp only [Act.put, List.setIfInBounds_toArray, List.set_cons_zero, List.set_cons_succ]
              refine wpAnyH_ready (rs := [7]) (by kernel_rfl) (by simp) ?_
              refine AllReadyH.cons (o := ?_) ?_ (fun KK hKK => ?_) AllReadyH.nil
              rotate_left
              · simp only [List.getElem?_toArray, List.getElem?_cons_zero, List.getElem?_cons_succ]
                rfl
              go_simp
              refine (hq1.rwrite HOK.out dA dc d HDB.out HDC.out.1 HDC.out.2 (by have := HDL2.out; omega)).mono ?_; rintro e wb ⟨rfl, hq2⟩; rw [HW.out] at hq2 ⊢
              try go_wp2_with fail
              refine hKK.out _ _ ?_ (fun h7 => ?_)
              · (try dsimp only)
                exact ⟨_, _, hq2⟩
              clear hKK KK
              try simp only [Act.put, List.setIfInBounds_toArray, List.set_cons_zero, List.set_cons_succ]
              refine wpAnyH_take (i := 8) (oi := ?_) (v := ?_) ?_ ?_ ?_ ?_ ?_ ?_ (by assumption) ?_
              rotate_left 2
              · simp only [List.getElem?_toArray, List.getElem?_cons_zero, List.getElem?_cons_succ]
                rfl
              · kernel_rfl
              · kernel_rfl
              · kernel_rfl
              · exact fun _ _ _ h => h
              · refine Or.inl ⟨by rfl, ?_⟩
                intro w hSw
                (try dsimp only at hSw)
                go_simp
                all_goals with_reducible rfl
              simp only [Act.put, List.setIfInBounds_toArray, List.set_cons_zero, List.set_cons_succ]
              refine wpAnyH_take (i := 9) (oi := ?_) (v := ?_) ?_ ?_ ?_ ?_ ?_ ?_ (by assumption) ?_
              rotate_left 2
              · simp only [List.getElem?_toArray, List.getElem?_cons_zero, List.getElem?_cons_succ]
                rfl
              · kernel_rfl
              · kernel_rfl
              · kernel_rfl
              · exact fun _ _ _ h => h
              · refine Or.inl ⟨by rfl, ?_⟩
                intro w hSw
                (try dsimp only at hSw)
                go_simp
                all_goals with_reducible rfl
              simp only [Act.put, List.setIfInBounds_toArray, List.set_cons_zero, List.set_cons_succ]
              refine wpAnyH_done (by kernel_rfl) ?_ _
              have HE := Lib.hid hq2
              clear hHeld h3 h7 hq1 hq2 h0S
              try go_wp2_with fail
              go_meet
              exact ⟨by simp, x1, HE.out, HO1.out, HP1.out⟩
          have e0 : (kd == 0) = false := by simp; exact k0
          by_cases k1 : kd = 1
          · subst k1
            as_aux_lemma =>
              obtain ⟨e1, e2⟩ := finish_two x
              have HF1 := Lib.hid e1
              have HF2 := Lib.hid e2
              have HO1 := Lib.hid (show Of.Ok { x with fin := true } by have := HOK.out.finish; rw [e2] at this; exact this)
              have HP1 := Lib.hid (show Of.Pre { x with fin := true } by have := Of.pre_finish HPRE.out; rw [e2] at this; exact this)
              clear e1 e2
              have h0S : (fun w' => ∃ x1, DuA w a r g #[.int .i64 1, .int .i64 N, .int .u64 (ao : Int), .slice dA d.length dc, .bool ae] x1 x w') (wr.alloc (.cells #[.int .i64 1, .int .i64 N, .int .u64 (ao : Int), .slice dA d.length dc, .bool ae] 42)).drew := ⟨_, HA.out.below (Below.refl _ _).drew⟩
              have HA2 := Lib.hid (HA.out.below (Below.refl _ _).drew)
              obtain ⟨F, hF⟩ : ∃ F, x.fin = F := ⟨_, rfl⟩
              go_wp2
              refine wp_region_held_drew (S := (fun w' => ∃ x1, DuA w a r g #[.int .i64 1, .int .i64 N, .int .u64 (ao : Int), .slice dA d.length dc, .bool ae] x1 x w')) (by kernel_rfl) h0S (fun hHeld => ?_)
              refine wpAnyH_take (i := 0) (oi := ?_) (v := ?_) ?_ ?_ ?_ ?_ ?_ ?_ (by assumption) ?_
              rotate_left 2
              · simp only [List.getElem?_toArray, List.getElem?_cons_zero, List.getElem?_cons_succ]
                rfl
              · kernel_rfl
              · kernel_rfl
              · kernel_rfl
              · exact fun _ _ _ h => h
              · refine Or.inl ⟨by rfl, ?_⟩
                intro w hSw
                (try dsimp only at hSw)
                go_simp
                all_goals with_reducible rfl
              simp only [Act.put, List.setIfInBounds_toArray, List.set_cons_zero, List.set_cons_succ]
              refine wpAnyH_take (i := 2) (oi := ?_) (v := ?_) ?_ ?_ ?_ ?_ ?_ ?_ (by assumption) ?_
              rotate_left 2
              · simp only [List.getElem?_toArray, List.getElem?_cons_zero, List.getElem?_cons_succ]
                rfl
              · kernel_rfl
              · kernel_rfl
              · kernel_rfl
              · exact fun _ _ _ h => h
              · refine Or.inl ⟨by rfl, ?_⟩
                intro w hSw
                (try dsimp only at hSw)
                go_simp
                all_goals with_reducible rfl
              simp only [Act.put, List.setIfInBounds_toArray, List.set_cons_zero, List.set_cons_succ]
              refine wpAnyH_take (i := 3) (oi := ?_) (v := ?_) ?_ ?_ ?_ ?_ ?_ ?_ (by assumption) ?_
              rotate_left 2
              · simp only [List.getElem?_toArray, List.getElem?_cons_zero, List.getElem?_cons_succ]
                rfl
              · kernel_rfl
              · kernel_rfl
              · kernel_rfl
              · exact fun _ _ _ h => h
              · refine Or.inl ⟨by rfl, ?_⟩
                intro w hSw
                (try dsimp only at hSw)
                go_simp
                all_goals with_reducible rfl
              simp only [Act.put, List.setIfInBounds_toArray, List.set_cons_zero, List.set_cons_succ]
              refine wpAnyH_take (i := 4) (oi := ?_) (v := ?_) ?_ ?_ ?_ ?_ ?_ ?_ (by assumption) ?_
              rotate_left 2
              · simp only [List.getElem?_toArray, List.getElem?_cons_zero, List.getElem?_cons_succ]
                rfl
              · kernel_rfl
              · kernel_rfl
              · kernel_rfl
              · exact fun _ _ _ h => h
              · refine Or.inl ⟨by rfl, ?_⟩
                intro w hSw
                (try dsimp only at hSw)
                go_simp
                all_goals with_reducible rfl
              simp only [Act.put, List.setIfInBounds_toArray, List.set_cons_zero, List.set_cons_succ]
              refine wpAnyH_take (i := 5) (oi := ?_) (v := ?_) ?_ ?_ ?_ ?_ ?_ ?_ (by assumption) ?_
              rotate_left 2
              · simp only [List.getElem?_toArray, List.getElem?_cons_zero, List.getElem?_cons_succ]
                rfl
              · kernel_rfl
              · kernel_rfl
              · kernel_rfl
              · exact fun _ _ _ h => h
              · refine Or.inl ⟨by rfl, ?_⟩
                intro w' hSw
                obtain ⟨x1, hSw⟩ := hSw
                have q : w'.cell? ⟨r, 2, none⟩ = some (.bool F) := by rw [← hF]; exact hSw.fin.1
                clear hSw
                go_simp
                all_goals with_reducible rfl
              simp only [Act.put, List.setIfInBounds_toArray, List.set_cons_zero, List.set_cons_succ]
              refine wpAnyH_take (i := 6) (oi := ?_) (v := ?_) ?_ ?_ ?_ ?_ ?_ ?_ (by assumption) ?_
              rotate_left 2
              · simp only [List.getElem?_toArray, List.getElem?_cons_zero, List.getElem?_cons_succ]
                rfl
              · kernel_rfl
              · kernel_rfl
              · kernel_rfl
              · exact fun _ _ _ h => h
              · refine Or.inl ⟨by rfl, ?_⟩
                intro w hSw
                (try dsimp only at hSw)
                go_simp
                all_goals with_reducible rfl
              simp only [Act.put, List.setIfInBounds_toArray, List.set_cons_zero, List.set_cons_succ]
              refine wpAnyH_ready (rs := [1]) (by kernel_rfl) (by simp) ?_
              refine AllReadyH.cons (o := ?_) ?_ (fun KK hKK => ?_) AllReadyH.nil
              rotate_left
              · simp only [List.getElem?_toArray, List.getElem?_cons_zero, List.getElem?_cons_succ]
                rfl
              go_simp
              refine (HA2.out.finish).mono ?_; rintro e wa ⟨rfl, hq1⟩; rw [HF1.out, HF2.out, hF] at *
              try go_wp2_with fail
              refine hKK.out _ _ ?_ (fun h1 => ?_)
              · (try dsimp only)
                exact ⟨_, hq1⟩
              clear hKK KK
              try simp only [Act.put, List.setIfInBounds_toArray, List.set_cons_zero, List.set_cons_succ]
              refine wpAnyH_take (i := 7) (oi := ?_) (v := ?_) ?_ ?_ ?_ ?_ ?_ ?_ (by assumption) ?_
              rotate_left 2
              · simp only [List.getElem?_toArray, List.getElem?_cons_zero, List.getElem?_cons_succ]
                rfl
              · kernel_rfl
              · kernel_rfl
              · kernel_rfl
              · exact fun _ _ _ h => h
              · refine Or.inl ⟨by rfl, ?_⟩
                intro w hSw
                (try dsimp only at hSw)
                go_simp
                all_goals with_reducible rfl
              simp only [Act.put, List.setIfInBounds_toArray, List.set_cons_zero, List.set_cons_succ]
              refine wpAnyH_take (i := 8) (oi := ?_) (v := ?_) ?_ ?_ ?_ ?_ ?_ ?_ (by assumption) ?_
              rotate_left 2
              · simp only [List.getElem?_toArray, List.getElem?_cons_zero, List.getElem?_cons_succ]
                rfl
              · kernel_rfl
              · kernel_rfl
              · kernel_rfl
              · exact fun _ _ _ h => h
              · refine Or.inl ⟨by rfl, ?_⟩
                intro w hSw
                (try dsimp only at hSw)
                go_simp
                all_goals with_reducible rfl
              simp only [Act.put, List.setIfInBounds_toArray, List.set_cons_zero, List.set_cons_succ]
              refine wpAnyH_done (by kernel_rfl) ?_ _
              obtain ⟨c1, z1⟩ := hq1.fin
              have HE := Lib.hid (hq1.setR (y' := { x with fin := true }) 2 (.bool true) (fun vb vs => rfl) rfl rfl)
              have hrl : r < wa.heap.size := hq1.lt.2.1
              clear hHeld h1 hq1 h0S
              go_wp2
              go_meet
              exact ⟨by simp, _, HE.out, HO1.out, HP1.out⟩
          have e1 : (kd == 1) = false := by simp; exact k1
          by_cases k2 : kd = 2
          · subst k2
            as_aux_lemma =>
              by_cases hlt2 : x.lim < ao
              · have HF := Lib.hid ((raise_two x ao).1 hlt2)
                have hb1 : decide ((x.lim : Int) < (ao : Int)) = true := by simp; omega
                have hb2 : decide (x.lim < ao) = true := by simp; omega
                obtain ⟨L, hL⟩ : ∃ L, x.lim = L := ⟨_, rfl⟩
                rw [hL] at hb1 hb2
                have HO1 := Lib.hid (show Of.Ok { x with lim := ao } by have := HOK.out.raise ao; rw [HF.out] at this; exact this)
                have HP1 := Lib.hid (show Of.Pre { x with lim := ao } by have := Of.pre_raise HPRE.out ao; rw [HF.out] at this; exact this)
                have h0S : (fun w' => ∃ x1, DuA w a r g #[.int .i64 2, .int .i64 N, .int .u64 (ao : Int), .slice dA d.length dc, .bool ae] x1 x w') (wr.alloc (.cells #[.int .i64 2, .int .i64 N, .int .u64 (ao : Int), .slice dA d.length dc, .bool ae] 42)).drew := ⟨_, HA.out.below (Below.refl _ _).drew⟩
                have HA2 := Lib.hid (HA.out.below (Below.refl _ _).drew)
                clear hlt2
                go_wp2
                refine wp_region_held_drew (S := (fun w' => ∃ x1, DuA w a r g #[.int .i64 2, .int .i64 N, .int .u64 (ao : Int), .slice dA d.length dc, .bool ae] x1 x w')) (by kernel_rfl) h0S (fun hHeld => ?_)
                refine wpAnyH_take (i := 0) (oi := ?_) (v := ?_) ?_ ?_ ?_ ?_ ?_ ?_ (by assumption) ?_
                rotate_left 2
                · simp only [List.getElem?_toArray, List.getElem?_cons_zero, List.getElem?_cons_succ]
                  rfl
                · kernel_rfl
                · kernel_rfl
                · kernel_rfl
                · exact fun _ _ _ h => h
                · refine Or.inl ⟨by rfl, ?_⟩
                  intro w hSw
                  (try dsimp only at hSw)
                  go_simp
                  all_goals with_reducible rfl
                simp only [Act.put, List.setIfInBounds_toArray, List.set_cons_zero, List.set_cons_succ]
                refine wpAnyH_take (i := 1) (oi := ?_) (v := ?_) ?_ ?_ ?_ ?_ ?_ ?_ (by assumption) ?_
                rotate_left 2
                · simp only [List.getElem?_toArray, List.getElem?_cons_zero, List.getElem?_cons_succ]
                  rfl
                · kernel_rfl
                · kernel_rfl
                · kernel_rfl
                · exact fun _ _ _ h => h
                · refine Or.inl ⟨by rfl, ?_⟩
                  intro w hSw
                  (try dsimp only at hSw)
                  go_simp
                  all_goals with_reducible rfl
                simp only [Act.put, List.setIfInBounds_toArray, List.set_cons_zero, List.set_cons_succ]
                refine wpAnyH_take (i := 2) (oi := ?_) (v := ?_) ?_ ?_ ?_ ?_ ?_ ?_ (by assumption) ?_
                rotate_left 2
                · simp only [List.getElem?_toArray, List.getElem?_cons_zero, List.getElem?_cons_succ]
                  rfl
                · kernel_rfl
                · kernel_rfl
                · kernel_rfl
                · exact fun _ _ _ h => h
                · refine Or.inl ⟨by rfl, ?_⟩
                  intro w' hSw
                  obtain ⟨x1, hSw⟩ := hSw
                  have q : w'.cell? ⟨g, 2, none⟩ = some (.int .u64 (ao : Int)) := hSw.act.cell 2
                  clear hSw
                  go_simp
                  all_goals with_reducible rfl
                simp only [Act.put, List.setIfInBounds_toArray, List.set_cons_zero, List.set_cons_succ]
                refine wpAnyH_take (i := 4) (oi := ?_) (v := ?_) ?_ ?_ ?_ ?_ ?_ ?_ (by assumption) ?_
                rotate_left 2
                · simp only [List.getElem?_toArray, List.getElem?_cons_zero, List.getElem?_cons_succ]
                  rfl
                · kernel_rfl
                · kernel_rfl
                · kernel_rfl
                · exact fun _ _ _ h => h
                · refine Or.inl ⟨by rfl, ?_⟩
                  intro w hSw
                  (try dsimp only at hSw)
                  go_simp
                  all_goals with_reducible rfl
                simp only [Act.put, List.setIfInBounds_toArray, List.set_cons_zero, List.set_cons_succ]
                refine wpAnyH_take (i := 5) (oi := ?_) (v := ?_) ?_ ?_ ?_ ?_ ?_ ?_ (by assumption) ?_
                rotate_left 2
                · simp only [List.getElem?_toArray, List.getElem?_cons_zero, List.getElem?_cons_succ]
                  rfl
                · kernel_rfl
                · kernel_rfl
                · kernel_rfl
                · exact fun _ _ _ h => h
                · refine Or.inl ⟨by rfl, ?_⟩
                  intro w' hSw
                  obtain ⟨x1, hSw⟩ := hSw
                  have q : w'.cell? ⟨g, 2, none⟩ = some (.int .u64 (ao : Int)) := hSw.act.cell 2
                  clear hSw
                  go_simp
                  all_goals with_reducible rfl
                simp only [Act.put, List.setIfInBounds_toArray, List.set_cons_zero, List.set_cons_succ]
                refine wpAnyH_take (i := 6) (oi := ?_) (v := ?_) ?_ ?_ ?_ ?_ ?_ ?_ (by assumption) ?_
                rotate_left 2
                · simp only [List.getElem?_toArray, List.getElem?_cons_zero, List.getElem?_cons_succ]
                  rfl
                · kernel_rfl
                · kernel_rfl
                · kernel_rfl
                · exact fun _ _ _ h => h
                · refine Or.inl ⟨by rfl, ?_⟩
                  intro w hSw
                  (try dsimp only at hSw)
                  go_simp
                  all_goals with_reducible rfl
                simp only [Act.put, List.setIfInBounds_toArray, List.set_cons_zero, List.set_cons_succ]
                refine wpAnyH_take (i := 7) (oi := ?_) (v := ?_) ?_ ?_ ?_ ?_ ?_ ?_ (by assumption) ?_
                rotate_left 2
                · simp only [List.getElem?_toArray, List.getElem?_cons_zero, List.getElem?_cons_succ]
                  rfl
                · kernel_rfl
                · kernel_rfl
                · kernel_rfl
                · exact fun _ _ _ h => h
                · refine Or.inl ⟨by rfl, ?_⟩
                  intro w hSw
                  (try dsimp only at hSw)
                  go_simp
                  all_goals with_reducible rfl
                simp only [Act.put, List.setIfInBounds_toArray, List.set_cons_zero, List.set_cons_succ]
                refine wpAnyH_take (i := 8) (oi := ?_) (v := ?_) ?_ ?_ ?_ ?_ ?_ ?_ (by assumption) ?_
                rotate_left 2
                · simp only [List.getElem?_toArray, List.getElem?_cons_zero, List.getElem?_cons_succ]
                  rfl
                · kernel_rfl
                · kernel_rfl
                · kernel_rfl
                · exact fun _ _ _ h => h
                · refine Or.inl ⟨by rfl, ?_⟩
                  intro w hSw
                  (try dsimp only at hSw)
                  go_simp
                  all_goals with_reducible rfl
                simp only [Act.put, List.setIfInBounds_toArray, List.set_cons_zero, List.set_cons_succ]
                refine wpAnyH_take (i := 9) (oi := ?_) (v := ?_) ?_ ?_ ?_ ?_ ?_ ?_ (by assumption) ?_
                rotate_left 2
                · simp only [List.getElem?_toArray, List.getElem?_cons_zero, List.getElem?_cons_succ]
                  rfl
                · kernel_rfl
                · kernel_rfl
                · kernel_rfl
                · exact fun _ _ _ h => h
                · refine Or.inl ⟨by rfl, ?_⟩
                  intro w' hSw
                  obtain ⟨x1, hSw⟩ := hSw
                  have q : w'.cell? ⟨r, 4, none⟩ = some (.int .u64 (L : Int)) := by rw [← hL]; exact hSw.lim.1
                  clear hSw
                  go_simp
                  all_goals with_reducible rfl
                simp only [Act.put, List.setIfInBounds_toArray, List.set_cons_zero, List.set_cons_succ]
                refine wpAnyH_take (i := 10) (oi := ?_) (v := ?_) ?_ ?_ ?_ ?_ ?_ ?_ (by assumption) ?_
                rotate_left 2
                · simp only [List.getElem?_toArray, List.getElem?_cons_zero, List.getElem?_cons_succ]
                  rfl
                · kernel_rfl
                · kernel_rfl
                · kernel_rfl
                · exact fun _ _ _ h => h
                · refine Or.inl ⟨by rfl, ?_⟩
                  intro w hSw
                  (try dsimp only at hSw)
                  go_simp
                  all_goals with_reducible rfl
                simp only [Act.put, List.setIfInBounds_toArray, List.set_cons_zero, List.set_cons_succ]
                refine wpAnyH_ready (rs := [3]) (by kernel_rfl) (by simp) ?_
                refine AllReadyH.cons (o := ?_) ?_ (fun KK hKK => ?_) AllReadyH.nil
                rotate_left
                · simp only [List.getElem?_toArray, List.getElem?_cons_zero, List.getElem?_cons_succ]
                  rfl
                go_simp
                refine (HA2.out.raise ao).mono ?_; rintro e wa ⟨rfl, hq1⟩; rw [HF.out] at *
                try go_wp2_with fail
                refine hKK.out _ _ ?_ (fun h3 => ?_)
                · (try dsimp only)
                  exact ⟨_, hq1⟩
                clear hKK KK
                try simp only [Act.put, List.setIfInBounds_toArray, List.set_cons_zero, List.set_cons_succ]
                refine wpAnyH_take (i := 11) (oi := ?_) (v := ?_) ?_ ?_ ?_ ?_ ?_ ?_ (by assumption) ?_
                rotate_left 2
                · simp only [List.getElem?_toArray, List.getElem?_cons_zero, List.getElem?_cons_succ]
                  rfl
                · kernel_rfl
                · kernel_rfl
                · kernel_rfl
                · exact fun _ _ _ h => h
                · refine Or.inl ⟨by rfl, ?_⟩
                  intro w hSw
                  (try dsimp only at hSw)
                  go_simp
                  all_goals with_reducible rfl
                simp only [Act.put, List.setIfInBounds_toArray, List.set_cons_zero, List.set_cons_succ]
                refine wpAnyH_take (i := 12) (oi := ?_) (v := ?_) ?_ ?_ ?_ ?_ ?_ ?_ (by assumption) ?_
                rotate_left 2
                · simp only [List.getElem?_toArray, List.getElem?_cons_zero, List.getElem?_cons_succ]
                  rfl
                · kernel_rfl
                · kernel_rfl
                · kernel_rfl
                · exact fun _ _ _ h => h
                · refine Or.inl ⟨by rfl, ?_⟩
                  intro w hSw
                  (try dsimp only at hSw)
                  go_simp
                  all_goals with_reducible rfl
                simp only [Act.put, List.setIfInBounds_toArray, List.set_cons_zero, List.set_cons_succ]
                refine wpAnyH_done (by kernel_rfl) ?_ _
                obtain ⟨c1, z1⟩ := hq1.lim
                rw [hL] at c1
                have c2 : wa.cell? ⟨g, 2, none⟩ = some (.int .u64 (ao : Int)) := hq1.act.cell 2
                have hrl : r < wa.heap.size := hq1.lt.2.1
                have HE : Hid (∀ q, DuA w a r g #[.int .i64 2, .int .i64 N, .int .u64 (ao : Int), .slice dA d.length dc, .bool ae] { x with lim := ao } { x with lim := ao } ((wa.drewN q).setCell ⟨r, 4, none⟩ (.int .u64 (ao : Int)))) := fun q => (hq1.draws q).setR (y' := { x with lim := ao }) 4 (.int .u64 (ao : Int)) (fun vb vs => rfl) rfl rfl
                clear hHeld h3 hq1 h0S hL
                go_wp2
                go_quiet (fail)
                go_wp2
                go_meet
                exact ⟨by simp [hb1, hb2], _, HE.out _, HO1.out, HP1.out⟩
              · have HF := Lib.hid ((raise_two x ao).2 hlt2)
                have hb1 : decide ((x.lim : Int) < (ao : Int)) = false := by simp; omega
                have hb2 : decide (x.lim < ao) = false := by simp; omega
                obtain ⟨L, hL⟩ : ∃ L, x.lim = L := ⟨_, rfl⟩
                rw [hL] at hb1 hb2
                have h0S : (fun w' => ∃ x1, DuA w a r g #[.int .i64 2, .int .i64 N, .int .u64 (ao : Int), .slice dA d.length dc, .bool ae] x1 x w') (wr.alloc (.cells #[.int .i64 2, .int .i64 N, .int .u64 (ao : Int), .slice dA d.length dc, .bool ae] 42)).drew := ⟨_, HA.out.below (Below.refl _ _).drew⟩
                have HA2 := Lib.hid (HA.out.below (Below.refl _ _).drew)
                clear hlt2
                go_wp2
                refine wp_region_held_drew (S := (fun w' => ∃ x1, DuA w a r g #[.int .i64 2, .int .i64 N, .int .u64 (ao : Int), .slice dA d.length dc, .bool ae] x1 x w')) (by kernel_rfl) h0S (fun hHeld => ?_)
                refine wpAnyH_take (i := 0) (oi := ?_) (v := ?_) ?_ ?_ ?_ ?_ ?_ ?_ (by assumption) ?_
                rotate_left 2
                · simp only [List.getElem?_toArray, List.getElem?_cons_zero, List.getElem?_cons_succ]
                  rfl
                · kernel_rfl
                · kernel_rfl
                · kernel_rfl
                · exact fun _ _ _ h => h
                · refine Or.inl ⟨by rfl, ?_⟩
                  intro w hSw
                  (try dsimp only at hSw)
                  go_simp
                  all_goals with_reducible rfl
                simp only [Act.put, List.setIfInBounds_toArray, List.set_cons_zero, List.set_cons_succ]
                refine wpAnyH_take (i := 1) (oi := ?_) (v := ?_) ?_ ?_ ?_ ?_ ?_ ?_ (by assumption) ?_
                rotate_left 2
                · simp only [List.getElem?_toArray, List.getElem?_cons_zero, List.getElem?_cons_succ]
                  rfl
                · kernel_rfl
                · kernel_rfl
                · kernel_rfl
                · exact fun _ _ _ h => h
                · refine Or.inl ⟨by rfl, ?_⟩
                  intro w hSw
                  (try dsimp only at hSw)
                  go_simp
                  all_goals with_reducible rfl
                simp only [Act.put, List.setIfInBounds_toArray, List.set_cons_zero, List.set_cons_succ]
                refine wpAnyH_take (i := 2) (oi := ?_) (v := ?_) ?_ ?_ ?_ ?_ ?_ ?_ (by assumption) ?_
                rotate_left 2
                · simp only [List.getElem?_toArray, List.getElem?_cons_zero, List.getElem?_cons_succ]
                  rfl
                · kernel_rfl
                · kernel_rfl
                · kernel_rfl
                · exact fun _ _ _ h => h
                · refine Or.inl ⟨by rfl, ?_⟩
                  intro w' hSw
                  obtain ⟨x1, hSw⟩ := hSw
                  have q : w'.cell? ⟨g, 2, none⟩ = some (.int .u64 (ao : Int)) := hSw.act.cell 2
                  clear hSw
                  go_simp
                  all_goals with_reducible rfl
                simp only [Act.put, List.setIfInBounds_toArray, List.set_cons_zero, List.set_cons_succ]
                refine wpAnyH_take (i := 4) (oi := ?_) (v := ?_) ?_ ?_ ?_ ?_ ?_ ?_ (by assumption) ?_
                rotate_left 2
                · simp only [List.getElem?_toArray, List.getElem?_cons_zero, List.getElem?_cons_succ]
                  rfl
                · kernel_rfl
                · kernel_rfl
                · kernel_rfl
                · exact fun _ _ _ h => h
                · refine Or.inl ⟨by rfl, ?_⟩
                  intro w hSw
                  (try dsimp only at hSw)
                  go_simp
                  all_goals with_reducible rfl
                simp only [Act.put, List.setIfInBounds_toArray, List.set_cons_zero, List.set_cons_succ]
                refine wpAnyH_take (i := 5) (oi := ?_) (v := ?_) ?_ ?_ ?_ ?_ ?_ ?_ (by assumption) ?_
                rotate_left 2
                · simp only [List.getElem?_toArray, List.getElem?_cons_zero, List.getElem?_cons_succ]
                  rfl
                · kernel_rfl
                · kernel_rfl
                · kernel_rfl
                · exact fun _ _ _ h => h
                · refine Or.inl ⟨by rfl, ?_⟩
                  intro w' hSw
                  obtain ⟨x1, hSw⟩ := hSw
                  have q : w'.cell? ⟨g, 2, none⟩ = some (.int .u64 (ao : Int)) := hSw.act.cell 2
                  clear hSw
                  go_simp
                  all_goals with_reducible rfl
                simp only [Act.put, List.setIfInBounds_toArray, List.set_cons_zero, List.set_cons_succ]
                refine wpAnyH_take (i := 6) (oi := ?_) (v := ?_) ?_ ?_ ?_ ?_ ?_ ?_ (by assumption) ?_
                rotate_left 2
                · simp only [List.getElem?_toArray, List.getElem?_cons_zero, List.getElem?_cons_succ]
                  rfl
                · kernel_rfl
                · kernel_rfl
                · kernel_rfl
                · exact fun _ _ _ h => h
                · refine Or.inl ⟨by rfl, ?_⟩
                  intro w hSw
                  (try dsimp only at hSw)
                  go_simp
                  all_goals with_reducible rfl
                simp only [Act.put, List.setIfInBounds_toArray, List.set_cons_zero, List.set_cons_succ]
                refine wpAnyH_take (i := 7) (oi := ?_) (v := ?_) ?_ ?_ ?_ ?_ ?_ ?_ (by assumption) ?_
                rotate_left 2
                · simp only [List.getElem?_toArray, List.getElem?_cons_zero, List.getElem?_cons_succ]
                  rfl
                · kernel_rfl
                · kernel_rfl
                · kernel_rfl
                · exact fun _ _ _ h => h
                · refine Or.inl ⟨by rfl, ?_⟩
                  intro w hSw
                  (try dsimp only at hSw)
                  go_simp
                  all_goals with_reducible rfl
                simp only [Act.put, List.setIfInBounds_toArray, List.set_cons_zero, List.set_cons_succ]
                refine wpAnyH_take (i := 8) (oi := ?_) (v := ?_) ?_ ?_ ?_ ?_ ?_ ?_ (by assumption) ?_
                rotate_left 2
                · simp only [List.getElem?_toArray, List.getElem?_cons_zero, List.getElem?_cons_succ]
                  rfl
                · kernel_rfl
                · kernel_rfl
                · kernel_rfl
                · exact fun _ _ _ h => h
                · refine Or.inl ⟨by rfl, ?_⟩
                  intro w hSw
                  (try dsimp only at hSw)
                  go_simp
                  all_goals with_reducible rfl
                simp only [Act.put, List.setIfInBounds_toArray, List.set_cons_zero, List.set_cons_succ]
                refine wpAnyH_take (i := 9) (oi := ?_) (v := ?_) ?_ ?_ ?_ ?_ ?_ ?_ (by assumption) ?_
                rotate_left 2
                · simp only [List.getElem?_toArray, List.getElem?_cons_zero, List.getElem?_cons_succ]
                  rfl
                · kernel_rfl
                · kernel_rfl
                · kernel_rfl
                · exact fun _ _ _ h => h
                · refine Or.inl ⟨by rfl, ?_⟩
                  intro w' hSw
                  obtain ⟨x1, hSw⟩ := hSw
                  have q : w'.cell? ⟨r, 4, none⟩ = some (.int .u64 (L : Int)) := by rw [← hL]; exact hSw.lim.1
                  clear hSw
                  go_simp
                  all_goals with_reducible rfl
                simp only [Act.put, List.setIfInBounds_toArray, List.set_cons_zero, List.set_cons_succ]
                refine wpAnyH_take (i := 10) (oi := ?_) (v := ?_) ?_ ?_ ?_ ?_ ?_ ?_ (by assumption) ?_
                rotate_left 2
                · simp only [List.getElem?_toArray, List.getElem?_cons_zero, List.getElem?_cons_succ]
                  rfl
                · kernel_rfl
                · kernel_rfl
                · kernel_rfl
                · exact fun _ _ _ h => h
                · refine Or.inl ⟨by rfl, ?_⟩
                  intro w hSw
                  (try dsimp only at hSw)
                  go_simp
                  all_goals with_reducible rfl
                simp only [Act.put, List.setIfInBounds_toArray, List.set_cons_zero, List.set_cons_succ]
                refine wpAnyH_ready (rs := [3]) (by kernel_rfl) (by simp) ?_
                refine AllReadyH.cons (o := ?_) ?_ (fun KK hKK => ?_) AllReadyH.nil
                rotate_left
                · simp only [List.getElem?_toArray, List.getElem?_cons_zero, List.getElem?_cons_succ]
                  rfl
                go_simp
                refine (HA2.out.raise ao).mono ?_; rintro e wa ⟨rfl, hq1⟩; rw [HF.out] at *
                try go_wp2_with fail
                refine hKK.out _ _ ?_ (fun h3 => ?_)
                · (try dsimp only)
                  exact ⟨_, hq1⟩
                clear hKK KK
                try simp only [Act.put, List.setIfInBounds_toArray, List.set_cons_zero, List.set_cons_succ]
                refine wpAnyH_take (i := 11) (oi := ?_) (v := ?_) ?_ ?_ ?_ ?_ ?_ ?_ (by assumption) ?_
                rotate_left 2
                · simp only [List.getElem?_toArray, List.getElem?_cons_zero, List.getElem?_cons_succ]
                  rfl
                · kernel_rfl
                · kernel_rfl
                · kernel_rfl
                · exact fun _ _ _ h => h
                · refine Or.inl ⟨by rfl, ?_⟩
                  intro w hSw
                  (try dsimp only at hSw)
                  go_simp
                  all_goals with_reducible rfl
                simp only [Act.put, List.setIfInBounds_toArray, List.set_cons_zero, List.set_cons_succ]
                refine wpAnyH_take (i := 12) (oi := ?_) (v := ?_) ?_ ?_ ?_ ?_ ?_ ?_ (by assumption) ?_
                rotate_left 2
                · simp only [List.getElem?_toArray, List.getElem?_cons_zero, List.getElem?_cons_succ]
                  rfl
                · kernel_rfl
                · kernel_rfl
                · kernel_rfl
                · exact fun _ _ _ h => h
                · refine Or.inl ⟨by rfl, ?_⟩
                  intro w hSw
                  (try dsimp only at hSw)
                  go_simp
                  all_goals with_reducible rfl
                simp only [Act.put, List.setIfInBounds_toArray, List.set_cons_zero, List.set_cons_succ]
                refine wpAnyH_done (by kernel_rfl) ?_ _
                obtain ⟨c1, z1⟩ := hq1.lim
                rw [hL] at c1
                have c2 : wa.cell? ⟨g, 2, none⟩ = some (.int .u64 (ao : Int)) := hq1.act.cell 2
                have hrl : r < wa.heap.size := hq1.lt.2.1
                have HE : Hid (∀ q, DuA w a r g #[.int .i64 2, .int .i64 N, .int .u64 (ao : Int), .slice dA d.length dc, .bool ae] x x (wa.drewN q)) := fun q => hq1.draws q
                clear hHeld h3 hq1 h0S hL
                go_wp2
                go_quiet (fail)
                go_wp2
                go_meet
                exact ⟨by simp [hb1, hb2], _, HE.out _, HOK.out, HPRE.out⟩
          have e2 : (kd == 2) = false := by simp; exact k2
          by_cases k3 : kd = 3
          · subst k3
            as_aux_lemma =>
              by_cases hN1 : N < 1
              · have HA2 := HA
                have d1 : (wr.alloc (.cells #[.int .i64 3, .int .i64 N, .int .u64 (ao : Int), .slice dA d.length dc, .bool ae] 42)).cell? ⟨g, 1, none⟩ = some (.int .i64 N) := HA.out.act.cell 1
                go_wp2_with fail
                refine (next0_any _ N (Or.inl hN1) _).mono ?_
                rintro e w2 ⟨rfl, rfl⟩
                go_wp2_with fail
                refine (rnext0_any _ N hN1 true _).mono ?_
                rintro e w2 ⟨rfl, rfl⟩
                go_wp2_with fail
                refine (same_true none none 0 0 [] _ (fun h => absurd h (by simp)) (fun h => absurd h (by simp)) (by simp)).mono ?_
                rintro e w2 ⟨rfl, q, rfl⟩
                have HE := Lib.hid (HA.out.draws q)
                clear HA2 d1
                go_wp2
                go_meet
                exact ⟨by simp, _, HE.out, HOK.out, HPRE.out⟩
              · obtain ⟨M, rfl⟩ : ∃ M : Nat, N = M := ⟨N.toNat, by omega⟩
                have hM0 : 0 < M := by omega
                have hM : M ≤ 9223372036854775807 := by have := HN.out.2; omega
                have HO1 := Lib.hid (HOK.out.next M)
                have HP1 := Lib.hid (Of.pre_next HPRE.out M)
                have hd2 : (Of.due x M).1 ≤ 2000 := by
                  have h1 := Of.due_le x M
                  have h2 := HOK.out.len
                  have h3 := HOK.out.cap
                  omega
                have hol : (outB x M).length ≤ 1000000 := by
                  have h3 := HOK.out.cap
                  unfold outB
                  rw [List.length_take, List.length_drop]; omega
                have d1 : (wr.alloc (.cells #[.int .i64 3, .int .i64 (M : Int), .int .u64 (ao : Int), .slice dA d.length dc, .bool ae] 42)).cell? ⟨g, 1, none⟩ = some (.int .i64 (M : Int)) := HA.out.act.cell 1
                go_wp2_with fail
                refine (HA.out.next HOK.out M hM0 hM).mono ?_
                rintro e w2 ⟨A1, c1, rfl, hN⟩
                have HNN := Lib.hid hN
                clear hN d1
                have d1 : w2.cell? ⟨g, 1, none⟩ = some (.int .i64 (M : Int)) := HNN.out.dua.act.cell 1
                go_wp2_with fail
                refine (HNN.out.rnext HOK.out M hM0 hM).mono ?_
                rintro e w3 ⟨A2, c2, rfl, hr1, hr2, hq⟩
                have HSM := Lib.hid (same_true A1 A2 c1 c2 (outB x M) w3 hr2 hr1 hol)
                have HQ := Lib.hid hq
                clear hr1 hr2 hq hol d1 HNN HA
                generalize (outB x M).length = ol at *
                generalize Of.due x M = D at *
                obtain ⟨p1, p2, en, okb⟩ := D
                simp only at hd2
                go_wp2_with fail
                refine HSM.out.mono ?_
                rintro e w4 ⟨rfl, q, rfl⟩
                have HE := Lib.hid (HQ.out.draws q)
                clear HQ HSM
                go_wp2
                go_meet
                exact ⟨by simp, _, HE.out, HO1.out, HP1.out⟩
          have e3 : (kd == 3) = false := by simp; exact k3
          by_cases k4 : kd = 4
          · subst k4
            as_aux_lemma =>
              have HO1 := Lib.hid (show Of.Ok (Of.turn x ao N ae Of.fAck) from HOK.out.turn _ _ _ _ Of.fAck_le)
              have HP1 := Lib.hid (Of.pre_turn HPRE.out ao N ae Of.fAck Of.fAck_zero)
              have d1 : (wr.alloc (.cells #[.int .i64 4, .int .i64 N, .int .u64 (ao : Int), .slice dA d.length dc, .bool ae] 42)).cell? ⟨g, 1, none⟩ = some (.int .i64 N) := HA.out.act.cell 1
              have d2 : (wr.alloc (.cells #[.int .i64 4, .int .i64 N, .int .u64 (ao : Int), .slice dA d.length dc, .bool ae] 42)).cell? ⟨g, 2, none⟩ = some (.int .u64 (ao : Int)) := HA.out.act.cell 2
              have d4 : (wr.alloc (.cells #[.int .i64 4, .int .i64 N, .int .u64 (ao : Int), .slice dA d.length dc, .bool ae] 42)).cell? ⟨g, 4, none⟩ = some (.bool ae) := HA.out.act.cell 4
              go_wp2_with fail
              refine (HA.out.acked HOK.out ao N ae).mono ?_
              rintro e w2 ⟨rfl, hq⟩
              have HQ := Lib.hid hq
              clear d1 d2 d4
              have d1 : w2.cell? ⟨g, 1, none⟩ = some (.int .i64 N) := hq.act.cell 1
              have d2 : w2.cell? ⟨g, 2, none⟩ = some (.int .u64 (ao : Int)) := hq.act.cell 2
              have d4 : w2.cell? ⟨g, 4, none⟩ = some (.bool ae) := hq.act.cell 4
              clear hq HA
              go_wp2_with fail
              refine (HQ.out.racked HOK.out ao HAO.out N HN.out ae).mono ?_
              rintro e w3 ⟨rfl, hq⟩
              have HE := Lib.hid hq
              clear hq HQ d1 d2 d4
              go_wp2
              go_meet
              exact ⟨rfl, _, HE.out, HO1.out, HP1.out⟩
          have e4 : (kd == 4) = false := by simp; exact k4
          by_cases k5 : kd = 5
          · subst k5
            as_aux_lemma =>
              have HO1 := Lib.hid (show Of.Ok (Of.turn x ao N ae Of.fLost) from HOK.out.turn _ _ _ _ Of.fLost_le)
              have HP1 := Lib.hid (Of.pre_turn HPRE.out ao N ae Of.fLost Of.fLost_zero)
              have d1 : (wr.alloc (.cells #[.int .i64 5, .int .i64 N, .int .u64 (ao : Int), .slice dA d.length dc, .bool ae] 42)).cell? ⟨g, 1, none⟩ = some (.int .i64 N) := HA.out.act.cell 1
              have d2 : (wr.alloc (.cells #[.int .i64 5, .int .i64 N, .int .u64 (ao : Int), .slice dA d.length dc, .bool ae] 42)).cell? ⟨g, 2, none⟩ = some (.int .u64 (ao : Int)) := HA.out.act.cell 2
              have d4 : (wr.alloc (.cells #[.int .i64 5, .int .i64 N, .int .u64 (ao : Int), .slice dA d.length dc, .bool ae] 42)).cell? ⟨g, 4, none⟩ = some (.bool ae) := HA.out.act.cell 4
              go_wp2_with fail
              refine (HA.out.lost HOK.out ao N ae).mono ?_
              rintro e w2 ⟨rfl, hq⟩
              have HQ := Lib.hid hq
              clear d1 d2 d4
              have d1 : w2.cell? ⟨g, 1, none⟩ = some (.int .i64 N) := hq.act.cell 1
              have d2 : w2.cell? ⟨g, 2, none⟩ = some (.int .u64 (ao : Int)) := hq.act.cell 2
              have d4 : w2.cell? ⟨g, 4, none⟩ = some (.bool ae) := hq.act.cell 4
              clear hq HA
              go_wp2_with fail
              refine (HQ.out.rlost HOK.out ao HAO.out N HN.out ae).mono ?_
              rintro e w3 ⟨rfl, hq⟩
              have HE := Lib.hid hq
              clear hq HQ d1 d2 d4
              go_wp2
              go_meet
              exact ⟨rfl, _, HE.out, HO1.out, HP1.out⟩
          have e5 : (kd == 5) = false := by simp; exact k5
          go_wp2
          go_meet
          exact ⟨rfl, _, HA.out, HOK.out, HPRE.out⟩
        case rest =>
          obtain ⟨rfl, x', hDA, hok', hpre'⟩ := hcut
          have HD2 := Lib.hid hDA
          have HO2 := Lib.hid hok'
          have HP2 := Lib.hid hpre'
          clear HA HOK HPRE HDB HDC HDL2 HN hDA hok' hpre' hg hls HAT HOK2 HDL f0 f1 f2 f3 f4
          go_wp2_with fail
          refine (HD2.out.rsome HO2.out).mono ?_
          rintro e w3 ⟨v1, v2, v3, rfl, hD3⟩
          have D3 := Lib.hid hD3
          obtain ⟨base, c, hbc, f0, -, -, -, -⟩ := hD3.cellR
          have d1 : w3.cell? ⟨g, 1, none⟩ = some (.int .i64 N) := hD3.act.cell 1
          have d2 : w3.cell? ⟨g, 2, none⟩ = some (.int .u64 (ao : Int)) := hD3.act.cell 2
          clear HD2 hD3
          have H1 : Hid (∀ q, Calls Try.prog 16 #[.pointer (some ⟨a, 0, none⟩)] (w3.drewN q) fun e w' => e = .returned (.int .i64 (x'.b.length : Nat)) ∧ w3.drewN q = w') := fun q => (D3.out.draws q).written
          have H2 : Hid (∀ q, Calls Try.prog 17 #[.pointer (some ⟨a, 0, none⟩)] (w3.drewN q) fun e w' => e = .returned (.int .u64 (Of.sent x' : Nat)) ∧ ∃ m, w' = (w3.drewN q).drewN m) := fun q => (D3.out.draws q).sent HO2.out
          have H3 : Hid (∀ q, Calls Try.prog 28 #[.pointer (some ⟨r, 0, none⟩)] (w3.drewN q) fun e w' => e = .returned (.int .i64 (Of.sent x' : Nat)) ∧ w3.drewN q = w') := fun q => (D3.out.draws q).rsent HO2.out HP2.out
          have H4 : Hid (∀ q, Calls Try.prog 18 #[.pointer (some ⟨a, 0, none⟩)] (w3.drewN q) fun e w' => e = .returned (.bool (Of.some_ x')) ∧ ∃ m, w' = (w3.drewN q).drewN m) := fun q => (D3.out.draws q).some_ HO2.out
          have H5 : Hid (∀ q, Calls Try.prog 19 #[.pointer (some ⟨a, 0, none⟩)] (w3.drewN q) fun e w' => e = .returned (.bool (Of.blocked x')) ∧ ∃ m, w' = (w3.drewN q).drewN m) := fun q => (D3.out.draws q).blocked HO2.out
          have H6 : Hid (∀ q, Calls Try.prog 29 #[.pointer (some ⟨r, 0, none⟩)] (w3.drewN q) fun e w' => e = .returned (.bool (Of.blocked x')) ∧ w3.drewN q = w') := fun q => (D3.out.draws q).rblocked HO2.out
          have H7 : Hid (∀ q, Calls Try.prog 20 #[.pointer (some ⟨a, 0, none⟩)] (w3.drewN q) fun e w' => e = .returned (.bool (Of.done x')) ∧ ∃ m, w' = (w3.drewN q).drewN m) := fun q => (D3.out.draws q).done HO2.out
          have H8 : Hid (∀ q, Calls Try.prog 30 #[.pointer (some ⟨r, 0, none⟩)] (w3.drewN q) fun e w' => e = .returned (.bool (Of.done x')) ∧ w3.drewN q = w') := fun q => (D3.out.draws q).rdone HO2.out
          have H9 : Hid (∀ q, Calls Try.prog 21 #[.pointer (some ⟨a, 0, none⟩), .int .u64 (ao : Int), .int .i64 N] (w3.drewN q) fun e w' => e = .returned (.bool (hadI x' ao N)) ∧ ∃ m, w' = (w3.drewN q).drewN m) := fun q => (D3.out.draws q).had HO2.out ao N
          have H10 : Hid (∀ q, Calls Try.prog 31 #[.pointer (some ⟨r, 0, none⟩), .int .u64 (ao : Int), .int .i64 N] (w3.drewN q) fun e w' => e = .returned (.bool (hadI x' ao N)) ∧ w3.drewN q = w') := fun q => (D3.out.draws q).rhad HO2.out ao N
          have hsv : Of.sent x' ≤ 2000 := Nat.le_trans (Of.fst_le 0 x'.s) (by have := HO2.out.len; have := HO2.out.cap; omega)
          generalize hadI x' ao N = hv at *
          generalize Of.sent x' = sv at *
          generalize Of.some_ x' = so at *
          generalize Of.blocked x' = bk at *
          generalize Of.done x' = dn at *
          generalize x'.b.length = bl at *
          go_wp2
          go_quiet (first
            | (go_at_call 16; exact quiet1 (H1.out _))
            | (go_at_call 17; exact quiet2 (H2.out _))
            | (go_at_call 28; exact quiet1 (H3.out _))
            | (go_at_call 18; exact quiet2 (H4.out _))
            | (go_at_call 19; exact quiet2 (H5.out _))
            | (go_at_call 29; exact quiet1 (H6.out _))
            | (go_at_call 20; exact quiet2 (H7.out _))
            | (go_at_call 30; exact quiet1 (H8.out _))
            | (go_at_call 21; exact quiet2 (H9.out _))
            | (go_at_call 31; exact quiet1 (H10.out _)))
          go_wp2
          go_roundg (gk - 1)
          case rel => exact ⟨k + 1, x', by omega, by go_num, (D3.out.draws _).dux, HO2.out, HP2.out⟩
          case measure => omega
      · obtain rfl : k = n0 := by omega
        go_wp2
        go_ret
        exact ⟨rfl, HD.out.bel⟩
end Go.Proofs.Ytdloeakmoaoalaa
