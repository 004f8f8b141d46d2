/- Layer 7's law HashExpands, walked. -/
import Derived.Test.YtanigdadhldceaaDoorShM
import Derived.Test.YtanigdadhldceaaDoorShR
namespace Go.Proofs.YtanigdadhldceaaDoor
open Go Go.RowKit
set_option linter.unusedVariables false
set_option linter.unusedSimpArgs false

theorem same_rv (l : List Nat) (v v' : Value) (w : World) (h1 : RV l v w) (h2 : RV l v' w) :
    Calls Tryd.prog 14 #[v, v'] w fun e w' => e = .returned (.bool true) ∧ ∃ q, w' = w.drewN q := by
  obtain ⟨A, c, rfl, r1, hl⟩ := h1
  obtain ⟨B, d, rfl, r2, _⟩ := h2
  exact same_true A B c d l.length l w rfl r1 r2 (by omega)
theorem below_drewN {B : Nat} {w0 w : World} (h : Below B w0 w) (q : Nat) : Below B w0 (w.drewN q) := ⟨h.os, h.tape, h.output, h.size, h.block⟩

set_option maxRecDepth 100000 in
set_option maxHeartbeats 8000000 in
theorem hashExpands_walk (s : List Nat) (A1 : Option Addr) (n1 c1 : Nat) (l1 : List Int) (lab : ByteArray) (n : Int) (W : World) (hs : s.length = 32) (qs : ∀ x ∈ s, x < 256) (w1 : Ints .u8 W A1 n1 l1) (x1 : n1 ≤ c1 ∧ c1 ≤ maxLen) (w2 : lab.size ≤ maxLen) (w3 : (Lit.int .i64 n).wf = true) (ht : Tabs W) :
    Calls Tryd.prog 4 #[.agg (cellsK .u8 s), .slice A1 n1 c1, .string lab, .int .i64 n] W fun e W' => e = .returned (.bool true) ∧ Below W.heap.size W W' := by
  obtain ⟨info, hk, qk, rk⟩ := Ints_rb w1
  have b0 : Below W.heap.size W (W.alloc (.cells (cellsK .u8 s) 25)) := (Below.refl _ W).alloc (Nat.le_refl _) _
  have HB0 := Lib.hid b0
  have HAL := Lib.hid (alive_any _ (ht.below b0))
  have HK := Lib.hid hk
  have HQK := Lib.hid qk
  have HRK := Lib.hid rk
  have HT := Lib.hid ht
  have HS := Lib.hid hs
  have HQS := Lib.hid qs
  have HW2 := Lib.hid w2
  have hi1 : n1 ≤ 9223372036854775807 := by have := x1.1; have := x1.2; simp only [maxLen] at this; omega
  have hi2 : lab.size ≤ 9223372036854775807 := by have := w2; simp only [maxLen] at this; omega
  clear w1 w2 w3 x1 ht hk qk rk hs qs b0
  have HFB : Hid (∀ w2, Below (W.alloc (.cells (cellsK .u8 s) 25)).heap.size (W.alloc (.cells (cellsK .u8 s) 25)) w2 → Below W.heap.size W w2 ∧ Obj w2 W.heap.size 25 (cellsK .u8 s)) := fun w2 h => ⟨HB0.out.trans (h.mono (by simp)), (Obj.new W _ _).kept h⟩
  by_cases h : 200 < n1 ∨ 100 < lab.size
  · by_cases h1 : 200 < n1
    · have d1 : decide (200 < (n1 : Int)) = true := by simp; omega
      go_enter Tryd.func4, Tryd.ntmps4
      go_wp2_with (go_at_call 8; refine HAL.out.mono ?_; rintro e w2 ⟨rfl, hb2⟩; have HB2 := Lib.hid (HFB.out w2 hb2); clear hb2)
      go_ret
      exact ⟨rfl, HB2.out.1⟩
    · have d1 : decide (200 < (n1 : Int)) = false := by simp; omega
      have d2 : decide (100 < (lab.size : Int)) = true := by simp; omega
      go_enter Tryd.func4, Tryd.ntmps4
      go_wp2_with (go_at_call 8; refine HAL.out.mono ?_; rintro e w2 ⟨rfl, hb2⟩; have HB2 := Lib.hid (HFB.out w2 hb2); clear hb2)
      go_ret
      exact ⟨rfl, HB2.out.1⟩
  · have g1 : n1 ≤ 200 := by omega
    have d1 : decide (200 < (n1 : Int)) = false := by simp; omega
    have d2 : decide (100 < (lab.size : Int)) = false := by simp; omega
    clear h
    go_enter Tryd.func4, Tryd.ntmps4
    go_wp2_with (go_at_call 8; refine HAL.out.mono ?_; rintro e w2 ⟨rfl, hb2⟩; have HB2 := Lib.hid (HFB.out w2 hb2); clear hb2)
    have HEX : Hid (∀ V, Below W.heap.size W V → Calls Tryd.prog 15 #[.agg (cellsK .u8 s), .slice A1 n1 c1, .int .i64 n] V fun e w' => ∃ v, e = .returned v ∧ RV (exS s info n) v w' ∧ Below V.heap.size V w') := fun V hV =>
      (expand_all s info A1 n1 c1 n V (HT.out.below hV) HS.out HQS.out (HRK.out.below hV) HK.out HQK.out (by omega)).mono fun e w' ⟨v, h1, h2, h3⟩ => ⟨v, h1, h2.rv, h3⟩
    have HEY : Hid (∀ V, Below W.heap.size W V → Calls Tryd.prog 16 #[.agg (cellsK .u8 s), .slice A1 n1 c1, .int .i64 n] V fun e w' => ∃ v, e = .returned v ∧ RV (exS s info n) v w' ∧ Below V.heap.size V w') := fun V hV =>
      rexpand_all s info A1 n1 c1 n V (HT.out.below hV) HS.out HQS.out (HRK.out.below hV) HK.out HQK.out (by omega)
    have HLX : Hid (∀ V, Below W.heap.size W V → Calls Tryd.prog 17 #[.agg (cellsK .u8 s), .string lab, .int .i64 n] V fun e w' => ∃ v, e = .returned v ∧ RV (labS s lab n) v w' ∧ Below V.heap.size V w') := fun V hV =>
      label_all s lab n V (HT.out.below hV) HS.out HQS.out HW2.out
    have HLY : Hid (∀ V, Below W.heap.size W V → Calls Tryd.prog 18 #[.agg (cellsK .u8 s), .string lab, .int .i64 n] V fun e w' => ∃ v, e = .returned v ∧ RV (labS s lab n) v w' ∧ Below V.heap.size V w') := fun V hV => by
      by_cases h : 60 < lab.size ∨ n < 0 ∨ 255 < n
      · refine (rlabel_no s lab n V h HW2.out).mono fun e w' ⟨h1, h2⟩ => ⟨_, h1, ?_, h2⟩
        have : labS s lab n = [] := by
          unfold labS
          by_cases g : 60 < lab.size
          · rw [if_pos g]
          · rw [if_neg g]; unfold exS; rw [if_pos (by omega)]
        rw [this]; exact RV.nil w'
      · obtain ⟨k, rfl⟩ := Int.eq_ofNat_of_zero_le (show 0 ≤ n by omega)
        have := rlabel_any s lab k V (HT.out.below hV) HS.out HQS.out (by omega) (by omega)
        have e : labS s lab (k : Int) = exS s (infoL (bl lab) 0 k) (k : Int) := by
          unfold labS
          rw [if_neg (by omega), show (((k : Nat) : Int) / 256 % 256).toNat = 0 by omega, show (((k : Nat) : Int) % 256).toNat = k by omega]
        rw [e]; exact this
    have HE0 : Hid (Obj w2.drew W.heap.size 25 (cellsK .u8 s) ∧ Below W.heap.size W w2.drew) := ⟨HB2.out.2.drew, HB2.out.1.drew⟩
    have HSZ := Lib.hid (sizeH HS.out)
    clear HAL HFB HB2 HB0 d1 d2
    generalize hBB : W.heap.size = B at *
    have HBE := Lib.hid hBB
    clear hBB
    generalize exS s info n = xl at *
    generalize labS s lab n = xm at *
    refine wp_region_held_drew (S := (fun wq => Obj wq B 25 (cellsK .u8 s))) (by kernel_rfl) HE0.out.1 (fun hHeld => ?_)
    refine wpAnyH_take (i := 0) (oi := ?_) (v := ?_) ?_ ?_ ?_ ?_ ?_ ?_ (by assumption) ?_
    rotate_left 2
    · simp only [List.getElem?_toArray, List.getElem?_cons_zero, List.getElem?_cons_succ]
      rfl
    · kernel_rfl
    · kernel_rfl
    · kernel_rfl
    · exact fun _ _ _ h => h
    · refine yieldsIf_load_row (g := B) (t := 25) (cs := (cellsK .u8 s)) (ty := 25) (x := (.tmp 4)) ?_ ?_ ?_ ?_ Tryd.underlying25 rfl HSZ.out
      · rfl
      · rfl
      · rfl
      · exact fun w hSw => hSw
    simp only [Act.put, List.setIfInBounds_toArray, List.set_cons_zero, List.set_cons_succ]
    refine wpAnyH_take (i := 1) (oi := ?_) (v := ?_) ?_ ?_ ?_ ?_ ?_ ?_ (by assumption) ?_
    rotate_left 2
    · simp only [List.getElem?_toArray, List.getElem?_cons_zero, List.getElem?_cons_succ]
      rfl
    · kernel_rfl
    · kernel_rfl
    · kernel_rfl
    · exact fun _ _ _ h => h
    · refine Or.inl ⟨by rfl, ?_⟩
      intro w hSw
      (try dsimp only at hSw)
      go_simp
      all_goals with_reducible rfl
    simp only [Act.put, List.setIfInBounds_toArray, List.set_cons_zero, List.set_cons_succ]
    refine wpAnyH_take (i := 2) (oi := ?_) (v := ?_) ?_ ?_ ?_ ?_ ?_ ?_ (by assumption) ?_
    rotate_left 2
    · simp only [List.getElem?_toArray, List.getElem?_cons_zero, List.getElem?_cons_succ]
      rfl
    · kernel_rfl
    · kernel_rfl
    · kernel_rfl
    · exact fun _ _ _ h => h
    · refine Or.inl ⟨by rfl, ?_⟩
      intro w hSw
      (try dsimp only at hSw)
      go_simp
      all_goals with_reducible rfl
    simp only [Act.put, List.setIfInBounds_toArray, List.set_cons_zero, List.set_cons_succ]
    refine wpAnyH_take (i := 4) (oi := ?_) (v := ?_) ?_ ?_ ?_ ?_ ?_ ?_ (by assumption) ?_
    rotate_left 2
    · simp only [List.getElem?_toArray, List.getElem?_cons_zero, List.getElem?_cons_succ]
      rfl
    · kernel_rfl
    · kernel_rfl
    · kernel_rfl
    · exact fun _ _ _ h => h
    · refine yieldsIf_load_row (g := B) (t := 25) (cs := (cellsK .u8 s)) (ty := 25) (x := (.tmp 4)) ?_ ?_ ?_ ?_ Tryd.underlying25 rfl HSZ.out
      · rfl
      · rfl
      · rfl
      · exact fun w hSw => hSw
    simp only [Act.put, List.setIfInBounds_toArray, List.set_cons_zero, List.set_cons_succ]
    refine wpAnyH_take (i := 5) (oi := ?_) (v := ?_) ?_ ?_ ?_ ?_ ?_ ?_ (by assumption) ?_
    rotate_left 2
    · simp only [List.getElem?_toArray, List.getElem?_cons_zero, List.getElem?_cons_succ]
      rfl
    · kernel_rfl
    · kernel_rfl
    · kernel_rfl
    · exact fun _ _ _ h => h
    · refine Or.inl ⟨by rfl, ?_⟩
      intro w hSw
      (try dsimp only at hSw)
      go_simp
      all_goals with_reducible rfl
    simp only [Act.put, List.setIfInBounds_toArray, List.set_cons_zero, List.set_cons_succ]
    refine wpAnyH_take (i := 6) (oi := ?_) (v := ?_) ?_ ?_ ?_ ?_ ?_ ?_ (by assumption) ?_
    rotate_left 2
    · simp only [List.getElem?_toArray, List.getElem?_cons_zero, List.getElem?_cons_succ]
      rfl
    · kernel_rfl
    · kernel_rfl
    · kernel_rfl
    · exact fun _ _ _ h => h
    · refine Or.inl ⟨by rfl, ?_⟩
      intro w hSw
      (try dsimp only at hSw)
      go_simp
      all_goals with_reducible rfl
    simp only [Act.put, List.setIfInBounds_toArray, List.set_cons_zero, List.set_cons_succ]
    refine wpAnyH_ready (rs := [3]) (by kernel_rfl) (by simp) ?_
    refine AllReadyH.cons (o := ?_) ?_ (fun KK hKK => ?_) AllReadyH.nil
    rotate_left
    · simp only [List.getElem?_toArray, List.getElem?_cons_zero, List.getElem?_cons_succ]
      rfl
    go_simp
    refine (HEX.out _ HE0.out.2).mono ?_; rintro e w3 ⟨v3, rfl, hv, hb⟩
    try go_wp2_with fail
    have HE1 : Hid (Obj w3 B 25 (cellsK .u8 s) ∧ Below B W w3) := ⟨HE0.out.1.kept hb, HE0.out.2.trans (hb.mono (Nat.le_of_lt HE0.out.1.lt))⟩
    have Rv3 := Lib.hid hv
    clear hv hb
    refine hKK.out _ _ ?_ (fun hh3 => ?_)
    · (try dsimp only)
      exact HE1.out.1
    clear hKK KK
    try simp only [Act.put, List.setIfInBounds_toArray, List.set_cons_zero, List.set_cons_succ]
    refine wpAnyH_ready (rs := [7]) (by kernel_rfl) (by simp) ?_
    refine AllReadyH.cons (o := ?_) ?_ (fun KK hKK => ?_) AllReadyH.nil
    rotate_left
    · simp only [List.getElem?_toArray, List.getElem?_cons_zero, List.getElem?_cons_succ]
      rfl
    go_simp
    refine (HEY.out _ HE1.out.2).mono ?_; rintro e w7 ⟨v7, rfl, hv, hb⟩
    try go_wp2_with fail
    have HE2 : Hid (Obj w7 B 25 (cellsK .u8 s) ∧ Below B W w7) := ⟨HE1.out.1.kept hb, HE1.out.2.trans (hb.mono (Nat.le_of_lt HE1.out.1.lt))⟩
    have Rv7 := Lib.hid hv
    have Rv3' := Lib.hid (Rv3.out.below hb)
    clear hv hb
    refine hKK.out _ _ ?_ (fun hh7 => ?_)
    · (try dsimp only)
      exact HE2.out.1
    clear hKK KK
    try simp only [Act.put, List.setIfInBounds_toArray, List.set_cons_zero, List.set_cons_succ]
    refine wpAnyH_ready (rs := [8]) (by kernel_rfl) (by simp) ?_
    refine AllReadyH.cons (o := ?_) ?_ (fun KK hKK => ?_) AllReadyH.nil
    rotate_left
    · simp only [List.getElem?_toArray, List.getElem?_cons_zero, List.getElem?_cons_succ]
      rfl
    go_simp
    refine (same_rv _ _ _ w7 Rv3'.out Rv7.out).mono ?_; rintro e w9 ⟨rfl, q8, rfl⟩
    try go_wp2_with fail
    have HE3 : Hid (Obj (w7.drewN q8) B 25 (cellsK .u8 s) ∧ Below B W (w7.drewN q8)) := ⟨HE2.out.1.drewN q8, below_drewN HE2.out.2 q8⟩
    refine hKK.out _ _ ?_ (fun hh8 => ?_)
    · (try dsimp only)
      exact HE3.out.1
    clear hKK KK
    try simp only [Act.put, List.setIfInBounds_toArray, List.set_cons_zero, List.set_cons_succ]
    refine wpAnyH_take (i := 9) (oi := ?_) (v := ?_) ?_ ?_ ?_ ?_ ?_ ?_ (by assumption) ?_
    rotate_left 2
    · simp only [List.getElem?_toArray, List.getElem?_cons_zero, List.getElem?_cons_succ]
      rfl
    · kernel_rfl
    · kernel_rfl
    · kernel_rfl
    · exact fun _ _ _ h => h
    · refine Or.inl ⟨by rfl, ?_⟩
      intro w hSw
      (try dsimp only at hSw)
      go_simp
      all_goals with_reducible rfl
    simp only [Act.put, List.setIfInBounds_toArray, List.set_cons_zero, List.set_cons_succ]
    refine wpAnyH_take (i := 10) (oi := ?_) (v := ?_) ?_ ?_ ?_ ?_ ?_ ?_ (by assumption) ?_
    rotate_left 2
    · simp only [List.getElem?_toArray, List.getElem?_cons_zero, List.getElem?_cons_succ]
      rfl
    · kernel_rfl
    · kernel_rfl
    · kernel_rfl
    · exact fun _ _ _ h => h
    · refine yieldsIf_load_row (g := B) (t := 25) (cs := (cellsK .u8 s)) (ty := 25) (x := (.tmp 4)) ?_ ?_ ?_ ?_ Tryd.underlying25 rfl HSZ.out
      · rfl
      · rfl
      · rfl
      · exact fun w hSw => hSw
    simp only [Act.put, List.setIfInBounds_toArray, List.set_cons_zero, List.set_cons_succ]
    refine wpAnyH_take (i := 11) (oi := ?_) (v := ?_) ?_ ?_ ?_ ?_ ?_ ?_ (by assumption) ?_
    rotate_left 2
    · simp only [List.getElem?_toArray, List.getElem?_cons_zero, List.getElem?_cons_succ]
      rfl
    · kernel_rfl
    · kernel_rfl
    · kernel_rfl
    · exact fun _ _ _ h => h
    · refine Or.inl ⟨by rfl, ?_⟩
      intro w hSw
      (try dsimp only at hSw)
      go_simp
      all_goals with_reducible rfl
    simp only [Act.put, List.setIfInBounds_toArray, List.set_cons_zero, List.set_cons_succ]
    refine wpAnyH_take (i := 12) (oi := ?_) (v := ?_) ?_ ?_ ?_ ?_ ?_ ?_ (by assumption) ?_
    rotate_left 2
    · simp only [List.getElem?_toArray, List.getElem?_cons_zero, List.getElem?_cons_succ]
      rfl
    · kernel_rfl
    · kernel_rfl
    · kernel_rfl
    · exact fun _ _ _ h => h
    · refine Or.inl ⟨by rfl, ?_⟩
      intro w hSw
      (try dsimp only at hSw)
      go_simp
      all_goals with_reducible rfl
    simp only [Act.put, List.setIfInBounds_toArray, List.set_cons_zero, List.set_cons_succ]
    refine wpAnyH_take (i := 14) (oi := ?_) (v := ?_) ?_ ?_ ?_ ?_ ?_ ?_ (by assumption) ?_
    rotate_left 2
    · simp only [List.getElem?_toArray, List.getElem?_cons_zero, List.getElem?_cons_succ]
      rfl
    · kernel_rfl
    · kernel_rfl
    · kernel_rfl
    · exact fun _ _ _ h => h
    · refine yieldsIf_load_row (g := B) (t := 25) (cs := (cellsK .u8 s)) (ty := 25) (x := (.tmp 4)) ?_ ?_ ?_ ?_ Tryd.underlying25 rfl HSZ.out
      · rfl
      · rfl
      · rfl
      · exact fun w hSw => hSw
    simp only [Act.put, List.setIfInBounds_toArray, List.set_cons_zero, List.set_cons_succ]
    refine wpAnyH_take (i := 15) (oi := ?_) (v := ?_) ?_ ?_ ?_ ?_ ?_ ?_ (by assumption) ?_
    rotate_left 2
    · simp only [List.getElem?_toArray, List.getElem?_cons_zero, List.getElem?_cons_succ]
      rfl
    · kernel_rfl
    · kernel_rfl
    · kernel_rfl
    · exact fun _ _ _ h => h
    · refine Or.inl ⟨by rfl, ?_⟩
      intro w hSw
      (try dsimp only at hSw)
      go_simp
      all_goals with_reducible rfl
    simp only [Act.put, List.setIfInBounds_toArray, List.set_cons_zero, List.set_cons_succ]
    refine wpAnyH_take (i := 16) (oi := ?_) (v := ?_) ?_ ?_ ?_ ?_ ?_ ?_ (by assumption) ?_
    rotate_left 2
    · simp only [List.getElem?_toArray, List.getElem?_cons_zero, List.getElem?_cons_succ]
      rfl
    · kernel_rfl
    · kernel_rfl
    · kernel_rfl
    · exact fun _ _ _ h => h
    · refine Or.inl ⟨by rfl, ?_⟩
      intro w hSw
      (try dsimp only at hSw)
      go_simp
      all_goals with_reducible rfl
    simp only [Act.put, List.setIfInBounds_toArray, List.set_cons_zero, List.set_cons_succ]
    refine wpAnyH_ready (rs := [13]) (by kernel_rfl) (by simp) ?_
    refine AllReadyH.cons (o := ?_) ?_ (fun KK hKK => ?_) AllReadyH.nil
    rotate_left
    · simp only [List.getElem?_toArray, List.getElem?_cons_zero, List.getElem?_cons_succ]
      rfl
    go_simp
    refine (HLX.out _ HE3.out.2).mono ?_; rintro e w13 ⟨v13, rfl, hv, hb⟩
    try go_wp2_with fail
    have HE4 : Hid (Obj w13 B 25 (cellsK .u8 s) ∧ Below B W w13) := ⟨HE3.out.1.kept hb, HE3.out.2.trans (hb.mono (Nat.le_of_lt HE3.out.1.lt))⟩
    have Rv13 := Lib.hid hv
    clear hv hb
    refine hKK.out _ _ ?_ (fun hh13 => ?_)
    · (try dsimp only)
      exact HE4.out.1
    clear hKK KK
    try simp only [Act.put, List.setIfInBounds_toArray, List.set_cons_zero, List.set_cons_succ]
    refine wpAnyH_ready (rs := [17]) (by kernel_rfl) (by simp) ?_
    refine AllReadyH.cons (o := ?_) ?_ (fun KK hKK => ?_) AllReadyH.nil
    rotate_left
    · simp only [List.getElem?_toArray, List.getElem?_cons_zero, List.getElem?_cons_succ]
      rfl
    go_simp
    refine (HLY.out _ HE4.out.2).mono ?_; rintro e w17 ⟨v17, rfl, hv, hb⟩
    try go_wp2_with fail
    have HE5 : Hid (Obj w17 B 25 (cellsK .u8 s) ∧ Below B W w17) := ⟨HE4.out.1.kept hb, HE4.out.2.trans (hb.mono (Nat.le_of_lt HE4.out.1.lt))⟩
    have Rv17 := Lib.hid hv
    have Rv13' := Lib.hid (Rv13.out.below hb)
    clear hv hb
    refine hKK.out _ _ ?_ (fun hh17 => ?_)
    · (try dsimp only)
      exact HE5.out.1
    clear hKK KK
    try simp only [Act.put, List.setIfInBounds_toArray, List.set_cons_zero, List.set_cons_succ]
    refine wpAnyH_ready (rs := [18]) (by kernel_rfl) (by simp) ?_
    refine AllReadyH.cons (o := ?_) ?_ (fun KK hKK => ?_) AllReadyH.nil
    rotate_left
    · simp only [List.getElem?_toArray, List.getElem?_cons_zero, List.getElem?_cons_succ]
      rfl
    go_simp
    refine (same_rv _ _ _ w17 Rv13'.out Rv17.out).mono ?_; rintro e w9 ⟨rfl, q18, rfl⟩
    try go_wp2_with fail
    have HE6 : Hid (Obj (w17.drewN q18) B 25 (cellsK .u8 s) ∧ Below B W (w17.drewN q18)) := ⟨HE5.out.1.drewN q18, below_drewN HE5.out.2 q18⟩
    refine hKK.out _ _ ?_ (fun hh18 => ?_)
    · (try dsimp only)
      exact HE6.out.1
    clear hKK KK
    try simp only [Act.put, List.setIfInBounds_toArray, List.set_cons_zero, List.set_cons_succ]
    refine wpAnyH_take (i := 19) (oi := ?_) (v := ?_) ?_ ?_ ?_ ?_ ?_ ?_ (by assumption) ?_
    rotate_left 2
    · simp only [List.getElem?_toArray, List.getElem?_cons_zero, List.getElem?_cons_succ]
      rfl
    · kernel_rfl
    · kernel_rfl
    · kernel_rfl
    · exact fun _ _ _ h => h
    · refine Or.inl ⟨by rfl, ?_⟩
      intro w hSw
      (try dsimp only at hSw)
      go_simp
      all_goals with_reducible rfl
    simp only [Act.put, List.setIfInBounds_toArray, List.set_cons_zero, List.set_cons_succ]
    refine wpAnyH_take (i := 20) (oi := ?_) (v := ?_) ?_ ?_ ?_ ?_ ?_ ?_ (by assumption) ?_
    rotate_left 2
    · simp only [List.getElem?_toArray, List.getElem?_cons_zero, List.getElem?_cons_succ]
      rfl
    · kernel_rfl
    · kernel_rfl
    · kernel_rfl
    · exact fun _ _ _ h => h
    · refine Or.inl ⟨by rfl, ?_⟩
      intro w hSw
      (try dsimp only at hSw)
      go_simp
      all_goals with_reducible rfl
    simp only [Act.put, List.setIfInBounds_toArray, List.set_cons_zero, List.set_cons_succ]
    refine wpAnyH_done (by kernel_rfl) ?_ _
    go_wp2
    go_ret
    exact ⟨rfl, by rw [HBE.out]; exact HE6.out.2⟩
end Go.Proofs.YtanigdadhldceaaDoor
