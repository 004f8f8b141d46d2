/- Layer 7's law HashSums, walked. -/
import Derived.Test.YtanigdadhldceaaDoorShM
import Derived.Test.YtanigdadhldceaaDoorShO
namespace Go.Proofs.YtanigdadhldceaaDoor
open Go Go.RowKit Go.Shelf
set_option linter.unusedVariables false
set_option linter.unusedSimpArgs false

set_option maxRecDepth 100000 in
set_option maxHeartbeats 4000000 in
theorem hashSums_walk (A0 : Option Addr) (n0 c0 : Nat) (l0 : List Int) (A1 : Option Addr) (n1 c1 : Nat) (l1 : List Int) (W : World) (w0 : Ints .u8 W A0 n0 l0) (x0 : n0 ≤ c0 ∧ c0 ≤ maxLen) (w1 : Ints .u8 W A1 n1 l1) (x1 : n1 ≤ c1 ∧ c1 ≤ maxLen) (ht : Tabs W) :
    Calls Tryd.prog 3 #[.slice A0 n0 c0, .slice A1 n1 c1] W fun e W' => e = .returned (.bool true) ∧ Below W.heap.size W W' := by
  obtain ⟨k, hk, qk, rk⟩ := Ints_rb w0
  obtain ⟨t, htl, qt, rt⟩ := Ints_rb w1
  have HAL := Lib.hid (alive_any W ht)
  have HK := Lib.hid hk
  have HQK := Lib.hid qk
  have HRK := Lib.hid rk
  have HTL := Lib.hid htl
  have HQT := Lib.hid qt
  have HRT := Lib.hid rt
  have HT := Lib.hid ht
  have HX := Lib.hid x0
  have HX1 := Lib.hid x1
  have hi0 : n0 ≤ 9223372036854775807 := by have := x0.1; have := x0.2; simp only [maxLen] at this; omega
  have hi1 : n1 ≤ 9223372036854775807 := by have := x1.1; have := x1.2; simp only [maxLen] at this; omega
  clear w0 w1 x0 x1 ht hk qk rk htl qt rt
  by_cases h : 300 < n0 ∨ 500 < n1
  · by_cases h1 : 300 < n0
    · have d1 : decide (300 < (n0 : Int)) = true := by simp; omega
      go_enter Tryd.func3, Tryd.ntmps3
      go_wp2_with (go_at_call 8; refine HAL.out.mono ?_; rintro e w2 ⟨rfl, hb2⟩; have HB2 := Lib.hid hb2; clear hb2)
      go_ret
      exact ⟨rfl, HB2.out⟩
    · have d1 : decide (300 < (n0 : Int)) = false := by simp; omega
      have d2 : decide (500 < (n1 : Int)) = true := by simp; omega
      go_enter Tryd.func3, Tryd.ntmps3
      go_wp2_with (go_at_call 8; refine HAL.out.mono ?_; rintro e w2 ⟨rfl, hb2⟩; have HB2 := Lib.hid hb2; clear hb2)
      go_ret
      exact ⟨rfl, HB2.out⟩
  · have g1 : n0 ≤ 300 := by omega
    have g2 : n1 ≤ 500 := by omega
    have d1 : decide (300 < (n0 : Int)) = false := by simp; omega
    have d2 : decide (500 < (n1 : Int)) = false := by simp; omega
    clear h
    have HGL := Lib.hid (tag_len k t)
    have HGQ := Lib.hid (tag_lt k t)
    have HSL := Lib.hid (Sh.sum_len t)
    have HSQ := Lib.hid (Sh.sum_lt t)
    have HS1 : Hid (∀ V, Below W.heap.size W V → Calls Tryd.prog 9 #[.slice A1 n1 c1] V fun e w' => e = .returned (.agg (cellsK .u8 (Sh.sum t))) ∧ Below V.heap.size V w') := fun V hV =>
      sum_any A1 n1 c1 t V (HT.out.below hV) (HRT.out.below hV) HTL.out HQT.out (by omega) HX1.out
    have HS2 : Hid (∀ V, Below W.heap.size W V → Calls Tryd.prog 10 #[.slice A1 n1 c1] V fun e w' => e = .returned (.agg (cellsK .u8 (Sh.sum t))) ∧ Below V.heap.size V w') := fun V hV =>
      rsum_any A1 n1 c1 t V (HT.out.below hV) (HRT.out.below hV) HTL.out HQT.out (by omega) HX1.out
    have HTA : Hid (∀ V, Below W.heap.size W V → Calls Tryd.prog 11 #[.slice A0 n0 c0, .slice A1 n1 c1] V fun e w' => e = .returned (.agg (cellsK .u8 (Sh.tag k t))) ∧ Below V.heap.size V w') := fun V hV =>
      tag_any A0 A1 n0 c0 n1 c1 k t V (HT.out.below hV) (HRK.out.below hV) HK.out HQK.out (by omega) HX.out (HRT.out.below hV) HTL.out HQT.out (by omega)
    have HTB : Hid (∀ V, Below W.heap.size W V → Calls Tryd.prog 12 #[.slice A0 n0 c0, .slice A1 n1 c1] V fun e w' => e = .returned (.agg (cellsK .u8 (Sh.tag k t))) ∧ Below V.heap.size V w') := fun V hV =>
      rtag_any A0 A1 n0 c0 n1 c1 k t V (HT.out.below hV) (HRK.out.below hV) HK.out HQK.out (by omega) HX.out (HRT.out.below hV) HTL.out HQT.out (by omega)
    have HEA : Hid (∀ V, Below W.heap.size W V → Calls Tryd.prog 13 #[.slice A0 n0 c0, .slice A1 n1 c1] V fun e w' => e = .returned (.agg (cellsK .u8 (Sh.tag k t))) ∧ Below V.heap.size V w') := fun V hV =>
      extract_any A0 A1 n0 c0 n1 c1 k t V (HT.out.below hV) (HRK.out.below hV) HK.out HQK.out (by omega) HX.out (HRT.out.below hV) HTL.out HQT.out (by omega)
    go_enter Tryd.func3, Tryd.ntmps3
    go_wp2_with (go_at_call 8; refine HAL.out.mono ?_; rintro e w2 ⟨rfl, hb2⟩; have HB2 := Lib.hid hb2; clear hb2)
    generalize Sh.tag k t = tg at *
    generalize Sh.sum t = sm at *
    refine (HS1.out w2 HB2.out).mono ?_
    rintro e w3 ⟨rfl, hb3⟩
    have HB3 := Lib.hid (HB2.out.trans (hb3.mono HB2.out.size))
    clear hb3
    go_wp2_with fail
    refine (HS2.out w3 HB3.out).mono ?_
    rintro e w4 ⟨rfl, hb4⟩
    have HB4 := Lib.hid (HB3.out.trans (hb4.mono HB3.out.size))
    clear hb4
    go_wp2_with (refine wpList_eqH rfl (.tmp 16) (.tmp 18) rfl rfl rfl HSL.out HSQ.out ?_)
    refine (HTA.out w4 HB4.out).mono ?_
    rintro e w5 ⟨rfl, hb5⟩
    have HB5 := Lib.hid (HB4.out.trans (hb5.mono HB4.out.size))
    clear hb5
    go_wp2_with fail
    refine (HTB.out w5 HB5.out).mono ?_
    rintro e w6 ⟨rfl, hb6⟩
    have HB6 := Lib.hid (HB5.out.trans (hb6.mono HB5.out.size))
    clear hb6
    go_wp2_with (refine wpList_eqH rfl (.tmp 23) (.tmp 26) rfl rfl rfl HGL.out HGQ.out ?_)
    refine (HEA.out w6 HB6.out).mono ?_
    rintro e w7 ⟨rfl, hb7⟩
    have HB7 := Lib.hid (HB6.out.trans (hb7.mono HB6.out.size))
    clear hb7
    go_wp2_with fail
    refine (HTB.out w7 HB7.out).mono ?_
    rintro e w8 ⟨rfl, hb8⟩
    have HB8 := Lib.hid (HB7.out.trans (hb8.mono HB7.out.size))
    clear hb8
    go_wp2_with (refine wpList_eqH rfl (.tmp 32) (.tmp 35) rfl rfl rfl HGL.out HGQ.out ?_)
    go_ret
    exact ⟨rfl, HB8.out⟩
end Go.Proofs.YtanigdadhldceaaDoor
