/- Layer 7's laws without the document's answer, walked: HashKeys, HashLong, HashMore. -/
import Derived.WalkKit
import Derived.OwnWalk
import Derived.WalkSpells
import Derived.WalkLawsBesides
import Derived.BigQuiet
import Derived.Deep.QuietTactic
import Derived.StillTailTactics
import Derived.Deep.RegionHeld3
import Derived.Deep.WholeRow
import Derived.Stop.BytesEq
import Derived.Handy
import Derived.Lib.Hide
import Derived.IntWalk
import Derived.Test.YtanigdadhldceaaDoorRows
import Derived.Test.YtanigdadhldceaaDoorAid
import Derived.Test.YtanigdadhldceaaDoorPlainSh
import Derived.Test.YtanigdadhldceaaDoorBy
import Derived.Test.YtanigdadhldceaaDoorShB
import Derived.Test.YtanigdadhldceaaDoorShW
import Derived.Test.YtanigdadhldceaaDoorHeldT
import Derived.Test.YtanigdadhldceaaDoorShC
import Derived.Test.YtanigdadhldceaaDoorShE
import Derived.Test.YtanigdadhldceaaDoorShG
import Derived.Test.YtanigdadhldceaaDoorShH
import Derived.Test.YtanigdadhldceaaDoorShI
import Derived.Test.YtanigdadhldceaaDoorShJ
import Derived.Test.YtanigdadhldceaaDoorShK
import Derived.Test.YtanigdadhldceaaDoorShL
namespace Go.Proofs.YtanigdadhldceaaDoor
open Go Go.RowKit
set_option linter.unusedVariables false
set_option linter.unusedSimpArgs false

theorem wp_eqH {l : List Nat} {o : Oper} {a : Act} {w : World} {K : Act → World → Prop} {Q : Exit → Act → World → Prop} (x y : Operand) (ho : o.op = .binOp .eql 25 x y 25) (hx : a.eval x = .agg (cellsK .u8 l)) (hy : a.eval y = .agg (cellsK .u8 l))
    (hl : l.length = 32) (hq : ∀ c ∈ l, c < 256) (h : K (a.put o.dst (.bool true)) w) : o.wp Tryd.prog a w K Q := by
  unfold Oper.wp execOp
  simp only [ho, hx, hy, Sem.run_bind, run_eqGuard_agg w .eql 25 x y _ _ eqgH, eqH hl hq w, Result.andThen_ok, Sem.run_pure]
  exact h
/-- Two digests that are the same. -/
theorem wpList_eqH {l : List Nat} {ops : Array Oper} {rest : List Oper} {o : Oper} {a : Act} {w : World} {Q : Exit → Act → World → Prop} (hw : Region.wanted o (yielded ops a.tmps) = true) (x y : Operand) (ho : o.op = .binOp .eql 25 x y 25) (hx : a.eval x = .agg (cellsK .u8 l)) (hy : a.eval y = .agg (cellsK .u8 l))
    (hl : l.length = 32) (hq : ∀ c ∈ l, c < 256) (h : wpList Tryd.prog ops Q rest (a.put o.dst (.bool true)) w) : wpList Tryd.prog ops Q (o :: rest) a w :=
  wpList_step fun K hK => by rw [if_pos hw]; exact wp_eqH x y ho hx hy hl hq (hK _ _ h)
theorem yieldsIf_eqH {l : List Nat} {ops : Array Oper} {S : World → Prop} {op : Oper} {a : Act} (hw : Region.wanted op (yielded ops a.tmps) = true) (x y : Operand) (ho : op.op = .binOp .eql 25 x y 25) (hx : a.eval x = .agg (cellsK .u8 l)) (hy : a.eval y = .agg (cellsK .u8 l))
    (hl : l.length = 32) (hq : ∀ c ∈ l, c < 256) : YieldsIf Tryd.prog ops S op (.bool true) a :=
  .inl ⟨hw, fun w _ => by
    unfold execOp
    simp only [ho, hx, hy, Sem.run_bind, run_eqGuard_agg w .eql 25 x y _ _ eqgH, eqH hl hq w, Result.andThen_ok, Sem.run_pure]⟩
/-- A copy of a key with zeros behind. -/
theorem filled (w : World) (A : Option Addr) (n c k : Nat) (l : List Nat) (hl : l.length = n) (hR : Rb w A l) (hn : n ≤ 1000) (hk : k ≤ 1000) (ty ty2 : TypeId) :
    ∃ v1 w1, (Builtin.append_ #[22, 22] ty #[.slice (some ⟨w.heap.size, 0, none⟩) 0 0, .slice A n c]).run Tryd.prog (w.alloc (.cells #[] 5)) = .ok v1 w1 ∧
      ∃ A2 m c2 w2, (Builtin.append_ #[22, 3] ty2 #[v1, .int .i64 (k : Int)]).run Tryd.prog w1 = .ok (.slice A2 m c2) w2 ∧ n + k = m ∧ (m ≤ c2 ∧ c2 ≤ maxLen) ∧ Rb w2 A2 (l ++ List.replicate k 0) ∧ Below w.heap.size w w2 := by
  have b1 : Below w.heap.size w (w.alloc (.cells #[] 5)) := (Below.refl _ w).alloc (Nat.le_refl _) _
  obtain ⟨v1, w1, h1, h2, h3⟩ := own_app (w.alloc (.cells #[] 5)) ty (own_made w w.heap.size (Nat.le_refl _)) A n c l hl (hR.below b1) (by omega) (by simp)
  have b2 := b1.grown h3 (by simp) (fun k e => by cases e; exact Nat.le_refl _)
  rw [Nat.zero_add, List.nil_append] at h2
  obtain ⟨v2, w2, h4, h5, h6⟩ := own_zeros w1 ty2 h2 k (by omega) b2.size
  obtain ⟨A2, c2, rfl, _, hc1, hc2, hr, _⟩ := own_rb h5
  have b3 := b2.grown h6 b2.size (fun k e => (h2.lt k e).1)
  exact ⟨v1, w1, h1, A2, n + k, c2, w2, h4, rfl, ⟨hc1, hc2⟩, hr, b3⟩
theorem repl_lt (k : Nat) {l : List Nat} (h : ∀ x ∈ l, x < 256) : ∀ x ∈ l ++ List.replicate k 0, x < 256 := fun x hx => by
  rcases List.mem_append.1 hx with hx | hx
  · exact h x hx
  · rw [List.eq_of_mem_replicate hx]; decide

set_option maxRecDepth 100000 in
set_option maxHeartbeats 4000000 in
theorem hashKeys_walk (A0 : Option Addr) (n0 c0 : Nat) (l0 : List Int) (A1 : Option Addr) (n1 c1 : Nat) (l1 : List Int) (W : World) (w0 : Ints .u8 W A0 n0 l0) (x0 : n0 ≤ c0 ∧ c0 ≤ maxLen) (w1 : Ints .u8 W A1 n1 l1) (x1 : n1 ≤ c1 ∧ c1 ≤ maxLen) (ht : Tabs W) :
    Calls Tryd.prog 7 #[.slice A0 n0 c0, .slice A1 n1 c1] W fun e W' => e = .returned (.bool true) ∧ Below W.heap.size W W' := by
  obtain ⟨k, hk, qk, rk⟩ := Ints_rb w0
  obtain ⟨t, htl, qt, rt⟩ := Ints_rb w1
  have HAL := Lib.hid (alive_any W ht)
  have HK := Lib.hid hk
  have HQK := Lib.hid qk
  have HRK := Lib.hid rk
  have HTL := Lib.hid htl
  have HQT := Lib.hid qt
  have HRT := Lib.hid rt
  have HT := Lib.hid ht
  have HX := Lib.hid x0
  have hi0 : n0 ≤ 9223372036854775807 := by have := x0.1; have := x0.2; simp only [maxLen] at this; omega
  have hi1 : n1 ≤ 9223372036854775807 := by have := x1.1; have := x1.2; simp only [maxLen] at this; omega
  clear w0 w1 x0 x1 ht hk qk rk htl qt rt
  by_cases h : 64 < n0 ∨ 200 < n1
  · by_cases h1 : 64 < n0
    · have d1 : decide (64 < (n0 : Int)) = true := by simp; omega
      go_enter Tryd.func7, Tryd.ntmps7
      go_wp2_with (go_at_call 8; refine HAL.out.mono ?_; rintro e w2 ⟨rfl, hb2⟩; have HB2 := Lib.hid hb2; clear hb2)
      go_ret
      exact ⟨rfl, HB2.out⟩
    · have d1 : decide (64 < (n0 : Int)) = false := by simp; omega
      have d2 : decide (200 < (n1 : Int)) = true := by simp; omega
      go_enter Tryd.func7, Tryd.ntmps7
      go_wp2_with (go_at_call 8; refine HAL.out.mono ?_; rintro e w2 ⟨rfl, hb2⟩; have HB2 := Lib.hid hb2; clear hb2)
      go_ret
      exact ⟨rfl, HB2.out⟩
  · have g1 : n0 ≤ 64 := by omega
    have g2 : n1 ≤ 200 := by omega
    have d1 : decide (64 < (n0 : Int)) = false := by simp; omega
    have d2 : decide (200 < (n1 : Int)) = false := by simp; omega
    clear h
    obtain ⟨z, hz⟩ : ∃ z, 64 - n0 = z := ⟨_, rfl⟩
    have e1 : 64 - (n0 : Int) = (z : Int) := by omega
    have HZ := Lib.hid hz
    have hz64 : z ≤ 64 := by omega
    clear hz
    go_enter Tryd.func7, Tryd.ntmps7
    go_wp2_with (first
      | (go_at_call 8; refine HAL.out.mono ?_; rintro e w2 ⟨rfl, hb2⟩; have HB2 := Lib.hid hb2; clear hb2; obtain ⟨v1, w3, hr1, A2, m, c2, w4, hr2, hm, hc2, rb2, hb4⟩ := filled w2 A0 n0 c0 z k HK.out (HRK.out.below HB2.out) (by omega) (by omega) 22 22; have HR1 := Lib.hid hr1; have HR2 := Lib.hid hr2; have HM := Lib.hid hm; have HC2 := Lib.hid hc2; have HRB := Lib.hid rb2; have HB4 := Lib.hid hb4; clear hr1 hr2 hm hc2 rb2 hb4)
      | (at_builtin; refine Lib.wpList_append_run _ rfl (.tmp 16) (.tmp 17) _ _ rfl _ _ rfl rfl _ _ HR1.out ?_)
      | (at_builtin; refine Lib.wpList_append_run _ rfl (.tmp 18) (.tmp 21) _ _ rfl _ _ rfl rfl _ _ HR2.out ?_))
    have hB4 := HB2.out.trans (HB4.out.mono HB2.out.size)
    have hlen : (k ++ List.replicate z 0).length = m := by rw [List.length_append, HK.out, List.length_replicate]; exact HM.out
    have hm64 : m ≤ 64 := by have := HM.out; have := HZ.out; omega
    have hqf := repl_lt z HQK.out
    have htg : Sh.tag (k ++ List.replicate z 0) t = Sh.tag k t := by
      have := Sh.tag_fill k t (by rw [HK.out]; exact g1)
      rw [HK.out, HZ.out] at this
      exact this.symm
    have HGL := Lib.hid (tag_len k t)
    have HGQ := Lib.hid (tag_lt k t)
    have HTA : Hid (∀ V, Below W.heap.size W V → Calls Tryd.prog 11 #[.slice A0 n0 c0, .slice A1 n1 c1] V fun e w' => e = .returned (.agg (cellsK .u8 (Sh.tag k t))) ∧ Below V.heap.size V w') := fun V hV =>
      tag_any A0 A1 n0 c0 n1 c1 k t V (HT.out.below hV) (HRK.out.below hV) HK.out HQK.out (by omega) HX.out (HRT.out.below hV) HTL.out HQT.out (by omega)
    have HEA : Hid (∀ V, Below W.heap.size W V → Calls Tryd.prog 13 #[.slice A0 n0 c0, .slice A1 n1 c1] V fun e w' => e = .returned (.agg (cellsK .u8 (Sh.tag k t))) ∧ Below V.heap.size V w') := fun V hV =>
      extract_any A0 A1 n0 c0 n1 c1 k t V (HT.out.below hV) (HRK.out.below hV) HK.out HQK.out (by omega) HX.out (HRT.out.below hV) HTL.out HQT.out (by omega)
    have HTB : Hid (∀ V, Below W.heap.size W V → Rb V A2 (k ++ List.replicate z 0) → Calls Tryd.prog 11 #[.slice A2 m c2, .slice A1 n1 c1] V fun e w' => e = .returned (.agg (cellsK .u8 (Sh.tag k t))) ∧ Below V.heap.size V w') := fun V hV hr => by
      have := tag_any A2 A1 m c2 n1 c1 _ t V (HT.out.below hV) hr hlen hqf (by omega) HC2.out (HRT.out.below hV) HTL.out HQT.out (by omega)
      rw [htg] at this
      exact this
    have HEB : Hid (∀ V, Below W.heap.size W V → Rb V A2 (k ++ List.replicate z 0) → Calls Tryd.prog 13 #[.slice A2 m c2, .slice A1 n1 c1] V fun e w' => e = .returned (.agg (cellsK .u8 (Sh.tag k t))) ∧ Below V.heap.size V w') := fun V hV hr => by
      have := extract_any A2 A1 m c2 n1 c1 _ t V (HT.out.below hV) hr hlen hqf (by omega) HC2.out (HRT.out.below hV) HTL.out HQT.out (by omega)
      rw [htg] at this
      exact this
    have HBB := Lib.hid hB4
    clear hlen hm64 hqf htg hB4 HR1 HR2
    generalize Sh.tag k t = tg at *
    refine (HTA.out w4 HBB.out).mono ?_
    rintro e w5 ⟨rfl, hb5⟩
    have HB5 := Lib.hid (HBB.out.trans (hb5.mono HBB.out.size))
    have HRB5 := Lib.hid (HRB.out.below hb5)
    clear hb5
    go_wp2_with fail
    refine (HTB.out w5 HB5.out HRB5.out).mono ?_
    rintro e w6 ⟨rfl, hb6⟩
    have HB6 := Lib.hid (HB5.out.trans (hb6.mono HB5.out.size))
    have HRB6 := Lib.hid (HRB5.out.below hb6)
    clear hb6
    go_wp2_with (refine wpList_eqH rfl (.tmp 25) (.tmp 28) rfl rfl rfl HGL.out HGQ.out ?_)
    refine (HEA.out w6 HB6.out).mono ?_
    rintro e w7 ⟨rfl, hb7⟩
    have HB7 := Lib.hid (HB6.out.trans (hb7.mono HB6.out.size))
    have HRB7 := Lib.hid (HRB6.out.below hb7)
    clear hb7
    go_wp2_with fail
    refine (HEB.out w7 HB7.out HRB7.out).mono ?_
    rintro e w8 ⟨rfl, hb8⟩
    have HB8 := Lib.hid (HB7.out.trans (hb8.mono HB7.out.size))
    clear hb8
    go_wp2_with (refine wpList_eqH rfl (.tmp 33) (.tmp 36) rfl rfl rfl HGL.out HGQ.out ?_)
    go_ret
    exact ⟨rfl, HB8.out⟩

set_option maxRecDepth 100000 in
set_option maxHeartbeats 4000000 in
theorem hashLong_walk (A0 : Option Addr) (n0 c0 : Nat) (l0 : List Int) (a1 : Int) (A2 : Option Addr) (n2 c2 : Nat) (l2 : List Int) (W : World) (w0 : Ints .u8 W A0 n0 l0) (x0 : n0 ≤ c0 ∧ c0 ≤ maxLen) (w1 : (Lit.int .u16 a1).wf = true) (w2 : Ints .u8 W A2 n2 l2) (x2 : n2 ≤ c2 ∧ c2 ≤ maxLen) (ht : Tabs W) :
    Calls Tryd.prog 6 #[.slice A0 n0 c0, .int .u16 a1, .slice A2 n2 c2] W fun e W' => e = .returned (.bool true) ∧ Below W.heap.size W W' := by
  obtain ⟨t, htl, qt, rt⟩ := Ints_rb w0
  obtain ⟨k, hk, qk, rk⟩ := Ints_rb w2
  have hb := bounds_u16 w1
  obtain ⟨at1, rfl⟩ := Int.eq_ofNat_of_zero_le (show 0 ≤ a1 by omega)
  have hat : at1 < 65536 := by omega
  have HAL := Lib.hid (alive_any W ht)
  have HK := Lib.hid hk
  have HQK := Lib.hid qk
  have HRK := Lib.hid rk
  have HTL := Lib.hid htl
  have HQT := Lib.hid qt
  have HRT := Lib.hid rt
  have HT := Lib.hid ht
  have hi0 : n0 ≤ 9223372036854775807 := by have := x0.1; have := x0.2; simp only [maxLen] at this; omega
  have hi2 : n2 ≤ 9223372036854775807 := by have := x2.1; have := x2.2; simp only [maxLen] at this; omega
  clear w0 w1 w2 x0 x2 ht hk qk rk htl qt rt hb
  by_cases h : 300 < n0 ∨ 300 < n2
  · by_cases h1 : 300 < n0
    · have d1 : decide (300 < (n0 : Int)) = true := by simp; omega
      go_enter Tryd.func6, Tryd.ntmps6
      go_wp2_with (go_at_call 8; refine HAL.out.mono ?_; rintro e w2 ⟨rfl, hb2⟩; have HB2 := Lib.hid hb2; clear hb2)
      go_ret
      exact ⟨rfl, HB2.out⟩
    · have d1 : decide (300 < (n0 : Int)) = false := by simp; omega
      have d2 : decide (300 < (n2 : Int)) = true := by simp; omega
      go_enter Tryd.func6, Tryd.ntmps6
      go_wp2_with (go_at_call 8; refine HAL.out.mono ?_; rintro e w2 ⟨rfl, hb2⟩; have HB2 := Lib.hid hb2; clear hb2)
      go_ret
      exact ⟨rfl, HB2.out⟩
  · have g1 : n0 ≤ 300 := by omega
    have g2 : n2 ≤ 300 := by omega
    have d1 : decide (300 < (n0 : Int)) = false := by simp; omega
    have d2 : decide (300 < (n2 : Int)) = false := by simp; omega
    clear h
    obtain ⟨y, hy⟩ : ∃ y, at1 % 30 = y := ⟨_, rfl⟩
    obtain ⟨z, hz⟩ : ∃ z, 65 + y = z := ⟨_, rfl⟩
    have e0 : IntKind.i64.wrap (at1 : Int) = (at1 : Int) := by rw [IntKind.wrap_i64]; omega
    have e1 : (at1 : Int) % 30 = (y : Int) := by omega
    have e2 : 65 + (y : Int) = (z : Int) := by omega
    have hz95 : 65 ≤ z ∧ z ≤ 95 := by omega
    clear hy hz
    go_enter Tryd.func6, Tryd.ntmps6
    go_wp2_with (first
      | (go_at_call 8; refine HAL.out.mono ?_; rintro e w2 ⟨rfl, hb2⟩; have HB2 := Lib.hid hb2; clear hb2; obtain ⟨v1, w3, hr1, A4, m, c4, w4, hr2, hm, hc4, rb2, hb4⟩ := filled w2 A2 n2 c2 z k HK.out (HRK.out.below HB2.out) (by omega) (by omega) 22 22; have HR1 := Lib.hid hr1; have HR2 := Lib.hid hr2; have HM := Lib.hid hm; have HC4 := Lib.hid hc4; have HRB := Lib.hid rb2; have HB4 := Lib.hid hb4; clear hr1 hr2 hm hc4 rb2 hb4)
      | (at_builtin; refine Lib.wpList_append_run _ rfl (.tmp 19) (.tmp 20) _ _ rfl _ _ rfl rfl _ _ HR1.out ?_)
      | (at_builtin; refine Lib.wpList_append_run _ rfl (.tmp 21) (.tmp 25) _ _ rfl _ _ rfl rfl _ _ HR2.out ?_))
    have hB4 := HB2.out.trans (HB4.out.mono HB2.out.size)
    have hlen : (k ++ List.replicate z 0).length = m := by rw [List.length_append, HK.out, List.length_replicate]; exact HM.out
    have hm64 : m ≤ 400 := by have := HM.out; omega
    have hm65 : 64 < m := by have := HM.out; omega
    have hqf := repl_lt z HQK.out
    have htg := Sh.tag_long (k ++ List.replicate z 0) t (by rw [hlen]; exact hm65)
    have hsl1 := Sh.sum_len (k ++ List.replicate z 0)
    have hsq1 := Sh.sum_lt (k ++ List.replicate z 0)
    have HSU := Lib.hid (sum_any A4 m c4 _ w4 (HT.out.below hB4) HRB.out hlen hqf (by omega) HC4.out)
    have HTB : Hid (∀ V, Below W.heap.size W V → Rb V A4 (k ++ List.replicate z 0) → Calls Tryd.prog 11 #[.slice A4 m c4, .slice A0 n0 c0] V fun e w' => e = .returned (.agg (cellsK .u8 (Sh.tag (k ++ List.replicate z 0) t))) ∧ Below V.heap.size V w') := fun V hV hr =>
      tag_any A4 A0 m c4 n0 c0 _ t V (HT.out.below hV) hr hlen hqf (by omega) HC4.out (HRT.out.below hV) HTL.out HQT.out (by omega)
    have HTC : Hid (∀ V b, Below W.heap.size W V → Obj V b 25 (cellsK .u8 (Sh.sum (k ++ List.replicate z 0))) → Calls Tryd.prog 11 #[.slice (some ⟨b, 0, none⟩) 32 32, .slice A0 n0 c0] V fun e w' => e = .returned (.agg (cellsK .u8 (Sh.tag (k ++ List.replicate z 0) t))) ∧ Below V.heap.size V w') := fun V b hV hO => by
      rw [htg]
      exact tag_any _ A0 32 32 n0 c0 _ t V (HT.out.below hV) (fun _ => ⟨b, 0, rfl, hO.lt, fun i hi => by rw [Nat.zero_add]; exact hO.getK i hi⟩) hsl1 hsq1 (by omega) ⟨Nat.le_refl _, by unfold maxLen; omega⟩ (HRT.out.below hV) HTL.out HQT.out (by omega)
    have HGL := Lib.hid (tag_len (k ++ List.replicate z 0) t)
    have HGQ := Lib.hid (tag_lt (k ++ List.replicate z 0) t)
    have HBB := Lib.hid hB4
    have HSZ := Lib.hid (sizeH hsl1)
    have HSL := Lib.hid hsl1
    clear hlen hm64 hqf htg hB4 HR1 HR2 hm65 hsl1 hsq1
    generalize Sh.tag (k ++ List.replicate z 0) t = tg at *
    generalize Sh.sum (k ++ List.replicate z 0) = sm at *
    refine HSU.out.mono ?_
    rintro e w5 ⟨rfl, hb5⟩
    have HB5 := Lib.hid (HBB.out.trans (hb5.mono HBB.out.size))
    have HRB5 := Lib.hid (HRB.out.below hb5)
    have o1 := Obj.new w5 25 #[.int .u8 0, .int .u8 0, .int .u8 0, .int .u8 0, .int .u8 0, .int .u8 0, .int .u8 0, .int .u8 0, .int .u8 0, .int .u8 0, .int .u8 0, .int .u8 0, .int .u8 0, .int .u8 0, .int .u8 0, .int .u8 0, .int .u8 0, .int .u8 0, .int .u8 0, .int .u8 0, .int .u8 0, .int .u8 0, .int .u8 0, .int .u8 0, .int .u8 0, .int .u8 0, .int .u8 0, .int .u8 0, .int .u8 0, .int .u8 0, .int .u8 0, .int .u8 0]
    have u1 := (Upd.refl w5.heap.size (w5.alloc (.cells #[.int .u8 0, .int .u8 0, .int .u8 0, .int .u8 0, .int .u8 0, .int .u8 0, .int .u8 0, .int .u8 0, .int .u8 0, .int .u8 0, .int .u8 0, .int .u8 0, .int .u8 0, .int .u8 0, .int .u8 0, .int .u8 0, .int .u8 0, .int .u8 0, .int .u8 0, .int .u8 0, .int .u8 0, .int .u8 0, .int .u8 0, .int .u8 0, .int .u8 0, .int .u8 0, .int .u8 0, .int .u8 0, .int .u8 0, .int .u8 0, .int .u8 0, .int .u8 0] 25))).row (cellsK .u8 sm)
    have b1 : Below w5.heap.size w5 ((w5.alloc (.cells #[.int .u8 0, .int .u8 0, .int .u8 0, .int .u8 0, .int .u8 0, .int .u8 0, .int .u8 0, .int .u8 0, .int .u8 0, .int .u8 0, .int .u8 0, .int .u8 0, .int .u8 0, .int .u8 0, .int .u8 0, .int .u8 0, .int .u8 0, .int .u8 0, .int .u8 0, .int .u8 0, .int .u8 0, .int .u8 0, .int .u8 0, .int .u8 0, .int .u8 0, .int .u8 0, .int .u8 0, .int .u8 0, .int .u8 0, .int .u8 0, .int .u8 0, .int .u8 0] 25)).setRow w5.heap.size (cellsK .u8 sm)) := Upd.below ((Below.refl _ w5).alloc (Nat.le_refl _) _) (Nat.le_refl _) u1
    have HO1 := Lib.hid o1
    have HST : Hid (Obj ((w5.alloc (.cells #[.int .u8 0, .int .u8 0, .int .u8 0, .int .u8 0, .int .u8 0, .int .u8 0, .int .u8 0, .int .u8 0, .int .u8 0, .int .u8 0, .int .u8 0, .int .u8 0, .int .u8 0, .int .u8 0, .int .u8 0, .int .u8 0, .int .u8 0, .int .u8 0, .int .u8 0, .int .u8 0, .int .u8 0, .int .u8 0, .int .u8 0, .int .u8 0, .int .u8 0, .int .u8 0, .int .u8 0, .int .u8 0, .int .u8 0, .int .u8 0, .int .u8 0, .int .u8 0] 25)).setRow w5.heap.size (cellsK .u8 sm)) w5.heap.size 25 (cellsK .u8 sm) ∧ Below W.heap.size W ((w5.alloc (.cells #[.int .u8 0, .int .u8 0, .int .u8 0, .int .u8 0, .int .u8 0, .int .u8 0, .int .u8 0, .int .u8 0, .int .u8 0, .int .u8 0, .int .u8 0, .int .u8 0, .int .u8 0, .int .u8 0, .int .u8 0, .int .u8 0, .int .u8 0, .int .u8 0, .int .u8 0, .int .u8 0, .int .u8 0, .int .u8 0, .int .u8 0, .int .u8 0, .int .u8 0, .int .u8 0, .int .u8 0, .int .u8 0, .int .u8 0, .int .u8 0, .int .u8 0, .int .u8 0] 25)).setRow w5.heap.size (cellsK .u8 sm)) ∧ Rb ((w5.alloc (.cells #[.int .u8 0, .int .u8 0, .int .u8 0, .int .u8 0, .int .u8 0, .int .u8 0, .int .u8 0, .int .u8 0, .int .u8 0, .int .u8 0, .int .u8 0, .int .u8 0, .int .u8 0, .int .u8 0, .int .u8 0, .int .u8 0, .int .u8 0, .int .u8 0, .int .u8 0, .int .u8 0, .int .u8 0, .int .u8 0, .int .u8 0, .int .u8 0, .int .u8 0, .int .u8 0, .int .u8 0, .int .u8 0, .int .u8 0, .int .u8 0, .int .u8 0, .int .u8 0] 25)).setRow w5.heap.size (cellsK .u8 sm)) A4 (k ++ List.replicate z 0)) :=
      ⟨o1.row _, HB5.out.trans (b1.mono HB5.out.size), HRB5.out.below b1⟩
    clear hb5 o1 u1 b1 HSU
    go_wp2_with (refine wpList_store_row rfl 25 (.tmp 8) (.tmp 28) rfl _ _ rfl rfl _ _ HO1.out HSZ.out (by rw [cellsK_size, HSL.out]; rfl) (one_cellsK _ _) ?_)
    obtain ⟨W6, hW6⟩ : ∃ W6, (w5.alloc (.cells #[.int .u8 0, .int .u8 0, .int .u8 0, .int .u8 0, .int .u8 0, .int .u8 0, .int .u8 0, .int .u8 0, .int .u8 0, .int .u8 0, .int .u8 0, .int .u8 0, .int .u8 0, .int .u8 0, .int .u8 0, .int .u8 0, .int .u8 0, .int .u8 0, .int .u8 0, .int .u8 0, .int .u8 0, .int .u8 0, .int .u8 0, .int .u8 0, .int .u8 0, .int .u8 0, .int .u8 0, .int .u8 0, .int .u8 0, .int .u8 0, .int .u8 0, .int .u8 0] 25)).setRow w5.heap.size (cellsK .u8 sm) = W6 := ⟨_, rfl⟩
    rw [hW6] at HST ⊢
    clear hW6 HO1
    try simp only [Act.put]
    have hsl := fun g w' => slice32all g w'
    have HE0 : Hid (Obj W6.drew w5.heap.size 25 (cellsK .u8 sm) ∧ Below W.heap.size W W6.drew ∧ Rb W6.drew A4 (k ++ List.replicate z 0)) :=
      ⟨HST.out.1.drew, HST.out.2.1.drew, HST.out.2.2.below ((Below.refl _ W6).drew)⟩
    clear HST
    generalize w5.heap.size = hb5 at *
    refine wp_region_held_drew (S := (fun _ => True)) (by kernel_rfl) trivial (fun hHeld => ?_)
    refine wpAnyH_take (i := 0) (oi := ?_) (v := ?_) ?_ ?_ ?_ ?_ ?_ ?_ (by assumption) ?_
    rotate_left 2
    · simp only [List.getElem?_toArray, List.getElem?_cons_zero, List.getElem?_cons_succ]
      rfl
    · kernel_rfl
    · kernel_rfl
    · kernel_rfl
    · exact fun _ _ _ h => h
    · refine Or.inl ⟨by rfl, ?_⟩
      intro w hSw
      (try dsimp only at hSw)
      go_simp
      all_goals with_reducible rfl
    simp only [Act.put, List.setIfInBounds_toArray, List.set_cons_zero, List.set_cons_succ]
    refine wpAnyH_take (i := 1) (oi := ?_) (v := ?_) ?_ ?_ ?_ ?_ ?_ ?_ (by assumption) ?_
    rotate_left 2
    · simp only [List.getElem?_toArray, List.getElem?_cons_zero, List.getElem?_cons_succ]
      rfl
    · kernel_rfl
    · kernel_rfl
    · kernel_rfl
    · exact fun _ _ _ h => h
    · refine Or.inl ⟨by rfl, ?_⟩
      intro w hSw
      (try dsimp only at hSw)
      go_simp
      all_goals with_reducible rfl
    simp only [Act.put, List.setIfInBounds_toArray, List.set_cons_zero, List.set_cons_succ]
    refine wpAnyH_take (i := 3) (oi := ?_) (v := ?_) ?_ ?_ ?_ ?_ ?_ ?_ (by assumption) ?_
    rotate_left 2
    · simp only [List.getElem?_toArray, List.getElem?_cons_zero, List.getElem?_cons_succ]
      rfl
    · kernel_rfl
    · kernel_rfl
    · kernel_rfl
    · exact fun _ _ _ h => h
    · refine Or.inl ⟨by rfl, ?_⟩
      intro w hSw
      (try dsimp only at hSw)
      go_simp
      all_goals with_reducible rfl
    simp only [Act.put, List.setIfInBounds_toArray, List.set_cons_zero, List.set_cons_succ]
    refine wpAnyH_take (i := 4) (oi := ?_) (v := ?_) ?_ ?_ ?_ ?_ ?_ ?_ (by assumption) ?_
    rotate_left 2
    · simp only [List.getElem?_toArray, List.getElem?_cons_zero, List.getElem?_cons_succ]
      rfl
    · kernel_rfl
    · kernel_rfl
    · kernel_rfl
    · exact fun _ _ _ h => h
    · refine Or.inl ⟨by rfl, ?_⟩
      intro w hSw
      (try dsimp only at hSw)
      go_simp
      all_goals with_reducible rfl
    simp only [Act.put, List.setIfInBounds_toArray, List.set_cons_zero, List.set_cons_succ]
    refine wpAnyH_ready (rs := [2]) (by kernel_rfl) (by simp) ?_
    refine AllReadyH.cons (o := ?_) ?_ (fun KK hKK => ?_) AllReadyH.nil
    rotate_left
    · simp only [List.getElem?_toArray, List.getElem?_cons_zero, List.getElem?_cons_succ]
      rfl
    go_simp
    refine (HTB.out _ HE0.out.2.1 HE0.out.2.2).mono ?_; rintro e w7 ⟨rfl, hb7⟩
    try go_wp2_with fail
    have HE1 : Hid (Obj w7 hb5 25 (cellsK .u8 sm) ∧ Below W.heap.size W w7) := ⟨HE0.out.1.kept hb7, HE0.out.2.1.trans (hb7.mono HE0.out.2.1.size)⟩
    clear HE0 hb7
    refine hKK.out _ _ ?_ (fun hh1 => ?_)
    · (try dsimp only)
      try trivial
    clear hKK KK
    try simp only [Act.put, List.setIfInBounds_toArray, List.set_cons_zero, List.set_cons_succ]
    refine wpAnyH_ready (rs := [5]) (by kernel_rfl) (by simp) ?_
    refine AllReadyH.cons (o := ?_) ?_ (fun KK hKK => ?_) AllReadyH.nil
    rotate_left
    · simp only [List.getElem?_toArray, List.getElem?_cons_zero, List.getElem?_cons_succ]
      rfl
    go_simp
    refine (HTC.out _ _ HE1.out.2 HE1.out.1).mono ?_; rintro e w8 ⟨rfl, hb8⟩
    try go_wp2_with fail
    have HE2 := Lib.hid (HE1.out.2.trans (hb8.mono HE1.out.2.size))
    clear HE1 hb8
    refine hKK.out _ _ ?_ (fun hh2 => ?_)
    · (try dsimp only)
      try trivial
    clear hKK KK
    try simp only [Act.put, List.setIfInBounds_toArray, List.set_cons_zero, List.set_cons_succ]
    refine wpAnyH_take (i := 6) (oi := ?_) (v := (.bool true)) ?_ ?_ ?_ ?_ ?_ ?_ (by assumption) ?_
    rotate_left 1
    · simp only [List.getElem?_toArray, List.getElem?_cons_zero, List.getElem?_cons_succ]
      rfl
    · kernel_rfl
    · kernel_rfl
    · kernel_rfl
    · exact fun _ _ _ h => h
    · refine yieldsIf_eqH ?_ (.tmp 31) (.tmp 34) ?_ ?_ ?_ HGL.out HGQ.out
      · rfl
      · rfl
      · rfl
      · rfl
    simp only [Act.put, List.setIfInBounds_toArray, List.set_cons_zero, List.set_cons_succ]
    refine wpAnyH_take (i := 7) (oi := ?_) (v := ?_) ?_ ?_ ?_ ?_ ?_ ?_ (by assumption) ?_
    rotate_left 2
    · simp only [List.getElem?_toArray, List.getElem?_cons_zero, List.getElem?_cons_succ]
      rfl
    · kernel_rfl
    · kernel_rfl
    · kernel_rfl
    · exact fun _ _ _ h => h
    · refine Or.inl ⟨by rfl, ?_⟩
      intro w hSw
      (try dsimp only at hSw)
      go_simp
      all_goals with_reducible rfl
    simp only [Act.put, List.setIfInBounds_toArray, List.set_cons_zero, List.set_cons_succ]
    refine wpAnyH_done (by kernel_rfl) ?_ _
    go_wp2
    go_ret
    exact ⟨rfl, HE2.out⟩

set_option maxRecDepth 100000 in
set_option maxHeartbeats 4000000 in
theorem hashMore_walk (s : List Nat) (A1 : Option Addr) (n1 c1 : Nat) (l1 : List Int) (a2 a3 : Int) (W : World) (hs : s.length = 32) (qs : ∀ x ∈ s, x < 256) (w1 : Ints .u8 W A1 n1 l1) (x1 : n1 ≤ c1 ∧ c1 ≤ maxLen) (w2 : (Lit.int .u8 a2).wf = true) (w3 : (Lit.int .u8 a3).wf = true) (ht : Tabs W) :
    Calls Tryd.prog 5 #[.agg (cellsK .u8 s), .slice A1 n1 c1, .int .u8 a2, .int .u8 a3] W fun e W' => e = .returned (.bool true) ∧ Below W.heap.size W W' := by
  obtain ⟨info, hk, qk, rk⟩ := Ints_rb w1
  have hb2 := bounds_u8 w2
  have hb3 := bounds_u8 w3
  obtain ⟨n, rfl⟩ := Int.eq_ofNat_of_zero_le (show 0 ≤ a2 by omega)
  obtain ⟨m, rfl⟩ := Int.eq_ofNat_of_zero_le (show 0 ≤ a3 by omega)
  have hn : n < 256 := by omega
  have hm : m < 256 := by omega
  have b0 : Below W.heap.size W (W.alloc (.cells (cellsK .u8 s) 25)) := (Below.refl _ W).alloc (Nat.le_refl _) _
  have HB0 := Lib.hid b0
  have HAL := Lib.hid (alive_any _ (ht.below b0))
  have HK := Lib.hid hk
  have HQK := Lib.hid qk
  have HRK := Lib.hid rk
  have HT := Lib.hid ht
  have HS := Lib.hid hs
  have HQS := Lib.hid qs
  have hi1 : n1 ≤ 9223372036854775807 := by have := x1.1; have := x1.2; simp only [maxLen] at this; omega
  clear w1 w2 w3 x1 ht hk qk rk hb2 hb3 hs qs b0
  have HFB : Hid (∀ w2, Below (W.alloc (.cells (cellsK .u8 s) 25)).heap.size (W.alloc (.cells (cellsK .u8 s) 25)) w2 → Below W.heap.size W w2 ∧ Obj w2 W.heap.size 25 (cellsK .u8 s)) := fun w2 h => ⟨HB0.out.trans (h.mono (by simp)), (Obj.new W _ _).kept h⟩
  by_cases h : 200 < n1 ∨ m < n
  · by_cases h1 : 200 < n1
    · have d1 : decide (200 < (n1 : Int)) = true := by simp; omega
      go_enter Tryd.func5, Tryd.ntmps5
      go_wp2_with (go_at_call 8; refine HAL.out.mono ?_; rintro e w2 ⟨rfl, hb2⟩; have HB2 := Lib.hid (HFB.out w2 hb2); clear hb2)
      go_ret
      exact ⟨rfl, HB2.out.1⟩
    · have d1 : decide (200 < (n1 : Int)) = false := by simp; omega
      have d2 : decide (m < n) = true := by simp; omega
      have d3 : decide ((m : Int) < (n : Int)) = true := by simp; omega
      go_enter Tryd.func5, Tryd.ntmps5
      go_wp2_with (go_at_call 8; refine HAL.out.mono ?_; rintro e w2 ⟨rfl, hb2⟩; have HB2 := Lib.hid (HFB.out w2 hb2); clear hb2)
      go_ret
      exact ⟨rfl, HB2.out.1⟩
  · have g1 : n1 ≤ 200 := by omega
    have g2 : n ≤ m := by omega
    have d1 : decide (200 < (n1 : Int)) = false := by simp; omega
    have d2 : decide (m < n) = false := by simp; omega
    have d3 : decide ((m : Int) < (n : Int)) = false := by simp; omega
    clear h
    have e1 : IntKind.i64.wrap (n : Int) = (n : Int) := by rw [IntKind.wrap_i64]; omega
    have e2 : IntKind.i64.wrap (m : Int) = (m : Int) := by rw [IntKind.wrap_i64]; omega
    go_enter Tryd.func5, Tryd.ntmps5
    go_wp2_with (go_at_call 8; refine HAL.out.mono ?_; rintro e w2 ⟨rfl, hb2⟩; have HB2 := Lib.hid (HFB.out w2 hb2); clear hb2)
    have HEX : Hid (∀ V (q : Nat), q ≤ 255 → Below W.heap.size W V → Calls Tryd.prog 15 #[.agg (cellsK .u8 s), .slice A1 n1 c1, .int .i64 (q : Int)] V fun e w' => ∃ A, e = .returned (.slice A q q) ∧ Rb w' A (Sh.expand s info q) ∧ Below V.heap.size V w') := fun V q hq hV =>
      expand_any s info A1 n1 c1 q V (HT.out.below hV) HS.out HQS.out (HRK.out.below hV) HK.out HQK.out (by omega) hq
    have HE0 : Hid (Obj w2.drew W.heap.size 25 (cellsK .u8 s) ∧ Below W.heap.size W w2.drew) := ⟨HB2.out.2.drew, HB2.out.1.drew⟩
    have HTK : Hid ((Sh.expand s info m).take n = Sh.expand s info n) := Sh.expand_take s info n m g2 (exK_len s info)
    have HLN : Hid ((Sh.expand s info n).length = n) := Sh.expand_len s info n (exK_len s info)
    have HSZ := Lib.hid (sizeH HS.out)
    clear HAL HFB HB2 HB0
    generalize hBB : W.heap.size = B at *
    have HBE := Lib.hid hBB
    clear hBB
    refine wp_region_held_drew (S := (fun wq => Obj wq B 25 (cellsK .u8 s))) (by kernel_rfl) HE0.out.1 (fun hHeld => ?_)
    refine wpAnyH_take (i := 0) (oi := ?_) (v := ?_) ?_ ?_ ?_ ?_ ?_ ?_ (by assumption) ?_
    rotate_left 2
    · simp only [List.getElem?_toArray, List.getElem?_cons_zero, List.getElem?_cons_succ]
      rfl
    · kernel_rfl
    · kernel_rfl
    · kernel_rfl
    · exact fun _ _ _ h => h
    · refine yieldsIf_load_row (g := B) (t := 25) (cs := (cellsK .u8 s)) (ty := 25) (x := (.tmp 4)) ?_ ?_ ?_ ?_ Tryd.underlying25 rfl HSZ.out
      · rfl
      · rfl
      · rfl
      · exact fun w hSw => hSw
    simp only [Act.put, List.setIfInBounds_toArray, List.set_cons_zero, List.set_cons_succ]
    refine wpAnyH_take (i := 1) (oi := ?_) (v := ?_) ?_ ?_ ?_ ?_ ?_ ?_ (by assumption) ?_
    rotate_left 2
    · simp only [List.getElem?_toArray, List.getElem?_cons_zero, List.getElem?_cons_succ]
      rfl
    · kernel_rfl
    · kernel_rfl
    · kernel_rfl
    · exact fun _ _ _ h => h
    · refine Or.inl ⟨by rfl, ?_⟩
      intro w hSw
      (try dsimp only at hSw)
      go_simp
      all_goals with_reducible rfl
    simp only [Act.put, List.setIfInBounds_toArray, List.set_cons_zero, List.set_cons_succ]
    refine wpAnyH_take (i := 2) (oi := ?_) (v := ?_) ?_ ?_ ?_ ?_ ?_ ?_ (by assumption) ?_
    rotate_left 2
    · simp only [List.getElem?_toArray, List.getElem?_cons_zero, List.getElem?_cons_succ]
      rfl
    · kernel_rfl
    · kernel_rfl
    · kernel_rfl
    · exact fun _ _ _ h => h
    · refine Or.inl ⟨by rfl, ?_⟩
      intro w hSw
      (try dsimp only at hSw)
      go_simp
      all_goals with_reducible rfl
    simp only [Act.put, List.setIfInBounds_toArray, List.set_cons_zero, List.set_cons_succ]
    refine wpAnyH_take (i := 3) (oi := ?_) (v := ?_) ?_ ?_ ?_ ?_ ?_ ?_ (by assumption) ?_
    rotate_left 2
    · simp only [List.getElem?_toArray, List.getElem?_cons_zero, List.getElem?_cons_succ]
      rfl
    · kernel_rfl
    · kernel_rfl
    · kernel_rfl
    · exact fun _ _ _ h => h
    · refine Or.inl ⟨by rfl, ?_⟩
      intro w hSw
      (try dsimp only at hSw)
      go_simp
      all_goals with_reducible rfl
    simp only [Act.put, List.setIfInBounds_toArray, List.set_cons_zero, List.set_cons_succ]
    refine wpAnyH_take (i := 5) (oi := ?_) (v := ?_) ?_ ?_ ?_ ?_ ?_ ?_ (by assumption) ?_
    rotate_left 2
    · simp only [List.getElem?_toArray, List.getElem?_cons_zero, List.getElem?_cons_succ]
      rfl
    · kernel_rfl
    · kernel_rfl
    · kernel_rfl
    · exact fun _ _ _ h => h
    · refine yieldsIf_load_row (g := B) (t := 25) (cs := (cellsK .u8 s)) (ty := 25) (x := (.tmp 4)) ?_ ?_ ?_ ?_ Tryd.underlying25 rfl HSZ.out
      · rfl
      · rfl
      · rfl
      · exact fun w hSw => hSw
    simp only [Act.put, List.setIfInBounds_toArray, List.set_cons_zero, List.set_cons_succ]
    refine wpAnyH_take (i := 6) (oi := ?_) (v := ?_) ?_ ?_ ?_ ?_ ?_ ?_ (by assumption) ?_
    rotate_left 2
    · simp only [List.getElem?_toArray, List.getElem?_cons_zero, List.getElem?_cons_succ]
      rfl
    · kernel_rfl
    · kernel_rfl
    · kernel_rfl
    · exact fun _ _ _ h => h
    · refine Or.inl ⟨by rfl, ?_⟩
      intro w hSw
      (try dsimp only at hSw)
      go_simp
      all_goals with_reducible rfl
    simp only [Act.put, List.setIfInBounds_toArray, List.set_cons_zero, List.set_cons_succ]
    refine wpAnyH_take (i := 7) (oi := ?_) (v := ?_) ?_ ?_ ?_ ?_ ?_ ?_ (by assumption) ?_
    rotate_left 2
    · simp only [List.getElem?_toArray, List.getElem?_cons_zero, List.getElem?_cons_succ]
      rfl
    · kernel_rfl
    · kernel_rfl
    · kernel_rfl
    · exact fun _ _ _ h => h
    · refine Or.inl ⟨by rfl, ?_⟩
      intro w hSw
      (try dsimp only at hSw)
      go_simp
      all_goals with_reducible rfl
    simp only [Act.put, List.setIfInBounds_toArray, List.set_cons_zero, List.set_cons_succ]
    refine wpAnyH_take (i := 8) (oi := ?_) (v := ?_) ?_ ?_ ?_ ?_ ?_ ?_ (by assumption) ?_
    rotate_left 2
    · simp only [List.getElem?_toArray, List.getElem?_cons_zero, List.getElem?_cons_succ]
      rfl
    · kernel_rfl
    · kernel_rfl
    · kernel_rfl
    · exact fun _ _ _ h => h
    · refine Or.inl ⟨by rfl, ?_⟩
      intro w hSw
      (try dsimp only at hSw)
      go_simp
      all_goals with_reducible rfl
    simp only [Act.put, List.setIfInBounds_toArray, List.set_cons_zero, List.set_cons_succ]
    refine wpAnyH_ready (rs := [4]) (by kernel_rfl) (by simp) ?_
    refine AllReadyH.cons (o := ?_) ?_ (fun KK hKK => ?_) AllReadyH.nil
    rotate_left
    · simp only [List.getElem?_toArray, List.getElem?_cons_zero, List.getElem?_cons_succ]
      rfl
    go_simp
    refine (HEX.out _ n (by omega) HE0.out.2).mono ?_; rintro e w7 ⟨A7, rfl, hr7, hb7⟩
    try go_wp2_with fail
    have HE1 : Hid (Obj w7 B 25 (cellsK .u8 s) ∧ Below B W w7) := ⟨HE0.out.1.kept hb7, HE0.out.2.trans (hb7.mono (Nat.le_of_lt HE0.out.1.lt))⟩
    have HR7 := Lib.hid hr7
    clear HE0 hb7 hr7
    refine hKK.out _ _ ?_ (fun hh1 => ?_)
    · (try dsimp only)
      exact HE1.out.1
    clear hKK KK
    try simp only [Act.put, List.setIfInBounds_toArray, List.set_cons_zero, List.set_cons_succ]
    refine wpAnyH_ready (rs := [9]) (by kernel_rfl) (by simp) ?_
    refine AllReadyH.cons (o := ?_) ?_ (fun KK hKK => ?_) AllReadyH.nil
    rotate_left
    · simp only [List.getElem?_toArray, List.getElem?_cons_zero, List.getElem?_cons_succ]
      rfl
    go_simp
    refine (HEX.out _ m (by omega) HE1.out.2).mono ?_; rintro e w8 ⟨A8, rfl, hr8, hb8⟩
    try go_wp2_with fail
    have HE2 : Hid (Obj w8 B 25 (cellsK .u8 s) ∧ Below B W w8) := ⟨HE1.out.1.kept hb8, HE1.out.2.trans (hb8.mono (Nat.le_of_lt HE1.out.1.lt))⟩
    have HR8 : Hid (Rb w8 A7 (Sh.expand s info n) ∧ Rb w8 A8 (Sh.expand s info n)) := ⟨HR7.out.below hb8, by rw [← HTK.out]; exact hr8.take n⟩
    clear HE1 hb8 hr8 HR7
    refine hKK.out _ _ ?_ (fun hh2 => ?_)
    · (try dsimp only)
      exact HE2.out.1
    clear hKK KK
    try simp only [Act.put, List.setIfInBounds_toArray, List.set_cons_zero, List.set_cons_succ]
    refine wpAnyH_take (i := 10) (oi := ?_) (v := ?_) ?_ ?_ ?_ ?_ ?_ ?_ (by assumption) ?_
    rotate_left 2
    · simp only [List.getElem?_toArray, List.getElem?_cons_zero, List.getElem?_cons_succ]
      rfl
    · kernel_rfl
    · kernel_rfl
    · kernel_rfl
    · exact fun _ _ _ h => h
    · refine Or.inl ⟨by rfl, ?_⟩
      intro w hSw
      (try dsimp only at hSw)
      go_simp
      all_goals with_reducible rfl
    simp only [Act.put, List.setIfInBounds_toArray, List.set_cons_zero, List.set_cons_succ]
    refine wpAnyH_take (i := 11) (oi := ?_) (v := ?_) ?_ ?_ ?_ ?_ ?_ ?_ (by assumption) ?_
    rotate_left 2
    · simp only [List.getElem?_toArray, List.getElem?_cons_zero, List.getElem?_cons_succ]
      rfl
    · kernel_rfl
    · kernel_rfl
    · kernel_rfl
    · exact fun _ _ _ h => h
    · refine Or.inl ⟨by rfl, ?_⟩
      intro w hSw
      (try dsimp only at hSw)
      go_simp
      all_goals with_reducible rfl
    simp only [Act.put, List.setIfInBounds_toArray, List.set_cons_zero, List.set_cons_succ]
    refine wpAnyH_done (by kernel_rfl) ?_ _
    go_wp2_with fail
    refine (same_true _ _ _ _ n (Sh.expand s info n) w8 HLN.out HR8.out.1 HR8.out.2 (by omega)).mono ?_
    rintro e w9 ⟨rfl, q9, rfl⟩
    go_wp2
    go_ret
    exact ⟨rfl, by rw [HBE.out]; exact ⟨HE2.out.2.os, HE2.out.2.tape, HE2.out.2.output, HE2.out.2.size, HE2.out.2.block⟩⟩
end Go.Proofs.YtanigdadhldceaaDoor
