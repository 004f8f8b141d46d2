/- Layer 16's laws, walked: ReasmSizes, ReasmFirst. -/
import Derived.Test.YtghfgekmdcangaaRows
import Derived.Test.YtghfgekmdcangaaAid
import Derived.Test.YtghfgekmdcangaaPlainRs
import Derived.Test.YtghfgekmdcangaaPlainRs2
import Derived.Test.YtghfgekmdcangaaRsW
import Derived.Test.YtghfgekmdcangaaRsA
import Derived.Test.YtghfgekmdcangaaRsD
import Derived.Test.YtghfgekmdcangaaRsG
import Derived.Test.YtghfgekmdcangaaRsH
import Derived.Test.YtghfgekmdcangaaRsK
import Derived.WalkKit
import Derived.OwnWalk
import Derived.Laws.Rows
import Derived.Laws.Tables
import Derived.WalkSpells
import Derived.WalkLawsBesides
import Derived.BigQuiet
import Derived.Handy
import Derived.Lib.Hide
import Derived.IntWalk
namespace Go.Proofs.Ytghfgekmdcangaa.Rm
open Go.RowKit Go.Maps
set_option linter.unusedVariables false
set_option linter.unusedSimpArgs false

section
variable {W w w' : World} {a mb : Nat} {x : Rs.S}
theorem OwnS.putN (h : OwnS W a mb x w) (off n c er : Nat) (A : Option Addr) (d : List Nat) (last : Bool) (hn : d.length = n) (hA : Rb w A d) (hb : ∀ c ∈ d, c < 256) (hl : n ≤ 100000) (hlc : n ≤ c ∧ c ≤ maxLen) (hoff : off < 18446744073709551616) (he : Rs.err x off n last = er) :
    Calls Try.prog 10 #[.pointer (some ⟨a, 0, none⟩), .int .u64 (off : Int), .slice A n c, .bool last] w fun e w' => e = .returned (.int .i64 (er : Int)) ∧ OwnS W a mb (Rs.put x off d last) w' ∧ Upd2 a mb w w' := by
  subst hn
  subst he
  exact h.put off c A d last hA hb hl hlc hoff
/-- A buffer, and a slice of the law's own beside it. -/
structure OwnW (W : World) (a mb : Nat) (x : Rs.S) (B : Nat) (v : Value) (l : List Nat) (w : World) : Prop where
  s : OwnS W a mb x w
  row : w.ownsRow B 5 1 v l.length (l.map b8)
  la : a < B
  lm : mb < B
  lw : W.heap.size ≤ B
  lb : B ≤ w.heap.size
variable {B : Nat} {v : Value} {l : List Nat}
theorem OwnW.nil (h : OwnS W a mb x w) : OwnW W a mb x w.heap.size (.slice none 0 0) [] w := ⟨h, World.ownsRow_nil _ _ _ _, h.bs.lt.1, h.bs.lt.2, h.below.size, Nat.le_refl _⟩
theorem OwnW.made (h : OwnS W a mb x w) : OwnW W a mb x w.heap.size (.slice (some ⟨w.heap.size, 0, none⟩) 0 0) [] (w.alloc (.cells #[] 5)) :=
  ⟨h.kept ((Below.refl _ w).alloc (Nat.le_refl _) _), own_made w _ (Nat.le_refl _), h.bs.lt.1, h.bs.lt.2, h.below.size, by simp⟩
theorem OwnW.form (h : OwnW W a mb x B v l w) : ∃ A c, v = .slice A l.length c ∧ l.length ≤ c ∧ c ≤ maxLen ∧ Rb w A l ∧ (A = none ∨ ∃ g, A = some ⟨g, 0, none⟩ ∧ B ≤ g) := by
  obtain ⟨A, c, e, _, h1, h2, h3, h4⟩ := own_rb h.row
  exact ⟨A, c, e, h1, h2, h3, h4⟩
theorem OwnW.upd {y : Rs.S} (h : OwnW W a mb x B v l w) (hs : OwnS W a mb y w') (hu : Upd2 a mb w w') : OwnW W a mb y B v l w' := by
  refine ⟨hs, ⟨h.row.1, ?_⟩, h.la, h.lm, h.lw, Nat.le_trans h.lb hu.size⟩
  rcases h.row.2 with h0 | ⟨g, cap, cur, e, h1, h2, h3⟩
  · exact Or.inl h0
  · have := h.la
    have := h.lm
    exact Or.inr ⟨g, cap, cur, e, h1, (hu.block g (Array.getElem?_eq_some_iff.1 h2).1 (by omega) (by omega)).trans h2, h3⟩
theorem OwnW.kept (h : OwnW W a mb x B v l w) (hb : Below w.heap.size w w') : OwnW W a mb x B v l w' := h.upd (h.s.kept hb) (Upd2.below hb)
theorem OwnW.drewN (h : OwnW W a mb x B v l w) (q : Nat) : OwnW W a mb x B v l (w.drewN q) := h.upd (h.s.drewN q) (Upd2.drewN _ _ _ _)
theorem OwnW.grown {X : List Nat} {v' : Value} (h : OwnW W a mb x B v l w) (hr : w'.ownsRow B 5 1 v' (l.length + X.length) ((l ++ X).map b8)) (hg : w.grownBy w' v.ownBlock) : OwnW W a mb x B v' (l ++ X) w' := by
  have hv : ∀ k, v.ownBlock = some k → B ≤ k := fun k hk => (h.row.lt k hk).1
  have h1 := h.la
  have h2 := h.lm
  have h3 := h.lw
  have hbl : ∀ k, k < B → w'.heap[k]? = w.heap[k]? := fun k hk => hg.block k (by have := h.lb; omega) (fun e => by have := hv k e.symm; omega)
  refine ⟨⟨h.s.la, h.s.lm, ⟨(hbl a h1).trans h.s.bs.1, h.s.bs.2.to (hbl mb h2)⟩, h.s.ok, ?_⟩, by rw [List.length_append]; exact hr, h1, h2, h3, Nat.le_trans h.lb hg.size⟩
  exact ⟨hg.os.trans h.s.below.os, hg.tape.trans h.s.below.tape, hg.output.trans h.s.below.output, Nat.le_trans h.s.below.size hg.size, fun k hk => (hbl k (by omega)).trans (h.s.below.block k hk)⟩
theorem OwnW.read (h : OwnW W a mb x B v l w) (k : Int) :
    Calls Try.prog 11 #[.pointer (some ⟨a, 0, none⟩), .int .i64 k] w fun e w' => ∃ A c, e = .returned (.slice A (Rs.many x k) c) ∧ Rs.many x k ≤ c ∧ c ≤ maxLen ∧ Rb w' A (Rs.bytes x (Rs.many x k)) ∧ OwnW W a mb (Rs.read x k).2 B v l w' :=
  (h.s.read k).mono fun e w' ⟨A, c, h1, h2, h3, h4, h5, h6, h7⟩ => ⟨A, c, h1, h2, h3, h4, h.upd h6 h7⟩
end

set_option maxHeartbeats 4000000 in
theorem reasmSizes_walk (A0 : Option Addr) (n0 c0 : Nat) (z0 : List Int) (a1 a2 : Int) (w : World) (w0 : Ints .u8 w A0 n0 z0) (x0 : n0 ≤ c0 ∧ c0 ≤ maxLen) (w1 : (Lit.int .u8 a1).wf = true) (w2 : (Lit.int .u8 a2).wf = true) :
    Calls Try.prog 7 #[.slice A0 n0 c0, .int .u8 a1, .int .u8 a2] w fun e w' => e = .returned (.bool true) ∧ Below w.heap.size w w' := by
  obtain ⟨t, htn, htb, htr⟩ := Ints_rb w0
  have hb1 := bounds_u8 w1
  have hb2 := bounds_u8 w2
  obtain ⟨at', rfl⟩ : ∃ n : Nat, a1 = n := ⟨a1.toNat, by omega⟩
  obtain ⟨s, rfl⟩ : ∃ n : Nat, a2 = n := ⟨a2.toNat, by omega⟩
  have hat : at' ≤ 255 := by omega
  have hs : s ≤ 255 := by omega
  have HAL := Lib.hid (alive_any w)
  have hci : n0 ≤ c0 ∧ c0 ≤ 9223372036854775807 := ⟨x0.1, by have := x0.2; simp only [maxLen] at this; omega⟩
  clear w0 w1 w2 hb1 hb2
  by_cases h100 : 100 < n0
  · have hd : decide ((100 : Int) < (n0 : Int)) = true := by simp; omega
    clear htn htr htb x0
    go_enter Try.func7, Try.ntmps7
    go_wp2_with fail
    refine HAL.out.mono ?_
    rintro e wA ⟨rfl, hL⟩
    have HL := Lib.hid hL
    clear hL
    go_wp2
    go_ret
    exact ⟨rfl, HL.out⟩
  · have hd : decide ((100 : Int) < (n0 : Int)) = false := by simp; omega
    obtain ⟨l1, l2, l3, l4, l5⟩ := Rs.sizes_law t at' s (by omega) hat hs
    rw [htn] at l1 l2 l4 l5
    have hn100 : n0 ≤ 100 := by omega
    have hwa : IntKind.u64.wrap (at' : Int) = (at' : Int) := by rw [IntKind.wrap_u64]; omega
    have hws : IntKind.u64.wrap (s : Int) = (s : Int) := by rw [IntKind.wrap_u64]; omega
    have hwn : IntKind.u64.wrap (n0 : Int) = (n0 : Int) := by rw [IntKind.wrap_u64]; omega
    obtain ⟨E, hE⟩ : ∃ E, at' + n0 = E := ⟨_, rfl⟩
    have hwe : IntKind.u64.wrap ((at' : Int) + (n0 : Int)) = (E : Int) := by rw [IntKind.wrap_u64]; omega
    rw [hE] at l2 l4 l5
    have hE9 : E < 18446744073709551616 := by omega
    have HP := Lib.hid (fun (wr : World) (a mb : Nat) (h : OwnS w a mb (Rs.new 400) wr) => h.putN at' n0 c0 0 A0 t true htn (htr.below h.below) htb (by omega) x0 (by omega) l1)
    have HF := Lib.hid (fun (wr : World) (a mb : Nat) (h : OwnS w a mb (Rs.put (Rs.new 400) at' t true) wr) => h.final s (by omega))
    have H2 := Lib.hid l2
    have H3 := Lib.hid l3
    have H4 := Lib.hid l4
    have H5 := Lib.hid l5
    clear l1 l2 l3 l4 l5 hE htn htr htb x0 h100
    generalize Rs.put (Rs.new 400) at' t true = x1 at *
    go_enter Try.func7, Try.ntmps7
    go_wp2_with fail
    refine HAL.out.mono ?_
    rintro e wA ⟨rfl, hL⟩
    have HL := Lib.hid hL
    clear hL HAL
    go_wp2_with fail
    refine (OwnS.new 400 (by omega) HL.out).mono ?_
    rintro e wB ⟨a, rfl, -, mb, -, hB, -⟩
    have HB := Lib.hid hB
    clear hB HL
    go_wp2_with fail
    refine (HP.out _ _ _ HB.out).mono ?_
    rintro e wC ⟨rfl, hC, -⟩
    have HC := Lib.hid hC
    clear hC HB HP
    go_wp2_with fail
    refine (HC.out.size).mono ?_
    rintro e wD ⟨rfl, q, rfl⟩
    rw [H2.out, H3.out]
    have HD := Lib.hid (HC.out.drewN q)
    obtain ⟨wD, hwD⟩ : ∃ wD, wC.drewN q = wD := ⟨_, rfl⟩
    rw [hwD] at HD ⊢
    clear hwD HC H2 H3
    go_wp2_with fail
    refine (HF.out _ _ _ HD.out).mono ?_
    rintro e wE ⟨rfl, hE, -⟩
    rw [H4.out]
    have HE := Lib.hid hE
    clear hE HD HF H4
    generalize Rs.put x1 s [] true = x2 at *
    by_cases hse : s = E
    · rw [if_pos hse]
      subst hse
      go_wp2_with fail
      refine (HE.out.putC s 10 [1] false _ _ (by decide) (by decide) hE9 H5.out rfl).mono ?_
      rintro e wF ⟨rfl, hF⟩
      have HG := Lib.hid hF.below
      clear hF HE H5
      go_wp2
      go_ret
      exact ⟨rfl, HG.out⟩
    · rw [if_neg hse]
      have hq1 : (s == E) = false := by simpa using hse
      have hq2 : ((s : Int) == (E : Int)) = false := by simp; omega
      clear hse
      go_wp2_with fail
      refine (HE.out.putC E 10 [1] false _ _ (by decide) (by decide) hE9 H5.out rfl).mono ?_
      rintro e wF ⟨rfl, hF⟩
      have HG := Lib.hid hF.below
      clear hF HE H5
      go_wp2
      go_ret
      exact ⟨rfl, HG.out⟩

set_option maxHeartbeats 8000000 in
theorem reasmFirst_walk (A0 : Option Addr) (n0 c0 : Nat) (z0 : List Int) (A1 : Option Addr) (n1 c1 : Nat) (z1 : List Int) (w : World) (w0 : Ints .u8 w A0 n0 z0) (x0 : n0 ≤ c0 ∧ c0 ≤ maxLen) (w1 : Ints .u8 w A1 n1 z1) (x1 : n1 ≤ c1 ∧ c1 ≤ maxLen) :
    Calls Try.prog 5 #[.slice A0 n0 c0, .slice A1 n1 c1] w fun e w' => e = .returned (.bool true) ∧ Below w.heap.size w w' := by
  obtain ⟨la, hna, hba, hra⟩ := Ints_rb w0
  obtain ⟨lb, hnb, hbb, hrb⟩ := Ints_rb w1
  have HAL := Lib.hid (alive_any w)
  have hc0 : n0 ≤ c0 ∧ c0 ≤ 9223372036854775807 := ⟨x0.1, by have := x0.2; simp only [maxLen] at this; omega⟩
  have hc1 : n1 ≤ c1 ∧ c1 ≤ 9223372036854775807 := ⟨x1.1, by have := x1.2; simp only [maxLen] at this; omega⟩
  clear w0 w1
  by_cases h100 : 100 < n0
  · have hd : decide ((100 : Int) < (n0 : Int)) = true := by simp; omega
    clear hna hba hra hnb hbb hrb x0 x1
    go_enter Try.func5, Try.ntmps5
    go_wp2_with fail
    refine HAL.out.mono ?_
    rintro e wA ⟨rfl, hL⟩
    have HL := Lib.hid hL
    clear hL
    go_wp2
    go_ret
    exact ⟨rfl, HL.out⟩
  have hd : decide ((100 : Int) < (n0 : Int)) = false := by simp; omega
  by_cases h101 : 100 < n1
  · have hd1 : decide ((100 : Int) < (n1 : Int)) = true := by simp; omega
    clear hna hba hra hnb hbb hrb x0 x1
    go_enter Try.func5, Try.ntmps5
    go_wp2_with fail
    refine HAL.out.mono ?_
    rintro e wA ⟨rfl, hL⟩
    have HL := Lib.hid hL
    clear hL
    go_wp2
    go_ret
    exact ⟨rfl, HL.out⟩
  have hd1 : decide ((100 : Int) < (n1 : Int)) = false := by simp; omega
  obtain ⟨l1, l2, l3, l4, l5⟩ := Rs.first_law la lb (by omega) (by omega)
  rw [hna] at l1
  rw [hnb] at l2
  rw [hna, hnb] at l3 l4 l5
  have HP1 := Lib.hid (fun (wr : World) (a mb : Nat) (h : OwnS w a mb (Rs.new 100) wr) => h.putN 0 n0 c0 0 A0 la false hna (hra.below h.below) hba (by omega) x0 (by omega) l1)
  have HP2 := Lib.hid (fun (wr : World) (a mb : Nat) (h : OwnS w a mb (Rs.put (Rs.new 100) 0 la false) wr) => h.putN 0 n1 c1 0 A1 lb false hnb (hrb.below h.below) hbb (by omega) x1 (by omega) l2)
  have HRA := Lib.hid hra
  have HRB := Lib.hid hrb
  have HNA := Lib.hid hna
  have HNB := Lib.hid hnb
  have H3 := Lib.hid l3
  have H4 := Lib.hid l4
  have H5 := Lib.hid l5
  have hna100 : n0 ≤ 100 := by omega
  have hnb100 : n1 ≤ 100 := by omega
  clear hna hba hra hnb hbb hrb x0 x1 l1 l2 l3 l4 l5 h100 h101
  generalize Rs.put (Rs.new 100) 0 la false = y1 at *
  generalize Rs.put y1 0 lb false = y2 at *
  go_enter Try.func5, Try.ntmps5
  go_wp2_with fail
  refine HAL.out.mono ?_
  rintro e wA ⟨rfl, hL⟩
  have HL := Lib.hid hL
  clear hL HAL
  go_wp2_with fail
  refine (OwnS.new 100 (by omega) HL.out).mono ?_
  rintro e wB ⟨a, rfl, -, mb, -, hB, -⟩
  have HB := Lib.hid hB
  clear hB HL
  go_wp2_with fail
  refine (HP1.out _ _ _ HB.out).mono ?_
  rintro e wC ⟨rfl, hC, -⟩
  have HC := Lib.hid hC
  clear hC HB HP1
  go_wp2_with fail
  refine (HP2.out _ _ _ HC.out).mono ?_
  rintro e wD ⟨rfl, hD, -⟩
  have HD := Lib.hid hD
  clear hD HC HP2
  have HM := Lib.hid (OwnW.made HD.out)
  have HRM := Lib.hid (HRA.out.below HM.out.s.below)
  have HTP : Hid ((Rs.read y2 200).2.top = max n0 n1) := H5.out
  by_cases h01 : n0 < n1
  · have hd2 : decide (n0 < n1) = true := by simpa using h01
    have hmx : max n0 n1 = n1 := by omega
    rw [hmx] at H3 H4 HTP
    clear hmx H5
    have hwn : IntKind.u64.wrap (n1 : Int) = (n1 : Int) := by rw [IntKind.wrap_u64]; omega
    obtain ⟨b1, o1, rfl, -, -⟩ := HRB.out (by rw [HNB.out]; omega)
    have HRBF : Hid (∀ wr, Below w.heap.size w wr → Rb wr (some (Addr.add ⟨b1, o1, none⟩ n0)) (lb.drop n0)) := fun wr h => by rw [add_mid]; exact (HRB.out.below h).drop n0
    have HND : Hid ((lb.drop n0).length = n1 - n0) := by unfold Hid; rw [List.length_drop, HNB.out]
    have HNX : Hid ((la ++ lb.drop n0).length = n1) := by unfold Hid; rw [List.length_append, HND.out, HNA.out]; omega
    go_wp2_with (first
      | (at_builtin; refine wpList_appX rfl _ _ rfl wD.heap.size _ 0 [] rfl HM.out.row A0 n0 c0 la rfl HNA.out HRM.out (by omega) HM.out.lb ?_; intro v1 w1 hown1 hgrow1; have hM1 : OwnW w a mb y2 wD.heap.size v1 la w1 := OwnW.grown (X := la) HM.out (by rw [HNA.out]; exact hown1) hgrow1; obtain ⟨Aw, cw, hv1, hle1, hcm1, hrw1, -⟩ := hM1.form; rw [HNA.out] at hv1 hle1; subst hv1; have HM1 := Lib.hid hM1; have hRow1 := hM1.row; rw [HNA.out] at hRow1; have HRow1 := Lib.hid hRow1; have HRB1 := Lib.hid (HRBF.out w1 hM1.s.below); clear hM1 hrw1 hown1 hgrow1 hRow1)
      | (at_builtin; go_loud (refine wpList_appX rfl _ _ rfl wD.heap.size _ n0 la rfl HRow1.out _ (n1 - n0) _ (lb.drop n0) rfl HND.out (by first | exact HRB1.out | (rw [← add_mid]; exact HRB1.out)) (by omega) HM1.out.lb ?_; intro v2 w2 hown2 hgrow2; have hM2 : OwnW w a mb y2 wD.heap.size v2 (la ++ lb.drop n0) w2 := OwnW.grown (X := lb.drop n0) HM1.out (by rw [HNA.out, HND.out]; exact hown2) hgrow2; obtain ⟨Ax, cx, hv2, hle2, hcm2, hrw2, -⟩ := hM2.form; rw [HNX.out] at hv2 hle2; subst hv2; have HM2 := Lib.hid hM2; clear hM2 hrw2 hown2 hgrow2)))
    have HMX := Lib.hid HM2.out
    refine (HMX.out.read 200).mono ?_
    rintro e wF ⟨A', c', rfl, hc1', -, hr, hF⟩
    rw [H3.out, H4.out] at hr
    rw [H3.out] at hc1' ⊢
    have HF := Lib.hid hF
    obtain ⟨Ay, cy, hvy, -, -, hry, -⟩ := hF.form
    rw [HNX.out] at hvy
    cases hvy
    have HR1 := Lib.hid hr
    have HR2 := Lib.hid hry
    clear hF hr hry H4
    go_wp2_with fail
    refine (same_true _ _ _ _ _ _ _ HNX.out HR1.out HR2.out (by omega)).mono ?_
    rintro e wG ⟨rfl, q, rfl⟩
    have HG := Lib.hid (HF.out.drewN q)
    clear HF HR1 HR2
    go_wp2_with fail
    refine (HG.out.s.top).mono ?_
    rintro e wH ⟨rfl, rfl⟩
    rw [HTP.out]
    go_wp2
    go_ret
    exact ⟨rfl, HG.out.s.below⟩
  · have hd2 : decide (n0 < n1) = false := by simpa using h01
    have hmx : max n0 n1 = n0 := by omega
    rw [hmx] at H3 H4 HTP
    clear hmx H5
    have hwn : IntKind.u64.wrap (n0 : Int) = (n0 : Int) := by rw [IntKind.wrap_u64]; omega
    have HRBF : Hid (∀ wr, Below w.heap.size w wr → True) := fun _ _ => trivial
    have h4' : Rs.bytes y2 n0 = la := by rw [H4.out, List.drop_of_length_le (by rw [HNB.out]; omega), List.append_nil]
    have H4 := Lib.hid h4'
    have HNX := Lib.hid HNA.out
    clear h4'
    go_wp2_with (at_builtin; refine wpList_appX rfl _ _ rfl wD.heap.size _ 0 [] rfl HM.out.row A0 n0 c0 la rfl HNA.out HRM.out (by omega) HM.out.lb ?_; intro v1 w1 hown1 hgrow1; have hM1 : OwnW w a mb y2 wD.heap.size v1 la w1 := OwnW.grown (X := la) HM.out (by rw [HNA.out]; exact hown1) hgrow1; obtain ⟨Aw, cw, hv1, hle1, hcm1, hrw1, -⟩ := hM1.form; rw [HNA.out] at hv1 hle1; subst hv1; have HM1 := Lib.hid hM1; have hRow1 := hM1.row; rw [HNA.out] at hRow1; have HRow1 := Lib.hid hRow1; have HRB1 := Lib.hid (HRBF.out w1 hM1.s.below); clear hM1 hrw1 hown1 hgrow1 hRow1)
    have HMX := Lib.hid HM1.out
    refine (HMX.out.read 200).mono ?_
    rintro e wF ⟨A', c', rfl, hc1', -, hr, hF⟩
    rw [H3.out, H4.out] at hr
    rw [H3.out] at hc1' ⊢
    have HF := Lib.hid hF
    obtain ⟨Ay, cy, hvy, -, -, hry, -⟩ := hF.form
    rw [HNX.out] at hvy
    cases hvy
    have HR1 := Lib.hid hr
    have HR2 := Lib.hid hry
    clear hF hr hry H4
    go_wp2_with fail
    refine (same_true _ _ _ _ _ _ _ HNX.out HR1.out HR2.out (by omega)).mono ?_
    rintro e wG ⟨rfl, q, rfl⟩
    have HG := Lib.hid (HF.out.drewN q)
    clear HF HR1 HR2
    go_wp2_with fail
    refine (HG.out.s.top).mono ?_
    rintro e wH ⟨rfl, rfl⟩
    rw [HTP.out]
    go_wp2
    go_ret
    exact ⟨rfl, HG.out.s.below⟩
end Go.Proofs.Ytghfgekmdcangaa.Rm
