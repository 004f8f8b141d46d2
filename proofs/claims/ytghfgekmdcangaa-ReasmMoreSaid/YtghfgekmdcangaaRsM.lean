/- Layer 16's laws, walked: ReasmMore. -/
import Derived.Test.YtghfgekmdcangaaRows
import Derived.Test.YtghfgekmdcangaaAid
import Derived.Test.YtghfgekmdcangaaPlainRs
import Derived.Test.YtghfgekmdcangaaPlainRs2
import Derived.Test.YtghfgekmdcangaaRsW
import Derived.Test.YtghfgekmdcangaaRsA
import Derived.Test.YtghfgekmdcangaaRsD
import Derived.Test.YtghfgekmdcangaaRsG
import Derived.Test.YtghfgekmdcangaaRsH
import Derived.Test.YtghfgekmdcangaaRsK
import Derived.Test.YtghfgekmdcangaaRsL
import Derived.WalkKit
import Derived.OwnWalk
import Derived.Laws.Rows
import Derived.Laws.Tables
import Derived.WalkSpells
import Derived.WalkLawsBesides
import Derived.BigQuiet
import Derived.Handy
import Derived.Lib.Hide
import Derived.IntWalk
import Derived.StillTailTactics
import Derived.Deep.RegionHeld3
namespace Go.Proofs.Ytghfgekmdcangaa.Rm
open Go.RowKit Go.Maps
set_option linter.unusedVariables false
set_option linter.unusedSimpArgs false

theorem Rb.shift {w : World} {A : Option Addr} {t : List Nat} (h : Rb w A t) (k : Nat) : Rb w (Option.map (fun x => Addr.add x k) A) (t.drop k) := by
  cases A with
  | none =>
    exact fun hp => by
      simp at hp
      obtain ⟨_, _, e, _⟩ := h (by omega)
      cases e
  | some ad =>
    exact fun hp => by
      simp at hp
      obtain ⟨b, o, e, _⟩ := h (by omega)
      cases e
      rw [Option.map_some, add_mid]
      exact (h.drop k) (by simpa using hp)
theorem Rb.empty (w : World) (A : Option Addr) {t : List Nat} (k : Nat) (h : t.length ≤ k) : Rb w A (t.drop k) := fun hp => by simp at hp; omega

set_option maxHeartbeats 8000000 in
theorem reasmMore_walk (A0 : Option Addr) (n0 c0 : Nat) (z0 : List Int) (a1 : Int) (w : World) (w0 : Ints .u8 w A0 n0 z0) (x0 : n0 ≤ c0 ∧ c0 ≤ maxLen) (w1 : (Lit.int .u8 a1).wf = true) :
    Calls Try.prog 6 #[.slice A0 n0 c0, .int .u8 a1] w fun e w' => e = .returned (.bool true) ∧ Below w.heap.size w w' := by
  obtain ⟨t, htn, htb, htr⟩ := Ints_rb w0
  have hb1 := bounds_u8 w1
  obtain ⟨cut, rfl⟩ : ∃ n : Nat, a1 = n := ⟨a1.toNat, by omega⟩
  have hcut : cut ≤ 255 := by omega
  have HAL := Lib.hid (alive_any w)
  have hci : n0 ≤ c0 ∧ c0 ≤ 9223372036854775807 := ⟨x0.1, by have := x0.2; simp only [maxLen] at this; omega⟩
  clear w0 w1 hb1
  by_cases h100 : 100 < n0
  · have hd : decide ((100 : Int) < (n0 : Int)) = true := by simp; omega
    clear htn htr htb x0
    go_enter Try.func6, Try.ntmps6
    go_wp2_with fail
    refine HAL.out.mono ?_
    rintro e wA ⟨rfl, hL⟩
    have HL := Lib.hid hL
    clear hL
    go_wp2
    go_ret
    exact ⟨rfl, HL.out⟩
  have hd : decide ((100 : Int) < (n0 : Int)) = false := by simp; omega
  have hn100 : n0 ≤ 100 := by omega
  obtain ⟨k, hk⟩ : ∃ k, cut % (n0 + 1) = k := ⟨_, rfl⟩
  have hkn : k ≤ n0 := by have := Nat.mod_lt cut (show 0 < n0 + 1 by omega); omega
  have hq1 : ((cut : Int)).tmod ((n0 : Int) + 1) = (k : Int) := by
    rw [← hk, Int.tmod_eq_emod_of_nonneg (by omega)]; simp
  have hq2 : ((cut : Int)) % ((n0 : Int) + 1) = (k : Int) := by rw [← hk]; simp
  have hwk : IntKind.u64.wrap (k : Int) = (k : Int) := by rw [IntKind.wrap_u64]; omega
  obtain ⟨l1, l2, l3, F1, F2, k1, k2, k3, k4, k5, k6⟩ := Rs.more_law t k (by omega) (by omega)
  have hdl : (t.drop k).length = n0 - k := by simp [htn]
  have htl : (t.take k).length = k := by simp [htn]; omega
  rw [hdl] at l1
  rw [htl] at l2
  rw [htn] at l3 k1 k4
  have m1 : Rs.many _ (200 : Int) = _ := F1.many 200 (by omega)
  have m2 : Rs.many _ (200 : Int) = _ := F2.many 200 (by omega)
  have b1 := F1.bytes
  have b2 := F2.bytes
  rw [htn] at m1 m2 b1 b2
  have HP1 := Lib.hid (fun (wr : World) (a mb c : Nat) (A : Option Addr) (h : OwnS w a mb (Rs.new 100) wr) (hA : Rb wr A (t.drop k)) (hc : n0 - k ≤ c ∧ c ≤ maxLen) => h.putN k (n0 - k) c 0 A (t.drop k) true hdl hA (fun c hc => htb c (List.mem_of_mem_drop hc)) (by omega) hc (by omega) l1)
  have HP2 := Lib.hid (fun (wr : World) (a mb : Nat) (h : OwnS w a mb (Rs.put (Rs.new 100) k (t.drop k) true) wr) (hc : k ≤ c0 ∧ c0 ≤ maxLen) => h.putN 0 k c0 0 A0 (t.take k) false htl ((htr.below h.below).take k) (fun c hc => htb c (List.mem_of_mem_take hc)) (by omega) hc (by omega) l2)
  have HP3 := Lib.hid (fun (wr : World) (a mb : Nat) (h : OwnS w a mb (Rs.new 100) wr) => h.putN 0 n0 c0 0 A0 t true htn (htr.below h.below) htb (by omega) x0 (by omega) l3)
  have hfin : ∀ x : Rs.S, Rs.Full x t → x.size = n0 → x.known = true → x.win = 100 → Rs.many x 200 = n0 → Rs.done (Rs.read x 200).2 = true ∧ Rs.limit (Rs.read x 200).2 = n0 + 100 := fun x hF h1 h2 h3 h4 => by
    unfold Rs.read Rs.done Rs.limit Rs.readK
    rw [h4]
    simp only [h2, h1, h3, hF.rd]
    simp
  have G1 := Lib.hid (hfin _ F1 k1 k2 k3 m1)
  have G2 := Lib.hid (hfin _ F2 k4 k5 k6 m2)
  have M1 := Lib.hid m1
  have M2 := Lib.hid m2
  have B1 := Lib.hid b1
  have B2 := Lib.hid b2
  have HTR := Lib.hid (fun wr (h : Below w.heap.size w wr) => htr.below h)
  have HSH := Lib.hid (fun wr (h : Below w.heap.size w wr) => (htr.below h).shift k)
  have HSE : Hid (c0 = k → ∀ wr A, Rb wr A (t.drop k)) := fun e wr A => Rb.empty wr A k (by omega)
  have HTN := Lib.hid htn
  have HX := Lib.hid x0
  clear hk l1 l2 l3 F1 F2 k1 k2 k3 k4 k5 k6 m1 m2 b1 b2 hdl htl hfin htn htr htb x0 h100
  generalize Rs.put (Rs.new 100) 0 t true = y at *
  generalize Rs.put (Rs.new 100) k (t.drop k) true = x1 at *
  generalize Rs.put x1 0 (t.take k) false = x2 at *
  go_enter Try.func6, Try.ntmps6
  go_wp2_with fail
  refine HAL.out.mono ?_
  rintro e wA ⟨rfl, hL⟩
  have HL := Lib.hid hL
  clear hL HAL
  go_wp2_with fail
  refine (OwnS.new 100 (by omega) HL.out).mono ?_
  rintro e wB ⟨a, rfl, -, ma, -, hB, -⟩
  have HB := Lib.hid hB
  clear hB HL
  go_wp2_with fail
  refine (OwnS.new 100 (by omega) HB.out.below).mono ?_
  rintro e wC ⟨b, rfl, hb1, mc, hb2, hC, hbl⟩
  have HA1 := Lib.hid (HB.out.kept hbl)
  have HNE : Hid (b ≠ a ∧ b ≠ ma ∧ mc ≠ a ∧ mc ≠ ma) := by have := HB.out.bs.lt; exact ⟨by omega, by omega, by omega, by omega⟩
  have HC1 := Lib.hid hC
  clear hC hb1 hb2 hbl HB
  go_wp2
  by_cases hkc : c0 = k
  · have HPK : Hid (∀ (wr : World) (a mb : Nat), OwnS w a mb (Rs.new 100) wr → Calls Try.prog 10 #[.pointer (some ⟨a, 0, none⟩), .int .u64 (k : Int), .slice A0 0 0, .bool true] wr fun e wq => e = .returned (.int .i64 ((0 : Nat) : Int)) ∧ OwnS w a mb x1 wq ∧ Upd2 a mb wr wq) := fun wr a mb h => by
      have h1 := HX.out
      have e0 : n0 - k = 0 := by omega
      have := HP1.out wr a mb 0 A0 h (HSE.out hkc _ _) ⟨by omega, by omega⟩
      rw [e0] at this
      exact this
    clear HSE HP1 HSH
    subst hkc
    have hcd : c0 - c0 = 0 := by omega
    have hkle : c0 ≤ c0 := Nat.le_refl _
    refine wp_region_held_drew (S := (fun _ => True)) (by kernel_rfl) trivial (fun hHeld => ?_)
    refine wpAnyH_take (i := 0) (oi := ?_) (v := ?_) ?_ ?_ ?_ ?_ ?_ ?_ (by assumption) ?_
    rotate_left 2
    · simp only [List.getElem?_toArray, List.getElem?_cons_zero, List.getElem?_cons_succ]
      rfl
    · kernel_rfl
    · kernel_rfl
    · kernel_rfl
    · exact fun _ _ _ h => h
    · refine Or.inl ⟨by rfl, ?_⟩
      intro w hSw
      (try dsimp only at hSw)
      go_simp
      all_goals with_reducible rfl
    simp only [Act.put, List.setIfInBounds_toArray, List.set_cons_zero, List.set_cons_succ]
    refine wpAnyH_take (i := 1) (oi := ?_) (v := ?_) ?_ ?_ ?_ ?_ ?_ ?_ (by assumption) ?_
    rotate_left 2
    · simp only [List.getElem?_toArray, List.getElem?_cons_zero, List.getElem?_cons_succ]
      rfl
    · kernel_rfl
    · kernel_rfl
    · kernel_rfl
    · exact fun _ _ _ h => h
    · refine Or.inl ⟨by rfl, ?_⟩
      intro w hSw
      (try dsimp only at hSw)
      go_simp
      all_goals with_reducible rfl
    simp only [Act.put, List.setIfInBounds_toArray, List.set_cons_zero, List.set_cons_succ]
    refine wpAnyH_take (i := 2) (oi := ?_) (v := ?_) ?_ ?_ ?_ ?_ ?_ ?_ (by assumption) ?_
    rotate_left 2
    · simp only [List.getElem?_toArray, List.getElem?_cons_zero, List.getElem?_cons_succ]
      rfl
    · kernel_rfl
    · kernel_rfl
    · kernel_rfl
    · exact fun _ _ _ h => h
    · refine Or.inl ⟨by rfl, ?_⟩
      intro w hSw
      (try dsimp only at hSw)
      go_simp
      all_goals with_reducible rfl
    simp only [Act.put, List.setIfInBounds_toArray, List.set_cons_zero, List.set_cons_succ]
    refine wpAnyH_take (i := 3) (oi := ?_) (v := ?_) ?_ ?_ ?_ ?_ ?_ ?_ (by assumption) ?_
    rotate_left 2
    · simp only [List.getElem?_toArray, List.getElem?_cons_zero, List.getElem?_cons_succ]
      rfl
    · kernel_rfl
    · kernel_rfl
    · kernel_rfl
    · exact fun _ _ _ h => h
    · refine Or.inl ⟨by rfl, ?_⟩
      intro w hSw
      (try dsimp only at hSw)
      go_simp
      all_goals with_reducible rfl
    simp only [Act.put, List.setIfInBounds_toArray, List.set_cons_zero, List.set_cons_succ]
    refine wpAnyH_take (i := 4) (oi := ?_) (v := ?_) ?_ ?_ ?_ ?_ ?_ ?_ (by assumption) ?_
    rotate_left 2
    · simp only [List.getElem?_toArray, List.getElem?_cons_zero, List.getElem?_cons_succ]
      rfl
    · kernel_rfl
    · kernel_rfl
    · kernel_rfl
    · exact fun _ _ _ h => h
    · refine Or.inl ⟨by rfl, ?_⟩
      intro w hSw
      (try dsimp only at hSw)
      go_simp
      all_goals with_reducible rfl
    simp only [Act.put, List.setIfInBounds_toArray, List.set_cons_zero, List.set_cons_succ]
    refine wpAnyH_take (i := 5) (oi := ?_) (v := ?_) ?_ ?_ ?_ ?_ ?_ ?_ (by assumption) ?_
    rotate_left 2
    · simp only [List.getElem?_toArray, List.getElem?_cons_zero, List.getElem?_cons_succ]
      rfl
    · kernel_rfl
    · kernel_rfl
    · kernel_rfl
    · exact fun _ _ _ h => h
    · refine Or.inl ⟨by rfl, ?_⟩
      intro w hSw
      (try dsimp only at hSw)
      go_simp
      all_goals with_reducible rfl
    simp only [Act.put, List.setIfInBounds_toArray, List.set_cons_zero, List.set_cons_succ]
    refine wpAnyH_take (i := 7) (oi := ?_) (v := ?_) ?_ ?_ ?_ ?_ ?_ ?_ (by assumption) ?_
    rotate_left 2
    · simp only [List.getElem?_toArray, List.getElem?_cons_zero, List.getElem?_cons_succ]
      rfl
    · kernel_rfl
    · kernel_rfl
    · kernel_rfl
    · exact fun _ _ _ h => h
    · refine Or.inl ⟨by rfl, ?_⟩
      intro w hSw
      (try dsimp only at hSw)
      go_simp
      all_goals with_reducible rfl
    simp only [Act.put, List.setIfInBounds_toArray, List.set_cons_zero, List.set_cons_succ]
    refine wpAnyH_take (i := 8) (oi := ?_) (v := ?_) ?_ ?_ ?_ ?_ ?_ ?_ (by assumption) ?_
    rotate_left 2
    · simp only [List.getElem?_toArray, List.getElem?_cons_zero, List.getElem?_cons_succ]
      rfl
    · kernel_rfl
    · kernel_rfl
    · kernel_rfl
    · exact fun _ _ _ h => h
    · refine Or.inl ⟨by rfl, ?_⟩
      intro w hSw
      (try dsimp only at hSw)
      go_simp
      all_goals with_reducible rfl
    simp only [Act.put, List.setIfInBounds_toArray, List.set_cons_zero, List.set_cons_succ]
    refine wpAnyH_take (i := 9) (oi := ?_) (v := ?_) ?_ ?_ ?_ ?_ ?_ ?_ (by assumption) ?_
    rotate_left 2
    · simp only [List.getElem?_toArray, List.getElem?_cons_zero, List.getElem?_cons_succ]
      rfl
    · kernel_rfl
    · kernel_rfl
    · kernel_rfl
    · exact fun _ _ _ h => h
    · refine Or.inl ⟨by rfl, ?_⟩
      intro w hSw
      (try dsimp only at hSw)
      go_simp
      all_goals with_reducible rfl
    simp only [Act.put, List.setIfInBounds_toArray, List.set_cons_zero, List.set_cons_succ]
    refine wpAnyH_take (i := 10) (oi := ?_) (v := ?_) ?_ ?_ ?_ ?_ ?_ ?_ (by assumption) ?_
    rotate_left 2
    · simp only [List.getElem?_toArray, List.getElem?_cons_zero, List.getElem?_cons_succ]
      rfl
    · kernel_rfl
    · kernel_rfl
    · kernel_rfl
    · exact fun _ _ _ h => h
    · refine Or.inl ⟨by rfl, ?_⟩
      intro w hSw
      (try dsimp only at hSw)
      go_simp
      all_goals with_reducible rfl
    simp only [Act.put, List.setIfInBounds_toArray, List.set_cons_zero, List.set_cons_succ]
    refine wpAnyH_ready (rs := [6]) (by kernel_rfl) (by simp) ?_
    refine AllReadyH.cons (o := ?_) ?_ (fun KK hKK => ?_) AllReadyH.nil
    rotate_left
    · simp only [List.getElem?_toArray, List.getElem?_cons_zero, List.getElem?_cons_succ]
      rfl
    go_simp
    refine (HPK.out _ _ _ (HA1.out.drewN 1)).mono ?_; rintro e wD ⟨rfl, hD, hu1⟩
    try go_wp2_with fail
    refine hKK.out _ _ ?_ (fun hh1 => ?_)
    · (try dsimp only)
      try trivial
    clear hKK KK
    try simp only [Act.put, List.setIfInBounds_toArray, List.set_cons_zero, List.set_cons_succ]
    refine wpAnyH_ready (rs := [11]) (by kernel_rfl) (by simp) ?_
    refine AllReadyH.cons (o := ?_) ?_ (fun KK hKK => ?_) AllReadyH.nil
    rotate_left
    · simp only [List.getElem?_toArray, List.getElem?_cons_zero, List.getElem?_cons_succ]
      rfl
    go_simp
    refine (HP2.out _ _ _ hD (by have := HX.out; omega)).mono ?_; rintro e wE ⟨rfl, hE, hu2⟩
    try go_wp2_with fail
    refine hKK.out _ _ ?_ (fun hh2 => ?_)
    · (try dsimp only)
      try trivial
    clear hKK KK
    try simp only [Act.put, List.setIfInBounds_toArray, List.set_cons_zero, List.set_cons_succ]
    refine wpAnyH_take (i := 12) (oi := ?_) (v := ?_) ?_ ?_ ?_ ?_ ?_ ?_ (by assumption) ?_
    rotate_left 2
    · simp only [List.getElem?_toArray, List.getElem?_cons_zero, List.getElem?_cons_succ]
      rfl
    · kernel_rfl
    · kernel_rfl
    · kernel_rfl
    · exact fun _ _ _ h => h
    · refine Or.inl ⟨by rfl, ?_⟩
      intro w hSw
      (try dsimp only at hSw)
      go_simp
      all_goals with_reducible rfl
    simp only [Act.put, List.setIfInBounds_toArray, List.set_cons_zero, List.set_cons_succ]
    refine wpAnyH_take (i := 13) (oi := ?_) (v := ?_) ?_ ?_ ?_ ?_ ?_ ?_ (by assumption) ?_
    rotate_left 2
    · simp only [List.getElem?_toArray, List.getElem?_cons_zero, List.getElem?_cons_succ]
      rfl
    · kernel_rfl
    · kernel_rfl
    · kernel_rfl
    · exact fun _ _ _ h => h
    · refine Or.inl ⟨by rfl, ?_⟩
      intro w hSw
      (try dsimp only at hSw)
      go_simp
      all_goals with_reducible rfl
    simp only [Act.put, List.setIfInBounds_toArray, List.set_cons_zero, List.set_cons_succ]
    refine wpAnyH_done (by kernel_rfl) ?_ _
    have HA2 := Lib.hid hE
    have HC2 : Hid (OwnS w b mc (Rs.new 100) wE) := (HC1.out.drewN 1).other (hu1.trans hu2) HNE.out.1 HNE.out.2.1 HNE.out.2.2.1 HNE.out.2.2.2 hE.below
    clear hHeld hh1 hh2 hD hE hu1 hu2 HA1 HC1 HPK HP2
    go_wp2_with fail
    refine (HP3.out _ _ _ HC2.out).mono ?_
    rintro e wF ⟨rfl, hF, hu⟩
    have HC3 := Lib.hid hF
    have HA3 : Hid (OwnS w a ma x2 wF) := HA2.out.other hu (Ne.symm HNE.out.1) (Ne.symm HNE.out.2.2.1) (Ne.symm HNE.out.2.1) (Ne.symm HNE.out.2.2.2) hF.below
    clear hF hu HA2 HC2 HP3
    go_wp2_with fail
    refine (HA3.out.read 200).mono ?_
    rintro e wG ⟨A', c', rfl, -, -, hr, -, hG, hu⟩
    rw [M1.out] at hr ⊢
    rw [B1.out] at hr
    have HA4 := Lib.hid hG
    have HC4 : Hid (OwnS w b mc y wG) := HC3.out.other hu HNE.out.1 HNE.out.2.1 HNE.out.2.2.1 HNE.out.2.2.2 hG.below
    have HR := Lib.hid hr
    clear hG hu hr HA3 HC3
    go_wp2_with fail
    refine (same_true _ _ _ _ _ t _ HTN.out HR.out (HTR.out _ HA4.out.below) (by omega)).mono ?_
    rintro e wH ⟨rfl, q, rfl⟩
    have HA5 := Lib.hid (HA4.out.drewN q)
    have HC5 := Lib.hid (HC4.out.drewN q)
    clear HR HA4 HC4
    go_wp2_with fail
    refine (HC5.out.read 200).mono ?_
    rintro e wI ⟨A'', c'', rfl, -, -, hr, -, hG, hu⟩
    rw [M2.out] at hr ⊢
    rw [B2.out] at hr
    have HC6 := Lib.hid hG
    have HA6 : Hid (OwnS w a ma (Rs.read x2 200).2 wI) := HA5.out.other hu (Ne.symm HNE.out.1) (Ne.symm HNE.out.2.2.1) (Ne.symm HNE.out.2.1) (Ne.symm HNE.out.2.2.2) hG.below
    have HR := Lib.hid hr
    clear hG hu hr HA5 HC5
    go_wp2_with fail
    refine (same_true _ _ _ _ _ t _ HTN.out HR.out (HTR.out _ HA6.out.below) (by omega)).mono ?_
    rintro e wJ ⟨rfl, q2, rfl⟩
    have HA7 := Lib.hid (HA6.out.drewN q2)
    have HC7 := Lib.hid (HC6.out.drewN q2)
    clear HR HA6 HC6
    obtain ⟨wj, hw_wj⟩ : ∃ wj, wI.drewN q2 = wj := ⟨_, rfl⟩
    rw [hw_wj] at HA7 HC7 ⊢
    clear hw_wj
    go_wp2_with fail
    refine (HA7.out.done).mono ?_
    rintro e wK ⟨rfl, q3, rfl⟩
    rw [G1.out.1]
    have HA8 := Lib.hid (HA7.out.drewN q3)
    have HC8 := Lib.hid (HC7.out.drewN q3)
    obtain ⟨wk, hw_wk⟩ : ∃ wk, wj.drewN q3 = wk := ⟨_, rfl⟩
    rw [hw_wk] at HA8 HC8 ⊢
    clear hw_wk
    go_wp2_with fail
    refine (HC8.out.done).mono ?_
    rintro e wK ⟨rfl, q4, rfl⟩
    rw [G2.out.1]
    have HA9 := Lib.hid (HA8.out.drewN q4)
    have HC9 := Lib.hid (HC8.out.drewN q4)
    obtain ⟨wl, hw_wl⟩ : ∃ wl, wk.drewN q4 = wl := ⟨_, rfl⟩
    rw [hw_wl] at HA9 HC9 ⊢
    clear hw_wl
    go_wp2_with fail
    refine (HA9.out.limit).mono ?_
    rintro e wK ⟨rfl, q5, rfl⟩
    rw [G1.out.2]
    have HC10 := Lib.hid (HC9.out.drewN q5)
    obtain ⟨wm, hw_wm⟩ : ∃ wm, wl.drewN q5 = wm := ⟨_, rfl⟩
    rw [hw_wm] at HC10 ⊢
    clear hw_wm
    go_wp2_with fail
    refine (HC10.out.limit).mono ?_
    rintro e wK ⟨rfl, q6, rfl⟩
    rw [G2.out.2]
    have HZ := Lib.hid (HC10.out.drewN q6).below
    go_wp2
    go_ret
    exact ⟨by first | rfl | simp, by first | exact HZ.out | (simpa using HZ.out)⟩
  · have hkc1 : k < c0 := by have := HX.out; omega
    have hkc0 : 0 < c0 - k := by omega
    have hkle : k ≤ c0 := by omega
    refine wp_region_held_drew (S := (fun _ => True)) (by kernel_rfl) trivial (fun hHeld => ?_)
    refine wpAnyH_take (i := 0) (oi := ?_) (v := ?_) ?_ ?_ ?_ ?_ ?_ ?_ (by assumption) ?_
    rotate_left 2
    · simp only [List.getElem?_toArray, List.getElem?_cons_zero, List.getElem?_cons_succ]
      rfl
    · kernel_rfl
    · kernel_rfl
    · kernel_rfl
    · exact fun _ _ _ h => h
    · refine Or.inl ⟨by rfl, ?_⟩
      intro w hSw
      (try dsimp only at hSw)
      go_simp
      all_goals with_reducible rfl
    simp only [Act.put, List.setIfInBounds_toArray, List.set_cons_zero, List.set_cons_succ]
    refine wpAnyH_take (i := 1) (oi := ?_) (v := ?_) ?_ ?_ ?_ ?_ ?_ ?_ (by assumption) ?_
    rotate_left 2
    · simp only [List.getElem?_toArray, List.getElem?_cons_zero, List.getElem?_cons_succ]
      rfl
    · kernel_rfl
    · kernel_rfl
    · kernel_rfl
    · exact fun _ _ _ h => h
    · refine Or.inl ⟨by rfl, ?_⟩
      intro w hSw
      (try dsimp only at hSw)
      go_simp
      all_goals with_reducible rfl
    simp only [Act.put, List.setIfInBounds_toArray, List.set_cons_zero, List.set_cons_succ]
    refine wpAnyH_take (i := 2) (oi := ?_) (v := ?_) ?_ ?_ ?_ ?_ ?_ ?_ (by assumption) ?_
    rotate_left 2
    · simp only [List.getElem?_toArray, List.getElem?_cons_zero, List.getElem?_cons_succ]
      rfl
    · kernel_rfl
    · kernel_rfl
    · kernel_rfl
    · exact fun _ _ _ h => h
    · refine Or.inl ⟨by rfl, ?_⟩
      intro w hSw
      (try dsimp only at hSw)
      go_simp
      all_goals with_reducible rfl
    simp only [Act.put, List.setIfInBounds_toArray, List.set_cons_zero, List.set_cons_succ]
    refine wpAnyH_take (i := 3) (oi := ?_) (v := ?_) ?_ ?_ ?_ ?_ ?_ ?_ (by assumption) ?_
    rotate_left 2
    · simp only [List.getElem?_toArray, List.getElem?_cons_zero, List.getElem?_cons_succ]
      rfl
    · kernel_rfl
    · kernel_rfl
    · kernel_rfl
    · exact fun _ _ _ h => h
    · refine Or.inl ⟨by rfl, ?_⟩
      intro w hSw
      (try dsimp only at hSw)
      go_simp
      all_goals with_reducible rfl
    simp only [Act.put, List.setIfInBounds_toArray, List.set_cons_zero, List.set_cons_succ]
    refine wpAnyH_take (i := 4) (oi := ?_) (v := ?_) ?_ ?_ ?_ ?_ ?_ ?_ (by assumption) ?_
    rotate_left 2
    · simp only [List.getElem?_toArray, List.getElem?_cons_zero, List.getElem?_cons_succ]
      rfl
    · kernel_rfl
    · kernel_rfl
    · kernel_rfl
    · exact fun _ _ _ h => h
    · refine Or.inl ⟨by rfl, ?_⟩
      intro w hSw
      (try dsimp only at hSw)
      go_simp
      all_goals with_reducible rfl
    simp only [Act.put, List.setIfInBounds_toArray, List.set_cons_zero, List.set_cons_succ]
    refine wpAnyH_take (i := 5) (oi := ?_) (v := ?_) ?_ ?_ ?_ ?_ ?_ ?_ (by assumption) ?_
    rotate_left 2
    · simp only [List.getElem?_toArray, List.getElem?_cons_zero, List.getElem?_cons_succ]
      rfl
    · kernel_rfl
    · kernel_rfl
    · kernel_rfl
    · exact fun _ _ _ h => h
    · refine Or.inl ⟨by rfl, ?_⟩
      intro w hSw
      (try dsimp only at hSw)
      go_simp
      all_goals with_reducible rfl
    simp only [Act.put, List.setIfInBounds_toArray, List.set_cons_zero, List.set_cons_succ]
    refine wpAnyH_take (i := 7) (oi := ?_) (v := ?_) ?_ ?_ ?_ ?_ ?_ ?_ (by assumption) ?_
    rotate_left 2
    · simp only [List.getElem?_toArray, List.getElem?_cons_zero, List.getElem?_cons_succ]
      rfl
    · kernel_rfl
    · kernel_rfl
    · kernel_rfl
    · exact fun _ _ _ h => h
    · refine Or.inl ⟨by rfl, ?_⟩
      intro w hSw
      (try dsimp only at hSw)
      go_simp
      all_goals with_reducible rfl
    simp only [Act.put, List.setIfInBounds_toArray, List.set_cons_zero, List.set_cons_succ]
    refine wpAnyH_take (i := 8) (oi := ?_) (v := ?_) ?_ ?_ ?_ ?_ ?_ ?_ (by assumption) ?_
    rotate_left 2
    · simp only [List.getElem?_toArray, List.getElem?_cons_zero, List.getElem?_cons_succ]
      rfl
    · kernel_rfl
    · kernel_rfl
    · kernel_rfl
    · exact fun _ _ _ h => h
    · refine Or.inl ⟨by rfl, ?_⟩
      intro w hSw
      (try dsimp only at hSw)
      go_simp
      all_goals with_reducible rfl
    simp only [Act.put, List.setIfInBounds_toArray, List.set_cons_zero, List.set_cons_succ]
    refine wpAnyH_take (i := 9) (oi := ?_) (v := ?_) ?_ ?_ ?_ ?_ ?_ ?_ (by assumption) ?_
    rotate_left 2
    · simp only [List.getElem?_toArray, List.getElem?_cons_zero, List.getElem?_cons_succ]
      rfl
    · kernel_rfl
    · kernel_rfl
    · kernel_rfl
    · exact fun _ _ _ h => h
    · refine Or.inl ⟨by rfl, ?_⟩
      intro w hSw
      (try dsimp only at hSw)
      go_simp
      all_goals with_reducible rfl
    simp only [Act.put, List.setIfInBounds_toArray, List.set_cons_zero, List.set_cons_succ]
    refine wpAnyH_take (i := 10) (oi := ?_) (v := ?_) ?_ ?_ ?_ ?_ ?_ ?_ (by assumption) ?_
    rotate_left 2
    · simp only [List.getElem?_toArray, List.getElem?_cons_zero, List.getElem?_cons_succ]
      rfl
    · kernel_rfl
    · kernel_rfl
    · kernel_rfl
    · exact fun _ _ _ h => h
    · refine Or.inl ⟨by rfl, ?_⟩
      intro w hSw
      (try dsimp only at hSw)
      go_simp
      all_goals with_reducible rfl
    simp only [Act.put, List.setIfInBounds_toArray, List.set_cons_zero, List.set_cons_succ]
    refine wpAnyH_ready (rs := [6]) (by kernel_rfl) (by simp) ?_
    refine AllReadyH.cons (o := ?_) ?_ (fun KK hKK => ?_) AllReadyH.nil
    rotate_left
    · simp only [List.getElem?_toArray, List.getElem?_cons_zero, List.getElem?_cons_succ]
      rfl
    go_simp
    refine (HP1.out _ _ _ _ _ (HA1.out.drewN 1) (HSH.out _ (HA1.out.drewN 1).below) (by have := HX.out; omega)).mono ?_; rintro e wD ⟨rfl, hD, hu1⟩
    try go_wp2_with fail
    refine hKK.out _ _ ?_ (fun hh1 => ?_)
    · (try dsimp only)
      try trivial
    clear hKK KK
    try simp only [Act.put, List.setIfInBounds_toArray, List.set_cons_zero, List.set_cons_succ]
    refine wpAnyH_ready (rs := [11]) (by kernel_rfl) (by simp) ?_
    refine AllReadyH.cons (o := ?_) ?_ (fun KK hKK => ?_) AllReadyH.nil
    rotate_left
    · simp only [List.getElem?_toArray, List.getElem?_cons_zero, List.getElem?_cons_succ]
      rfl
    go_simp
    refine (HP2.out _ _ _ hD (by have := HX.out; omega)).mono ?_; rintro e wE ⟨rfl, hE, hu2⟩
    try go_wp2_with fail
    refine hKK.out _ _ ?_ (fun hh2 => ?_)
    · (try dsimp only)
      try trivial
    clear hKK KK
    try simp only [Act.put, List.setIfInBounds_toArray, List.set_cons_zero, List.set_cons_succ]
    refine wpAnyH_take (i := 12) (oi := ?_) (v := ?_) ?_ ?_ ?_ ?_ ?_ ?_ (by assumption) ?_
    rotate_left 2
    · simp only [List.getElem?_toArray, List.getElem?_cons_zero, List.getElem?_cons_succ]
      rfl
    · kernel_rfl
    · kernel_rfl
    · kernel_rfl
    · exact fun _ _ _ h => h
    · refine Or.inl ⟨by rfl, ?_⟩
      intro w hSw
      (try dsimp only at hSw)
      go_simp
      all_goals with_reducible rfl
    simp only [Act.put, List.setIfInBounds_toArray, List.set_cons_zero, List.set_cons_succ]
    refine wpAnyH_take (i := 13) (oi := ?_) (v := ?_) ?_ ?_ ?_ ?_ ?_ ?_ (by assumption) ?_
    rotate_left 2
    · simp only [List.getElem?_toArray, List.getElem?_cons_zero, List.getElem?_cons_succ]
      rfl
    · kernel_rfl
    · kernel_rfl
    · kernel_rfl
    · exact fun _ _ _ h => h
    · refine Or.inl ⟨by rfl, ?_⟩
      intro w hSw
      (try dsimp only at hSw)
      go_simp
      all_goals with_reducible rfl
    simp only [Act.put, List.setIfInBounds_toArray, List.set_cons_zero, List.set_cons_succ]
    refine wpAnyH_done (by kernel_rfl) ?_ _
    have HA2 := Lib.hid hE
    have HC2 : Hid (OwnS w b mc (Rs.new 100) wE) := (HC1.out.drewN 1).other (hu1.trans hu2) HNE.out.1 HNE.out.2.1 HNE.out.2.2.1 HNE.out.2.2.2 hE.below
    clear hHeld hh1 hh2 hD hE hu1 hu2 HA1 HC1 HP1 HP2 HSH
    go_wp2_with fail
    refine (HP3.out _ _ _ HC2.out).mono ?_
    rintro e wF ⟨rfl, hF, hu⟩
    have HC3 := Lib.hid hF
    have HA3 : Hid (OwnS w a ma x2 wF) := HA2.out.other hu (Ne.symm HNE.out.1) (Ne.symm HNE.out.2.2.1) (Ne.symm HNE.out.2.1) (Ne.symm HNE.out.2.2.2) hF.below
    clear hF hu HA2 HC2 HP3
    go_wp2_with fail
    refine (HA3.out.read 200).mono ?_
    rintro e wG ⟨A', c', rfl, -, -, hr, -, hG, hu⟩
    rw [M1.out] at hr ⊢
    rw [B1.out] at hr
    have HA4 := Lib.hid hG
    have HC4 : Hid (OwnS w b mc y wG) := HC3.out.other hu HNE.out.1 HNE.out.2.1 HNE.out.2.2.1 HNE.out.2.2.2 hG.below
    have HR := Lib.hid hr
    clear hG hu hr HA3 HC3
    go_wp2_with fail
    refine (same_true _ _ _ _ _ t _ HTN.out HR.out (HTR.out _ HA4.out.below) (by omega)).mono ?_
    rintro e wH ⟨rfl, q, rfl⟩
    have HA5 := Lib.hid (HA4.out.drewN q)
    have HC5 := Lib.hid (HC4.out.drewN q)
    clear HR HA4 HC4
    go_wp2_with fail
    refine (HC5.out.read 200).mono ?_
    rintro e wI ⟨A'', c'', rfl, -, -, hr, -, hG, hu⟩
    rw [M2.out] at hr ⊢
    rw [B2.out] at hr
    have HC6 := Lib.hid hG
    have HA6 : Hid (OwnS w a ma (Rs.read x2 200).2 wI) := HA5.out.other hu (Ne.symm HNE.out.1) (Ne.symm HNE.out.2.2.1) (Ne.symm HNE.out.2.1) (Ne.symm HNE.out.2.2.2) hG.below
    have HR := Lib.hid hr
    clear hG hu hr HA5 HC5
    go_wp2_with fail
    refine (same_true _ _ _ _ _ t _ HTN.out HR.out (HTR.out _ HA6.out.below) (by omega)).mono ?_
    rintro e wJ ⟨rfl, q2, rfl⟩
    have HA7 := Lib.hid (HA6.out.drewN q2)
    have HC7 := Lib.hid (HC6.out.drewN q2)
    clear HR HA6 HC6
    obtain ⟨wj, hw_wj⟩ : ∃ wj, wI.drewN q2 = wj := ⟨_, rfl⟩
    rw [hw_wj] at HA7 HC7 ⊢
    clear hw_wj
    go_wp2_with fail
    refine (HA7.out.done).mono ?_
    rintro e wK ⟨rfl, q3, rfl⟩
    rw [G1.out.1]
    have HA8 := Lib.hid (HA7.out.drewN q3)
    have HC8 := Lib.hid (HC7.out.drewN q3)
    obtain ⟨wk, hw_wk⟩ : ∃ wk, wj.drewN q3 = wk := ⟨_, rfl⟩
    rw [hw_wk] at HA8 HC8 ⊢
    clear hw_wk
    go_wp2_with fail
    refine (HC8.out.done).mono ?_
    rintro e wK ⟨rfl, q4, rfl⟩
    rw [G2.out.1]
    have HA9 := Lib.hid (HA8.out.drewN q4)
    have HC9 := Lib.hid (HC8.out.drewN q4)
    obtain ⟨wl, hw_wl⟩ : ∃ wl, wk.drewN q4 = wl := ⟨_, rfl⟩
    rw [hw_wl] at HA9 HC9 ⊢
    clear hw_wl
    go_wp2_with fail
    refine (HA9.out.limit).mono ?_
    rintro e wK ⟨rfl, q5, rfl⟩
    rw [G1.out.2]
    have HC10 := Lib.hid (HC9.out.drewN q5)
    obtain ⟨wm, hw_wm⟩ : ∃ wm, wl.drewN q5 = wm := ⟨_, rfl⟩
    rw [hw_wm] at HC10 ⊢
    clear hw_wm
    go_wp2_with fail
    refine (HC10.out.limit).mono ?_
    rintro e wK ⟨rfl, q6, rfl⟩
    rw [G2.out.2]
    have HZ := Lib.hid (HC10.out.drewN q6).below
    go_wp2
    go_ret
    exact ⟨by first | rfl | simp, by first | exact HZ.out | (simpa using HZ.out)⟩
end Go.Proofs.Ytghfgekmdcangaa.Rm
