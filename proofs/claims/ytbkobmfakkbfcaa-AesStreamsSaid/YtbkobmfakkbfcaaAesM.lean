/- AesBack, walked. -/
import Derived.Test.YtbkobmfakkbfcaaRows
import Derived.Test.YtbkobmfakkbfcaaAid
import Derived.Test.YtbkobmfakkbfcaaPlainAe
import Derived.Test.YtbkobmfakkbfcaaPlainAe2
import Derived.Test.YtbkobmfakkbfcaaAesB
import Derived.Test.YtbkobmfakkbfcaaAesBox
import Derived.Test.YtbkobmfakkbfcaaAesW
import Derived.Test.YtbkobmfakkbfcaaAesE
import Derived.Test.YtbkobmfakkbfcaaAesK
import Derived.Test.YtbkobmfakkbfcaaAesS
import Derived.Test.YtbkobmfakkbfcaaAesT
import Derived.Test.YtbkobmfakkbfcaaAesA
import Derived.WalkKit
import Derived.Laws.BitsAllLaws
import Derived.Laws.Rows
import Derived.WalkSpells
import Derived.WalkLawsBesides
import Derived.Handy
import Derived.Lib.Hide
import Derived.Deep.RegionHeld3
import Derived.IntWalk
namespace Go.Proofs.Ytbkobmfakkbfcaa
open Go.RowKit
set_option linter.unusedVariables false
set_option linter.unusedSimpArgs false

theorem el8 : Try.prog.underlying 35 = some (.slice (Try.prog.elem 35)) := by kernel_rfl
theorem sz8 (w : World) : (sizeOf (Try.prog.elem 35)).run Try.prog w = .ok 1 w := by kernel_rfl
theorem slice8_h (A : Option Addr) (n c K : Nat) (hK : K ≤ c) (w : World) :
    (Instr.slice 35 (.slice A n c) none (some (.int .i64 (K : Int))) none).run Try.prog w = .ok (.slice A K c) w := by
  rw [run_slice_h w 35 A n c el8 .i64 (K : Int) (by omega) (by omega), sz8]
  have hA : A.map (fun x => x.add (0 * 1)) = A := by cases A <;> simp [Addr.add]
  simp only [Result.andThen, sliced, Int.toNat_natCast, Nat.sub_zero, hA]
  split <;> rfl
theorem slice8_at (A : Option Addr) (n c K : Nat) (hK : K ≤ c) (w : World) :
    (Instr.sliceAt 35 (.slice A n c) none (some (.int .i64 (K : Int))) none).run Try.prog w = .ok (.slice A K c) w := by
  rw [run_sliceAt_slice w 35 _ _ _ _ el8]; exact slice8_h A n c K hK w
theorem Rd.take {w : World} {A : Option Addr} {l : List Nat} (h : Rd w A l) (K : Nat) (hK : K ≤ l.length) : Rd w A (l.take K) := fun hp => by
  rw [List.length_take] at hp
  obtain ⟨b, off, rfl, hlt, hc⟩ := h (by omega)
  refine ⟨b, off, rfl, hlt, fun j hj => ?_⟩
  rw [List.length_take] at hj
  rw [hc j (by omega)]
  simp [List.getD_eq_getElem?_getD, show j < K by omega]
theorem below_drewN' {w w' : World} {q : Nat} (h : w' = w.drewN q) : Below w.heap.size w w' := by subst h; exact ⟨rfl, rfl, rfl, Nat.le_refl _, fun _ _ => rfl⟩
theorem bytes_take {l : List Nat} (h : Ae.bytes l) (K : Nat) : Ae.bytes (l.take K) := fun c hc => h c (List.mem_of_mem_take hc)

set_option maxRecDepth 100000 in
set_option maxHeartbeats 2000000 in
theorem aesBack_small (k f : List Nat) (A : Option Addr) (n c m : Nat) (text : List Nat) (w : World) (hk : k.length = 16) (hf : f.length = 16) (ht : text.length = n) (qk : Ae.bytes k) (qf : Ae.bytes f) (qt : Ae.bytes text) (hr : Rd w A text) (hc : n ≤ c) (hm : m < 256) (h3 : n ≤ 300) :
    Calls Try.prog 6 #[.agg (cellsN k), .agg (cellsN f), .slice A n c, .int .u8 (m : Int)] w fun e w' => e = .returned (.bool true) ∧ Below w.heap.size w w' := by
  have HIK := Lib.hid (size16 hk)
  have HIF := Lib.hid (size16 hf)
  have HK := Lib.hid hk
  have HF := Lib.hid hf
  have HN := Lib.hid ht
  have HR := Lib.hid hr
  have HM : Hid (text.length ≤ 1000000) := by unfold Hid; omega
  have h3i : (n : Int) ≤ 300 := by omega
  obtain ⟨K, hKe⟩ : ∃ K, m % (n + 1) = K := ⟨_, rfl⟩
  have hKn : K ≤ n := by have := Nat.mod_lt m (show 0 < n + 1 by omega); omega
  have e1 : (m : Int) % ((n : Int) + 1) = (K : Int) := by rw [← hKe]; push_cast; rfl
  have qs := Ae.sched_bytes qk
  have HLC := Lib.hid (Ae.stream_len (Ae.sched k) f text)
  have HTL : Hid ((text.take K).length = K) := by unfold Hid; rw [List.length_take]; omega
  have HCL : Hid (((Ae.stream (Ae.sched k) f text).take K).length = K) := by unfold Hid; rw [List.length_take, Ae.stream_len]; omega
  have qC := Ae.stream_bytes qs qf qt
  have HTW := Lib.hid (Ae.stream_twice (Ae.sched k) f text)
  have HTK := Lib.hid (Ae.stream_take (Ae.sched k) f text K (by omega))
  have O0 : Obj ((w.alloc (.cells (cellsN k) 26)).alloc (.cells (cellsN f) 26)) w.heap.size 26 (cellsN k) := (Obj.new w _ _).alloc _
  have O1 : Obj ((w.alloc (.cells (cellsN k) 26)).alloc (.cells (cellsN f) 26)) (w.heap.size + 1) 26 (cellsN f) := new2 w _ _ _
  have L0 : Below w.heap.size w ((w.alloc (.cells (cellsN k) 26)).alloc (.cells (cellsN f) 26)) := ((Below.refl _ w).alloc (Nat.le_refl _) _).alloc (by simp) _
  have P0 := Lib.hid O0
  have P1 := Lib.hid O1
  have PL := Lib.hid L0
  clear hk hf ht hr h3 hKe O0 O1 L0
  go_enter Try.func6, Try.ntmps6
  go_wp2_with fail
  refine (alive_true _).mono ?_
  rintro e w1 ⟨rfl, hb1⟩
  have HO0 := P0.out.kept hb1
  have HO1 := P1.out.kept hb1
  have HL1 := PL.out.trans (hb1.mono PL.out.size)
  have HR1 := HR.out.below HL1
  clear P0 P1 PL hb1
  go_wp2_with (first
    | (refine wpList_load_row rfl 26 (.tmp 4) rfl _ rfl _ _ _ _ HO0 Try.underlying26 rfl HIK.out ?_)
    | (refine wpList_load_row rfl 26 (.tmp 5) rfl _ rfl _ _ _ _ HO1 Try.underlying26 rfl HIF.out ?_))
  have hst : ∀ (B : Option Addr) (d N : Nat) (x : List Nat) (W : World) (hN : x.length = N) (h1 : Rd W B x) (h2 : Ae.bytes x) (h3 : N ≤ 1000000),
      Calls Try.prog 21 #[.agg (cellsN k), .agg (cellsN f), .slice B N d] W fun e w' => ∃ A' c', e = .returned (.slice A' N c') ∧ N ≤ c' ∧ Rd w' A' (Ae.stream (Ae.sched k) f x) ∧ Below W.heap.size W w' := by
    intro B d N x W hN h1 h2 h3
    subst hN
    exact (stream_any k f B d x W HK.out HF.out qk qf h1 h2 h3).mono fun e w' ⟨v, he, hv, hb⟩ => by
      obtain ⟨A', c', rfl, _, h4, h5⟩ := own_rd hv
      exact ⟨A', c', he, h4, h5, hb⟩
  have hsm : ∀ (B D : Option Addr) (d d' N : Nat) (x : List Nat) (W : World) (hN : x.length = N) (h1 : Rd W B x) (h2 : Rd W D x) (h3 : N ≤ 1000000),
      Calls Try.prog 20 #[.slice B N d, .slice D N d'] W fun e w' => e = .returned (.bool true) ∧ Below W.heap.size W w' := by
    intro B D d d' N x W hN h1 h2 h3
    subst hN
    exact (same_true B D d d' x W h1 h2 h3).mono fun e w' ⟨he, q, hq⟩ => ⟨he, below_drewN' hq⟩
  have HST := Lib.hid hst
  have HSM := Lib.hid hsm
  clear hst hsm
  refine (HST.out A c n text _ HN.out HR1 qt (by omega)).mono ?_
  rintro e w2 ⟨A1, c1, rfl, hc1, HC2, hb2⟩
  have HO02 := HO0.kept hb2
  have HO12 := HO1.kept hb2
  have HL2 := HL1.trans (hb2.mono HL1.size)
  have HR2 := HR1.below hb2
  clear HO0 HO1 HL1 HR1 hb2
  have s1 := fun w' => slice8_h A n c K (by omega) w'
  have s2 := fun w' => slice8_at A n c K (by omega) w'
  have s3 := fun w' => slice8_h A1 n c1 K (by omega) w'
  have s4 := fun w' => slice8_at A1 n c1 K (by omega) w'
  have hKi : (K : Int) ≤ (n : Int) := by omega
  go_wp2
  have HO3 : Obj w2.drew w.heap.size 26 (cellsN k) ∧ Obj w2.drew (w.heap.size + 1) 26 (cellsN f) := ⟨HO02.drew, HO12.drew⟩
  have HL3 := HL2.drew
  have HR3 : Rd w2.drew A text := HR2
  have HC3 : Rd w2.drew A1 (Ae.stream (Ae.sched k) f text) := HC2
  clear HO02 HO12 HL2 HR2 HC2
  refine wp_region_held_drew (S := (fun w' => Obj w' w.heap.size 26 (cellsN k) ∧ Obj w' (w.heap.size + 1) 26 (cellsN f))) (by kernel_rfl) HO3 (fun hHeld => ?_)
  refine wpAnyH_take (i := 0) (oi := ?_) (v := ?_) ?_ ?_ ?_ ?_ ?_ ?_ (by assumption) ?_
  rotate_left 2
  · simp only [List.getElem?_toArray, List.getElem?_cons_zero, List.getElem?_cons_succ]
    rfl
  · kernel_rfl
  · kernel_rfl
  · kernel_rfl
  · exact fun _ _ _ h => h
  · refine Or.inl ⟨by rfl, ?_⟩
    intro w hSw
    (try dsimp only at hSw)
    go_simp
    all_goals with_reducible rfl
  simp only [Act.put, List.setIfInBounds_toArray, List.set_cons_zero, List.set_cons_succ]
  refine wpAnyH_take (i := 1) (oi := ?_) (v := ?_) ?_ ?_ ?_ ?_ ?_ ?_ (by assumption) ?_
  rotate_left 2
  · simp only [List.getElem?_toArray, List.getElem?_cons_zero, List.getElem?_cons_succ]
    rfl
  · kernel_rfl
  · kernel_rfl
  · kernel_rfl
  · exact fun _ _ _ h => h
  · refine Or.inl ⟨by rfl, ?_⟩
    intro w hSw
    (try dsimp only at hSw)
    go_simp
    all_goals with_reducible rfl
  simp only [Act.put, List.setIfInBounds_toArray, List.set_cons_zero, List.set_cons_succ]
  refine wpAnyH_take (i := 2) (oi := ?_) (v := ?_) ?_ ?_ ?_ ?_ ?_ ?_ (by assumption) ?_
  rotate_left 2
  · simp only [List.getElem?_toArray, List.getElem?_cons_zero, List.getElem?_cons_succ]
    rfl
  · kernel_rfl
  · kernel_rfl
  · kernel_rfl
  · exact fun _ _ _ h => h
  · refine Or.inl ⟨by rfl, ?_⟩
    intro w hSw
    (try dsimp only at hSw)
    go_simp
    all_goals with_reducible rfl
  simp only [Act.put, List.setIfInBounds_toArray, List.set_cons_zero, List.set_cons_succ]
  refine wpAnyH_take (i := 3) (oi := ?_) (v := ?_) ?_ ?_ ?_ ?_ ?_ ?_ (by assumption) ?_
  rotate_left 2
  · simp only [List.getElem?_toArray, List.getElem?_cons_zero, List.getElem?_cons_succ]
    rfl
  · kernel_rfl
  · kernel_rfl
  · kernel_rfl
  · exact fun _ _ _ h => h
  · refine Or.inl ⟨by rfl, ?_⟩
    intro w hSw
    (try dsimp only at hSw)
    go_simp
    all_goals with_reducible rfl
  simp only [Act.put, List.setIfInBounds_toArray, List.set_cons_zero, List.set_cons_succ]
  refine wpAnyH_take (i := 4) (oi := ?_) (v := ?_) ?_ ?_ ?_ ?_ ?_ ?_ (by assumption) ?_
  rotate_left 2
  · simp only [List.getElem?_toArray, List.getElem?_cons_zero, List.getElem?_cons_succ]
    rfl
  · kernel_rfl
  · kernel_rfl
  · kernel_rfl
  · exact fun _ _ _ h => h
  · refine Or.inl ⟨by rfl, ?_⟩
    intro w hSw
    (try dsimp only at hSw)
    go_simp
    all_goals with_reducible rfl
  simp only [Act.put, List.setIfInBounds_toArray, List.set_cons_zero, List.set_cons_succ]
  refine wpAnyH_take (i := 5) (oi := ?_) (v := ?_) ?_ ?_ ?_ ?_ ?_ ?_ (by assumption) ?_
  rotate_left 2
  · simp only [List.getElem?_toArray, List.getElem?_cons_zero, List.getElem?_cons_succ]
    rfl
  · kernel_rfl
  · kernel_rfl
  · kernel_rfl
  · exact fun _ _ _ h => h
  · refine Or.inl ⟨by rfl, ?_⟩
    intro w hSw
    (try dsimp only at hSw)
    go_simp
    all_goals with_reducible rfl
  simp only [Act.put, List.setIfInBounds_toArray, List.set_cons_zero, List.set_cons_succ]
  refine wpAnyH_take (i := 6) (oi := ?_) (v := ?_) ?_ ?_ ?_ ?_ ?_ ?_ (by assumption) ?_
  rotate_left 2
  · simp only [List.getElem?_toArray, List.getElem?_cons_zero, List.getElem?_cons_succ]
    rfl
  · kernel_rfl
  · kernel_rfl
  · kernel_rfl
  · exact fun _ _ _ h => h
  · refine yieldsIf_load_row (g := w.heap.size) (t := 26) (cs := cellsN k) (ty := 26) (x := (.tmp 4)) ?_ ?_ ?_ ?_ Try.underlying26 rfl HIK.out
    · rfl
    · rfl
    · rfl
    · exact fun w hSw => hSw.1
  simp only [Act.put, List.setIfInBounds_toArray, List.set_cons_zero, List.set_cons_succ]
  refine wpAnyH_take (i := 7) (oi := ?_) (v := ?_) ?_ ?_ ?_ ?_ ?_ ?_ (by assumption) ?_
  rotate_left 2
  · simp only [List.getElem?_toArray, List.getElem?_cons_zero, List.getElem?_cons_succ]
    rfl
  · kernel_rfl
  · kernel_rfl
  · kernel_rfl
  · exact fun _ _ _ h => h
  · refine yieldsIf_load_row (g := (w.heap.size + 1)) (t := 26) (cs := cellsN f) (ty := 26) (x := (.tmp 5)) ?_ ?_ ?_ ?_ Try.underlying26 rfl HIF.out
    · rfl
    · rfl
    · rfl
    · exact fun w hSw => hSw.2
  simp only [Act.put, List.setIfInBounds_toArray, List.set_cons_zero, List.set_cons_succ]
  refine wpAnyH_take (i := 8) (oi := ?_) (v := ?_) ?_ ?_ ?_ ?_ ?_ ?_ (by assumption) ?_
  rotate_left 2
  · simp only [List.getElem?_toArray, List.getElem?_cons_zero, List.getElem?_cons_succ]
    rfl
  · kernel_rfl
  · kernel_rfl
  · kernel_rfl
  · exact fun _ _ _ h => h
  · refine Or.inl ⟨by rfl, ?_⟩
    intro w hSw
    (try dsimp only at hSw)
    go_simp
    all_goals with_reducible rfl
  simp only [Act.put, List.setIfInBounds_toArray, List.set_cons_zero, List.set_cons_succ]
  refine wpAnyH_take (i := 10) (oi := ?_) (v := ?_) ?_ ?_ ?_ ?_ ?_ ?_ (by assumption) ?_
  rotate_left 2
  · simp only [List.getElem?_toArray, List.getElem?_cons_zero, List.getElem?_cons_succ]
    rfl
  · kernel_rfl
  · kernel_rfl
  · kernel_rfl
  · exact fun _ _ _ h => h
  · refine Or.inl ⟨by rfl, ?_⟩
    intro w hSw
    (try dsimp only at hSw)
    go_simp
    all_goals with_reducible rfl
  simp only [Act.put, List.setIfInBounds_toArray, List.set_cons_zero, List.set_cons_succ]
  refine wpAnyH_ready (rs := [9]) (by kernel_rfl) (by simp) ?_
  refine AllReadyH.cons (o := ?_) ?_ (fun KK hKK => ?_) AllReadyH.nil
  rotate_left
  · simp only [List.getElem?_toArray, List.getElem?_cons_zero, List.getElem?_cons_succ]
    rfl
  go_simp
  go_at_call 21
  refine (HST.out A1 c1 n (Ae.stream (Ae.sched k) f text) _ (HLC.out.trans HN.out) HC3 qC (by omega)).mono ?_
  rintro e y4 ⟨A4, c4, rfl, _, HD4, B4⟩
  rw [HTW.out] at HD4
  have HO4 : Obj y4 w.heap.size 26 (cellsN k) ∧ Obj y4 (w.heap.size + 1) 26 (cellsN f) := ⟨HO3.1.kept B4, HO3.2.kept B4⟩
  have HL4 := HL3.trans (B4.mono HL3.size)
  have HR4 := HR3.below B4
  have HC4 := HC3.below B4
  try go_wp2_with fail
  refine hKK.out _ _ ?_ (fun h4 => ?_)
  · (try dsimp only)
    assumption
  clear hKK KK
  try simp only [Act.put, List.setIfInBounds_toArray, List.set_cons_zero, List.set_cons_succ]
  refine wpAnyH_ready (rs := [11]) (by kernel_rfl) (by simp) ?_
  refine AllReadyH.cons (o := ?_) ?_ (fun KK hKK => ?_) AllReadyH.nil
  rotate_left
  · simp only [List.getElem?_toArray, List.getElem?_cons_zero, List.getElem?_cons_succ]
    rfl
  go_simp
  go_at_call 20
  refine (HSM.out A4 A c4 c n text _ HN.out HD4 HR4 (by omega)).mono ?_
  rintro e y5 ⟨rfl, B5⟩
  have HO5 : Obj y5 w.heap.size 26 (cellsN k) ∧ Obj y5 (w.heap.size + 1) 26 (cellsN f) := ⟨HO4.1.kept B5, HO4.2.kept B5⟩
  have HL5 := HL4.trans (B5.mono HL4.size)
  have HR5 := HR4.below B5
  have HC5 := HC4.below B5
  try go_wp2_with fail
  refine hKK.out _ _ ?_ (fun h5 => ?_)
  · (try dsimp only)
    assumption
  clear hKK KK
  try simp only [Act.put, List.setIfInBounds_toArray, List.set_cons_zero, List.set_cons_succ]
  refine wpAnyH_take (i := 12) (oi := ?_) (v := ?_) ?_ ?_ ?_ ?_ ?_ ?_ (by assumption) ?_
  rotate_left 2
  · simp only [List.getElem?_toArray, List.getElem?_cons_zero, List.getElem?_cons_succ]
    rfl
  · kernel_rfl
  · kernel_rfl
  · kernel_rfl
  · exact fun _ _ _ h => h
  · refine Or.inl ⟨by rfl, ?_⟩
    intro w hSw
    (try dsimp only at hSw)
    go_simp
    all_goals with_reducible rfl
  simp only [Act.put, List.setIfInBounds_toArray, List.set_cons_zero, List.set_cons_succ]
  refine wpAnyH_take (i := 13) (oi := ?_) (v := ?_) ?_ ?_ ?_ ?_ ?_ ?_ (by assumption) ?_
  rotate_left 2
  · simp only [List.getElem?_toArray, List.getElem?_cons_zero, List.getElem?_cons_succ]
    rfl
  · kernel_rfl
  · kernel_rfl
  · kernel_rfl
  · exact fun _ _ _ h => h
  · refine Or.inl ⟨by rfl, ?_⟩
    intro w hSw
    (try dsimp only at hSw)
    go_simp
    all_goals with_reducible rfl
  simp only [Act.put, List.setIfInBounds_toArray, List.set_cons_zero, List.set_cons_succ]
  refine wpAnyH_take (i := 14) (oi := ?_) (v := ?_) ?_ ?_ ?_ ?_ ?_ ?_ (by assumption) ?_
  rotate_left 2
  · simp only [List.getElem?_toArray, List.getElem?_cons_zero, List.getElem?_cons_succ]
    rfl
  · kernel_rfl
  · kernel_rfl
  · kernel_rfl
  · exact fun _ _ _ h => h
  · refine yieldsIf_load_row (g := w.heap.size) (t := 26) (cs := cellsN k) (ty := 26) (x := (.tmp 4)) ?_ ?_ ?_ ?_ Try.underlying26 rfl HIK.out
    · rfl
    · rfl
    · rfl
    · exact fun w hSw => hSw.1
  simp only [Act.put, List.setIfInBounds_toArray, List.set_cons_zero, List.set_cons_succ]
  refine wpAnyH_take (i := 15) (oi := ?_) (v := ?_) ?_ ?_ ?_ ?_ ?_ ?_ (by assumption) ?_
  rotate_left 2
  · simp only [List.getElem?_toArray, List.getElem?_cons_zero, List.getElem?_cons_succ]
    rfl
  · kernel_rfl
  · kernel_rfl
  · kernel_rfl
  · exact fun _ _ _ h => h
  · refine yieldsIf_load_row (g := (w.heap.size + 1)) (t := 26) (cs := cellsN f) (ty := 26) (x := (.tmp 5)) ?_ ?_ ?_ ?_ Try.underlying26 rfl HIF.out
    · rfl
    · rfl
    · rfl
    · exact fun w hSw => hSw.2
  simp only [Act.put, List.setIfInBounds_toArray, List.set_cons_zero, List.set_cons_succ]
  refine wpAnyH_take (i := 16) (oi := ?_) (v := ?_) ?_ ?_ ?_ ?_ ?_ ?_ (by assumption) ?_
  rotate_left 2
  · simp only [List.getElem?_toArray, List.getElem?_cons_zero, List.getElem?_cons_succ]
    rfl
  · kernel_rfl
  · kernel_rfl
  · kernel_rfl
  · exact fun _ _ _ h => h
  · refine Or.inl ⟨by rfl, ?_⟩
    intro w hSw
    (try dsimp only at hSw)
    go_simp
    all_goals with_reducible rfl
  simp only [Act.put, List.setIfInBounds_toArray, List.set_cons_zero, List.set_cons_succ]
  refine wpAnyH_take (i := 17) (oi := ?_) (v := ?_) ?_ ?_ ?_ ?_ ?_ ?_ (by assumption) ?_
  rotate_left 2
  · simp only [List.getElem?_toArray, List.getElem?_cons_zero, List.getElem?_cons_succ]
    rfl
  · kernel_rfl
  · kernel_rfl
  · kernel_rfl
  · exact fun _ _ _ h => h
  · refine Or.inl ⟨by rfl, ?_⟩
    intro w hSw
    (try dsimp only at hSw)
    go_simp
    all_goals with_reducible rfl
  simp only [Act.put, List.setIfInBounds_toArray, List.set_cons_zero, List.set_cons_succ]
  refine wpAnyH_take (i := 18) (oi := ?_) (v := ?_) ?_ ?_ ?_ ?_ ?_ ?_ (by assumption) ?_
  rotate_left 2
  · simp only [List.getElem?_toArray, List.getElem?_cons_zero, List.getElem?_cons_succ]
    rfl
  · kernel_rfl
  · kernel_rfl
  · kernel_rfl
  · exact fun _ _ _ h => h
  · refine Or.inl ⟨by rfl, ?_⟩
    intro w hSw
    (try dsimp only at hSw)
    go_simp
    all_goals with_reducible rfl
  simp only [Act.put, List.setIfInBounds_toArray, List.set_cons_zero, List.set_cons_succ]
  refine wpAnyH_take (i := 20) (oi := ?_) (v := ?_) ?_ ?_ ?_ ?_ ?_ ?_ (by assumption) ?_
  rotate_left 2
  · simp only [List.getElem?_toArray, List.getElem?_cons_zero, List.getElem?_cons_succ]
    rfl
  · kernel_rfl
  · kernel_rfl
  · kernel_rfl
  · exact fun _ _ _ h => h
  · refine Or.inl ⟨by rfl, ?_⟩
    intro w hSw
    (try dsimp only at hSw)
    go_simp
    all_goals with_reducible rfl
  simp only [Act.put, List.setIfInBounds_toArray, List.set_cons_zero, List.set_cons_succ]
  refine wpAnyH_take (i := 21) (oi := ?_) (v := ?_) ?_ ?_ ?_ ?_ ?_ ?_ (by assumption) ?_
  rotate_left 2
  · simp only [List.getElem?_toArray, List.getElem?_cons_zero, List.getElem?_cons_succ]
    rfl
  · kernel_rfl
  · kernel_rfl
  · kernel_rfl
  · exact fun _ _ _ h => h
  · refine Or.inl ⟨by rfl, ?_⟩
    intro w hSw
    (try dsimp only at hSw)
    go_simp
    all_goals with_reducible rfl
  simp only [Act.put, List.setIfInBounds_toArray, List.set_cons_zero, List.set_cons_succ]
  refine wpAnyH_take (i := 22) (oi := ?_) (v := ?_) ?_ ?_ ?_ ?_ ?_ ?_ (by assumption) ?_
  rotate_left 2
  · simp only [List.getElem?_toArray, List.getElem?_cons_zero, List.getElem?_cons_succ]
    rfl
  · kernel_rfl
  · kernel_rfl
  · kernel_rfl
  · exact fun _ _ _ h => h
  · refine Or.inl ⟨by rfl, ?_⟩
    intro w hSw
    (try dsimp only at hSw)
    go_simp
    all_goals with_reducible rfl
  simp only [Act.put, List.setIfInBounds_toArray, List.set_cons_zero, List.set_cons_succ]
  refine wpAnyH_ready (rs := [19]) (by kernel_rfl) (by simp) ?_
  refine AllReadyH.cons (o := ?_) ?_ (fun KK hKK => ?_) AllReadyH.nil
  rotate_left
  · simp only [List.getElem?_toArray, List.getElem?_cons_zero, List.getElem?_cons_succ]
    rfl
  go_simp
  go_at_call 21
  refine (HST.out A c K (text.take K) _ HTL.out (HR5.take K (by rw [HN.out]; exact hKn)) (bytes_take qt K) (by omega)).mono ?_
  rintro e y6 ⟨A6, c6, rfl, _, HE6, B6⟩
  rw [HTK.out] at HE6
  have HO6 : Obj y6 w.heap.size 26 (cellsN k) ∧ Obj y6 (w.heap.size + 1) 26 (cellsN f) := ⟨HO5.1.kept B6, HO5.2.kept B6⟩
  have HL6 := HL5.trans (B6.mono HL5.size)
  have HR6 := HR5.below B6
  have HC6 := HC5.below B6
  try go_wp2_with fail
  refine hKK.out _ _ ?_ (fun h6 => ?_)
  · (try dsimp only)
    assumption
  clear hKK KK
  try simp only [Act.put, List.setIfInBounds_toArray, List.set_cons_zero, List.set_cons_succ]
  refine wpAnyH_ready (rs := [23]) (by kernel_rfl) (by simp) ?_
  refine AllReadyH.cons (o := ?_) ?_ (fun KK hKK => ?_) AllReadyH.nil
  rotate_left
  · simp only [List.getElem?_toArray, List.getElem?_cons_zero, List.getElem?_cons_succ]
    rfl
  go_simp
  go_at_call 20
  refine (HSM.out A6 A1 c6 c1 K ((Ae.stream (Ae.sched k) f text).take K) _ HCL.out HE6 (HC6.take K (by rw [HLC.out, HN.out]; exact hKn)) (by omega)).mono ?_
  rintro e y9 ⟨rfl, B9⟩
  have HO9 : Obj y9 w.heap.size 26 (cellsN k) ∧ Obj y9 (w.heap.size + 1) 26 (cellsN f) := ⟨HO6.1.kept B9, HO6.2.kept B9⟩
  have HL9 := HL6.trans (B9.mono HL6.size)
  try go_wp2_with fail
  refine hKK.out _ _ ?_ (fun h9 => ?_)
  · (try dsimp only)
    assumption
  clear hKK KK
  try simp only [Act.put, List.setIfInBounds_toArray, List.set_cons_zero, List.set_cons_succ]
  refine wpAnyH_take (i := 24) (oi := ?_) (v := ?_) ?_ ?_ ?_ ?_ ?_ ?_ (by assumption) ?_
  rotate_left 2
  · simp only [List.getElem?_toArray, List.getElem?_cons_zero, List.getElem?_cons_succ]
    rfl
  · kernel_rfl
  · kernel_rfl
  · kernel_rfl
  · exact fun _ _ _ h => h
  · refine Or.inl ⟨by rfl, ?_⟩
    intro w hSw
    (try dsimp only at hSw)
    go_simp
    all_goals with_reducible rfl
  simp only [Act.put, List.setIfInBounds_toArray, List.set_cons_zero, List.set_cons_succ]
  refine wpAnyH_take (i := 25) (oi := ?_) (v := ?_) ?_ ?_ ?_ ?_ ?_ ?_ (by assumption) ?_
  rotate_left 2
  · simp only [List.getElem?_toArray, List.getElem?_cons_zero, List.getElem?_cons_succ]
    rfl
  · kernel_rfl
  · kernel_rfl
  · kernel_rfl
  · exact fun _ _ _ h => h
  · refine Or.inl ⟨by rfl, ?_⟩
    intro w hSw
    (try dsimp only at hSw)
    go_simp
    all_goals with_reducible rfl
  simp only [Act.put, List.setIfInBounds_toArray, List.set_cons_zero, List.set_cons_succ]
  refine wpAnyH_done (by kernel_rfl) ?_ _
  go_wp2
  go_ret
  exact ⟨rfl, HL9⟩

set_option maxRecDepth 100000 in
set_option maxHeartbeats 1000000 in
theorem aesBack_walk (k f : List Nat) (A : Option Addr) (n c : Nat) (z : List Int) (a3 : Int) (w : World) (hk : k.length = 16) (qk : Ae.bytes k) (hf : f.length = 16) (qf : Ae.bytes f) (hz : Ints .u8 w A n z) (hx : n ≤ c ∧ c ≤ maxLen) (w3 : (Lit.int .u8 a3).wf = true) :
    Calls Try.prog 6 #[.agg (cellsN k), .agg (cellsN f), .slice A n c, .int .u8 a3] w fun e w' => e = .returned (.bool true) ∧ Below w.heap.size w w' := by
  obtain ⟨b3, c3⟩ := bounds_u8 w3
  obtain ⟨m, rfl⟩ := Int.eq_ofNat_of_zero_le b3
  obtain ⟨text, ht, qt, hr⟩ := hz.rd
  clear w3
  by_cases hs : n ≤ 300
  · exact aesBack_small k f A n c m text w hk hf ht qk qf qt hr hx.1 (by omega) hs
  · have hbig : 300 < (n : Int) := by omega
    obtain ⟨h1, h2⟩ := hx
    unfold maxLen at h2
    have L0 : Below w.heap.size w ((w.alloc (.cells (cellsN k) 26)).alloc (.cells (cellsN f) 26)) := ((Below.refl _ w).alloc (Nat.le_refl _) _).alloc (by simp) _
    have PL := Lib.hid L0
    clear hs hk hf qk qf hz ht qt hr L0
    go_enter Try.func6, Try.ntmps6
    go_wp2_with fail
    refine (alive_true _).mono ?_
    rintro e w1 ⟨rfl, hb1⟩
    have HA := Lib.hid (PL.out.trans (hb1.mono PL.out.size))
    clear hb1 PL
    go_wp2
    go_ret
    exact ⟨rfl, HA.out⟩

end Go.Proofs.Ytbkobmfakkbfcaa
