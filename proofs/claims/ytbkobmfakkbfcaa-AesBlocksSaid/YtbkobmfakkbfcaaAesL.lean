/- AesOnce, AesApart, walked. -/
import Derived.Test.YtbkobmfakkbfcaaRows
import Derived.Test.YtbkobmfakkbfcaaAid
import Derived.Test.YtbkobmfakkbfcaaPlainAe
import Derived.Test.YtbkobmfakkbfcaaPlainAe2
import Derived.Test.YtbkobmfakkbfcaaPlainAe3
import Derived.Test.YtbkobmfakkbfcaaAesB
import Derived.Test.YtbkobmfakkbfcaaAesBox
import Derived.Test.YtbkobmfakkbfcaaAesW
import Derived.Test.YtbkobmfakkbfcaaAesE
import Derived.Test.YtbkobmfakkbfcaaAesK
import Derived.Test.YtbkobmfakkbfcaaAesS
import Derived.Test.YtbkobmfakkbfcaaAesT
import Derived.Test.YtbkobmfakkbfcaaAesA
import Derived.WalkKit
import Derived.Stop.BytesEq
import Derived.Laws.BitsAllLaws
import Derived.Laws.Rows
import Derived.WalkSpells
import Derived.WalkLawsBesides
import Derived.Handy
import Derived.Lib.Hide
namespace Go.Proofs.Ytbkobmfakkbfcaa
open Go.RowKit
set_option linter.unusedVariables false
set_option linter.unusedSimpArgs false

theorem cellsN_u8 {l : List Nat} (h : Ae.bytes l) : cellsN l = ((l.map UInt8.ofNat).map Extern.Stop.cell).toArray := by
  unfold cellsN
  rw [List.map_map]
  congr 1
  refine List.map_congr_left fun c hc => ?_
  have := h c hc
  show Value.int .u8 (c : Int) = Extern.Stop.cell (UInt8.ofNat c)
  unfold Extern.Stop.cell
  rw [UInt8.toNat_ofNat', Nat.mod_eq_of_lt (by omega)]
  rfl
theorem eq16 {x y : List Nat} (hx : x.length = 16) (hy : y.length = 16) (qx : Ae.bytes x) (qy : Ae.bytes y) (w : World) :
    (binOp .eql 26 (.agg (cellsN x)) (.agg (cellsN y))).run Try.prog w = .ok (.bool (decide (x = y))) w := by
  rw [cellsN_u8 qx, cellsN_u8 qy, run_eql_bytes w 26 5 16 Try.underlying26 Try.underlying5 (fun w => by kernel_rfl) _ _ (by simpa using hx) (by simpa using hy)]
  congr 2
  rw [Bool.eq_iff_iff]
  simp only [beq_iff_eq, decide_eq_true_eq]
  constructor
  · intro h
    have hm : ∀ l : List Nat, Ae.bytes l → (l.map UInt8.ofNat).map UInt8.toNat = l := fun l ql => by
      rw [List.map_map]
      conv => rhs; rw [← List.map_id l]
      refine List.map_congr_left fun c hc => ?_
      have := ql c hc
      show (UInt8.ofNat c).toNat = c
      rw [UInt8.toNat_ofNat', Nat.mod_eq_of_lt (by omega)]
    rw [← hm x qx, h, hm y qy]
  · rintro rfl; rfl

set_option maxHeartbeats 1000000 in
theorem aesOnce_small (k a b : List Nat) (w : World) (hk : k.length = 16) (ha : a.length = 16) (hb : b.length = 16) (qk : Ae.bytes k) (qa : Ae.bytes a) (qb : Ae.bytes b) :
    Calls Try.prog 9 #[.agg (cellsN k), .agg (cellsN a), .agg (cellsN b)] w fun e w' => e = .returned (.bool true) ∧ Below w.heap.size w w' := by
  have HIK := Lib.hid (size16 hk)
  have HIA := Lib.hid (size16 ha)
  have HIB := Lib.hid (size16 hb)
  have HK := Lib.hid hk
  have HA := Lib.hid ha
  have HB := Lib.hid hb
  have q1 : ∀ w', (binOp .eql 26 (.agg (cellsN (Ae.enc (Ae.sched k) a))) (.agg (cellsN (Ae.enc (Ae.sched k) b)))).run Try.prog w' = .ok (.bool (decide (a = b))) w' := fun w' => by
    rw [eq16 (Ae.enc_len _ _) (Ae.enc_len _ _) (Ae.enc_bytes qa (Ae.sched_bytes qk)) (Ae.enc_bytes qb (Ae.sched_bytes qk))]
    congr 2
    rw [decide_eq_decide]
    exact ⟨Ae.enc_inj ha hb qa qb (Ae.sched_bytes qk), fun h => by rw [h]⟩
  have q2 : ∀ w', (binOp .eql 26 (.agg (cellsN a)) (.agg (cellsN b))).run Try.prog w' = .ok (.bool (decide (a = b))) w' := fun w' => eq16 ha hb qa qb w'
  have O0 : Obj (((w.alloc (.cells (cellsN k) 26)).alloc (.cells (cellsN a) 26)).alloc (.cells (cellsN b) 26)) w.heap.size 26 (cellsN k) := ((Obj.new w _ _).alloc _).alloc _
  have O1 : Obj (((w.alloc (.cells (cellsN k) 26)).alloc (.cells (cellsN a) 26)).alloc (.cells (cellsN b) 26)) (w.heap.size + 1) 26 (cellsN a) := (new2 w _ _ _).alloc _
  have O2 : Obj (((w.alloc (.cells (cellsN k) 26)).alloc (.cells (cellsN a) 26)).alloc (.cells (cellsN b) 26)) (w.heap.size + 1 + 1) 26 (cellsN b) := new3 w _ _ _ _
  have L0 : Below w.heap.size w (((w.alloc (.cells (cellsN k) 26)).alloc (.cells (cellsN a) 26)).alloc (.cells (cellsN b) 26)) := (((Below.refl _ w).alloc (Nat.le_refl _) _).alloc (by simp) _).alloc (by simp; omega) _
  have P0 := Lib.hid O0
  have P1 := Lib.hid O1
  have P2 := Lib.hid O2
  have PL := Lib.hid L0
  clear hk ha hb O0 O1 O2 L0
  go_enter Try.func9, Try.ntmps9
  go_wp2_with fail
  refine (alive_true _).mono ?_
  rintro e w1 ⟨rfl, hb1⟩
  have HO : Obj w1 w.heap.size 26 (cellsN k) ∧ Obj w1 (w.heap.size + 1) 26 (cellsN a) ∧ Obj w1 (w.heap.size + 1 + 1) 26 (cellsN b) := ⟨P0.out.kept hb1, P1.out.kept hb1, P2.out.kept hb1⟩
  have HL := PL.out.trans (hb1.mono PL.out.size)
  clear P0 P1 P2 PL hb1
  go_wp2_with fail
  refine wp_region_held_drew (S := (fun w' => Obj w' w.heap.size 26 (cellsN k) ∧ Obj w' (w.heap.size + 1) 26 (cellsN a) ∧ Obj w' (w.heap.size + 1 + 1) 26 (cellsN b))) (by kernel_rfl) ⟨HO.1.drew, HO.2.1.drew, HO.2.2.drew⟩ (fun hHeld => ?_)
  have HO9 : Obj w1.drew w.heap.size 26 (cellsN k) ∧ Obj w1.drew (w.heap.size + 1) 26 (cellsN a) ∧ Obj w1.drew (w.heap.size + 1 + 1) 26 (cellsN b) := ⟨HO.1.drew, HO.2.1.drew, HO.2.2.drew⟩
  have HL9 := HL.drew
  refine wpAnyH_take (i := 0) (oi := ?_) (v := ?_) ?_ ?_ ?_ ?_ ?_ ?_ (by assumption) ?_
  rotate_left 2
  · simp only [List.getElem?_toArray, List.getElem?_cons_zero, List.getElem?_cons_succ]
    rfl
  · kernel_rfl
  · kernel_rfl
  · kernel_rfl
  · exact fun _ _ _ h => h
  · refine yieldsIf_load_row (g := w.heap.size) (t := 26) (cs := cellsN k) (ty := 26) (x := (.tmp 3)) ?_ ?_ ?_ ?_ Try.underlying26 rfl HIK.out
    · rfl
    · rfl
    · rfl
    · exact fun w hSw => hSw.1
  simp only [Act.put, List.setIfInBounds_toArray, List.set_cons_zero, List.set_cons_succ]
  refine wpAnyH_take (i := 1) (oi := ?_) (v := ?_) ?_ ?_ ?_ ?_ ?_ ?_ (by assumption) ?_
  rotate_left 2
  · simp only [List.getElem?_toArray, List.getElem?_cons_zero, List.getElem?_cons_succ]
    rfl
  · kernel_rfl
  · kernel_rfl
  · kernel_rfl
  · exact fun _ _ _ h => h
  · refine yieldsIf_load_row (g := (w.heap.size + 1)) (t := 26) (cs := cellsN a) (ty := 26) (x := (.tmp 4)) ?_ ?_ ?_ ?_ Try.underlying26 rfl HIA.out
    · rfl
    · rfl
    · rfl
    · exact fun w hSw => hSw.2.1
  simp only [Act.put, List.setIfInBounds_toArray, List.set_cons_zero, List.set_cons_succ]
  refine wpAnyH_take (i := 3) (oi := ?_) (v := ?_) ?_ ?_ ?_ ?_ ?_ ?_ (by assumption) ?_
  rotate_left 2
  · simp only [List.getElem?_toArray, List.getElem?_cons_zero, List.getElem?_cons_succ]
    rfl
  · kernel_rfl
  · kernel_rfl
  · kernel_rfl
  · exact fun _ _ _ h => h
  · refine yieldsIf_load_row (g := w.heap.size) (t := 26) (cs := cellsN k) (ty := 26) (x := (.tmp 3)) ?_ ?_ ?_ ?_ Try.underlying26 rfl HIK.out
    · rfl
    · rfl
    · rfl
    · exact fun w hSw => hSw.1
  simp only [Act.put, List.setIfInBounds_toArray, List.set_cons_zero, List.set_cons_succ]
  refine wpAnyH_take (i := 4) (oi := ?_) (v := ?_) ?_ ?_ ?_ ?_ ?_ ?_ (by assumption) ?_
  rotate_left 2
  · simp only [List.getElem?_toArray, List.getElem?_cons_zero, List.getElem?_cons_succ]
    rfl
  · kernel_rfl
  · kernel_rfl
  · kernel_rfl
  · exact fun _ _ _ h => h
  · refine yieldsIf_load_row (g := (w.heap.size + 1 + 1)) (t := 26) (cs := cellsN b) (ty := 26) (x := (.tmp 5)) ?_ ?_ ?_ ?_ Try.underlying26 rfl HIB.out
    · rfl
    · rfl
    · rfl
    · exact fun w hSw => hSw.2.2
  simp only [Act.put, List.setIfInBounds_toArray, List.set_cons_zero, List.set_cons_succ]
  refine wpAnyH_take (i := 7) (oi := ?_) (v := ?_) ?_ ?_ ?_ ?_ ?_ ?_ (by assumption) ?_
  rotate_left 2
  · simp only [List.getElem?_toArray, List.getElem?_cons_zero, List.getElem?_cons_succ]
    rfl
  · kernel_rfl
  · kernel_rfl
  · kernel_rfl
  · exact fun _ _ _ h => h
  · refine yieldsIf_load_row (g := (w.heap.size + 1)) (t := 26) (cs := cellsN a) (ty := 26) (x := (.tmp 4)) ?_ ?_ ?_ ?_ Try.underlying26 rfl HIA.out
    · rfl
    · rfl
    · rfl
    · exact fun w hSw => hSw.2.1
  simp only [Act.put, List.setIfInBounds_toArray, List.set_cons_zero, List.set_cons_succ]
  refine wpAnyH_take (i := 8) (oi := ?_) (v := ?_) ?_ ?_ ?_ ?_ ?_ ?_ (by assumption) ?_
  rotate_left 2
  · simp only [List.getElem?_toArray, List.getElem?_cons_zero, List.getElem?_cons_succ]
    rfl
  · kernel_rfl
  · kernel_rfl
  · kernel_rfl
  · exact fun _ _ _ h => h
  · refine yieldsIf_load_row (g := (w.heap.size + 1 + 1)) (t := 26) (cs := cellsN b) (ty := 26) (x := (.tmp 5)) ?_ ?_ ?_ ?_ Try.underlying26 rfl HIB.out
    · rfl
    · rfl
    · rfl
    · exact fun w hSw => hSw.2.2
  simp only [Act.put, List.setIfInBounds_toArray, List.set_cons_zero, List.set_cons_succ]
  refine wpAnyH_take (i := 9) (oi := ?_) (v := ?_) ?_ ?_ ?_ ?_ ?_ ?_ (by assumption) ?_
  rotate_left 2
  · simp only [List.getElem?_toArray, List.getElem?_cons_zero, List.getElem?_cons_succ]
    rfl
  · kernel_rfl
  · kernel_rfl
  · kernel_rfl
  · exact fun _ _ _ h => h
  · refine Or.inl ⟨by rfl, ?_⟩
    intro w hSw
    (try dsimp only at hSw)
    go_simp
    all_goals with_reducible rfl
  simp only [Act.put, List.setIfInBounds_toArray, List.set_cons_zero, List.set_cons_succ]
  refine wpAnyH_ready (rs := [2]) (by kernel_rfl) (by simp) ?_
  refine AllReadyH.cons (o := ?_) ?_ (fun KK hKK => ?_) AllReadyH.nil
  rotate_left
  · simp only [List.getElem?_toArray, List.getElem?_cons_zero, List.getElem?_cons_succ]
    rfl
  go_simp
  go_at_call 18; refine (encipher_any k a _ HK.out HA.out qk qa).mono ?_; rintro e y3 ⟨rfl, hb3⟩; have HS3 : Obj y3 w.heap.size 26 (cellsN k) ∧ Obj y3 (w.heap.size + 1) 26 (cellsN a) ∧ Obj y3 (w.heap.size + 1 + 1) 26 (cellsN b) := ⟨HO9.1.kept hb3, HO9.2.1.kept hb3, HO9.2.2.kept hb3⟩
  have HL3 := HL9.trans (hb3.mono HL9.size)
  try go_wp2_with fail
  refine hKK.out _ _ ?_ (fun h3 => ?_)
  · (try dsimp only)
    assumption
  clear hKK KK
  try simp only [Act.put, List.setIfInBounds_toArray, List.set_cons_zero, List.set_cons_succ]
  refine wpAnyH_ready (rs := [5]) (by kernel_rfl) (by simp) ?_
  refine AllReadyH.cons (o := ?_) ?_ (fun KK hKK => ?_) AllReadyH.nil
  rotate_left
  · simp only [List.getElem?_toArray, List.getElem?_cons_zero, List.getElem?_cons_succ]
    rfl
  go_simp
  go_at_call 18; refine (encipher_any k b _ HK.out HB.out qk qb).mono ?_; rintro e y4 ⟨rfl, hb4⟩; have HS4 : Obj y4 w.heap.size 26 (cellsN k) ∧ Obj y4 (w.heap.size + 1) 26 (cellsN a) ∧ Obj y4 (w.heap.size + 1 + 1) 26 (cellsN b) := ⟨HS3.1.kept hb4, HS3.2.1.kept hb4, HS3.2.2.kept hb4⟩
  have HL6 := HL3.trans (hb4.mono HL3.size)
  try go_wp2_with fail
  refine hKK.out _ _ ?_ (fun h4 => ?_)
  · (try dsimp only)
    assumption
  clear hKK KK
  try simp only [Act.put, List.setIfInBounds_toArray, List.set_cons_zero, List.set_cons_succ]
  refine wpAnyH_take (i := 6) (oi := ?_) (v := ?_) ?_ ?_ ?_ ?_ ?_ ?_ (by assumption) ?_
  rotate_left 2
  · simp only [List.getElem?_toArray, List.getElem?_cons_zero, List.getElem?_cons_succ]
    rfl
  · kernel_rfl
  · kernel_rfl
  · kernel_rfl
  · exact fun _ _ _ h => h
  · refine Or.inl ⟨by rfl, ?_⟩
    intro w hSw
    (try dsimp only at hSw)
    go_simp
    all_goals with_reducible rfl
  simp only [Act.put, List.setIfInBounds_toArray, List.set_cons_zero, List.set_cons_succ]
  refine wpAnyH_take (i := 10) (oi := ?_) (v := ?_) ?_ ?_ ?_ ?_ ?_ ?_ (by assumption) ?_
  rotate_left 2
  · simp only [List.getElem?_toArray, List.getElem?_cons_zero, List.getElem?_cons_succ]
    rfl
  · kernel_rfl
  · kernel_rfl
  · kernel_rfl
  · exact fun _ _ _ h => h
  · refine Or.inl ⟨by rfl, ?_⟩
    intro w hSw
    (try dsimp only at hSw)
    go_simp
    all_goals with_reducible rfl
  simp only [Act.put, List.setIfInBounds_toArray, List.set_cons_zero, List.set_cons_succ]
  refine wpAnyH_take (i := 11) (oi := ?_) (v := ?_) ?_ ?_ ?_ ?_ ?_ ?_ (by assumption) ?_
  rotate_left 2
  · simp only [List.getElem?_toArray, List.getElem?_cons_zero, List.getElem?_cons_succ]
    rfl
  · kernel_rfl
  · kernel_rfl
  · kernel_rfl
  · exact fun _ _ _ h => h
  · refine Or.inl ⟨by rfl, ?_⟩
    intro w hSw
    (try dsimp only at hSw)
    go_simp
    all_goals with_reducible rfl
  simp only [Act.put, List.setIfInBounds_toArray, List.set_cons_zero, List.set_cons_succ]
  refine wpAnyH_done (by kernel_rfl) ?_ _
  go_wp2
  go_ret
  exact ⟨rfl, HL6⟩

set_option maxHeartbeats 1000000 in
theorem aesApart_walk (a0 a1 a2 : Int) (w : World) (w0 : (Lit.int .u8 a0).wf = true) (w1 : (Lit.int .u8 a1).wf = true) (w2 : (Lit.int .u8 a2).wf = true) :
    Calls Try.prog 7 #[.int .u8 a0, .int .u8 a1, .int .u8 a2] w fun e w' => e = .returned (.bool true) ∧ Below w.heap.size w w' := by
  obtain ⟨b0, c0⟩ := bounds_u8 w0
  obtain ⟨b1, c1⟩ := bounds_u8 w1
  obtain ⟨b2, c2⟩ := bounds_u8 w2
  clear w0 w1 w2
  obtain ⟨x, rfl⟩ := Int.eq_ofNat_of_zero_le b0
  obtain ⟨y, rfl⟩ := Int.eq_ofNat_of_zero_le b1
  obtain ⟨z, rfl⟩ := Int.eq_ofNat_of_zero_le b2
  have hx : x < 256 := by omega
  have hy : y < 256 := by omega
  have hz : z < 256 := by omega
  have HC := Lib.hid (Ae.mul_comm y hy x hx)
  have HD := Lib.hid (Ae.mul_xor x y z)
  have H1 := Lib.hid (Ae.mul_one x hx)
  have HX := Lib.hid (u8_xor_nat y z hy hz)
  have HX2 := Lib.hid (u8_xor_nat (Ae.mul x y) (Ae.mul x z) (Ae.mul_lt _ _ hx) (Ae.mul_lt _ _ hx))
  have HI := Lib.hid (Ae.box_inj x y hx hy)
  clear b0 c0 b1 c1 b2 c2
  go_enter Try.func7, Try.ntmps7
  go_wp2_with fail
  refine (alive_true _).mono ?_
  rintro e w1 ⟨rfl, hb1⟩
  go_wp2_with fail
  refine (box_any x _ hx).mono ?_
  rintro e w2 ⟨rfl, hb2⟩
  have hb3 := hb1.trans (hb2.mono hb1.size)
  clear hb1 hb2
  go_wp2_with fail
  refine (box_any y _ hy).mono ?_
  rintro e w3 ⟨rfl, hb4⟩
  have HL := Lib.hid (hb3.trans (hb4.mono hb3.size))
  clear hb3 hb4
  by_cases hxy : x = y
  · subst hxy
    go_wp2_with fail
    refine (mul_any x x _ hx hx).mono ?_
    rintro e wn ⟨rfl, rfl⟩
    go_wp2_with fail
    refine (mul_any x x _ hx hx).mono ?_
    rintro e wn ⟨rfl, rfl⟩
    go_wp2_with fail
    rw [HX.out]
    refine (mul_any x (x ^^^ z) _ hx (Ae.xor_lt hx hz)).mono ?_
    rintro e wn ⟨rfl, rfl⟩
    rw [HD.out]
    go_wp2_with fail
    refine (mul_any x x _ hx hx).mono ?_
    rintro e wn ⟨rfl, rfl⟩
    go_wp2_with fail
    refine (mul_any x z _ hx hz).mono ?_
    rintro e wn ⟨rfl, rfl⟩
    have hx2 := HX2.out
    go_wp2_with fail
    refine (mul_any x 1 _ hx (by decide)).mono ?_
    rintro e wn ⟨rfl, rfl⟩
    rw [H1.out]
    go_wp2
    go_ret
    exact ⟨rfl, HL.out⟩
  · have hbb : Ae.box x ≠ Ae.box y := fun h => hxy (HI.out h)
    have n1 : ((Ae.box x : Int) == (Ae.box y : Int)) = false := by simp; omega
    have n2 : ((x : Int) == (y : Int)) = false := by simp; omega
    have n3 : (Ae.box x == Ae.box y) = false := by simp [hbb]
    have n4 : (x == y) = false := by simp [hxy]
    clear hbb hxy HI
    go_wp2_with fail
    refine (mul_any x y _ hx hy).mono ?_
    rintro e wn ⟨rfl, rfl⟩
    go_wp2_with fail
    refine (mul_any y x _ hy hx).mono ?_
    rintro e wn ⟨rfl, rfl⟩
    rw [HC.out]
    go_wp2_with fail
    rw [HX.out]
    refine (mul_any x (y ^^^ z) _ hx (Ae.xor_lt hy hz)).mono ?_
    rintro e wn ⟨rfl, rfl⟩
    rw [HD.out]
    go_wp2_with fail
    refine (mul_any x y _ hx hy).mono ?_
    rintro e wn ⟨rfl, rfl⟩
    go_wp2_with fail
    refine (mul_any x z _ hx hz).mono ?_
    rintro e wn ⟨rfl, rfl⟩
    have hx2 := HX2.out
    go_wp2_with fail
    refine (mul_any x 1 _ hx (by decide)).mono ?_
    rintro e wn ⟨rfl, rfl⟩
    rw [H1.out]
    go_wp2
    go_ret
    exact ⟨rfl, HL.out⟩

end Go.Proofs.Ytbkobmfakkbfcaa
