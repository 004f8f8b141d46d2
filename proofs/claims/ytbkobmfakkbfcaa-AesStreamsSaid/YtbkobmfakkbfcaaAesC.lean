/- AesCounter, walked. -/
import Derived.Test.YtbkobmfakkbfcaaRows
import Derived.Test.YtbkobmfakkbfcaaAid
import Derived.Test.YtbkobmfakkbfcaaPlainAe
import Derived.Test.YtbkobmfakkbfcaaPlainAe2
import Derived.Test.YtbkobmfakkbfcaaAesB
import Derived.Test.YtbkobmfakkbfcaaAesBox
import Derived.Test.YtbkobmfakkbfcaaAesW
import Derived.Test.YtbkobmfakkbfcaaAesE
import Derived.Test.YtbkobmfakkbfcaaAesK
import Derived.Test.YtbkobmfakkbfcaaAesS
import Derived.Test.YtbkobmfakkbfcaaAesT
import Derived.Test.YtbkobmfakkbfcaaAesA
import Derived.Test.YtbkobmfakkbfcaaAesM
import Derived.WalkKit
import Derived.Laws.BitsAllLaws
import Derived.Laws.Rows
import Derived.WalkSpells
import Derived.WalkLawsBesides
import Derived.Handy
import Derived.Lib.Hide
import Derived.Deep.RegionHeld3
import Derived.StillTailTactics
import Derived.Deep.OwnRows
import Derived.IntWalk
namespace Go.Proofs.Ytbkobmfakkbfcaa
open Go.RowKit
set_option linter.unusedVariables false
set_option linter.unusedSimpArgs false

theorem made_zeros (n : Nat) : madeCells #[Value.int .u8 0] n = cellsN (List.replicate n 0) := by
  apply Array.ext
  · rw [size_madeCells, cellsN_size, List.length_replicate]
  · intro i h1 h2
    simp [madeCells, cellsN, Nat.mod_one]
theorem mk16 (N : Nat) (hN : N ≤ 1000) (w : World) :
    (Instr.makeSlice 35 (.int .i64 (N : Int)) (.int .i64 (N : Int))).run Try.prog w = .ok (.slice (some ⟨w.heap.size, 0, none⟩) N N) (w.alloc (.cells (cellsN (List.replicate N 0)) 5)) := by
  rw [run_make_row' 35 5 (.int .u8 0) 1 Try.underlying35 info8 rfl .i64 .i64 N (by omega) (by omega) w, made_zeros]
theorem Rd.new (w : World) (l : List Nat) (t : TypeId) : Rd (w.alloc (.cells (cellsN l) t)) (some ⟨w.heap.size, 0, none⟩) l := fun hp =>
  ⟨_, 0, rfl, by simp, fun j hj => by rw [Nat.zero_add]; exact Obj.getN (Obj.new w t (cellsN l)) j hj⟩
theorem slice8_l (b o n c K : Nat) (hK : K < c) (hn : K ≤ n) (hc : n ≤ c) (w : World) :
    (Instr.slice 35 (.slice (some ⟨b, o, none⟩) n c) (some (.int .i64 (K : Int))) none none).run Try.prog w = .ok (.slice (some ⟨b, o + K, none⟩) (n - K) (c - K)) w := by
  rw [run_slice_l w 35 (some ⟨b, o, none⟩) n c el8 .i64 (K : Int) (by omega) (by omega), sz8]
  have h1 : ¬ c = K := by omega
  simp [Result.andThen, sliced, h1, Addr.add_mid]
theorem slice16all (g : Nat) (w : World) :
    (Instr.sliceAt 26 (.pointer (some ⟨g, 0, none⟩)) none none none).run Try.prog w = .ok (.slice (some ⟨g, 0, none⟩) 16 16) w := by
  rw [run_sliceAt_array_all w 26 ⟨g, 0, none⟩ el16, sz16, al16]
  simp [Result.andThen, slicedAt, Addr.add]
/-- A text of bytes 0: its last block is the counter's. -/
theorem zeros_last (S f : List Nat) (j : Nat) : (Ae.stream S f (List.replicate (16 * j + 16) 0)).drop (16 * j) = Ae.enc S (Ae.ctr f j) := by
  refine Ae.ext_get (by rw [List.length_drop, Ae.stream_len, Ae.enc_len]; simp) fun i hi => ?_
  rw [List.length_drop, Ae.stream_len] at hi
  simp at hi
  have h1 := Ae.stream_get S f (List.replicate (16 * j + 16) 0) (16 * j + i) (by simp; omega)
  have h2 : ((Ae.stream S f (List.replicate (16 * j + 16) 0)).drop (16 * j)).getD i 0 = (Ae.stream S f (List.replicate (16 * j + 16) 0)).getD (16 * j + i) 0 := by
    simp [List.getD_eq_getElem?_getD]
  rw [h2, h1]
  unfold Ae.pad
  rw [show (16 * j + i) / 16 = j by omega, show (16 * j + i) % 16 = i by omega]
  have h3 : (List.replicate (16 * j + 16) 0).getD (16 * j + i) 0 = 0 := by simp [List.getD_eq_getElem?_getD, List.getElem?_replicate]; split <;> rfl
  rw [h3, Nat.zero_xor]
theorem stream_at (k f : List Nat) (B : Option Addr) (d N : Nat) (x : List Nat) (W : World) (hk : k.length = 16) (hf : f.length = 16) (qk : Ae.bytes k) (qf : Ae.bytes f) (hN : x.length = N) (h1 : Rd W B x) (h2 : Ae.bytes x) (h3 : N ≤ 1000000) :
    Calls Try.prog 21 #[.agg (cellsN k), .agg (cellsN f), .slice B N d] W fun e w' => ∃ A' c', e = .returned (.slice A' N c') ∧ N ≤ c' ∧ Rd w' A' (Ae.stream (Ae.sched k) f x) ∧ Below W.heap.size W w' := by
  subst hN
  exact (stream_any k f B d x W hk hf qk qf h1 h2 h3).mono fun e w' ⟨v, he, hv, hb⟩ => by
    obtain ⟨A', c', rfl, _, h4, h5⟩ := own_rd hv
    exact ⟨A', c', he, h4, h5, hb⟩
theorem Rd.drop {w : World} {b o : Nat} {l : List Nat} (h : Rd w (some ⟨b, o, none⟩) l) (K : Nat) : Rd w (some ⟨b, o + K, none⟩) (l.drop K) := fun hp => by
  rw [List.length_drop] at hp
  obtain ⟨b', off, e, hlt, hc⟩ := h (by omega)
  obtain ⟨rfl, rfl⟩ : b = b' ∧ o = off := by cases e; exact ⟨rfl, rfl⟩
  refine ⟨b, o + K, rfl, hlt, fun j hj => ?_⟩
  rw [List.length_drop] at hj
  rw [show o + K + j = o + (K + j) by omega, hc (K + j) (by omega)]
  simp [List.getD_eq_getElem?_getD]
theorem Rd.far {w : World} {g o : Nat} {l : List Nat} (h : Rd w (some ⟨g, o, none⟩) l) {p : Addr} (hp : g ≠ p.block) (v : Value) : Rd (w.setCell p v) (some ⟨g, o, none⟩) l := fun hl => by
  obtain ⟨b', off, e, hlt, hc⟩ := h hl
  obtain ⟨rfl, rfl⟩ : g = b' ∧ o = off := by cases e; exact ⟨rfl, rfl⟩
  exact ⟨g, o, rfl, by simpa [World.setCell] using hlt, fun j hj => by rw [World.cell?_setCell_far _ _ _ _ (fun e => hp e.symm)]; exact hc j hj⟩
theorem Obj.rd {w : World} {g : Nat} {t : TypeId} {l : List Nat} (h : Obj w g t (cellsN l)) : Rd w (some ⟨g, 0, none⟩) l := fun _ => ⟨g, 0, rfl, h.lt, fun j hj => by rw [Nat.zero_add]; exact h.getN j hj⟩

set_option maxRecDepth 100000 in
set_option maxHeartbeats 2000000 in
theorem aesCounter_walk (k f : List Nat) (a2 : Int) (w : World) (hk : k.length = 16) (qk : Ae.bytes k) (hf : f.length = 16) (qf : Ae.bytes f) (w2 : (Lit.int .u8 a2).wf = true) :
    Calls Try.prog 8 #[.agg (cellsN k), .agg (cellsN f), .int .u8 a2] w fun e w' => e = .returned (.bool true) ∧ Below w.heap.size w w' := by
  obtain ⟨b2, c2⟩ := bounds_u8 w2
  obtain ⟨m, rfl⟩ := Int.eq_ofNat_of_zero_le b2
  clear w2
  have HIK := Lib.hid (size16 hk)
  have HIF := Lib.hid (size16 hf)
  have HK := Lib.hid hk
  have HF := Lib.hid hf
  obtain ⟨j, hj⟩ : ∃ j, m % 6 = j := ⟨_, rfl⟩
  have hj6 : j < 6 := by omega
  have e0 : (m : Int) % 6 = (j : Int) := by omega
  obtain ⟨K, hKK⟩ : ∃ K, 16 * j = K := ⟨_, rfl⟩
  have e1 : 16 * (j : Int) = (K : Int) := by omega
  have hK80 : K ≤ 80 := by omega
  obtain ⟨N, hNN⟩ : ∃ N, K + 16 = N := ⟨_, rfl⟩
  have e2 : IntKind.i64.wrap ((K : Int) + 16) = (N : Int) := by rw [IntWalk.i64_in _ (by omega)]; omega
  have hmk := fun w' => mk16 N (by omega) w'
  have e3 : (K : Int) / 16 = (j : Int) := by omega
  have qs := Ae.sched_bytes qk
  have HZL := Lib.hid (zeros_last (Ae.sched k) f j)
  have HNJ : Hid (16 * j + 16 = N ∧ 16 * j = K) := ⟨by omega, hKK⟩
  rw [HNJ.out.1, HNJ.out.2] at HZL
  have HZ0 : Hid ((List.replicate N 0 : List Nat).length = N) := List.length_replicate
  have qz : Ae.bytes (List.replicate N 0) := fun c hc => by rw [List.mem_replicate] at hc; omega
  have HLC : Hid (∀ i, (Ae.ctr f i).length = 16) := fun i => (Ae.ctr_len f i).trans hf
  have HQ : Hid (∀ i, Ae.bytes (Ae.ctr f i)) := fun i => Ae.ctr_bytes qf i
  have HCN : Hid (∀ i, Ae.ctr f (i + 1) = Ae.next (Ae.ctr f i)) := fun i => rfl
  have O0 : Obj ((w.alloc (.cells (cellsN k) 26)).alloc (.cells (cellsN f) 26)) w.heap.size 26 (cellsN k) := (Obj.new w _ _).alloc _
  have O1 : Obj ((w.alloc (.cells (cellsN k) 26)).alloc (.cells (cellsN f) 26)) (w.heap.size + 1) 26 (cellsN f) := new2 w _ _ _
  have L0 : Below w.heap.size w ((w.alloc (.cells (cellsN k) 26)).alloc (.cells (cellsN f) 26)) := ((Below.refl _ w).alloc (Nat.le_refl _) _).alloc (by simp) _
  have P0 := Lib.hid O0
  have P1 := Lib.hid O1
  have PL := Lib.hid L0
  clear hk hf hj hKK hNN O0 O1 L0
  go_enter Try.func8, Try.ntmps8
  go_wp2_with fail
  refine (alive_true _).mono ?_
  rintro e w1 ⟨rfl, hb1⟩
  have HO0 := P0.out.kept hb1
  have HO1 := P1.out.kept hb1
  have HL1 := PL.out.trans (hb1.mono PL.out.size)
  clear P0 P1 PL hb1
  go_wp2
  have HO3 : Obj w1.drew w.heap.size 26 (cellsN k) ∧ Obj w1.drew (w.heap.size + 1) 26 (cellsN f) := ⟨HO0.drew, HO1.drew⟩
  have HL3 := HL1.drew
  clear HO0 HO1 HL1
  refine wp_region_held_drew (S := (fun w' => Obj w' w.heap.size 26 (cellsN k) ∧ Obj w' (w.heap.size + 1) 26 (cellsN f))) (by kernel_rfl) HO3 (fun hHeld => ?_)
  refine wpAnyH_take (i := 0) (oi := ?_) (v := ?_) ?_ ?_ ?_ ?_ ?_ ?_ (by assumption) ?_
  rotate_left 2
  · simp only [List.getElem?_toArray, List.getElem?_cons_zero, List.getElem?_cons_succ]
    rfl
  · kernel_rfl
  · kernel_rfl
  · kernel_rfl
  · exact fun _ _ _ h => h
  · refine yieldsIf_load_row (g := w.heap.size) (t := 26) (cs := cellsN k) (ty := 26) (x := (.tmp 3)) ?_ ?_ ?_ ?_ Try.underlying26 rfl HIK.out
    · rfl
    · rfl
    · rfl
    · exact fun w hSw => hSw.1
  simp only [Act.put, List.setIfInBounds_toArray, List.set_cons_zero, List.set_cons_succ]
  refine wpAnyH_take (i := 1) (oi := ?_) (v := ?_) ?_ ?_ ?_ ?_ ?_ ?_ (by assumption) ?_
  rotate_left 2
  · simp only [List.getElem?_toArray, List.getElem?_cons_zero, List.getElem?_cons_succ]
    rfl
  · kernel_rfl
  · kernel_rfl
  · kernel_rfl
  · exact fun _ _ _ h => h
  · refine yieldsIf_load_row (g := (w.heap.size + 1)) (t := 26) (cs := cellsN f) (ty := 26) (x := (.tmp 4)) ?_ ?_ ?_ ?_ Try.underlying26 rfl HIF.out
    · rfl
    · rfl
    · rfl
    · exact fun w hSw => hSw.2
  simp only [Act.put, List.setIfInBounds_toArray, List.set_cons_zero, List.set_cons_succ]
  refine wpAnyH_take (i := 2) (oi := ?_) (v := ?_) ?_ ?_ ?_ ?_ ?_ ?_ (by assumption) ?_
  rotate_left 2
  · simp only [List.getElem?_toArray, List.getElem?_cons_zero, List.getElem?_cons_succ]
    rfl
  · kernel_rfl
  · kernel_rfl
  · kernel_rfl
  · exact fun _ _ _ h => h
  · refine Or.inl ⟨by rfl, ?_⟩
    intro w hSw
    (try dsimp only at hSw)
    go_simp
    all_goals with_reducible rfl
  simp only [Act.put, List.setIfInBounds_toArray, List.set_cons_zero, List.set_cons_succ]
  refine wpAnyH_take (i := 3) (oi := ?_) (v := ?_) ?_ ?_ ?_ ?_ ?_ ?_ (by assumption) ?_
  rotate_left 2
  · simp only [List.getElem?_toArray, List.getElem?_cons_zero, List.getElem?_cons_succ]
    rfl
  · kernel_rfl
  · kernel_rfl
  · kernel_rfl
  · exact fun _ _ _ h => h
  · refine Or.inl ⟨by rfl, ?_⟩
    intro w hSw
    (try dsimp only at hSw)
    go_simp
    all_goals with_reducible rfl
  simp only [Act.put, List.setIfInBounds_toArray, List.set_cons_zero, List.set_cons_succ]
  refine wpAnyH_ready (rs := [4]) (by kernel_rfl) (by simp) ?_
  refine AllReadyH.cons (o := ?_) ?_ (fun KK hKK => ?_) AllReadyH.nil
  rotate_left
  · simp only [List.getElem?_toArray, List.getElem?_cons_zero, List.getElem?_cons_succ]
    rfl
  go_simp
  have HR4 := Rd.new w1.drew (List.replicate N 0) 5
  have B4 : Below w1.drew.heap.size w1.drew (w1.drew.alloc (.cells (cellsN (List.replicate N 0)) 5)) := (Below.refl _ _).alloc (Nat.le_refl _) _
  have HO4 : Obj (w1.drew.alloc (.cells (cellsN (List.replicate N 0)) 5)) w.heap.size 26 (cellsN k) ∧ Obj (w1.drew.alloc (.cells (cellsN (List.replicate N 0)) 5)) (w.heap.size + 1) 26 (cellsN f) := ⟨HO3.1.kept B4, HO3.2.kept B4⟩
  have HL4 := HL3.trans (B4.mono HL3.size)
  refine hKK.out _ _ ?_ (fun h4 => ?_)
  · (try dsimp only)
    exact HO4
  clear hKK KK
  try simp only [Act.put, List.setIfInBounds_toArray, List.set_cons_zero, List.set_cons_succ]
  refine wpAnyH_ready (rs := [5]) (by kernel_rfl) (by simp) ?_
  refine AllReadyH.cons (o := ?_) ?_ (fun KK hKK => ?_) AllReadyH.nil
  rotate_left
  · simp only [List.getElem?_toArray, List.getElem?_cons_zero, List.getElem?_cons_succ]
    rfl
  go_simp
  go_at_call 21
  refine (stream_at k f _ N N (List.replicate N 0) _ HK.out HF.out qk qf HZ0.out HR4 qz (by have := HNJ.out; omega)).mono ?_
  rintro e y5 ⟨A1, c1, rfl, hc1, HC5, B5⟩
  have HO5 : Obj y5 w.heap.size 26 (cellsN k) ∧ Obj y5 (w.heap.size + 1) 26 (cellsN f) := ⟨HO4.1.kept B5, HO4.2.kept B5⟩
  have HL5 := HL4.trans (B5.mono HL4.size)
  try go_wp2_with fail
  refine hKK.out _ _ ?_ (fun h5 => ?_)
  · (try dsimp only)
    assumption
  clear hKK KK
  try simp only [Act.put, List.setIfInBounds_toArray, List.set_cons_zero, List.set_cons_succ]
  refine wpAnyH_take (i := 6) (oi := ?_) (v := ?_) ?_ ?_ ?_ ?_ ?_ ?_ (by assumption) ?_
  rotate_left 2
  · simp only [List.getElem?_toArray, List.getElem?_cons_zero, List.getElem?_cons_succ]
    rfl
  · kernel_rfl
  · kernel_rfl
  · kernel_rfl
  · exact fun _ _ _ h => h
  · refine Or.inl ⟨by rfl, ?_⟩
    intro w hSw
    (try dsimp only at hSw)
    go_simp
    all_goals with_reducible rfl
  simp only [Act.put, List.setIfInBounds_toArray, List.set_cons_zero, List.set_cons_succ]
  refine wpAnyH_done (by kernel_rfl) ?_ _
  clear HO3 HO4 HL3 HL4 HR4 B4 B5 h4 h5 hHeld hmk e2
  have hG : ∃ g o, A1 = some ⟨g, o, none⟩ ∧ g < y5.heap.size := by
    obtain ⟨g, o, e, hlt, _⟩ := HC5 (by rw [Ae.stream_len, HZ0.out]; have := HNJ.out; omega)
    exact ⟨g, o, e, hlt⟩
  obtain ⟨g, o, rfl, l2⟩ := hG
  have HD5 := HC5.drop K
  rw [HZL.out] at HD5
  have hsl : ∀ w', (Instr.slice 35 (.slice (some ⟨g, o, none⟩) N c1) (some (.int .i64 (K : Int))) none none).run Try.prog w' = .ok (.slice (some ⟨g, o + K, none⟩) 16 (c1 - K)) w' := fun w' => by
    rw [slice8_l g o N c1 K (by have := HNJ.out; omega) (by have := HNJ.out; omega) hc1 w', show N - K = 16 by have := HNJ.out; omega]
  have hsl2 : ∀ w', (Instr.sliceAt 35 (.slice (some ⟨g, o, none⟩) N c1) (some (.int .i64 (K : Int))) none none).run Try.prog w' = .ok (.slice (some ⟨g, o + K, none⟩) 16 (c1 - K)) w' := fun w' => by
    rw [run_sliceAt_slice w' 35 _ _ _ _ el8]; exact hsl w'
  have HSL := Lib.hid (And.intro hsl hsl2)
  clear hsl2
  have ON : Obj (y5.alloc (.cells #[.int .u8 0, .int .u8 0, .int .u8 0, .int .u8 0, .int .u8 0, .int .u8 0, .int .u8 0, .int .u8 0, .int .u8 0, .int .u8 0, .int .u8 0, .int .u8 0, .int .u8 0, .int .u8 0, .int .u8 0, .int .u8 0] 26)) y5.heap.size 26 #[.int .u8 0, .int .u8 0, .int .u8 0, .int .u8 0, .int .u8 0, .int .u8 0, .int .u8 0, .int .u8 0, .int .u8 0, .int .u8 0, .int .u8 0, .int .u8 0, .int .u8 0, .int .u8 0, .int .u8 0, .int .u8 0] := Obj.new y5 _ _
  have HON := Lib.hid ON
  have B6 : Below y5.heap.size y5 (y5.alloc (.cells #[.int .u8 0, .int .u8 0, .int .u8 0, .int .u8 0, .int .u8 0, .int .u8 0, .int .u8 0, .int .u8 0, .int .u8 0, .int .u8 0, .int .u8 0, .int .u8 0, .int .u8 0, .int .u8 0, .int .u8 0, .int .u8 0] 26)) := (Below.refl _ _).alloc (Nat.le_refl _) _
  have HI6 := HO5.1.kept B6
  have HL6 := HL5.trans (B6.mono HL5.size)
  have HD6 := HD5.below B6
  have l1 := HO5.2.lt
  have U := (Upd.refl y5.heap.size (y5.alloc (.cells #[.int .u8 0, .int .u8 0, .int .u8 0, .int .u8 0, .int .u8 0, .int .u8 0, .int .u8 0, .int .u8 0, .int .u8 0, .int .u8 0, .int .u8 0, .int .u8 0, .int .u8 0, .int .u8 0, .int .u8 0, .int .u8 0] 26))).row (cellsN f)
  have HI7 := HI6.upd U (by omega)
  have HB7 := HON.out.row (cellsN f)
  have HL7 := Upd.below HL6 (by omega) U
  have HSE : Hid ((#[.int .u8 0, .int .u8 0, .int .u8 0, .int .u8 0, .int .u8 0, .int .u8 0, .int .u8 0, .int .u8 0, .int .u8 0, .int .u8 0, .int .u8 0, .int .u8 0, .int .u8 0, .int .u8 0, .int .u8 0, .int .u8 0] : Array Value).size = (cellsN f).size) := by unfold Hid; rw [cellsN_size, HF.out]; rfl
  have HD7 : Rd ((y5.alloc (.cells #[.int .u8 0, .int .u8 0, .int .u8 0, .int .u8 0, .int .u8 0, .int .u8 0, .int .u8 0, .int .u8 0, .int .u8 0, .int .u8 0, .int .u8 0, .int .u8 0, .int .u8 0, .int .u8 0, .int .u8 0, .int .u8 0] 26)).setRow y5.heap.size (cellsN f)) (some ⟨g, o + K, none⟩) (Ae.enc (Ae.sched k) (Ae.ctr f j)) := by
    intro hp
    obtain ⟨b', off, e, hlt, hcell⟩ := HD5 hp
    obtain ⟨rfl, rfl⟩ : g = b' ∧ o + K = off := by cases e; exact ⟨rfl, rfl⟩
    refine ⟨g, o + K, rfl, by simp; omega, fun i hi => ?_⟩
    have h1 : (y5.alloc (.cells #[.int .u8 0, .int .u8 0, .int .u8 0, .int .u8 0, .int .u8 0, .int .u8 0, .int .u8 0, .int .u8 0, .int .u8 0, .int .u8 0, .int .u8 0, .int .u8 0, .int .u8 0, .int .u8 0, .int .u8 0, .int .u8 0] 26)).cell? ⟨g, o + K + i, none⟩ = y5.cell? ⟨g, o + K + i, none⟩ := B6.cell (p := ⟨g, o + K + i, none⟩) hlt
    have h2 := World.cell?_of_block (w := y5.alloc (.cells #[.int .u8 0, .int .u8 0, .int .u8 0, .int .u8 0, .int .u8 0, .int .u8 0, .int .u8 0, .int .u8 0, .int .u8 0, .int .u8 0, .int .u8 0, .int .u8 0, .int .u8 0, .int .u8 0, .int .u8 0, .int .u8 0] 26)) (w' := (y5.alloc (.cells #[.int .u8 0, .int .u8 0, .int .u8 0, .int .u8 0, .int .u8 0, .int .u8 0, .int .u8 0, .int .u8 0, .int .u8 0, .int .u8 0, .int .u8 0, .int .u8 0, .int .u8 0, .int .u8 0, .int .u8 0, .int .u8 0] 26)).setRow y5.heap.size (cellsN f)) (a := ⟨g, o + K + i, none⟩) (U.block g (by simp; omega) (by omega))
    rw [h2, h1]
    exact hcell i hi
  clear HI6 HL6 HD6 U B6 HD5 HC5 ON hsl
  go_wp2_with (first
    | (refine wpList_load_row rfl 26 (.tmp 4) rfl _ rfl _ _ _ _ HO5.2 Try.underlying26 rfl HIF.out ?_)
    | (refine wpList_store_row rfl 26 (.tmp 9) (.tmp 25) rfl _ _ rfl rfl _ _ HON.out HIF.out HSE.out (one_cellsN _) ?_))
  generalize (y5.alloc (.cells #[.int .u8 0, .int .u8 0, .int .u8 0, .int .u8 0, .int .u8 0, .int .u8 0, .int .u8 0, .int .u8 0, .int .u8 0, .int .u8 0, .int .u8 0, .int .u8 0, .int .u8 0, .int .u8 0, .int .u8 0, .int .u8 0] 26)).setRow y5.heap.size (cellsN f) = y7 at *
  generalize y5.heap.size = bb at *
  clear HO5 HL5 HON
  have HKJ : Hid (16 * j = K) := HNJ.out.2
  have HLE := Lib.hid (Ae.enc_len (Ae.sched k) (Ae.ctr f j))
  generalize hEE : Ae.enc (Ae.sched k) (Ae.ctr f j) = E at *
  have HEQ := Lib.hid hEE
  clear hEE
  go_loopw [10] (fun q wr => ∃ i : Nat, i ≤ j ∧ q = .int .i64 i ∧ Obj wr w.heap.size 26 (cellsN k) ∧ Obj wr bb 26 (cellsN (Ae.ctr f i)) ∧ Rd wr (some ⟨g, o + K, none⟩) E ∧ Below w.heap.size w wr) (fun q _ => j - (intOf q).toNat)
  case atStart => exact ⟨0, by omega, rfl, HI7, HB7, HD7, HL7⟩
  case round =>
    clear HI7 HB7 HD7 HL7
    obtain ⟨i, hi, rfl, HI, HB, HD, HL⟩ := hrel
    by_cases hlt : i < j
    · have HN0 := Lib.hid (show Ae.nextL (Ae.ctr f i) 4 = Ae.ctr f (i + 1) by rw [HCN.out]; rfl)
      have hLb := Lib.hid (HLC.out i)
      have qb := HQ.out i
      go_wp2
      go_loopw [11] (fun x wr => ∃ (q n : Nat) (b : List Nat), n ≤ 4 ∧ q ≤ n + 11 ∧ n + 11 ≤ q ∧ x = .int .i64 q ∧ Hid (Ae.nextL b n = Ae.ctr f (i + 1)) ∧ Hid (b.length = 16) ∧ Ae.bytes b ∧ Obj wr w.heap.size 26 (cellsN k) ∧ Obj wr bb 26 (cellsN b) ∧ Rd wr (some ⟨g, o + K, none⟩) E ∧ Below w.heap.size w wr) (fun x _ => (intOf x).toNat)
      case atStart => exact ⟨15, 4, _, by omega, by omega, by omega, rfl, HN0.out, hLb.out, qb, HI, HB, HD, HL⟩
      case round =>
        clear HI HB HD HL
        obtain ⟨q, n, b, hn, hq1, hq2, rfl, HE, HBL, qb', HI, HB, HD, HL⟩ := hrel
        by_cases h0 : n = 0
        · have HF0 : Hid (b = Ae.ctr f (i + 1)) := by have := HE.out; rw [h0] at this; exact this
          have hq11 : (q : Int) < 12 := by omega
          rw [HF0.out] at HB
          clear h0
          go_wp2
          go_roundw
          case rel => exact ⟨i + 1, by omega, by go_num, HI, HB, HD, HL⟩
          case measure => simp [intOf]; omega
        · obtain ⟨r, rfl⟩ : ∃ r, n = r + 1 := ⟨n - 1, by omega⟩
          have hq12 : (12 : Int) ≤ (q : Int) := by omega
          have hq16 : (q : Int) < 16 := by omega
          have f0 : wr.cell? ⟨bb, q, none⟩ = some (.int .u8 ((b.getD q 0 : Nat) : Int)) := HB.getN _ (by rw [HBL.out]; omega)
          have z0 := HB.free q
          have hx := Ae.bytes_get qb' q
          have HS : Hid (Ae.nextL b (r + 1) = if (b.getD q 0 + 1) % 256 = 0 then Ae.nextL (b.set q ((b.getD q 0 + 1) % 256)) r else b.set q ((b.getD q 0 + 1) % 256)) := by
            unfold Hid; rw [Ae.nextL, show 11 + (r + 1) = q by omega]
          generalize b.getD q 0 = x at *
          have hv : ((x : Int) + 1) % 256 = (((x + 1) % 256 : Nat) : Int) := by omega
          have HV := Lib.hid hv
          have hm := Nat.mod_lt (x + 1) (show 0 < 256 by decide)
          clear hv h0
          by_cases hz : (x + 1) % 256 = 0
          · have ht : ((((x : Int) + 1) % 256) != 0) = false := by rw [HV.out, hz]; rfl
            have HS2 := Lib.hid (HS.out.trans (if_pos hz))
            clear HS hz
            go_wp2
            go_roundw
            case rel =>
              rw [HV.out]
              exact ⟨q - 1, r, b.set q ((x + 1) % 256), by omega, by omega, by omega, val_i64 (by omega), HS2.out.symm.trans HE.out, by show (b.set _ _).length = 16; rw [List.length_set]; exact HBL.out, Ae.bytes_set qb' _ _ hm, HI.far (by simp; omega) _, HB.setN _ _, HD.far (by simp; omega) _, HL.setCell (by simp; omega) _⟩
            case measure => simp [intOf]; omega
          · have ht : ((((x : Int) + 1) % 256) != 0) = true := by rw [HV.out]; simp; omega
            have HS2 := Lib.hid ((HS.out.trans (if_neg hz)).symm.trans HE.out)
            clear HS hz
            go_wp2
            go_roundw
            case rel =>
              rw [HV.out]
              exact ⟨i + 1, by omega, by go_num, HI.far (by simp; omega) _, (HB.setN _ _).as (by rw [HS2.out]), HD.far (by simp; omega) _, HL.setCell (by simp; omega) _⟩
            case measure => simp [intOf]; omega
    · obtain rfl : i = j := by omega
      clear hlt
      go_wp2_with (first
        | (refine wpList_load_row rfl 26 (.tmp 3) rfl _ rfl _ _ _ _ HI Try.underlying26 rfl HIK.out ?_)
        | (refine wpList_load_row rfl 26 (.tmp 9) rfl _ rfl _ _ _ _ HB Try.underlying26 rfl (size16 (HLC.out i)) ?_))
      refine (encipher_any k (Ae.ctr f i) _ HK.out (HLC.out i) qk (HQ.out i)).mono ?_
      rintro e y8 ⟨rfl, hb8⟩
      rw [HEQ.out]
      have HD8 := HD.below hb8
      have HL8 := HL.trans (hb8.mono HL.size)
      have HON := Lib.hid (show Obj (y8.alloc (.cells #[.int .u8 0, .int .u8 0, .int .u8 0, .int .u8 0, .int .u8 0, .int .u8 0, .int .u8 0, .int .u8 0, .int .u8 0, .int .u8 0, .int .u8 0, .int .u8 0, .int .u8 0, .int .u8 0, .int .u8 0, .int .u8 0] 26)) y8.heap.size 26 #[.int .u8 0, .int .u8 0, .int .u8 0, .int .u8 0, .int .u8 0, .int .u8 0, .int .u8 0, .int .u8 0, .int .u8 0, .int .u8 0, .int .u8 0, .int .u8 0, .int .u8 0, .int .u8 0, .int .u8 0, .int .u8 0] from Obj.new y8 _ _)
      have HIE := Lib.hid (size16 HLE.out)
      have HSE2 : Hid ((#[.int .u8 0, .int .u8 0, .int .u8 0, .int .u8 0, .int .u8 0, .int .u8 0, .int .u8 0, .int .u8 0, .int .u8 0, .int .u8 0, .int .u8 0, .int .u8 0, .int .u8 0, .int .u8 0, .int .u8 0, .int .u8 0] : Array Value).size = (cellsN E).size) := by unfold Hid; rw [cellsN_size, HLE.out]; rfl
      have B9 : Below y8.heap.size y8 (y8.alloc (.cells #[.int .u8 0, .int .u8 0, .int .u8 0, .int .u8 0, .int .u8 0, .int .u8 0, .int .u8 0, .int .u8 0, .int .u8 0, .int .u8 0, .int .u8 0, .int .u8 0, .int .u8 0, .int .u8 0, .int .u8 0, .int .u8 0] 26)) := (Below.refl _ _).alloc (Nat.le_refl _) _
      have U9 := (Upd.refl y8.heap.size (y8.alloc (.cells #[.int .u8 0, .int .u8 0, .int .u8 0, .int .u8 0, .int .u8 0, .int .u8 0, .int .u8 0, .int .u8 0, .int .u8 0, .int .u8 0, .int .u8 0, .int .u8 0, .int .u8 0, .int .u8 0, .int .u8 0, .int .u8 0] 26))).row (cellsN E)
      have B10 : Below y8.heap.size y8 ((y8.alloc (.cells #[.int .u8 0, .int .u8 0, .int .u8 0, .int .u8 0, .int .u8 0, .int .u8 0, .int .u8 0, .int .u8 0, .int .u8 0, .int .u8 0, .int .u8 0, .int .u8 0, .int .u8 0, .int .u8 0, .int .u8 0, .int .u8 0] 26)).setRow y8.heap.size (cellsN E)) := Upd.below B9 (Nat.le_refl _) U9
      have HD10 := HD8.below B10
      have HL10 := HL8.trans (B10.mono HL8.size)
      have HE10 := (HON.out.row (cellsN E)).rd
      clear HI HB HD HL hb8 HD8 HL8 B9 U9 B10
      go_wp2_with (refine wpList_store_row rfl 26 (.tmp 12) (.tmp 47) rfl _ _ rfl rfl _ _ HON.out HIE.out HSE2.out (one_cellsN _) ?_)
      generalize (y8.alloc (.cells #[.int .u8 0, .int .u8 0, .int .u8 0, .int .u8 0, .int .u8 0, .int .u8 0, .int .u8 0, .int .u8 0, .int .u8 0, .int .u8 0, .int .u8 0, .int .u8 0, .int .u8 0, .int .u8 0, .int .u8 0, .int .u8 0] 26)).setRow y8.heap.size (cellsN E) = y10 at *
      generalize y8.heap.size = eb at *
      obtain ⟨hsl, hsl2⟩ := HSL.out
      have hs16 := fun w' => slice16all eb w'
      have hsm := fun (W : World) (h1 : Rd W (some ⟨g, o + K, none⟩) E) (h2 : Rd W (some ⟨eb, 0, none⟩) E) => same_true (some ⟨g, o + K, none⟩) (some ⟨eb, 0, none⟩) (c1 - K) 16 E W h1 h2 (by rw [HLE.out]; omega)
      rw [HLE.out] at hsm
      have HSM := Lib.hid hsm
      clear hsm HON
      have HD11 : Rd y10.drew (some ⟨g, o + K, none⟩) E := HD10
      have HE11 : Rd y10.drew (some ⟨eb, 0, none⟩) E := HE10
      refine wp_region_held_drew (S := (fun _ => True)) (by kernel_rfl) trivial (fun hHeld => ?_)
      refine wpAnyH_take (i := 0) (oi := ?_) (v := ?_) ?_ ?_ ?_ ?_ ?_ ?_ (by assumption) ?_
      rotate_left 2
      · simp only [List.getElem?_toArray, List.getElem?_cons_zero, List.getElem?_cons_succ]
        rfl
      · kernel_rfl
      · kernel_rfl
      · kernel_rfl
      · exact fun _ _ _ h => h
      · refine Or.inl ⟨by rfl, ?_⟩
        intro w hSw
        (try dsimp only at hSw)
        go_simp
        all_goals with_reducible rfl
      simp only [Act.put, List.setIfInBounds_toArray, List.set_cons_zero, List.set_cons_succ]
      refine wpAnyH_take (i := 1) (oi := ?_) (v := ?_) ?_ ?_ ?_ ?_ ?_ ?_ (by assumption) ?_
      rotate_left 2
      · simp only [List.getElem?_toArray, List.getElem?_cons_zero, List.getElem?_cons_succ]
        rfl
      · kernel_rfl
      · kernel_rfl
      · kernel_rfl
      · exact fun _ _ _ h => h
      · refine Or.inl ⟨by rfl, ?_⟩
        intro w hSw
        (try dsimp only at hSw)
        go_simp
        all_goals with_reducible rfl
      simp only [Act.put, List.setIfInBounds_toArray, List.set_cons_zero, List.set_cons_succ]
      refine wpAnyH_take (i := 2) (oi := ?_) (v := ?_) ?_ ?_ ?_ ?_ ?_ ?_ (by assumption) ?_
      rotate_left 2
      · simp only [List.getElem?_toArray, List.getElem?_cons_zero, List.getElem?_cons_succ]
        rfl
      · kernel_rfl
      · kernel_rfl
      · kernel_rfl
      · exact fun _ _ _ h => h
      · refine Or.inl ⟨by rfl, ?_⟩
        intro w hSw
        (try dsimp only at hSw)
        go_simp
        all_goals with_reducible rfl
      simp only [Act.put, List.setIfInBounds_toArray, List.set_cons_zero, List.set_cons_succ]
      refine wpAnyH_take (i := 3) (oi := ?_) (v := ?_) ?_ ?_ ?_ ?_ ?_ ?_ (by assumption) ?_
      rotate_left 2
      · simp only [List.getElem?_toArray, List.getElem?_cons_zero, List.getElem?_cons_succ]
        rfl
      · kernel_rfl
      · kernel_rfl
      · kernel_rfl
      · exact fun _ _ _ h => h
      · refine Or.inl ⟨by rfl, ?_⟩
        intro w hSw
        (try dsimp only at hSw)
        go_simp
        all_goals with_reducible rfl
      simp only [Act.put, List.setIfInBounds_toArray, List.set_cons_zero, List.set_cons_succ]
      refine wpAnyH_ready (rs := [4]) (by kernel_rfl) (by simp) ?_
      refine AllReadyH.cons (o := ?_) ?_ (fun KK hKK => ?_) AllReadyH.nil
      rotate_left
      · simp only [List.getElem?_toArray, List.getElem?_cons_zero, List.getElem?_cons_succ]
        rfl
      go_simp
      go_at_call 20
      refine (HSM.out _ HD11 HE11).mono ?_
      rintro e y11 ⟨rfl, q11, hq11⟩
      have HL11 := HL10.drew.trans ((below_drewN' hq11).mono HL10.drew.size)
      clear hq11
      try go_wp2_with fail
      refine hKK.out _ _ ?_ (fun h11 => ?_)
      · (try dsimp only)
        skip
      clear hKK KK
      try simp only [Act.put, List.setIfInBounds_toArray, List.set_cons_zero, List.set_cons_succ]
      refine wpAnyH_take (i := 5) (oi := ?_) (v := ?_) ?_ ?_ ?_ ?_ ?_ ?_ (by assumption) ?_
      rotate_left 2
      · simp only [List.getElem?_toArray, List.getElem?_cons_zero, List.getElem?_cons_succ]
        rfl
      · kernel_rfl
      · kernel_rfl
      · kernel_rfl
      · exact fun _ _ _ h => h
      · refine Or.inl ⟨by rfl, ?_⟩
        intro w hSw
        (try dsimp only at hSw)
        go_simp
        all_goals with_reducible rfl
      simp only [Act.put, List.setIfInBounds_toArray, List.set_cons_zero, List.set_cons_succ]
      refine wpAnyH_done (by kernel_rfl) ?_ _
      go_wp2
      go_ret
      exact ⟨rfl, HL11⟩

end Go.Proofs.Ytbkobmfakkbfcaa
