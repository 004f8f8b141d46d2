/- Layer 11's laws, walked: each callee by its contract. -/
import Derived.Test.YtjgoeakhodpcaaaRows
import Derived.Test.YtjgoeakhodpcaaaPlainTk
import Derived.Test.YtjgoeakhodpcaaaPlainPw
import Derived.Test.YtjgoeakhodpcaaaPlainBk
import Derived.Test.YtjgoeakhodpcaaaPlainTk2
import Derived.Test.YtjgoeakhodpcaaaAid
import Derived.Test.YtjgoeakhodpcaaaTicks
import Derived.Test.YtjgoeakhodpcaaaTicks3
import Derived.Test.YtjgoeakhodpcaaaTkBk
import Derived.Test.YtjgoeakhodpcaaaTkBk2
import Derived.StillTailTactics
import Derived.Deep.RegionHeld3
import Derived.WalkKit
import Derived.WalkSpells
import Derived.WalkLawsBesides
import Derived.Deep.QuietTactic
import Derived.BigQuiet
import Derived.Handy
import Derived.Lib.Hide
namespace Go.Proofs.Ytjgoeakhodpcaaa
open Go.RowKit
set_option linter.unusedVariables false
set_option linter.unusedSimpArgs false

/-- A bucket of the call's own, and that nothing that was there has turned. -/
def OwnB (W : World) (x : Nat) (b : Bk.Bucket) (w : World) : Prop := BkAt w x b ∧ Bk.ok b ∧ W.heap.size ≤ x ∧ Below W.heap.size W w
theorem OwnB.below {W w : World} {x : Nat} {b : Bk.Bucket} (h : OwnB W x b w) : Below W.heap.size W w := h.2.2.2
theorem OwnB.upd {W w w' : World} {x : Nat} {b b' : Bk.Bucket} (h : OwnB W x b w) (h1 : BkAt w' x b') (h2 : Bk.ok b') (hu : Upd x w w') : OwnB W x b' w' := ⟨h1, h2, h.2.2.1, Upd.below h.2.2.2 h.2.2.1 hu⟩
theorem OwnB.kept {W w w' : World} {x : Nat} {b : Bk.Bucket} (h : OwnB W x b w) (hb : Below w.heap.size w w') : OwnB W x b w' := h.upd (h.1.kept hb) h.2.1 (Upd.of_below hb x)
theorem take_ok (b : Bk.Bucket) (n : Int) (h : Bk.ok b) (h0 : 0 ≤ n) (h1 : n ≤ 18446744073709551615) : Bk.ok (Bk.take b n) := Bk.taken_ok _ (Bk.upto_ok b n h h0 h1)

theorem g_new (W w : World) (s e : Int) (hs : 0 ≤ s) (hs1 : s ≤ 18446744073709551615) (he : 0 < e) (he1 : e ≤ 18446744073709551615) (hb : Below W.heap.size W w) :
    Calls Try.prog 20 #[.int .u64 s, .int .u64 e] w fun r w' => ∃ x, r = .returned (.pointer (some ⟨x, 0, none⟩)) ∧ OwnB W x (Bk.new s e) w' :=
  (newBucket_any s e w he).mono fun _ _ ⟨hr, h2, h3⟩ => ⟨_, hr, h2, Bk.new_ok s e hs hs1 he he1, hb.size, hb.trans (h3.mono hb.size)⟩
theorem g_take (W w : World) (x : Nat) (b : Bk.Bucket) (n : Int) (h : OwnB W x b w) (h0 : 0 ≤ n) (h1 : n ≤ 18446744073709551615) :
    Calls Try.prog 21 #[.pointer (some ⟨x, 0, none⟩), .int .u64 n] w fun r w' => r = .returned (.bool (Bk.takes b n)) ∧ OwnB W x (Bk.take b n) w' :=
  (take_any x b n w h.1 h.2.1 h0 h1).mono fun _ _ ⟨hr, h2, h3⟩ => ⟨hr, h.upd h2 (take_ok b n h.2.1 h0 h1) h3⟩
theorem g_left (W w : World) (x : Nat) (b : Bk.Bucket) (n : Int) (h : OwnB W x b w) (h0 : 0 ≤ n) (h1 : n ≤ 18446744073709551615) :
    Calls Try.prog 22 #[.pointer (some ⟨x, 0, none⟩), .int .u64 n] w fun r w' => r = .returned (.int .u64 (Bk.upto b n).tokens) ∧ OwnB W x b w' :=
  (left_any x b n w h.1 h.2.1 h0 h1).mono fun _ _ ⟨hr, h3⟩ => ⟨hr, h.kept h3⟩
theorem g_add (W w : World) (a b : Int) (ha : 0 ≤ a) (ha1 : a ≤ 18446744073709551615) (hb : 0 ≤ b) (hb1 : b ≤ 18446744073709551615) (h : Below W.heap.size W w) :
    Calls Try.prog 11 #[.int .u64 a, .int .u64 b] w fun r w' => r = .returned (.int .u64 (Tk.add a b)) ∧ Below W.heap.size W w' :=
  (add_any a b w ha ha1 hb hb1).mono fun _ _ ⟨hr, h3⟩ => ⟨hr, h.trans (h3.mono h.size)⟩
theorem g_times (W w : World) (a b : Int) (ha : 0 ≤ a) (ha1 : a ≤ 18446744073709551615) (hb : 0 ≤ b) (hb1 : b ≤ 18446744073709551615) (h : Below W.heap.size W w) :
    Calls Try.prog 13 #[.int .u64 a, .int .u64 b] w fun r w' => r = .returned (.int .u64 (Tk.times a b)) ∧ Below W.heap.size W w' :=
  (times_any a b w ha ha1 hb hb1).mono fun _ _ ⟨hr, h3⟩ => ⟨hr, h.trans (h3.mono h.size)⟩

set_option maxHeartbeats 1000000 in
theorem alive_true (w : World) : Calls Try.prog 10 #[] w fun e w' => e = .returned (.bool true) ∧ Below w.heap.size w w' := by
  have N1 := Lib.hid (show Bk.take (Bk.new 2 10) 0 = ⟨2, 10, 1, 0⟩ by kernel_rfl)
  have R1 := Lib.hid (show Bk.takes (Bk.new 2 10) 0 = true by decide +kernel)
  have N2 := Lib.hid (show Bk.take ⟨2, 10, 1, 0⟩ 0 = ⟨2, 10, 0, 0⟩ by kernel_rfl)
  have R2 := Lib.hid (show Bk.takes ⟨2, 10, 1, 0⟩ 0 = true by decide +kernel)
  have N3 := Lib.hid (show Bk.take ⟨2, 10, 0, 0⟩ 9 = ⟨2, 10, 0, 0⟩ by kernel_rfl)
  have R3 := Lib.hid (show Bk.takes ⟨2, 10, 0, 0⟩ 9 = false by decide +kernel)
  have R4 := Lib.hid (show (Bk.upto ⟨2, 10, 0, 0⟩ 10).tokens = 1 by decide +kernel)
  have R5 := Lib.hid (show Bk.takes ⟨2, 10, 0, 0⟩ 10 = true by decide +kernel)
  have A1 := Lib.hid (show Tk.add 18446744073709551615 1 = 18446744073709551615 by decide +kernel)
  have A2 := Lib.hid (show Tk.times 1099511627776 1099511627776 = 18446744073709551615 by decide +kernel)
  have A3 := Lib.hid (show Tk.add 2 3 = 5 by decide +kernel)
  have A4 := Lib.hid (show Tk.sub 3 5 = 0 by decide +kernel)
  have A5 := Lib.hid (show Tk.bko 3 2 = 12 by decide +kernel)
  have A6 := Lib.hid (show Pw.pw (8 : Int).toNat = true by decide +kernel)
  have A7 := Lib.hid (show Pw.pw (6 : Int).toNat = false by decide +kernel)
  go_enter Try.func10, Try.ntmps10
  go_wp2_with fail
  refine (g_new w w 2 10 (by omega) (by omega) (by omega) (by omega) (Below.refl _ _)).mono ?_
  rintro e w1 ⟨x, rfl, h0⟩
  go_wp2_with fail
  refine (g_take w _ x _ 0 h0 (by omega) (by omega)).mono ?_
  rintro e w2 ⟨rfl, h1⟩
  rw [R1.out]
  rw [N1.out] at h1
  clear h0
  go_wp2_with fail
  refine (g_take w _ x _ 0 h1 (by omega) (by omega)).mono ?_
  rintro e w3 ⟨rfl, h2⟩
  rw [R2.out]
  rw [N2.out] at h2
  clear h1
  go_wp2_with fail
  refine (g_take w _ x _ 9 h2 (by omega) (by omega)).mono ?_
  rintro e w4 ⟨rfl, h3⟩
  rw [R3.out]
  rw [N3.out] at h3
  clear h2
  go_wp2_with fail
  refine (add_any 18446744073709551615 1 _ (by omega) (by omega) (by omega) (by omega)).mono ?_
  rintro e w5 ⟨rfl, hb⟩
  rw [A1.out]
  have h4 := h3.kept hb
  clear hb h3
  go_wp2_with fail
  refine (times_any 1099511627776 1099511627776 _ (by omega) (by omega) (by omega) (by omega)).mono ?_
  rintro e w6 ⟨rfl, hb⟩
  rw [A2.out]
  have h5 := h4.kept hb
  clear hb h4
  go_wp2_with fail
  refine (add_any 2 3 _ (by omega) (by omega) (by omega) (by omega)).mono ?_
  rintro e w7 ⟨rfl, hb⟩
  rw [A3.out]
  have h6 := h5.kept hb
  clear hb h5
  go_wp2_with fail
  refine (sub_any 3 5 _ (by omega) (by omega) (by omega) (by omega)).mono ?_
  rintro e w8 ⟨rfl, rfl⟩
  rw [A4.out]
  go_wp2_with fail
  refine (backoff_any 3 2 _ (by omega) (by omega) (by omega) (by omega)).mono ?_
  rintro e w8 ⟨rfl, rfl⟩
  rw [A5.out]
  go_wp2_with fail
  refine (power_any 8 _ (by omega) (by omega)).mono ?_
  rintro e w8 ⟨rfl, rfl⟩
  rw [A6.out]
  go_wp2_with fail
  refine (power_any 6 _ (by omega) (by omega)).mono ?_
  rintro e w8 ⟨rfl, rfl⟩
  rw [A7.out]
  go_wp2_with fail
  refine (g_left w _ x _ 10 h6 (by omega) (by omega)).mono ?_
  rintro e w9 ⟨rfl, h7⟩
  rw [R4.out]
  clear h6
  go_wp2_with fail
  refine (g_take w _ x _ 10 h7 (by omega) (by omega)).mono ?_
  rintro e w10 ⟨rfl, h8⟩
  rw [R5.out]
  clear h7
  have HB := Lib.hid h8.below
  clear h8
  go_wp2_with fail
  refine (newBucket_none 1 _).mono ?_
  rintro e w8 ⟨rfl, rfl⟩
  go_wp2
  go_ret
  exact ⟨rfl, HB.out⟩

set_option maxHeartbeats 1000000 in
theorem ticksSums_walk (a0 a1 a2 : Int) (w : World) (w0 : (Lit.int .u64 a0).wf = true) (w1 : (Lit.int .u64 a1).wf = true) (w2 : (Lit.int .i64 a2).wf = true) :
    Calls Try.prog 3 #[.int .u64 a0, .int .u64 a1, .int .i64 a2] w fun e w' => e = .returned (.bool true) ∧ Below w.heap.size w w' := by
  obtain ⟨b0, c0⟩ := bounds_u64 w0
  obtain ⟨b1, c1⟩ := bounds_u64 w1
  obtain ⟨b2, c2⟩ := bounds_i64 w2
  clear w0 w1 w2
  have hs : ∃ d, Tk.sub a0 a1 = d ∧ (a1 < a0 → d = a0 - a1) ∧ (a0 ≤ a1 → d = 0) := ⟨_, rfl, fun h => by unfold Tk.sub; omega, fun h => by unfold Tk.sub; omega⟩
  obtain ⟨d, hd, hd1, hd2⟩ := hs
  have HD := Lib.hid hd
  clear hd
  by_cases hlt : a1 < a0
  · have HD1 := Lib.hid (hd1 hlt)
    clear hd1 hd2
    go_enter Try.func3, Try.ntmps3
    go_wp2_with fail
    refine (alive_true _).mono ?_
    rintro e w1 ⟨rfl, hb1⟩
    go_wp2_with fail
    refine (g_add w _ a0 a1 b0 c0 b1 c1 hb1).mono ?_
    rintro e w2 ⟨rfl, hb2⟩
    clear hb1
    go_wp2_with fail
    refine (refAdd_any a0 a1 _ b0 c0 b1 c1).mono ?_
    rintro e wn ⟨rfl, rfl⟩
    go_wp2_with fail
    refine (g_times w _ a0 a1 b0 c0 b1 c1 hb2).mono ?_
    rintro e w3 ⟨rfl, hb3⟩
    clear hb2
    have HA := Lib.hid hb3
    clear hb3
    go_wp2_with fail
    refine (refTimes_any a0 a1 _ b0 c0 b1 c1).mono ?_
    rintro e wn ⟨rfl, rfl⟩
    go_wp2_with fail
    refine (sub_any a0 a1 _ b0 c0 b1 c1).mono ?_
    rintro e wn ⟨rfl, rfl⟩
    rw [HD.out, HD1.out]
    go_wp2_with fail
    refine (backoff_any a0 a2 _ b0 c0 b2 c2).mono ?_
    rintro e wn ⟨rfl, rfl⟩
    go_wp2_with fail
    refine (refBackoff_any a0 a2 _ b0 c0 b2 c2).mono ?_
    rintro e wn ⟨rfl, rfl⟩
    go_wp2_with fail
    refine (power_any a0 _ b0 c0).mono ?_
    rintro e wn ⟨rfl, rfl⟩
    go_wp2_with fail
    refine (refPower_any a0 _ b0 c0).mono ?_
    rintro e wn ⟨rfl, rfl⟩
    go_wp2
    go_ret
    exact ⟨rfl, HA.out⟩
  · have HD1 := Lib.hid (hd2 (by omega))
    clear hd1 hd2
    go_enter Try.func3, Try.ntmps3
    go_wp2_with fail
    refine (alive_true _).mono ?_
    rintro e w1 ⟨rfl, hb1⟩
    go_wp2_with fail
    refine (g_add w _ a0 a1 b0 c0 b1 c1 hb1).mono ?_
    rintro e w2 ⟨rfl, hb2⟩
    clear hb1
    go_wp2_with fail
    refine (refAdd_any a0 a1 _ b0 c0 b1 c1).mono ?_
    rintro e wn ⟨rfl, rfl⟩
    go_wp2_with fail
    refine (g_times w _ a0 a1 b0 c0 b1 c1 hb2).mono ?_
    rintro e w3 ⟨rfl, hb3⟩
    clear hb2
    have HA := Lib.hid hb3
    clear hb3
    go_wp2_with fail
    refine (refTimes_any a0 a1 _ b0 c0 b1 c1).mono ?_
    rintro e wn ⟨rfl, rfl⟩
    go_wp2_with fail
    refine (sub_any a0 a1 _ b0 c0 b1 c1).mono ?_
    rintro e wn ⟨rfl, rfl⟩
    rw [HD.out, HD1.out]
    go_wp2_with fail
    refine (backoff_any a0 a2 _ b0 c0 b2 c2).mono ?_
    rintro e wn ⟨rfl, rfl⟩
    go_wp2_with fail
    refine (refBackoff_any a0 a2 _ b0 c0 b2 c2).mono ?_
    rintro e wn ⟨rfl, rfl⟩
    go_wp2_with fail
    refine (power_any a0 _ b0 c0).mono ?_
    rintro e wn ⟨rfl, rfl⟩
    go_wp2_with fail
    refine (refPower_any a0 _ b0 c0).mono ?_
    rintro e wn ⟨rfl, rfl⟩
    go_wp2
    go_ret
    exact ⟨rfl, HA.out⟩

set_option maxHeartbeats 1000000 in
theorem ticksOrder_walk (a0 a1 a2 : Int) (w : World) (w0 : (Lit.int .u64 a0).wf = true) (w1 : (Lit.int .u64 a1).wf = true) (w2 : (Lit.int .u64 a2).wf = true) :
    Calls Try.prog 7 #[.int .u64 a0, .int .u64 a1, .int .u64 a2] w fun e w' => e = .returned (.bool true) ∧ Below w.heap.size w w' := by
  obtain ⟨b0, c0⟩ := bounds_u64 w0
  obtain ⟨b1, c1⟩ := bounds_u64 w1
  obtain ⟨b2, c2⟩ := bounds_u64 w2
  clear w0 w1 w2
  obtain ⟨g1, g2, g3⟩ := Tk.add_ge a0 a1 b0 c0 b1 c1
  have hm := Tk.add_mono a0 a1 a2
  have HC := Lib.hid (Tk.add_comm a0 a1)
  have HT := Lib.hid (Tk.times_comm a0 a1)
  have H1 := Lib.hid (Tk.times_one a0 c0)
  have HS := fun h => Lib.hid (Tk.sub_add a0 a1 b0 b1 h)
  obtain ⟨s, hs⟩ : ∃ s, Tk.add a0 a1 = s := ⟨_, rfl⟩
  obtain ⟨t, ht⟩ : ∃ t, Tk.add a0 a2 = t := ⟨_, rfl⟩
  rw [hs] at g1 g2 g3 hm HC HS
  rw [ht] at hm
  have HSS := Lib.hid hs
  have HTT := Lib.hid ht
  clear hs ht
  have hs0 : 0 ≤ s := by omega
  by_cases hlt : a2 < a1
  · clear hm
    by_cases hn : s = 18446744073709551615
    · subst hn
      clear HS
      go_enter Try.func7, Try.ntmps7
      go_wp2_with fail
      refine (alive_true _).mono ?_
      rintro e w1 ⟨rfl, hb1⟩
      go_wp2_with fail
      refine (g_add w _ a0 a1 b0 c0 b1 c1 hb1).mono ?_
      rintro e w2 ⟨rfl, hb2⟩
      rw [HSS.out]
      clear hb1
      go_wp2_with fail
      refine (g_add w _ a0 a2 b0 c0 b2 c2 hb2).mono ?_
      rintro e w3 ⟨rfl, hb3⟩
      rw [HTT.out]
      clear hb2
      go_wp2_with fail
      refine (g_add w _ a1 a0 b1 c1 b0 c0 hb3).mono ?_
      rintro e w4 ⟨rfl, hb4⟩
      rw [HC.out]
      clear hb3
      go_wp2_with fail
      refine (g_times w _ a0 a1 b0 c0 b1 c1 hb4).mono ?_
      rintro e w5 ⟨rfl, hb5⟩
      clear hb4
      go_wp2_with fail
      refine (g_times w _ a1 a0 b1 c1 b0 c0 hb5).mono ?_
      rintro e w6 ⟨rfl, hb6⟩
      rw [HT.out]
      clear hb5
      go_wp2_with fail
      refine (g_times w _ a0 1 b0 c0 (by omega) (by omega) hb6).mono ?_
      rintro e w7 ⟨rfl, hb7⟩
      rw [H1.out]
      clear hb6
      have HA := Lib.hid hb7
      clear hb7
      go_wp2
      go_ret
      exact ⟨rfl, HA.out⟩
    · have HSA := HS hn
      have hn' : (s == 18446744073709551615) = false := by simp [hn]
      clear hn HS
      go_enter Try.func7, Try.ntmps7
      go_wp2_with fail
      refine (alive_true _).mono ?_
      rintro e w1 ⟨rfl, hb1⟩
      go_wp2_with fail
      refine (g_add w _ a0 a1 b0 c0 b1 c1 hb1).mono ?_
      rintro e w2 ⟨rfl, hb2⟩
      rw [HSS.out]
      clear hb1
      go_wp2_with fail
      refine (g_add w _ a0 a2 b0 c0 b2 c2 hb2).mono ?_
      rintro e w3 ⟨rfl, hb3⟩
      rw [HTT.out]
      clear hb2
      go_wp2_with fail
      refine (g_add w _ a1 a0 b1 c1 b0 c0 hb3).mono ?_
      rintro e w4 ⟨rfl, hb4⟩
      rw [HC.out]
      clear hb3
      go_wp2_with fail
      refine (g_times w _ a0 a1 b0 c0 b1 c1 hb4).mono ?_
      rintro e w5 ⟨rfl, hb5⟩
      clear hb4
      go_wp2_with fail
      refine (g_times w _ a1 a0 b1 c1 b0 c0 hb5).mono ?_
      rintro e w6 ⟨rfl, hb6⟩
      rw [HT.out]
      clear hb5
      go_wp2_with fail
      refine (g_times w _ a0 1 b0 c0 (by omega) (by omega) hb6).mono ?_
      rintro e w7 ⟨rfl, hb7⟩
      rw [H1.out]
      clear hb6
      have HA := Lib.hid hb7
      clear hb7
      go_wp2_with fail
      refine (sub_any s a1 _ hs0 g3 b1 c1).mono ?_
      rintro e wn ⟨rfl, rfl⟩
      rw [HSA.out]
      go_wp2
      go_ret
      exact ⟨rfl, HA.out⟩
  · have hst := hm (by omega)
    have hlt2 : a1 ≤ a2 := by omega
    clear hm hlt
    by_cases hn : s = 18446744073709551615
    · subst hn
      clear HS
      go_enter Try.func7, Try.ntmps7
      go_wp2_with fail
      refine (alive_true _).mono ?_
      rintro e w1 ⟨rfl, hb1⟩
      go_wp2_with fail
      refine (g_add w _ a0 a1 b0 c0 b1 c1 hb1).mono ?_
      rintro e w2 ⟨rfl, hb2⟩
      rw [HSS.out]
      clear hb1
      go_wp2_with fail
      refine (g_add w _ a0 a2 b0 c0 b2 c2 hb2).mono ?_
      rintro e w3 ⟨rfl, hb3⟩
      rw [HTT.out]
      clear hb2
      go_wp2_with fail
      refine (g_add w _ a1 a0 b1 c1 b0 c0 hb3).mono ?_
      rintro e w4 ⟨rfl, hb4⟩
      rw [HC.out]
      clear hb3
      go_wp2_with fail
      refine (g_times w _ a0 a1 b0 c0 b1 c1 hb4).mono ?_
      rintro e w5 ⟨rfl, hb5⟩
      clear hb4
      go_wp2_with fail
      refine (g_times w _ a1 a0 b1 c1 b0 c0 hb5).mono ?_
      rintro e w6 ⟨rfl, hb6⟩
      rw [HT.out]
      clear hb5
      go_wp2_with fail
      refine (g_times w _ a0 1 b0 c0 (by omega) (by omega) hb6).mono ?_
      rintro e w7 ⟨rfl, hb7⟩
      rw [H1.out]
      clear hb6
      have HA := Lib.hid hb7
      clear hb7
      go_wp2
      go_ret
      exact ⟨rfl, HA.out⟩
    · have HSA := HS hn
      have hn' : (s == 18446744073709551615) = false := by simp [hn]
      clear hn HS
      go_enter Try.func7, Try.ntmps7
      go_wp2_with fail
      refine (alive_true _).mono ?_
      rintro e w1 ⟨rfl, hb1⟩
      go_wp2_with fail
      refine (g_add w _ a0 a1 b0 c0 b1 c1 hb1).mono ?_
      rintro e w2 ⟨rfl, hb2⟩
      rw [HSS.out]
      clear hb1
      go_wp2_with fail
      refine (g_add w _ a0 a2 b0 c0 b2 c2 hb2).mono ?_
      rintro e w3 ⟨rfl, hb3⟩
      rw [HTT.out]
      clear hb2
      go_wp2_with fail
      refine (g_add w _ a1 a0 b1 c1 b0 c0 hb3).mono ?_
      rintro e w4 ⟨rfl, hb4⟩
      rw [HC.out]
      clear hb3
      go_wp2_with fail
      refine (g_times w _ a0 a1 b0 c0 b1 c1 hb4).mono ?_
      rintro e w5 ⟨rfl, hb5⟩
      clear hb4
      go_wp2_with fail
      refine (g_times w _ a1 a0 b1 c1 b0 c0 hb5).mono ?_
      rintro e w6 ⟨rfl, hb6⟩
      rw [HT.out]
      clear hb5
      go_wp2_with fail
      refine (g_times w _ a0 1 b0 c0 (by omega) (by omega) hb6).mono ?_
      rintro e w7 ⟨rfl, hb7⟩
      rw [H1.out]
      clear hb6
      have HA := Lib.hid hb7
      clear hb7
      go_wp2_with fail
      refine (sub_any s a1 _ hs0 g3 b1 c1).mono ?_
      rintro e wn ⟨rfl, rfl⟩
      rw [HSA.out]
      go_wp2
      go_ret
      exact ⟨rfl, HA.out⟩

set_option maxHeartbeats 1000000 in
theorem ticksBack_walk (a0 a1 a2 : Int) (w : World) (w0 : (Lit.int .u64 a0).wf = true) (w1 : (Lit.int .u8 a1).wf = true) (w2 : (Lit.int .u8 a2).wf = true) :
    Calls Try.prog 8 #[.int .u64 a0, .int .u8 a1, .int .u8 a2] w fun e w' => e = .returned (.bool true) ∧ Below w.heap.size w w' := by
  obtain ⟨b0, c0⟩ := bounds_u64 w0
  obtain ⟨b1, c1⟩ := bounds_u8 w1
  obtain ⟨b2, c2⟩ := bounds_u8 w2
  clear w0 w1 w2
  obtain ⟨m, hm⟩ : ∃ m : Nat, a1 % 40 = m := Int.eq_ofNat_of_zero_le (by omega)
  obtain ⟨n, hn⟩ : ∃ n : Nat, a2 % 40 = n := Int.eq_ofNat_of_zero_le (by omega)
  have hm1 : m < 40 := by omega
  have hn1 : n < 40 := by omega
  have HT := Lib.hid (show Tk.bko (Tk.bko a0 m) n = Tk.bko a0 ((m : Int) + n) by rw [Tk.bko_twice a0 m n b0]; simp)
  have hg := Tk.bko_ge a0 m b0 c0
  obtain ⟨k0, k1⟩ := Tk.bko_bound a0 m b0
  have hg2 := Tk.bko_ge (Tk.bko a0 m) n k0 k1
  rw [HT.out] at hg2
  obtain ⟨s, hs⟩ : ∃ s, Tk.bko a0 m = s := ⟨_, rfl⟩
  rw [hs] at HT hg k0 k1 hg2
  have HS := Lib.hid hs
  clear hs
  obtain ⟨t, ht⟩ : ∃ t, Tk.bko a0 ((m : Int) + n) = t := ⟨_, rfl⟩
  rw [ht] at HT hg2
  have HTT := Lib.hid ht
  clear ht
  have hge : a0 ≤ t := by omega
  clear hg hg2
  go_enter Try.func8, Try.ntmps8
  go_wp2_with fail
  refine (alive_true _).mono ?_
  rintro e w1 ⟨rfl, hb1⟩
  have HA := Lib.hid hb1
  clear hb1
  go_wp2_with fail
  refine (backoff_any a0 m _ b0 c0 (by omega) (by omega)).mono ?_
  rintro e wn ⟨rfl, rfl⟩
  rw [HS.out]
  go_wp2_with fail
  refine (backoff_any s n _ k0 k1 (by omega) (by omega)).mono ?_
  rintro e wn ⟨rfl, rfl⟩
  rw [HT.out]
  go_wp2_with fail
  refine (backoff_any a0 ((m : Int) + n) _ b0 c0 (by omega) (by omega)).mono ?_
  rintro e wn ⟨rfl, rfl⟩
  rw [HTT.out]
  go_wp2
  go_ret
  exact ⟨rfl, HA.out⟩

set_option maxHeartbeats 1000000 in
theorem ticksPowers_walk (a0 : Int) (w : World) (w0 : (Lit.int .u16 a0).wf = true) :
    Calls Try.prog 6 #[.int .u16 a0] w fun e w' => e = .returned (.bool true) ∧ Below w.heap.size w w' := by
  obtain ⟨b0, c0⟩ := bounds_u16 w0
  clear w0
  obtain ⟨n, rfl⟩ := Int.eq_ofNat_of_zero_le b0
  have P0 := Lib.hid (show Pw.pw (0 : Int).toNat = false by decide +kernel)
  go_enter Try.func6, Try.ntmps6
  go_wp2_with fail
  refine (alive_true _).mono ?_
  rintro e w1 ⟨rfl, hb1⟩
  have HA := Lib.hid hb1
  clear hb1
  go_wp2
  go_loop [4, 5] (fun q x => ∃ k j : Nat, x = .int .i64 (j : Nat) ∧ q = .int .i64 (k : Nat) ∧ 1 ≤ j ∧ j ≤ 131072 ∧ k ≤ 17 ∧ Hid (j = 2 ^ k ∧ (k = 0 ∨ 2 ^ (k - 1) ≤ n))) (fun _ x => 131073 - (intOf x).toNat)
  case atStart => exact ⟨0, 1, rfl, rfl, by omega, by omega, by omega, ⟨rfl, .inl rfl⟩⟩
  case round =>
    obtain ⟨q, x, rfl, rfl, hx1, hx2, hq, HQ⟩ := hrel
    by_cases hle : x ≤ n
    · have hq16 : q ≤ 16 := by
        rcases Nat.lt_or_ge 16 q with h | h
        · have h1 := HQ.out.1
          have h2 := Nat.pow_le_pow_right (n := 2) (by decide) h
          have : (2 : Nat) ^ (16 + 1) = 131072 := by decide
          omega
        · exact h
      go_wp2
      go_round
      case rel => exact ⟨q + 1, 2 * x, by go_num, by go_num, by omega, by omega, by omega, ⟨by rw [Nat.pow_succ, HQ.out.1]; omega, .inr (by simp; rw [← HQ.out.1]; exact hle)⟩⟩
      case measure => simp [intOf]; omega
    · have HE := Lib.hid (Pw.cnt_eq n q (by rw [← HQ.out.1]; omega) HQ.out.2)
      go_wp2
      go_loop [3, 6] (fun p i => ∃ j : Nat, j ≤ n ∧ i = .int .i64 (j + 1 : Nat) ∧ p = .int .i64 (Pw.cnt j : Nat)) (fun _ i => n + 1 - (intOf i).toNat)
      case atStart => exact ⟨0, by omega, rfl, rfl⟩
      case round =>
        obtain ⟨j, hj, rfl, rfl⟩ := hrel
        have hc := Pw.cnt_le j
        obtain ⟨c, hcj⟩ : ∃ c, Pw.cnt j = c := ⟨_, rfl⟩
        rw [hcj] at hc
        rw [hcj]
        have HC := Lib.hid hcj
        clear hcj
        have hcast : ((j + 1 : Nat) : Int) = (j : Int) + 1 := by omega
        have HCA := Lib.hid hcast
        clear hcast
        by_cases hlt : j < n
        · rw [HCA.out]
          have HJ := Lib.hid (show ((j : Int) + 1).toNat = j + 1 by omega)
          cases hp : Pw.pw (j + 1)
          all_goals
            have HP := Lib.hid hp
            clear hp
            go_wp2_with fail
            refine (power_any ((j : Int) + 1) _ (by omega) (by omega)).mono ?_
            rintro e wn ⟨rfl, rfl⟩
            rw [HJ.out, HP.out]
            go_wp2
            go_round
            case rel => exact ⟨j + 1, by omega, by go_num, by rw [Pw.cnt, HC.out, HP.out]; rfl⟩
            case measure => simp [intOf]; omega
        · obtain rfl : j = n := by omega
          rw [HCA.out]
          obtain rfl : c = q := by rw [← HC.out]; exact HE.out
          clear hlt
          go_wp2_with fail
          refine (power_any 0 _ (by omega) (by omega)).mono ?_
          rintro e wn ⟨rfl, rfl⟩
          rw [P0.out]
          go_wp2
          go_ret
          exact ⟨rfl, HA.out⟩

set_option maxHeartbeats 1000000 in
theorem ticksSlow_walk (a0 a1 : Int) (A2 : Option Addr) (n2 c2 : Nat) (l2 : List Int) (w : World) (w0 : (Lit.int .u8 a0).wf = true) (w1 : (Lit.int .u8 a1).wf = true) (i2 : Ints .u8 w A2 n2 l2) (x2 : n2 ≤ maxLen) :
    Calls Try.prog 5 #[.int .u8 a0, .int .u8 a1, .slice A2 n2 c2] w fun e w' => e = .returned (.bool true) ∧ Below w.heap.size w w' := by
  obtain ⟨b0, c0⟩ := bounds_u8 w0
  obtain ⟨b1, c1⟩ := bounds_u8 w1
  unfold maxLen at x2
  clear w0 w1
  by_cases hz : a1 = 0
  · subst hz
    clear i2
    by_cases hbig : 200 < n2
    · skip
      go_enter Try.func5, Try.ntmps5
      go_wp2_with fail
      refine (alive_true _).mono ?_
      rintro e w1 ⟨rfl, hb1⟩
      have HA := Lib.hid hb1
      clear hb1
      go_wp2_with fail
      refine (newBucket_none a0 _).mono ?_
      rintro e wn ⟨rfl, rfl⟩
      go_wp2
      go_ret
      exact ⟨rfl, HA.out⟩
    · have hsm : (n2 : Int) ≤ 200 := by omega
      go_enter Try.func5, Try.ntmps5
      go_wp2_with fail
      refine (alive_true _).mono ?_
      rintro e w1 ⟨rfl, hb1⟩
      have HA := Lib.hid hb1
      clear hb1
      go_wp2_with fail
      refine (newBucket_none a0 _).mono ?_
      rintro e wn ⟨rfl, rfl⟩
      go_wp2
      go_ret
      exact ⟨rfl, HA.out⟩
  have hz1 : 1 ≤ a1 := by omega
  have hz0 : (a1 == 0) = false := by simp [hz]
  clear hz
  by_cases hbig : 200 < n2
  · clear i2
    go_enter Try.func5, Try.ntmps5
    go_wp2_with fail
    refine (alive_true _).mono ?_
    rintro e w1 ⟨rfl, hb1⟩
    go_wp2_with fail
    refine (g_new w _ a0 a1 (by omega) (by omega) (by omega) (by omega) hb1).mono ?_
    rintro e w2 ⟨x, rfl, h0⟩
    have HA := Lib.hid h0.below
    clear h0 hb1
    go_wp2
    go_ret
    exact ⟨rfl, HA.out⟩
  · have hsm : (n2 : Int) ≤ 200 := by omega
    clear hbig
    go_enter Try.func5, Try.ntmps5
    go_wp2_with fail
    refine (alive_true _).mono ?_
    rintro e w1 ⟨rfl, hb1⟩
    go_wp2_with fail
    refine (g_new w _ a0 a1 (by omega) (by omega) (by omega) (by omega) hb1).mono ?_
    rintro e w2 ⟨x, rfl, h0⟩
    clear hb1
    have HS0 := Lib.hid (Bk.slow_new a0 a1 (by omega) (by omega) (by omega) (by omega))
    go_wp2
    go_loopw [8, 9, 10] (fun p q i wr => ∃ (k : Nat) (now n : Int) (b : Bk.Bucket), k ≤ n2 ∧ i = .int .i64 k ∧ p = .int .u64 now ∧ q = .int .u64 n ∧ OwnB w x b wr ∧ 0 ≤ now ∧ now ≤ 255 * k ∧ 0 ≤ n ∧ n ≤ k ∧ Hid (Bk.slow b n now ∧ b.every = a1 ∧ b.size = a0)) (fun _ _ i _ => n2 - (intOf i).toNat)
    case atStart => exact ⟨0, _, _, _, by omega, rfl, rfl, rfl, h0, by omega, by omega, by omega, by omega, ⟨HS0.out, rfl, rfl⟩⟩
    case round =>
      obtain ⟨k, now, n, b, hk, rfl, rfl, rfl, HO, q0, q1, q2, q3, HS⟩ := hrel
      clear h0
      by_cases hlt : k < n2
      · obtain ⟨e1, e2, e3⟩ := i2
        obtain ⟨B, off, rfl, hB, hc⟩ := e3 (by omega)
        have G0 := Lib.hid (hc k hlt)
        have rt := bounds_u8 (e2 (l2.getD k 0) (by
          rw [List.getD_eq_getElem?_getD, List.getElem?_eq_getElem (by omega)]; exact List.getElem_mem _))
        clear hc e2 e3
        generalize l2.getD k 0 = t at *
        obtain ⟨rt0, rt1⟩ := rt
        have g := (HO.below.cell (p := ⟨B, off + k, none⟩) hB).trans G0.out
        obtain ⟨f1, f2, f3⟩ := HS.out
        obtain ⟨s1, s2, s3⟩ := Bk.slow_take b n now (now + t) f1 (by omega) (by omega)
        have s4 := Bk.slow_le _ _ _ s1
        rw [s2, s3, f2, f3] at s4
        rw [f2] at s2
        rw [f3] at s3
        have d0 : 0 ≤ (now + t) / a1 := Int.ediv_nonneg (by omega) (by omega)
        have d1 : (now + t) / a1 ≤ now + t := Int.ediv_le_self _ (by omega)
        clear f1 f2 f3
        cases hp : Bk.takes b (now + t)
        · rw [hp] at s1 s4
          simp at s1 s4
          have HS2 : Hid (Bk.slow (Bk.take b (now + t)) (n) (now + t) ∧ (Bk.take b (now + t)).every = a1 ∧ (Bk.take b (now + t)).size = a0) := ⟨s1, s2, s3⟩
          have HP := Lib.hid hp
          clear s1 s2 s3 hp
          go_wp2_with fail
          refine (g_take w _ x b (now + t) HO (by omega) (by omega)).mono ?_
          rintro e w4 ⟨rfl, h4⟩
          rw [HP.out]
          go_wp2
          go_roundw
          case rel => exact ⟨k + 1, _, _, _, by omega, by go_num, rfl, rfl, h4, by omega, by omega, by omega, by omega, HS2⟩
          case measure => simp [intOf]; omega
        · rw [hp] at s1 s4
          simp at s1 s4
          have HS2 : Hid (Bk.slow (Bk.take b (now + t)) (n + 1) (now + t) ∧ (Bk.take b (now + t)).every = a1 ∧ (Bk.take b (now + t)).size = a0) := ⟨s1, s2, s3⟩
          have HP := Lib.hid hp
          clear s1 s2 s3 hp
          go_wp2_with fail
          refine (g_take w _ x b (now + t) HO (by omega) (by omega)).mono ?_
          rintro e w4 ⟨rfl, h4⟩
          rw [HP.out]
          go_wp2
          go_roundw
          case rel => exact ⟨k + 1, _, _, _, by omega, by go_num, rfl, rfl, h4, by omega, by omega, by omega, by omega, HS2⟩
          case measure => simp [intOf]; omega
      · obtain rfl : k = n2 := by omega
        clear hlt
        go_wp2
        go_ret
        exact ⟨rfl, HO.below⟩

set_option maxRecDepth 100000 in
set_option maxHeartbeats 1000000 in
theorem ticksLeft_walk (a0 a1 a2 : Int) (w : World) (w0 : (Lit.int .u8 a0).wf = true) (w1 : (Lit.int .u8 a1).wf = true) (w2 : (Lit.int .u16 a2).wf = true) :
    Calls Try.prog 9 #[.int .u8 a0, .int .u8 a1, .int .u16 a2] w fun e w' => e = .returned (.bool true) ∧ Below w.heap.size w w' := by
  obtain ⟨b0, c0⟩ := bounds_u8 w0
  obtain ⟨b1, c1⟩ := bounds_u8 w1
  obtain ⟨b2, c2⟩ := bounds_u16 w2
  clear w0 w1 w2
  by_cases hz : a1 = 0
  · subst hz
    go_enter Try.func9, Try.ntmps9
    go_wp2_with fail
    refine (alive_true _).mono ?_
    rintro e w1 ⟨rfl, hb1⟩
    have HA := Lib.hid hb1
    clear hb1
    go_wp2_with fail
    refine (newBucket_none a0 _).mono ?_
    rintro e wn ⟨rfl, rfl⟩
    go_wp2
    go_ret
    exact ⟨rfl, HA.out⟩
  have hz1 : 1 ≤ a1 := by omega
  have hz0 : (a1 == 0) = false := by simp [hz]
  clear hz
  obtain ⟨s, rfl⟩ := Int.eq_ofNat_of_zero_le b0
  have hse0 : 0 ≤ (s : Int) * a1 := Int.mul_nonneg (by omega) (by omega)
  have hse1 : (s : Int) * a1 ≤ 65025 := by
    have h1 : (s : Int) * a1 ≤ 255 * a1 := Int.mul_le_mul_of_nonneg_right (by omega) (by omega)
    omega
  have HL := Lib.hid (Bk.left_full s a1 a2 (by omega) (by omega) (by omega))
  have HE := Lib.hid (Bk.take_empty s a1 (by omega) (by omega))
  have HU := Lib.hid (show (Bk.upto ⟨s, a1, 0, 0⟩ 0).tokens = 0 by rw [Bk.upto_start s a1 0 (by omega) (by omega) (by omega)])
  go_enter Try.func9, Try.ntmps9
  go_wp2_with fail
  refine (alive_true _).mono ?_
  rintro e w1 ⟨rfl, hb1⟩
  go_wp2_with fail
  refine (g_new w _ s a1 (by omega) (by omega) (by omega) (by omega) hb1).mono ?_
  rintro e w2 ⟨x, rfl, h0⟩
  clear hb1
  go_wp2
  go_loopw [8, 9] (fun q i wr => ∃ k : Nat, k ≤ s ∧ i = .int .i64 k ∧ q = .int .i64 k ∧ OwnB w x ⟨s, a1, (s : Int) - k, 0⟩ wr) (fun _ i _ => 300 - (intOf i).toNat)
  case atStart => exact ⟨0, by omega, rfl, rfl, by rw [show ((0 : Nat) : Int) = 0 from rfl, Int.sub_zero]; exact h0⟩
  case round =>
    obtain ⟨k, hk, rfl, rfl, HO⟩ := hrel
    clear h0
    have h300 : (k : Int) < 300 := by omega
    by_cases hlt : k < s
    · have HT := Lib.hid (Bk.take_start s a1 ((s : Int) - k) (by omega) (by omega) (by omega))
      go_wp2_with fail
      refine (g_take w _ x _ 0 HO (by omega) (by omega)).mono ?_
      rintro e w4 ⟨rfl, h4⟩
      rw [HT.out.2]
      rw [HT.out.1] at h4
      go_wp2
      go_roundw
      case rel => exact ⟨k + 1, by omega, by go_num, by go_num, by rw [show ((k + 1 : Nat) : Int) = (k : Int) + 1 by omega, show (s : Int) - ((k : Int) + 1) = (s : Int) - k - 1 by omega]; exact h4⟩
      case measure => simp [intOf]; omega
    · obtain rfl : k = s := by omega
      clear hlt
      rw [show (k : Int) - k = 0 by omega] at HO
      go_wp2_with fail
      refine (g_take w _ x _ 0 HO (by omega) (by omega)).mono ?_
      rintro e w4 ⟨rfl, h4⟩
      rw [HE.out.2]
      rw [HE.out.1] at h4
      clear HO
      go_wp2_with fail
      refine (g_left w _ x _ 0 h4 (by omega) (by omega)).mono ?_
      rintro e w5 ⟨rfl, h5⟩
      rw [HU.out]
      clear h4
      go_wp2_with fail
      refine (g_left w _ x _ ((k : Int) * a1 + a2) h5 (by omega) (by omega)).mono ?_
      rintro e w6 ⟨rfl, h6⟩
      rw [HL.out]
      clear h5
      go_wp2
      go_ret
      exact ⟨rfl, h6.below⟩


end Go.Proofs.Ytjgoeakhodpcaaa
