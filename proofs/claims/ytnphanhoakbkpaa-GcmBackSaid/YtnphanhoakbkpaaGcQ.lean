/- Layer 9's gcm, walked: GcmBack. -/
import Derived.RangeFuncNested
import Derived.RangeFuncBound
import Derived.RangeFuncCalls
import Derived.RangeFuncLeaves
import Derived.RangeFuncBox
import Derived.Shelf.Abstract
import Derived.Shelf.RegionOpen
import Derived.WalkKit
import Derived.OwnWalkIn
import Derived.TacticsInMore
import Derived.LoopN
import Derived.LoopNIn
import Derived.LoopIn
import Derived.WalkSpells
import Derived.WalkLawsBesides
import Derived.Laws.Rows
import Derived.Laws.EntriesVeiled
import Derived.Laws.BitsAllLaws
import Derived.Handy
import Derived.BigQuiet
import Derived.Deep.QuietTactic
import Derived.IntWalk
import Derived.Lib.Hide
import Derived.Outline
import Derived.Test.YtnphanhoakbkpaaRows
import Derived.Test.YtnphanhoakbkpaaAid
import Derived.Test.YtnphanhoakbkpaaPlainAe
import Derived.Test.YtnphanhoakbkpaaPlainAe2
import Derived.Test.YtnphanhoakbkpaaPlainGc
import Derived.Test.YtnphanhoakbkpaaPlainGc2
import Derived.Test.YtnphanhoakbkpaaAesB
import Derived.Test.YtnphanhoakbkpaaAesBox
import Derived.Test.YtnphanhoakbkpaaAesW
import Derived.Test.YtnphanhoakbkpaaAesE
import Derived.Test.YtnphanhoakbkpaaAesK
import Derived.Test.YtnphanhoakbkpaaAesS
import Derived.Test.YtnphanhoakbkpaaAesT
import Derived.Test.YtnphanhoakbkpaaBl
import Derived.Test.YtnphanhoakbkpaaItF
import Derived.Test.YtnphanhoakbkpaaGcA
import Derived.Test.YtnphanhoakbkpaaGcB
import Derived.Test.YtnphanhoakbkpaaGcD
import Derived.Test.YtnphanhoakbkpaaGcE
import Derived.Test.YtnphanhoakbkpaaGcF
import Derived.Test.YtnphanhoakbkpaaGcG
import Derived.Test.YtnphanhoakbkpaaGcH
import Derived.Test.YtnphanhoakbkpaaGcI
import Derived.Test.YtnphanhoakbkpaaGcJ
import Derived.Test.YtnphanhoakbkpaaGcK
import Derived.Test.YtnphanhoakbkpaaGcL
import Derived.Test.YtnphanhoakbkpaaGcM
namespace Go.Gc
open Go.Proofs.Ytnphanhoakbkpaa
theorem openC_turned (key nonce more text : List Nat) (a y : Nat) (ha : a < 16) (hy : y ≠ (sealT key nonce more text).getD (text.length + a) 0) :
    openC key nonce more ((sealT key nonce more text).set (text.length + a) y) = (7, []) := by
  have hl : ((sealT key nonce more text).set (text.length + a) y).length = text.length + 16 := by rw [List.length_set, sealT_len]
  unfold openC openT
  rw [if_neg (by rw [hl]; omega), hl, Nat.add_sub_cancel]
  have h1 : ((sealT key nonce more text).set (text.length + a) y).take text.length = ciph key nonce text := by
    rw [List.take_set_of_le (by omega)]
    unfold sealT
    rw [← ciph_len key nonce text, List.take_left]
  have h2 : ((sealT key nonce more text).set (text.length + a) y).drop text.length = (tag key (b1 nonce) more (ciph key nonce text)).set a y := by
    unfold sealT
    rw [List.set_append_right _ _ (by rw [ciph_len]; omega), ciph_len, Nat.add_sub_cancel_left, ← ciph_len key nonce text, List.drop_left]
  have h3 : (sealT key nonce more text).getD (text.length + a) 0 = (tag key (b1 nonce) more (ciph key nonce text)).getD a 0 := by
    unfold sealT
    rw [List.getD_eq_getElem?_getD, List.getD_eq_getElem?_getD, List.getElem?_append_right (by rw [ciph_len]; omega), ciph_len, Nat.add_sub_cancel_left]
  rw [h1, h2]
  rw [h3] at hy
  have hne : tag key (b1 nonce) more (ciph key nonce text) ≠ (tag key (b1 nonce) more (ciph key nonce text)).set a y := fun e => by
    have h4 := congrArg (fun l => l.getD a 0) e
    simp only [List.getD_eq_getElem?_getD, List.getElem?_set_self (show a < (tag key (b1 nonce) more (ciph key nonce text)).length by rw [tag_len]; exact ha)] at h4
    exact hy (by rw [List.getD_eq_getElem?_getD, h4]; rfl)
  rw [if_neg hne]
end Go.Gc
namespace Go.Proofs.Ytnphanhoakbkpaa
open Go Go.RowKit Go.Shelf
set_option linter.unusedVariables false
set_option linter.unusedSimpArgs false
theorem rowT_rd {w : World} {g : Nat} {t : TypeId} {l : List Nat} {tail : List Value} (h : Obj w g t (rowT l tail)) : Rd w (some ⟨g, 0, none⟩) l := fun _ =>
  ⟨g, 0, rfl, h.lt, fun j hj => by rw [Nat.zero_add]; exact h.getT j hj⟩
theorem w64_nat (z : Nat) (h : z < 100000) : wrap64 (z : Int) = (z : Int) := by unfold wrap64; omega
theorem back_facts {m K a b n3 : Nat} (hm : m < 65536) (hK : m % 128 = K) (ha : K / 8 = a) (hb : K % 8 = b) (h3 : n3 ≤ 200) :
    (m : Int).tmod 128 = (K : Int) ∧ (K : Int).tdiv 8 = (a : Int) ∧ (K : Int).tmod 8 = (b : Int) ∧ wrap64 (m : Int) = (m : Int) ∧ wrap64 (K : Int) = (K : Int) ∧ wrap64 (a : Int) = (a : Int) ∧ wrap64 ((n3 + a : Nat) : Int) = ((n3 + a : Nat) : Int) := by
  refine ⟨?_, ?_, ?_, w64_nat _ (by omega), w64_nat _ (by omega), w64_nat _ (by omega), w64_nat _ (by omega)⟩
  · rw [Int.tmod_eq_emod_of_nonneg (Int.natCast_nonneg m)]; omega
  · rw [Int.tdiv_eq_ediv_of_nonneg (Int.natCast_nonneg K)]; omega
  · rw [Int.tmod_eq_emod_of_nonneg (Int.natCast_nonneg K)]; omega
/-- GcmBack's blocks. -/
def BkS (w : World) (k n : List Nat) (V : World) : Prop := Obj V w.heap.size 22 (cellsN k) ∧ Obj V (w.heap.size + 1) 28 (cellsN n) ∧ Below w.heap.size w V
theorem BkS.kept {w V V' : World} {k n : List Nat} (h : BkS w k n V) (hb : Below V.heap.size V V') : BkS w k n V' := ⟨h.1.kept hb, h.2.1.kept hb, h.2.2.trans (hb.mono h.2.2.size)⟩
theorem shl8 : ∀ b : Nat, b < 8 → IntKind.u8.wrap ((1 : Int) * 2 ^ b) = ((2 ^ b : Nat) : Int) := by decide

set_option maxRecDepth 100000 in
set_option maxHeartbeats 4000000 in
theorem gcmBack_small (k n : List Nat) (A1 : Option Addr) (n1 c1 : Nat) (more : List Nat) (A3 : Option Addr) (n3 c3 : Nat) (text : List Nat) (m : Nat) (w : World) (hk : k.length = 16) (qk : Ae.bytes k) (hn : n.length = 12) (qn : Ae.bytes n)
    (r1 : Rd w A1 more) (m1 : more.length = n1) (q1 : Ae.bytes more) (k1 : n1 ≤ 200 ∧ n1 ≤ c1 ∧ c1 ≤ 9223372036854775807) (r3 : Rd w A3 text) (m3 : text.length = n3) (q3 : Ae.bytes text) (k3 : n3 ≤ 200 ∧ n3 ≤ c3 ∧ c3 ≤ 9223372036854775807) (hm : m < 65536) :
    Calls Try.prog 5 #[.agg (cellsN k), .agg (cellsN n), .slice A1 n1 c1, .slice A3 n3 c3, .int .u16 (m : Int)] w fun e w' => e = .returned (.bool true) ∧ Below w.heap.size w w' := by
  obtain ⟨K, hK⟩ : ∃ K, m % 128 = K := ⟨_, rfl⟩
  obtain ⟨a, ha⟩ : ∃ a, K / 8 = a := ⟨_, rfl⟩
  obtain ⟨b, hb⟩ : ∃ b, K % 8 = b := ⟨_, rfl⟩
  have hK128 : K < 128 := by omega
  have ha16 : a < 16 := by omega
  have hb8 : b < 8 := by omega
  have e1 : (m : Int) % 128 = (K : Int) := by omega
  have e2 : (K : Int) / 8 = (a : Int) := by omega
  have e3 : (K : Int) % 8 = (b : Int) := by omega
  have HM := Lib.hid hm
  have HBF := Lib.hid (back_facts hm hK ha hb (show n3 ≤ 200 from k3.1))
  have t1 : ¬ (n1 : Int) > 200 := by omega
  have t3 : ¬ (n3 : Int) > 200 := by omega
  have t1' : ¬ 200 < (n1 : Int) := by omega
  have t3' : ¬ 200 < (n3 : Int) := by omega
  obtain ⟨s, hs⟩ : ∃ s, Gc.sealT k n more text = s := ⟨_, rfl⟩
  have ls : s.length = n3 + 16 := by rw [← hs, Gc.sealT_len, m3]
  have qs : Ae.bytes s := by rw [← hs]; exact Gc.sealT_bytes qk qn q3
  obtain ⟨x, hx⟩ : ∃ x, s.getD (n3 + a) 0 = x := ⟨_, rfl⟩
  have hx8 : x < 256 := by rw [← hx, List.getD_eq_getElem?_getD, List.getElem?_eq_getElem (by omega)]; exact qs _ (List.getElem_mem _)
  have hne : x ^^^ 2 ^ b ≠ x := fun e => by
    have h1 : (x ^^^ 2 ^ b) ^^^ x = x ^^^ x := by rw [e]
    rw [Nat.xor_comm x, Nat.xor_assoc, Nat.xor_self, Nat.xor_zero] at h1
    exact absurd h1 (Nat.pos_iff_ne_zero.1 (Nat.two_pow_pos b))
  have hop : Gc.openC k n more (s.set (n3 + a) (x ^^^ 2 ^ b)) = (7, []) := by
    rw [← hs, ← m3]
    refine Gc.openC_turned k n more text a _ ha16 ?_
    rw [hs, m3, hx]; exact hne
  have hop0 : Gc.openC k n more s = (0, text) := by rw [← hs]; exact Gc.openC_seal _ _ _ _
  have h2b : 2 ^ b < 256 := Nat.lt_of_lt_of_le (Nat.pow_lt_pow_right (by omega) hb8) (Nat.le_refl _)
  have qt : Ae.bytes (s.set (n3 + a) (x ^^^ 2 ^ b)) := fun c hc => by
    rcases List.mem_or_eq_of_mem_set hc with h | rfl
    · exact qs c h
    · exact Nat.xor_lt_two_pow (n := 8) hx8 h2b
  have hxr := u8_xor_nat x (2 ^ b) hx8 h2b
  have HSE : Hid (∀ W, Below w.heap.size w W → Calls Try.prog 17 #[.agg (cellsN k), .agg (cellsN n), .slice A1 n1 c1, .slice A3 n3 c3] W fun e w' => ∃ g cap tail, e = .returned (.slice (some ⟨g, 0, none⟩) (n3 + 16) cap) ∧ n3 + 16 ≤ cap ∧ cap ≤ 9223372036854775807 ∧ W.heap.size ≤ g ∧ Obj w' g 5 (rowT s tail) ∧ Below W.heap.size W w') := fun W hb =>
    (Seal_any k n A1 n1 c1 more A3 n3 c3 text W hk qk hn qn (r1.below hb) m1 q1 ⟨by omega, k1.2⟩ (r3.below hb) m3 q3 (by omega)).mono fun e w' ⟨v, e1, hown, h3⟩ => by
      rw [hs] at hown
      obtain ⟨g, cap, tail, rfl, h4, h5, h6, h7, _⟩ := own_row hown (by omega)
      exact ⟨g, cap, tail, e1, h5, by unfold maxLen at h7; exact h7, h4, h6, h3⟩
  have HO0 : Hid (∀ W A c, Below w.heap.size w W → Rd W A s → n3 + 16 ≤ c → c ≤ 9223372036854775807 → Calls Try.prog 14 #[.agg (cellsN k), .agg (cellsN n), .slice A1 n1 c1, .slice A (n3 + 16) c] W fun e w' => ∃ A' c', e = .returned (.tuple #[.slice A' n3 c', .int .i64 0]) ∧ Rd w' A' text ∧ Below W.heap.size W w') := fun W A c hb hr h1 h2 =>
    (Open_any k n A1 n1 c1 more A (n3 + 16) c s W hk qk hn qn (r1.below hb) m1 q1 ⟨by omega, k1.2⟩ hr ls qs ⟨by omega, h1, h2⟩).mono fun e w' ⟨A', n', c', e1, h5, h6, h7, h8⟩ => by
      rw [hop0] at e1 h5 h6
      obtain rfl : n3 = n' := m3 ▸ h6
      exact ⟨A', c', e1, h5, h8⟩
  have HO7 : Hid (∀ W A c, Below w.heap.size w W → Rd W A (s.set (n3 + a) (x ^^^ 2 ^ b)) → n3 + 16 ≤ c → c ≤ 9223372036854775807 → Calls Try.prog 14 #[.agg (cellsN k), .agg (cellsN n), .slice A1 n1 c1, .slice A (n3 + 16) c] W fun e w' => ∃ v, e = .returned (.tuple #[v, .int .i64 7]) ∧ Below W.heap.size W w') := fun W A c hb hr h1 h2 =>
    (Open_any k n A1 n1 c1 more A (n3 + 16) c _ W hk qk hn qn (r1.below hb) m1 q1 ⟨by omega, k1.2⟩ hr (by rw [List.length_set, ls]) qt ⟨by omega, h1, h2⟩).mono fun e w' ⟨A', n', c', e1, h5, h6, h7, h8⟩ => by
      rw [hop] at e1
      exact ⟨_, e1, h8⟩
  have HSM : Hid (∀ W A c, Below w.heap.size w W → Rd W A text → Calls Try.prog 16 #[.slice A n3 c, .slice A3 n3 c3] W fun e w' => e = .returned (.bool true) ∧ Below W.heap.size W w') := fun W A c hb hr =>
    (same_any A A3 c c3 n3 n3 text text W hr (r3.below hb) m3 m3 (by omega)).mono fun e w' ⟨h3, q, h4⟩ => ⟨by rw [h3, decide_eq_true rfl], below_drewN' h4⟩
  obtain ⟨W2, hW2⟩ : ∃ W2, (w.alloc (.cells (cellsN k) 22)).alloc (.cells (cellsN n) 28) = W2 := ⟨_, rfl⟩
  have HT0 : Hid (BkS w k n W2) := ⟨hW2 ▸ (Obj.new w _ _).alloc _, hW2 ▸ new2 w _ _ _, hW2 ▸ ((Below.refl _ w).alloc (Nat.le_refl _) _).alloc (by simp) _⟩
  have HIK := Lib.hid (size16 hk)
  have HIN := Lib.hid (size12 hn)
  have HW2 := Lib.hid hW2
  have HLS := Lib.hid ls
  have HX := Lib.hid hx
  obtain ⟨p, hp⟩ : ∃ p, n3 + a = p := ⟨_, rfl⟩
  have hpi : (n3 : Int) + (a : Int) = (p : Int) := by omega
  have hpl : p < n3 + 16 := by omega
  have hpli : (p : Int) < (n3 : Int) + 16 := by omega
  obtain ⟨y, hy⟩ : ∃ y, 2 ^ b = y := ⟨_, rfl⟩
  rw [hp, hy] at HO7
  clear HBF
  rw [hp] at HX
  rw [hy] at hxr
  have HBY : Hid ((b = 0 ∧ y = 1) ∨ (b = 1 ∧ y = 2) ∨ (b = 2 ∧ y = 4) ∨ (b = 3 ∧ y = 8) ∨ (b = 4 ∧ y = 16) ∨ (b = 5 ∧ y = 32) ∨ (b = 6 ∧ y = 64) ∨ (b = 7 ∧ y = 128)) := by
    have : b = 0 ∨ b = 1 ∨ b = 2 ∨ b = 3 ∨ b = 4 ∨ b = 5 ∨ b = 6 ∨ b = 7 := by omega
    rcases this with rfl | rfl | rfl | rfl | rfl | rfl | rfl | rfl <;> subst hy <;> unfold Hid <;> decide
  have HB8 := Lib.hid hb
  clear hW2 hk qk hn qn r1 m1 q1 r3 m3 q3 hs ls qs hx hx8 hne hop hop0 h2b qt hp ha hb hK hm
  obtain ⟨k1a, k1b, k1c⟩ := k1
  obtain ⟨k3a, k3b, k3c⟩ := k3
  go_enter Try.func5, Try.ntmps5
  go_wp2_with fail
  rw [HW2.out]
  refine (alive_true _).mono ?_
  rintro e w1 ⟨rfl, hb1⟩
  have HT1 := Lib.hid (HT0.out.kept hb1)
  clear hb1 HT0
  go_wp2_with (first
    | (refine wpList_load_row rfl 22 (.tmp 5) rfl _ rfl _ _ _ _ HT1.out.1 Try.underlying22 rfl HIK.out ?_)
    | (refine wpList_load_row rfl 28 (.tmp 6) rfl _ rfl _ _ _ _ HT1.out.2.1 Try.underlying28 rfl HIN.out ?_))
  refine (HSE.out _ HT1.out.2.2).mono ?_
  rintro e w2 ⟨g, cap, tail, rfl, hc1, hc2, hg, ho2, hb2⟩
  have HT2 := Lib.hid (HT1.out.kept hb2)
  have HO2 := Lib.hid ho2
  have HGW : Hid (w.heap.size + 1 < g) := Nat.lt_of_lt_of_le HT1.out.2.1.lt hg
  clear hb2 ho2 hg HT1
  go_wp2_with (first
    | (refine wpList_load_row rfl 22 (.tmp 5) rfl _ rfl _ _ _ _ HT2.out.1 Try.underlying22 rfl HIK.out ?_)
    | (refine wpList_load_row rfl 28 (.tmp 6) rfl _ rfl _ _ _ _ HT2.out.2.1 Try.underlying28 rfl HIN.out ?_))
  refine (HO0.out _ _ cap HT2.out.2.2 (rowT_rd HO2.out) hc1 hc2).mono ?_
  rintro e w3 ⟨A', c', rfl, hr3, hb3⟩
  have HT3 := Lib.hid (HT2.out.kept hb3)
  have HO3 := Lib.hid (HO2.out.kept hb3)
  have HR3 := Lib.hid hr3
  clear hb3 hr3 HO2 HT2
  go_wp2_with fail
  refine (HSM.out _ _ _ HT3.out.2.2 HR3.out).mono ?_
  rintro e w4 ⟨rfl, hb4⟩
  have HT4 := Lib.hid (HT3.out.kept hb4)
  have ho4 := HO3.out.kept hb4
  have HO4 := Lib.hid ho4
  have d0 := ho4.getT p (by rw [HLS.out]; exact hpl)
  rw [HX.out] at d0
  have d1 := ho4.free p
  have o5 := ho4.setT p (x ^^^ y) (by rw [HLS.out]; exact hpl)
  have b5 : Below w.heap.size w (w4.setCell ⟨g, p, none⟩ (.int .u8 ((x ^^^ y : Nat) : Int))) := HT4.out.2.2.setCell (by have := HGW.out; simp; omega) _
  have HT5 : Hid (BkS w k n (w4.setCell ⟨g, p, none⟩ (.int .u8 ((x ^^^ y : Nat) : Int)))) := ⟨HT4.out.1.far (by have := HGW.out; simp; omega) _, HT4.out.2.1.far (by have := HGW.out; simp; omega) _, b5⟩
  have HO5 := Lib.hid o5
  clear hb4 ho4 HO3 HT3 HR3 o5 b5
  have hmi : (m : Int) < 65536 := by have := HM.out; omega
  have hm := HM.out
  have hb8i : (b : Int) < 8 := by omega
  rcases HBY.out with ⟨rfl, rfl⟩ | ⟨rfl, rfl⟩ | ⟨rfl, rfl⟩ | ⟨rfl, rfl⟩ | ⟨rfl, rfl⟩ | ⟨rfl, rfl⟩ | ⟨rfl, rfl⟩ | ⟨rfl, rfl⟩
  · change bits .xor .u8 (x : Int) 1 = _ at hxr
    change (K : Int) % 8 = 0 at e3
    go_wp2_with (first
      | (refine wpList_load_row rfl 22 (.tmp 5) rfl _ rfl _ _ _ _ HT5.out.1 Try.underlying22 rfl HIK.out ?_)
      | (refine wpList_load_row rfl 28 (.tmp 6) rfl _ rfl _ _ _ _ HT5.out.2.1 Try.underlying28 rfl HIN.out ?_))
    refine (HO7.out _ _ cap HT5.out.2.2 (rowT_rd HO5.out) hc1 hc2).mono ?_
    rintro e w6 ⟨v6, rfl, hb6⟩
    have HT6 := Lib.hid (HT5.out.kept hb6)
    clear hb6
    go_wp2
    go_ret
    exact ⟨rfl, HT6.out.2.2⟩
  · change bits .xor .u8 (x : Int) 2 = _ at hxr
    change (K : Int) % 8 = 1 at e3
    go_wp2_with (first
      | (refine wpList_load_row rfl 22 (.tmp 5) rfl _ rfl _ _ _ _ HT5.out.1 Try.underlying22 rfl HIK.out ?_)
      | (refine wpList_load_row rfl 28 (.tmp 6) rfl _ rfl _ _ _ _ HT5.out.2.1 Try.underlying28 rfl HIN.out ?_))
    refine (HO7.out _ _ cap HT5.out.2.2 (rowT_rd HO5.out) hc1 hc2).mono ?_
    rintro e w6 ⟨v6, rfl, hb6⟩
    have HT6 := Lib.hid (HT5.out.kept hb6)
    clear hb6
    go_wp2
    go_ret
    exact ⟨rfl, HT6.out.2.2⟩
  · change bits .xor .u8 (x : Int) 4 = _ at hxr
    change (K : Int) % 8 = 2 at e3
    go_wp2_with (first
      | (refine wpList_load_row rfl 22 (.tmp 5) rfl _ rfl _ _ _ _ HT5.out.1 Try.underlying22 rfl HIK.out ?_)
      | (refine wpList_load_row rfl 28 (.tmp 6) rfl _ rfl _ _ _ _ HT5.out.2.1 Try.underlying28 rfl HIN.out ?_))
    refine (HO7.out _ _ cap HT5.out.2.2 (rowT_rd HO5.out) hc1 hc2).mono ?_
    rintro e w6 ⟨v6, rfl, hb6⟩
    have HT6 := Lib.hid (HT5.out.kept hb6)
    clear hb6
    go_wp2
    go_ret
    exact ⟨rfl, HT6.out.2.2⟩
  · change bits .xor .u8 (x : Int) 8 = _ at hxr
    change (K : Int) % 8 = 3 at e3
    go_wp2_with (first
      | (refine wpList_load_row rfl 22 (.tmp 5) rfl _ rfl _ _ _ _ HT5.out.1 Try.underlying22 rfl HIK.out ?_)
      | (refine wpList_load_row rfl 28 (.tmp 6) rfl _ rfl _ _ _ _ HT5.out.2.1 Try.underlying28 rfl HIN.out ?_))
    refine (HO7.out _ _ cap HT5.out.2.2 (rowT_rd HO5.out) hc1 hc2).mono ?_
    rintro e w6 ⟨v6, rfl, hb6⟩
    have HT6 := Lib.hid (HT5.out.kept hb6)
    clear hb6
    go_wp2
    go_ret
    exact ⟨rfl, HT6.out.2.2⟩
  · change bits .xor .u8 (x : Int) 16 = _ at hxr
    change (K : Int) % 8 = 4 at e3
    go_wp2_with (first
      | (refine wpList_load_row rfl 22 (.tmp 5) rfl _ rfl _ _ _ _ HT5.out.1 Try.underlying22 rfl HIK.out ?_)
      | (refine wpList_load_row rfl 28 (.tmp 6) rfl _ rfl _ _ _ _ HT5.out.2.1 Try.underlying28 rfl HIN.out ?_))
    refine (HO7.out _ _ cap HT5.out.2.2 (rowT_rd HO5.out) hc1 hc2).mono ?_
    rintro e w6 ⟨v6, rfl, hb6⟩
    have HT6 := Lib.hid (HT5.out.kept hb6)
    clear hb6
    go_wp2
    go_ret
    exact ⟨rfl, HT6.out.2.2⟩
  · change bits .xor .u8 (x : Int) 32 = _ at hxr
    change (K : Int) % 8 = 5 at e3
    go_wp2_with (first
      | (refine wpList_load_row rfl 22 (.tmp 5) rfl _ rfl _ _ _ _ HT5.out.1 Try.underlying22 rfl HIK.out ?_)
      | (refine wpList_load_row rfl 28 (.tmp 6) rfl _ rfl _ _ _ _ HT5.out.2.1 Try.underlying28 rfl HIN.out ?_))
    refine (HO7.out _ _ cap HT5.out.2.2 (rowT_rd HO5.out) hc1 hc2).mono ?_
    rintro e w6 ⟨v6, rfl, hb6⟩
    have HT6 := Lib.hid (HT5.out.kept hb6)
    clear hb6
    go_wp2
    go_ret
    exact ⟨rfl, HT6.out.2.2⟩
  · change bits .xor .u8 (x : Int) 64 = _ at hxr
    change (K : Int) % 8 = 6 at e3
    go_wp2_with (first
      | (refine wpList_load_row rfl 22 (.tmp 5) rfl _ rfl _ _ _ _ HT5.out.1 Try.underlying22 rfl HIK.out ?_)
      | (refine wpList_load_row rfl 28 (.tmp 6) rfl _ rfl _ _ _ _ HT5.out.2.1 Try.underlying28 rfl HIN.out ?_))
    refine (HO7.out _ _ cap HT5.out.2.2 (rowT_rd HO5.out) hc1 hc2).mono ?_
    rintro e w6 ⟨v6, rfl, hb6⟩
    have HT6 := Lib.hid (HT5.out.kept hb6)
    clear hb6
    go_wp2
    go_ret
    exact ⟨rfl, HT6.out.2.2⟩
  · change bits .xor .u8 (x : Int) 128 = _ at hxr
    change (K : Int) % 8 = 7 at e3
    go_wp2_with (first
      | (refine wpList_load_row rfl 22 (.tmp 5) rfl _ rfl _ _ _ _ HT5.out.1 Try.underlying22 rfl HIK.out ?_)
      | (refine wpList_load_row rfl 28 (.tmp 6) rfl _ rfl _ _ _ _ HT5.out.2.1 Try.underlying28 rfl HIN.out ?_))
    refine (HO7.out _ _ cap HT5.out.2.2 (rowT_rd HO5.out) hc1 hc2).mono ?_
    rintro e w6 ⟨v6, rfl, hb6⟩
    have HT6 := Lib.hid (HT5.out.kept hb6)
    clear hb6
    go_wp2
    go_ret
    exact ⟨rfl, HT6.out.2.2⟩

set_option maxRecDepth 100000 in
set_option maxHeartbeats 1000000 in
theorem gcmBack_walk (k n : List Nat) (A1 : Option Addr) (n1 c1 : Nat) (z1 : List Int) (A2 : Option Addr) (n2 c2 : Nat) (z2 : List Int) (a4 : Int) (w : World) (hk : k.length = 16) (qk : Ae.bytes k) (hn : n.length = 12) (qn : Ae.bytes n) (i1 : Ints .u8 w A1 n1 z1) (x1 : n1 ≤ c1 ∧ c1 ≤ maxLen) (i2 : Ints .u8 w A2 n2 z2) (x2 : n2 ≤ c2 ∧ c2 ≤ maxLen) (w4 : (Lit.int .u16 a4).wf = true) :
    Calls Try.prog 5 #[.agg (cellsN k), .agg (cellsN n), .slice A1 n1 c1, .slice A2 n2 c2, .int .u16 a4] w fun e w' => e = .returned (.bool true) ∧ Below w.heap.size w w' := by
  obtain ⟨l1, m1, q1, r1⟩ := i1.rd
  obtain ⟨l2, m2, q2, r2⟩ := i2.rd
  unfold maxLen at x1 x2
  have hb4 := bounds_u16 w4
  obtain ⟨m, rfl⟩ := Int.eq_ofNat_of_zero_le hb4.1
  have hm : m < 65536 := by omega
  clear w4 hb4
  by_cases h1 : 200 < n1
  · have h1i : (n1 : Int) > 200 := by omega
    have h1j : 200 < (n1 : Int) := by omega
    clear hk qk hn qn i1 i2 m1 q1 r1 m2 q2 r2 h1
    have L0 : Below w.heap.size w ((w.alloc (.cells (cellsN k) 22)).alloc (.cells (cellsN n) 28)) := ((Below.refl _ w).alloc (Nat.le_refl _) _).alloc (by simp) _
    have PL := Lib.hid L0
    clear L0
    go_enter Try.func5, Try.ntmps5
    go_wp2_with fail
    refine (alive_true _).mono ?_
    rintro e w1 ⟨rfl, hb1⟩
    have HA := Lib.hid (PL.out.trans (hb1.mono PL.out.size))
    clear hb1 PL
    go_wp2
    go_ret
    exact ⟨rfl, HA.out⟩
  by_cases h2 : 200 < n2
  · have h1i : ¬ (n1 : Int) > 200 := by omega
    have h1j : ¬ 200 < (n1 : Int) := by omega
    have h2i : (n2 : Int) > 200 := by omega
    have h2j : 200 < (n2 : Int) := by omega
    clear hk qk hn qn i1 i2 m1 q1 r1 m2 q2 r2 h1 h2
    have L0 : Below w.heap.size w ((w.alloc (.cells (cellsN k) 22)).alloc (.cells (cellsN n) 28)) := ((Below.refl _ w).alloc (Nat.le_refl _) _).alloc (by simp) _
    have PL := Lib.hid L0
    clear L0
    go_enter Try.func5, Try.ntmps5
    go_wp2_with fail
    refine (alive_true _).mono ?_
    rintro e w1 ⟨rfl, hb1⟩
    have HA := Lib.hid (PL.out.trans (hb1.mono PL.out.size))
    clear hb1 PL
    go_wp2
    go_ret
    exact ⟨rfl, HA.out⟩
  exact gcmBack_small k n A1 n1 c1 l1 A2 n2 c2 l2 m w hk qk hn qn r1 m1 q1 ⟨by omega, x1⟩ r2 m2 q2 ⟨by omega, x2⟩ hm
end Go.Proofs.Ytnphanhoakbkpaa
