/- Layer 10: KeysSized, walked. -/
import Derived.Test.YtabfcaidioohfaaDoorRows
import Derived.Test.YtabfcaidioohfaaDoorZp
import Derived.Test.YtabfcaidioohfaaDoorZa
import Derived.Test.YtabfcaidioohfaaDoorZs
import Derived.Test.YtabfcaidioohfaaDoorZu
import Derived.Test.YtabfcaidioohfaaDoorZk
import Derived.WalkKit
import Derived.Great.Walk
import Derived.OwnWalkIn
import Derived.LoopN
import Derived.LoopIn
import Derived.WalkSpells
import Derived.WalkLawsBesides
import Derived.Laws.Rows
import Derived.Laws.CopyOwn
import Derived.Handy
import Derived.BigQuiet
import Derived.Deep.QuietTactic
import Derived.Deep.MidRow
import Derived.Deep.RegionHeld3
import Derived.IntWalk
import Derived.Lib.Hide
import Derived.Test.YtabfcaidioohfaaDoorZl
import Derived.Test.YtabfcaidioohfaaDoorZh
import Derived.Test.YtabfcaidioohfaaDoorZg
namespace Go.Gc
open Go.Proofs.YtabfcaidioohfaaDoor
theorem openC_turned (key nonce more text : List Nat) (a y : Nat) (ha : a < 16) (hy : y ≠ (sealT key nonce more text).getD (text.length + a) 0) :
  openC key nonce more ((sealT key nonce more text).set (text.length + a) y) = (7, []) := by
 have hl : ((sealT key nonce more text).set (text.length + a) y).length = text.length + 16 := by rw [List.length_set, sealT_len]
 unfold openC openT
 rw [if_neg (by rw [hl]; omega), hl, Nat.add_sub_cancel]
 have h1 : ((sealT key nonce more text).set (text.length + a) y).take text.length = ciph key nonce text := by
  rw [List.take_set_of_le (by omega)]
  unfold sealT
  rw [← ciph_len key nonce text, List.take_left]
 have h2 : ((sealT key nonce more text).set (text.length + a) y).drop text.length = (tag key (b1 nonce) more (ciph key nonce text)).set a y := by
  unfold sealT
  rw [List.set_append_right _ _ (by rw [ciph_len]; omega), ciph_len, Nat.add_sub_cancel_left, ← ciph_len key nonce text, List.drop_left]
 have h3 : (sealT key nonce more text).getD (text.length + a) 0 = (tag key (b1 nonce) more (ciph key nonce text)).getD a 0 := by
  unfold sealT
  rw [List.getD_eq_getElem?_getD, List.getD_eq_getElem?_getD, List.getElem?_append_right (by rw [ciph_len]; omega), ciph_len, Nat.add_sub_cancel_left]
 rw [h1, h2]
 rw [h3] at hy
 have hne : tag key (b1 nonce) more (ciph key nonce text) ≠ (tag key (b1 nonce) more (ciph key nonce text)).set a y := fun e => by
  have h4 := congrArg (fun l => l.getD a 0) e
  simp only [List.getD_eq_getElem?_getD, List.getElem?_set_self (show a < (tag key (b1 nonce) more (ciph key nonce text)).length by rw [tag_len]; exact ha)] at h4
  exact hy (by rw [List.getD_eq_getElem?_getD, h4]; rfl)
 rw [if_neg hne]
end Go.Gc
namespace Go.Proofs.YtabfcaidioohfaaDoor
open Go Go.RowKit Go.Shelf
set_option linter.unusedVariables false
set_option linter.unusedSimpArgs false
set_option maxRecDepth 100000
set_option maxHeartbeats 8000000 in
theorem keysSized_small (h : List Nat) (n : Int) (m : Nat) (A3 : Option Addr) (n3 c3 : Nat) (text : List Nat) (w : World) (ht : KTab w) (lh : h.length = 32) (qh : Ae.bytes h) (hm : m < 256)
  (r3 : Rd w A3 text) (m3 : text.length = n3) (q3 : Ae.bytes text) (k3 : n3 ≤ 60 ∧ n3 ≤ c3 ∧ c3 ≤ 9223372036854775807) :
  Calls Tryd.prog 5 #[.agg (cellsN h), .int .i64 n, .int .u8 (m : Int), .slice A3 n3 c3] w fun e w' => e = .returned (.bool true) ∧ Below w.heap.size w w' := by
 have t3 : ¬ (n3 : Int) > 60 := by omega
 have t3' : ¬ 60 < (n3 : Int) := by omega
 obtain ⟨u, hu, hu2⟩ := u64_of (n := n)
 obtain ⟨s, hs⟩ : ∃ s, Ky.make h true = s := ⟨_, rfl⟩
 have ok : s.Ok := hs ▸ Ky.make_ok _ _
 obtain ⟨X, hX⟩ : ∃ X, Ky.sealW s u [] text = X := ⟨_, rfl⟩
 have lX : X.length = n3 + 16 := by rw [← hX]; unfold Ky.sealW; rw [Gc.sealT_len, m3]
 have qX : Ae.bytes X := by rw [← hX]; exact Gc.sealT_bytes ok.qk (Ky.nonce_bytes u ok) q3
 obtain ⟨K, hK⟩ : ∃ K, m % 128 = K := ⟨_, rfl⟩
 obtain ⟨a, ha⟩ : ∃ a, K / 8 = a := ⟨_, rfl⟩
 obtain ⟨b, hb⟩ : ∃ b, m % 8 = b := ⟨_, rfl⟩
 have ha16 : a < 16 := by omega
 have hb8 : b < 8 := by omega
 obtain ⟨p, hp⟩ : ∃ p, n3 + (15 - a) = p := ⟨_, rfl⟩
 obtain ⟨x, hx⟩ : ∃ x, X.getD p 0 = x := ⟨_, rfl⟩
 have hx8 : x < 256 := by rw [← hx]; exact Ae.bytes_get qX p
 have hne : x ^^^ 2 ^ b ≠ x := fun e => by
  have h1 : (x ^^^ 2 ^ b) ^^^ x = x ^^^ x := by rw [e]
  rw [Nat.xor_comm x, Nat.xor_assoc, Nat.xor_self, Nat.xor_zero] at h1
  exact absurd h1 (Nat.pos_iff_ne_zero.1 (Nat.two_pow_pos b))
 have h2b : 2 ^ b < 256 := Nat.lt_of_lt_of_le (Nat.pow_lt_pow_right (by omega) hb8) (Nat.le_refl _)
 have hop : Ky.open' s u [] (X.set p (x ^^^ 2 ^ b)) = (7, []) := by
  unfold Ky.open'
  rw [← hX, ← hp, ← m3]
  refine Gc.openC_turned s.k (Ky.nonce s u) [] text (15 - a) _ (by omega) ?_
  show _ ≠ (Ky.sealW s u [] text).getD (text.length + (15 - a)) 0
  rw [hX, m3, hp, hx]; exact hne
 have hop0 : Ky.open' s u [] X = (0, text) := by rw [← hX]; exact Ky.open_seal _ _ _ _
 have qt : Ae.bytes (X.set p (x ^^^ 2 ^ b)) := fun c hc => by
  rcases List.mem_or_eq_of_mem_set hc with h | rfl
  ·exact qX c h
  ·exact Nat.xor_lt_two_pow (n := 8) hx8 h2b
 have hxr := u8_xor_nat x (2 ^ b) hx8 h2b
 have HMK : Hid (∀ W, Below w.heap.size w W → Calls Tryd.prog 10 #[.agg (cellsN h), .bool true] W fun e w' => e = .returned (.agg (secV s)) ∧ Below W.heap.size W w') := fun W hb => hs ▸ make_any h true W (ht.below hb) lh qh
 have HSE : Hid (∀ W, Below w.heap.size w W → Calls Tryd.prog 14 #[.agg (secV s), .int .i64 n, .slice none 0 0, .slice A3 n3 c3] W fun e w' => ∃ b o c, e = .returned (.slice (some ⟨b, o, none⟩) (n3 + 16) c) ∧ n3 + 16 ≤ c ∧ c ≤ 9223372036854775807 ∧ Rd w' (some ⟨b, o, none⟩) X ∧ Below W.heap.size W w') := fun W hb =>
  (kseal_any s n u none 0 0 [] A3 n3 c3 text W ok hu hu2 (Rd.nil _ _) rfl (fun x hx => by cases hx) (by decide) (r3.below hb) m3 q3 ⟨by omega, k3.2⟩).mono fun e w' ⟨v, e1, hown, h3⟩ => by
   rw [hX] at hown
   obtain ⟨A, c, rfl, _, h4, h5, hr⟩ := own_cap hown
   obtain ⟨b, o, rfl, _, _⟩ := hr (by omega)
   exact ⟨b, o, c, e1, h4, h5, hr, h3⟩
 have HO0 : Hid (∀ W A c, Below w.heap.size w W → Rd W A X → n3 + 16 ≤ c → c ≤ 9223372036854775807 → Calls Tryd.prog 11 #[.agg (secV s), .int .i64 n, .slice none 0 0, .slice A (n3 + 16) c] W fun e w' => ∃ A' c', e = .returned (.tuple #[.slice A' n3 c', .int .i64 0]) ∧ Rd w' A' text ∧ Below W.heap.size W w') := fun W A c hb hr h1 h2 =>
  (kopen_any s n u none 0 0 [] A (n3 + 16) c X W ok hu hu2 (Rd.nil _ _) rfl (fun x hx => by cases hx) (by decide) hr lX qX ⟨by omega, h1, h2⟩).mono fun e w' ⟨A', n', c', e1, h5, h6, h7, h8⟩ => by
   rw [hop0] at e1 h5 h6
   obtain rfl : n3 = n' := m3 ▸ h6
   exact ⟨A', c', e1, h5, h8⟩
 have HO7 : Hid (∀ W A c, Below w.heap.size w W → Rd W A (X.set p (x ^^^ 2 ^ b)) → n3 + 16 ≤ c → c ≤ 9223372036854775807 → Calls Tryd.prog 11 #[.agg (secV s), .int .i64 n, .slice none 0 0, .slice A (n3 + 16) c] W fun e w' => ∃ v, e = .returned (.tuple #[v, .int .i64 7]) ∧ Below W.heap.size W w') := fun W A c hb hr h1 h2 =>
  (kopen_any s n u none 0 0 [] A (n3 + 16) c _ W ok hu hu2 (Rd.nil _ _) rfl (fun x hx => by cases hx) (by decide) hr (by rw [List.length_set, lX]) qt ⟨by omega, h1, h2⟩).mono fun e w' ⟨A', n', c', e1, h5, h6, h7, h8⟩ => by
   rw [hop] at e1
   exact ⟨_, e1, h8⟩
 have HSM : Hid (∀ W A c, Below w.heap.size w W → Rd W A text → Calls Tryd.prog 13 #[.slice A n3 c, .slice A3 n3 c3] W fun e w' => e = .returned (.bool true) ∧ Below W.heap.size W w') := fun W A c hb hr =>
  (same_any A A3 c c3 n3 n3 text text W hr (r3.below hb) m3 m3 (by omega)).mono fun e w' ⟨h3, q, h4⟩ => ⟨by rw [h3, decide_eq_true rfl], below_drewN' h4⟩
 have HAL := Lib.hid (fun W (hb : Below w.heap.size w W) => alive_true W (ht.below hb))
 obtain ⟨W1, hW1⟩ : ∃ W1, w.alloc (.cells (cellsN h) 23) = W1 := ⟨_, rfl⟩
 have HB1 : Hid (Below w.heap.size w W1) := hW1 ▸ (Below.refl _ w).alloc (Nat.le_refl _) _
 have HO1 : Hid (Obj W1 w.heap.size 23 (cellsN h)) := hW1 ▸ Obj.new w _ _
 have HIH := Lib.hid (sizeH32 lh)
 have HIS := Lib.hid (sizeSec ok)
 have HSZ : Hid (zSec.size = (secV s).size) := by unfold Hid zSec; rw [pSec_size, secV_size ok]
 have HW1 := Lib.hid hW1
 have HLX := Lib.hid lX
 have HX := Lib.hid hx
 have HPP := Lib.hid hp
 have e1 : (m : Int) % 128 = (K : Int) := by omega
 have e2 : (K : Int) / 8 = (a : Int) := by omega
 have e3 : (m : Int) % 8 = (b : Int) := by omega
 have hKl : K < 128 := by omega
 have e4 : (n3 : Int) + 16 - 1 - (a : Int) = (p : Int) := by omega
 have hpl : p < n3 + 16 := by omega
 have hpli : (p : Int) < (n3 : Int) + 16 := by omega
 obtain ⟨y, hy⟩ : ∃ y, 2 ^ b = y := ⟨_, rfl⟩
 rw [hy] at HO7 hxr
 have HBY : Hid ((b = 0 ∧ y = 1) ∨ (b = 1 ∧ y = 2) ∨ (b = 2 ∧ y = 4) ∨ (b = 3 ∧ y = 8) ∨ (b = 4 ∧ y = 16) ∨ (b = 5 ∧ y = 32) ∨ (b = 6 ∧ y = 64) ∨ (b = 7 ∧ y = 128)) := by
  have : b = 0 ∨ b = 1 ∨ b = 2 ∨ b = 3 ∨ b = 4 ∨ b = 5 ∨ b = 6 ∨ b = 7 := by omega
  rcases this with rfl | rfl | rfl | rfl | rfl | rfl | rfl | rfl <;> subst hy <;> unfold Hid <;> decide
 clear hW1 hs hX lX qX hK ha hb hp hx hx8 hne h2b hop hop0 qt hu hu2 ok r3 m3 q3 lh qh ht
 obtain ⟨k3a, k3b, k3c⟩ := k3
 go_enter Tryd.func5, Tryd.ntmps5
 go_wp2_with fail
 rw [HW1.out]
 refine (HAL.out _ HB1.out).mono ?_
 rintro e w2 ⟨rfl, hb2⟩
 have HB2 := Lib.hid (HB1.out.trans (hb2.mono HB1.out.size))
 have HO2 := Lib.hid (HO1.out.kept hb2)
 clear hb2 HO1 HB1 HW1
 go_wp2_with (first
  | (refine wpList_load_row rfl 23 (.tmp 4) rfl w.heap.size rfl _ _ _ _ HO2.out Tryd.underlying23 rfl HIH.out ?_))
 refine (HMK.out _ HB2.out).mono ?_
 rintro e w3 ⟨rfl, hb3⟩
 have hB3 := HB2.out.trans (hb3.mono HB2.out.size)
 obtain ⟨T, hT⟩ : ∃ T, w3.heap.size = T := ⟨_, rfl⟩
 have hON : Obj (w3.alloc (.cells zSec 29)) T 29 zSec := hT ▸ Obj.new w3 _ _
 have U4 := (Upd.refl T (w3.alloc (.cells zSec 29))).row (secV s)
 obtain ⟨w4, hw4⟩ : ∃ w4, (w3.alloc (.cells zSec 29)).setRow T (secV s) = w4 := ⟨_, rfl⟩
 have HZ4 : Hid (SzI w T s w4) := ⟨hw4 ▸ hON.row _, hw4 ▸ Upd.below (hB3.alloc hB3.size _) (hT ▸ hB3.size) U4⟩
 have HON := Lib.hid hON
 have HW4 := Lib.hid hw4
 clear hON U4 hw4 hb3 hB3 HO2 HB2
 go_wp2_with (first
  | (refine wpList_allocS rfl rfl ?_)
  | (refine wpList_store_row rfl 29 (.tmp 9) (.tmp 23) rfl T _ (by simp [Act.eval, Act.put, hT]) rfl _ _ HON.out HIS.out HSZ.out (one_rowT _ _) ?_; rw [HW4.out])
  | (refine wpList_load_row rfl 29 (.tmp 9) rfl T (by simp [Act.eval, Act.put, hT]) _ _ _ _ HZ4.out.o Tryd.underlying29 rfl HIS.out ?_))
 try rw [hT]
 clear hT HON HW4
 refine (HSE.out _ HZ4.out.bel).mono ?_
 rintro e w5 ⟨bb, oo, cc, rfl, hc1, hc2, hr5, hb5⟩
 have HZ5 := Lib.hid (HZ4.out.kept hb5)
 have HR5 := Lib.hid hr5
 clear hb5 hr5 HZ4
 go_wp2_with (first
  | (refine wpList_load_row rfl 29 (.tmp 9) rfl T rfl _ _ _ _ HZ5.out.o Tryd.underlying29 rfl HIS.out ?_))
 refine (HO0.out _ _ cc HZ5.out.bel HR5.out hc1 hc2).mono ?_
 rintro e w6 ⟨A6, c6, rfl, hr6, hb6⟩
 have HZ6 := Lib.hid (HZ5.out.kept hb6)
 have HR6 := Lib.hid (HR5.out.below hb6)
 have HT6 := Lib.hid hr6
 clear hb6 hr6 HZ5 HR5
 have hsz6 := HZ6.out.bel.size
 have h1m : 0 + (n3 + 16) ≤ 100000000 := by omega
 have HOM : Hid ((w6.alloc (.cells #[] 5)).ownsRow w6.heap.size 5 1 (.slice (some ⟨w6.heap.size, 0, none⟩) 0 0) 0 (([] : List Nat).map u8v)) := own_made w6 w6.heap.size (Nat.le_refl _)
 have HR6a : Hid (Rd (w6.alloc (.cells #[] 5)) (some ⟨bb, oo, none⟩) X) := HR6.out.below ((Below.refl _ _).alloc (Nat.le_refl _) _)
 have HZ6a := Lib.hid (HZ6.out.kept ((Below.refl _ _).alloc (Nat.le_refl _) (.cells #[] 5)))
 have HT6a : Hid (Rd (w6.alloc (.cells #[] 5)) A6 text) := HT6.out.below ((Below.refl _ _).alloc (Nat.le_refl _) _)
 go_upto_region 9 with (at_builtin; refine wpList_app8 rfl _ _ rfl w6.heap.size _ _ _ rfl HOM.out ⟨bb, oo, none⟩ (n3 + 16) cc X rfl HLX.out HR6a.out (by omega) (by simp) ?_; intro v7 w7 hown7 hgrow7)
 obtain ⟨g, cap, tail, rfl, hg, hcap, hog, hmx, _⟩ := own_row (n := n3 + 16) (l := X) (by simpa using hown7) (by omega)
 have hb67 : Below w6.heap.size w6 w7 := Below.grown ((Below.refl _ _).alloc (Nat.le_refl _) _) hgrow7 (by simp) (fun j hj => (HOM.out.lt j hj).1)
 have d0 := hog.getT p (by rw [HLX.out]; exact hpl)
 rw [HX.out] at d0
 have d1 := hog.free p
 have o8 := hog.setT p (x ^^^ y) (by rw [HLX.out]; exact hpl)
 have hb68 := hb67.setCell (p := ⟨g, p, none⟩) (by simp; omega) (.int .u8 ((x ^^^ y : Nat) : Int))
 have HO8 := Lib.hid o8
 have HZ8 := Lib.hid (HZ6.out.kept hb68)
 have HT8 := Lib.hid (HT6.out.below hb68)
 have hcap' : cap ≤ 9223372036854775807 := by unfold maxLen at hmx; exact hmx
 clear hown7 hgrow7 hog o8 hb67 hb68 HOM HR6a HZ6a HT6a HZ6 HR6 HT6 hmx h1m
 have hmi : (m : Int) < 256 := by omega
 have hb8i : (b : Int) < 8 := by omega
 rcases HBY.out with ⟨rfl, rfl⟩ | ⟨rfl, rfl⟩ | ⟨rfl, rfl⟩ | ⟨rfl, rfl⟩ | ⟨rfl, rfl⟩ | ⟨rfl, rfl⟩ | ⟨rfl, rfl⟩ | ⟨rfl, rfl⟩
 ·change bits .xor .u8 (x : Int) 1 = _ at hxr
  change (m : Int) % 8 = 0 at e3
  go_wp2_with (first
   | (refine wpList_load_row rfl 29 (.tmp 9) rfl T rfl _ _ _ _ HZ8.out.o Tryd.underlying29 rfl HIS.out ?_))
  refine (HO7.out _ _ cap HZ8.out.bel (rowT_rd HO8.out) hcap hcap').mono ?_
  rintro e w9 ⟨v9, rfl, hb9⟩
  have HZ9 := Lib.hid (HZ8.out.kept hb9)
  have HT9 := Lib.hid (HT8.out.below hb9)
  clear hb9
  go_wp2_with fail
  refine (HSM.out _ _ _ HZ9.out.bel HT9.out).mono ?_
  rintro e w10 ⟨rfl, hb10⟩
  have HZ10 := Lib.hid (HZ9.out.kept hb10)
  clear hb10
  go_wp2
  go_ret
  exact ⟨rfl, HZ10.out.bel⟩
 ·change bits .xor .u8 (x : Int) 2 = _ at hxr
  change (m : Int) % 8 = 1 at e3
  go_wp2_with (first
   | (refine wpList_load_row rfl 29 (.tmp 9) rfl T rfl _ _ _ _ HZ8.out.o Tryd.underlying29 rfl HIS.out ?_))
  refine (HO7.out _ _ cap HZ8.out.bel (rowT_rd HO8.out) hcap hcap').mono ?_
  rintro e w9 ⟨v9, rfl, hb9⟩
  have HZ9 := Lib.hid (HZ8.out.kept hb9)
  have HT9 := Lib.hid (HT8.out.below hb9)
  clear hb9
  go_wp2_with fail
  refine (HSM.out _ _ _ HZ9.out.bel HT9.out).mono ?_
  rintro e w10 ⟨rfl, hb10⟩
  have HZ10 := Lib.hid (HZ9.out.kept hb10)
  clear hb10
  go_wp2
  go_ret
  exact ⟨rfl, HZ10.out.bel⟩
 ·change bits .xor .u8 (x : Int) 4 = _ at hxr
  change (m : Int) % 8 = 2 at e3
  go_wp2_with (first
   | (refine wpList_load_row rfl 29 (.tmp 9) rfl T rfl _ _ _ _ HZ8.out.o Tryd.underlying29 rfl HIS.out ?_))
  refine (HO7.out _ _ cap HZ8.out.bel (rowT_rd HO8.out) hcap hcap').mono ?_
  rintro e w9 ⟨v9, rfl, hb9⟩
  have HZ9 := Lib.hid (HZ8.out.kept hb9)
  have HT9 := Lib.hid (HT8.out.below hb9)
  clear hb9
  go_wp2_with fail
  refine (HSM.out _ _ _ HZ9.out.bel HT9.out).mono ?_
  rintro e w10 ⟨rfl, hb10⟩
  have HZ10 := Lib.hid (HZ9.out.kept hb10)
  clear hb10
  go_wp2
  go_ret
  exact ⟨rfl, HZ10.out.bel⟩
 ·change bits .xor .u8 (x : Int) 8 = _ at hxr
  change (m : Int) % 8 = 3 at e3
  go_wp2_with (first
   | (refine wpList_load_row rfl 29 (.tmp 9) rfl T rfl _ _ _ _ HZ8.out.o Tryd.underlying29 rfl HIS.out ?_))
  refine (HO7.out _ _ cap HZ8.out.bel (rowT_rd HO8.out) hcap hcap').mono ?_
  rintro e w9 ⟨v9, rfl, hb9⟩
  have HZ9 := Lib.hid (HZ8.out.kept hb9)
  have HT9 := Lib.hid (HT8.out.below hb9)
  clear hb9
  go_wp2_with fail
  refine (HSM.out _ _ _ HZ9.out.bel HT9.out).mono ?_
  rintro e w10 ⟨rfl, hb10⟩
  have HZ10 := Lib.hid (HZ9.out.kept hb10)
  clear hb10
  go_wp2
  go_ret
  exact ⟨rfl, HZ10.out.bel⟩
 ·change bits .xor .u8 (x : Int) 16 = _ at hxr
  change (m : Int) % 8 = 4 at e3
  go_wp2_with (first
   | (refine wpList_load_row rfl 29 (.tmp 9) rfl T rfl _ _ _ _ HZ8.out.o Tryd.underlying29 rfl HIS.out ?_))
  refine (HO7.out _ _ cap HZ8.out.bel (rowT_rd HO8.out) hcap hcap').mono ?_
  rintro e w9 ⟨v9, rfl, hb9⟩
  have HZ9 := Lib.hid (HZ8.out.kept hb9)
  have HT9 := Lib.hid (HT8.out.below hb9)
  clear hb9
  go_wp2_with fail
  refine (HSM.out _ _ _ HZ9.out.bel HT9.out).mono ?_
  rintro e w10 ⟨rfl, hb10⟩
  have HZ10 := Lib.hid (HZ9.out.kept hb10)
  clear hb10
  go_wp2
  go_ret
  exact ⟨rfl, HZ10.out.bel⟩
 ·change bits .xor .u8 (x : Int) 32 = _ at hxr
  change (m : Int) % 8 = 5 at e3
  go_wp2_with (first
   | (refine wpList_load_row rfl 29 (.tmp 9) rfl T rfl _ _ _ _ HZ8.out.o Tryd.underlying29 rfl HIS.out ?_))
  refine (HO7.out _ _ cap HZ8.out.bel (rowT_rd HO8.out) hcap hcap').mono ?_
  rintro e w9 ⟨v9, rfl, hb9⟩
  have HZ9 := Lib.hid (HZ8.out.kept hb9)
  have HT9 := Lib.hid (HT8.out.below hb9)
  clear hb9
  go_wp2_with fail
  refine (HSM.out _ _ _ HZ9.out.bel HT9.out).mono ?_
  rintro e w10 ⟨rfl, hb10⟩
  have HZ10 := Lib.hid (HZ9.out.kept hb10)
  clear hb10
  go_wp2
  go_ret
  exact ⟨rfl, HZ10.out.bel⟩
 ·change bits .xor .u8 (x : Int) 64 = _ at hxr
  change (m : Int) % 8 = 6 at e3
  go_wp2_with (first
   | (refine wpList_load_row rfl 29 (.tmp 9) rfl T rfl _ _ _ _ HZ8.out.o Tryd.underlying29 rfl HIS.out ?_))
  refine (HO7.out _ _ cap HZ8.out.bel (rowT_rd HO8.out) hcap hcap').mono ?_
  rintro e w9 ⟨v9, rfl, hb9⟩
  have HZ9 := Lib.hid (HZ8.out.kept hb9)
  have HT9 := Lib.hid (HT8.out.below hb9)
  clear hb9
  go_wp2_with fail
  refine (HSM.out _ _ _ HZ9.out.bel HT9.out).mono ?_
  rintro e w10 ⟨rfl, hb10⟩
  have HZ10 := Lib.hid (HZ9.out.kept hb10)
  clear hb10
  go_wp2
  go_ret
  exact ⟨rfl, HZ10.out.bel⟩
 ·change bits .xor .u8 (x : Int) 128 = _ at hxr
  change (m : Int) % 8 = 7 at e3
  go_wp2_with (first
   | (refine wpList_load_row rfl 29 (.tmp 9) rfl T rfl _ _ _ _ HZ8.out.o Tryd.underlying29 rfl HIS.out ?_))
  refine (HO7.out _ _ cap HZ8.out.bel (rowT_rd HO8.out) hcap hcap').mono ?_
  rintro e w9 ⟨v9, rfl, hb9⟩
  have HZ9 := Lib.hid (HZ8.out.kept hb9)
  have HT9 := Lib.hid (HT8.out.below hb9)
  clear hb9
  go_wp2_with fail
  refine (HSM.out _ _ _ HZ9.out.bel HT9.out).mono ?_
  rintro e w10 ⟨rfl, hb10⟩
  have HZ10 := Lib.hid (HZ9.out.kept hb10)
  clear hb10
  go_wp2
  go_ret
  exact ⟨rfl, HZ10.out.bel⟩
set_option maxHeartbeats 4000000 in
theorem keysSized_walk (h : List Nat) (n a2 : Int) (A3 : Option Addr) (n3 c3 : Nat) (z3 : List Int) (w : World) (lh : h.length = 32) (qh : ∀ c ∈ h, c < 256) (w1 : (Lit.int .i64 n).wf = true) (w2 : (Lit.int .u8 a2).wf = true) (i3 : Ints .u8 w A3 n3 z3) (x3 : n3 ≤ c3 ∧ c3 ≤ maxLen) (ht : KTab w) :
  Calls Tryd.prog 5 #[.agg (cellsK .u8 h), .int .i64 n, .int .u8 a2, .slice A3 n3 c3] w fun e w' => e = .returned (.bool true) ∧ Below w.heap.size w w' := by
 obtain ⟨l3, m3, q3, r3⟩ := i3.rd
 unfold maxLen at x3
 have hb2 := bounds_u8 w2
 obtain ⟨m, rfl⟩ := Int.eq_ofNat_of_zero_le hb2.1
 have hm : m < 256 := by omega
 by_cases h3 : 60 < n3
 ·have h1i : (n3 : Int) > 60 := by omega
  have h1j : 60 < (n3 : Int) := by omega
  have HAL := Lib.hid (fun W (hb : Below w.heap.size w W) => alive_true W (ht.below hb))
  clear i3 m3 q3 r3 h3 ht
  have PL : Hid (Below w.heap.size w (w.alloc (.cells (cellsK .u8 h) 23))) := (Below.refl _ w).alloc (Nat.le_refl _) _
  go_enter Tryd.func5, Tryd.ntmps5
  go_wp2_with fail
  refine (HAL.out _ PL.out).mono ?_
  rintro e w1 ⟨rfl, hb1⟩
  have HA := Lib.hid (PL.out.trans (hb1.mono PL.out.size))
  clear hb1 PL
  go_wp2
  go_ret
  exact ⟨rfl, HA.out⟩
 exact keysSized_small h n m A3 n3 c3 l3 w ht lh qh hm r3 m3 q3 ⟨by omega, x3⟩
end Go.Proofs.YtabfcaidioohfaaDoor
