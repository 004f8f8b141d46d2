/- Joined: Layer 10's keys of the document, walked: the nonce, Seal and Open. | Layer 10: KeysSeal, walked. -/
import Derived.Test.YtabfcaidioohfaaDoorRows
import Derived.Test.YtabfcaidioohfaaDoorZp
import Derived.Test.YtabfcaidioohfaaDoorZa
import Derived.Test.YtabfcaidioohfaaDoorZs
import Derived.Test.YtabfcaidioohfaaDoorZu
import Derived.Test.YtabfcaidioohfaaDoorZk
import Derived.WalkKit
import Derived.Great.Walk
import Derived.OwnWalkIn
import Derived.LoopN
import Derived.LoopIn
import Derived.WalkSpells
import Derived.WalkLawsBesides
import Derived.Laws.Rows
import Derived.Laws.CopyOwn
import Derived.Handy
import Derived.BigQuiet
import Derived.Deep.QuietTactic
import Derived.Deep.MidRow
import Derived.Deep.RegionHeld3
import Derived.IntWalk
import Derived.Lib.Hide
import Derived.Test.YtabfcaidioohfaaDoorZf
import Derived.Test.YtabfcaidioohfaaDoorZl
import Derived.Test.YtabfcaidioohfaaDoorZh
import Derived.Test.YtabfcaidioohfaaDoorZg
namespace Go.Proofs.YtabfcaidioohfaaDoor
open List (getElem?_toArray getElem?_cons_zero getElem?_cons_succ setIfInBounds_toArray set_cons_zero set_cons_succ)
open Go Go.RowKit Go.Shelf
set_option linter.unusedVariables false
set_option linter.unusedSimpArgs false
set_option maxRecDepth 100000
set_option maxHeartbeats 4000000 in
theorem rnonce_any (s : Ky.Sec) (n : Int) (u : Nat) (w : World) (hs : s.Ok) (hu : IntKind.u64.wrap n = (u : Int)) (hu2 : u < 18446744073709551616) :
  Calls Tryd.prog 43 #[.agg (secV s), .int .i64 n] w fun e w' => e = .returned (.agg (cellsN (Ky.nonce s u))) ∧ Below w.heap.size w w' := by
 obtain ⟨B, hB⟩ : ∃ B, w.heap.size = B := ⟨_, rfl⟩
 obtain ⟨W2, hW2⟩ : ∃ W2, (w.alloc (.cells (secV s) 29)).alloc (.cells #[.int .u8 0, .int .u8 0, .int .u8 0, .int .u8 0, .int .u8 0, .int .u8 0, .int .u8 0, .int .u8 0, .int .u8 0, .int .u8 0, .int .u8 0, .int .u8 0] 27) = W2 := ⟨_, rfl⟩
 have hb2 : Below w.heap.size w W2 := hW2 ▸ ((Below.refl _ w).alloc (Nat.le_refl _) _).alloc (by simp) _
 have s2 : W2.heap.size = B + 1 + 1 := by rw [← hW2]; simp [hB]
 have o0 : Obj W2 B 29 (secV s) := hW2 ▸ hB ▸ (Obj.new w _ _).alloc _
 have o1 : Obj W2 (B + 1) 27 (cellsN (List.replicate 12 0)) := by
  have := new2 w (.cells (secV s) 29) 27 #[.int .u8 0, .int .u8 0, .int .u8 0, .int .u8 0, .int .u8 0, .int .u8 0, .int .u8 0, .int .u8 0, .int .u8 0, .int .u8 0, .int .u8 0, .int .u8 0]
  rw [hB, hW2] at this; exact this
 have HRI := Lib.hid (o0.secI hs)
 have HI12 : Hid ((Tryd.prog.info? 27).map (·.size) = some (s.iv.map u8v).length) := by unfold Hid; rw [List.length_map, hs.li]; exact info12'
 have HI12N : Hid ((Tryd.prog.info? 27).map (·.size) = some (cellsN s.iv).size) := size12 hs.li
 have hON : Obj (W2.alloc (.cells #[.int .u8 0, .int .u8 0, .int .u8 0, .int .u8 0, .int .u8 0, .int .u8 0, .int .u8 0, .int .u8 0, .int .u8 0, .int .u8 0, .int .u8 0, .int .u8 0] 27)) (B + 1 + 1) 27 #[.int .u8 0, .int .u8 0, .int .u8 0, .int .u8 0, .int .u8 0, .int .u8 0, .int .u8 0, .int .u8 0, .int .u8 0, .int .u8 0, .int .u8 0, .int .u8 0] := s2 ▸ Obj.new W2 _ _
 have U3 := (Upd.refl (B + 1 + 1) (W2.alloc (.cells #[.int .u8 0, .int .u8 0, .int .u8 0, .int .u8 0, .int .u8 0, .int .u8 0, .int .u8 0, .int .u8 0, .int .u8 0, .int .u8 0, .int .u8 0, .int .u8 0] 27))).row (cellsN s.iv)
 obtain ⟨W3, hW3⟩ : ∃ W3, (W2.alloc (.cells #[.int .u8 0, .int .u8 0, .int .u8 0, .int .u8 0, .int .u8 0, .int .u8 0, .int .u8 0, .int .u8 0, .int .u8 0, .int .u8 0, .int .u8 0, .int .u8 0] 27)).setRow (B + 1 + 1) (cellsN s.iv) = W3 := ⟨_, rfl⟩
 have HI0 : Hid (NoI w B s u 0 W3) := by
  refine ⟨hW3 ▸ (o0.alloc _).upd U3 (by omega), hW3 ▸ (o1.alloc _).upd U3 (by omega), ?_, hW3 ▸ Upd.below (hb2.alloc hb2.size _) (by omega) U3⟩
  rw [Ky.nonceK_zero u hs.li]; exact hW3 ▸ hON.row _
 have HSZ : Hid ((#[.int .u8 0, .int .u8 0, .int .u8 0, .int .u8 0, .int .u8 0, .int .u8 0, .int .u8 0, .int .u8 0, .int .u8 0, .int .u8 0, .int .u8 0, .int .u8 0] : Array Value).size = (cellsN s.iv).size) := by unfold Hid; rw [cellsN_size, hs.li]; rfl
 have HON := Lib.hid hON
 have HW2 := Lib.hid hW2
 have HW3 := Lib.hid hW3
 have HLI := Lib.hid hs.li
 have HQI := Lib.hid hs.qi
 have HB := Lib.hid hB
 have HS2 := Lib.hid s2
 clear hW2 hW3 hb2 s2 o0 o1 hON U3 hs
 go_enter Tryd.func43, Tryd.ntmps43
 go_wp2_with (first
  | (rw [HW2.out]; refine wpList_load_mid rfl 27 (.tmp 8) rfl B 16 rfl _ _ HRI.out Tryd.underlying27 rfl HI12.out ?_; rw [cellsN_arr])
  | (refine wpList_store_row rfl 27 (.tmp 5) (.tmp 9) rfl (B + 1 + 1) _ (by rw [← HS2.out]; rfl) rfl _ _ HON.out HI12N.out HSZ.out (one_cellsN _) ?_; rw [HW3.out]))
 rw [HS2.out]
 have hu3 : n % 18446744073709551616 = (u : Int) := by rw [← hu, IntKind.wrap_u64]
 go_wp2
 go_loopw [6, 7] (fun v i V => ∃ k : Nat, k ≤ 8 ∧ i = .int .i64 (11 - (k : Int)) ∧ v = .int .u64 ((u / 256 ^ k : Nat) : Int) ∧ NoI w B s u k V) (fun _ i _ => (intOf i).toNat)
 case atStart => exact ⟨0, Nat.zero_le _, rfl, by rw [Nat.pow_zero, Nat.div_one], HI0.out⟩
 case round =>
  clear HI0 HON HW2 HW3 HS2 HRI hu hu3
  obtain ⟨k, hk, rfl, rfl, hI⟩ := hrel
  obtain ⟨z, hz⟩ : ∃ z, u / 256 ^ k = z := ⟨_, rfl⟩
  have hz2 : z < 18446744073709551616 := by rw [← hz]; exact Nat.lt_of_le_of_lt (Nat.div_le_self _ _) hu2
  have hzn : u / 256 ^ (k + 1) = z / 256 := by rw [← hz, Nat.pow_succ, Nat.div_div_eq_div_mul]
  have HZN := Lib.hid hzn
  obtain ⟨a, ha⟩ : ∃ a : Int, 11 - (k : Int) = a := ⟨_, rfl⟩
  rw [hz, ha]
  by_cases hlt : k < 8
  ·obtain ⟨c, hc⟩ : ∃ c, 11 - k = c := ⟨_, rfl⟩
   obtain rfl : a = (c : Int) := by omega
   have hki : (4 : Int) ≤ (c : Int) := by omega
   have hci : (c : Int) < 12 := by omega
   have r0 : wr.cell? ⟨B + 1 + 1, c, none⟩ = some (.int .u8 ((s.iv.getD c 0 : Nat) : Int)) := by
    have := hI.b.getN c (by rw [Ky.nonceK_len]; omega)
    rwa [Ky.nonceK_get _ _ _ _ (by omega), if_neg (by omega)] at this
   have z0 := hI.b.free c
   have v0 : (z : Int) % 256 = ((z % 256 : Nat) : Int) := by omega
   have hxr := u8_xor_nat (s.iv.getD c 0) (z % 256) (Ae.bytes_get HQI.out c) (Nat.mod_lt _ (by decide))
   have HNX : Hid (NoI w B s u (k + 1) (wr.setCell ⟨B + 1 + 1, c, none⟩ (.int .u8 ((s.iv.getD c 0 ^^^ (z % 256) : Nat) : Int)))) := by
    have := hI.set HB.out (by omega) hc
    rwa [hz] at this
   have e2 : IntKind.i64.wrap ((c : Int) - 1) = 11 - ((k + 1 : Nat) : Int) := by rw [IntWalk.i64_in _ (by omega)]; omega
   have hcp : (c : Int) - 1 = 11 - ((k + 1 : Nat) : Int) := by omega
   have HCP := Lib.hid hcp
   have hm := Nat.mod_lt z (show 0 < 256 by decide)
   have HK := Lib.hid hlt
   have v1 : (z : Int) / 256 = ((z / 256 : Nat) : Int) := by omega
   have HV1 := Lib.hid v1
   clear hI hc hz hzn ha hcp e2 v1
   generalize z % 256 = y at *
   generalize s.iv.getD c 0 = x at *
   go_wp2
   go_roundw
   case rel => exact ⟨k + 1, by omega, by rw [← HCP.out], by rw [HZN.out]; rw [← HV1.out], HNX.out⟩
   case measure => simp [intOf]; omega
  ·obtain rfl : k = 8 := by omega
   obtain rfl : a = 3 := by omega
   clear hz hzn ha HZN
   have HJ := Lib.hid hI
   have HIN := Lib.hid (size12 (Ky.nonceK_len s.iv u 8))
   have HSN : Hid ((cellsN (List.replicate 12 0)).size = (cellsN (Ky.nonceK s.iv u 8)).size) := by unfold Hid; rw [cellsN_size, cellsN_size, Ky.nonceK_len]; rfl
   have hFB : Below w.heap.size w (wr.setRow (B + 1) (cellsN (Ky.nonceK s.iv u 8))) := Upd.below hI.bel (by have := HB.out; omega) ((Upd.refl _ _).row _)
   have HFB := Lib.hid hFB
   clear hI hFB
   go_wp2_with (first
    | (refine wpList_load_row rfl 27 (.tmp 5) rfl _ rfl _ _ _ _ HJ.out.b Tryd.underlying27 rfl HIN.out ?_)
    | (refine wpList_store_row rfl 27 (.tmp 4) (.tmp 27) rfl _ _ rfl rfl _ _ HJ.out.r HIN.out HSN.out (one_cellsN _) ?_))
   exact bodyPost_ret (v := .agg (cellsN (Ky.nonceK s.iv u 8))) (results_cell_row rfl _ _ _ _ _ _ _ rfl (HJ.out.r.row _) Tryd.underlying27 rfl HIN.out) rfl ⟨rfl, HFB.out⟩
set_option maxHeartbeats 4000000 in
theorem rkseal_any (s : Ky.Sec) (n : Int) (u : Nat) (A1 : Option Addr) (n1 c1 : Nat) (more : List Nat) (A2 : Option Addr) (n2 c2 : Nat) (text : List Nat) (w : World) (hs : s.Ok) (hu : IntKind.u64.wrap n = (u : Int)) (hu2 : u < 18446744073709551616) (r1 : Rd w A1 more) (m1 : more.length = n1) (b1 : Ae.bytes more) (k1 : n1 ≤ 100000 ∧ n1 ≤ c1 ∧ c1 ≤ 9223372036854775807) (r2 : Rd w A2 text) (m2 : text.length = n2) (b2 : Ae.bytes text) (k2 : n2 ≤ 100000 ∧ n2 ≤ c2 ∧ c2 ≤ 9223372036854775807) :
  Calls Tryd.prog 15 #[.agg (secV s), .int .i64 n, .slice A1 n1 c1, .slice A2 n2 c2] w fun e w' => ∃ v, e = .returned v ∧ w'.ownsRow w.heap.size 5 1 v (n2 + 16) ((Ky.sealW s u more text).map u8v) ∧ Below w.heap.size w w' := by
 have HNO : Hid (∀ W, Calls Tryd.prog 43 #[.agg (secV s), .int .i64 n] W fun e w' => e = .returned (.agg (cellsN (Ky.nonce s u))) ∧ Below W.heap.size W w') := fun W => rnonce_any s n u W hs hu hu2
 have HSE : Hid (∀ W, Below w.heap.size w W → Calls Tryd.prog 45 #[.agg (cellsN s.k), .agg (cellsN (Ky.nonce s u)), .slice A1 n1 c1, .slice A2 n2 c2] W fun e w' => ∃ v, e = .returned v ∧ w'.ownsRow w.heap.size 5 1 v (n2 + 16) ((Ky.sealW s u more text).map u8v) ∧ Below W.heap.size W w') := fun W hb =>
  (refSeal_any s.k (Ky.nonce s u) A1 n1 c1 more A2 n2 c2 text W hs.lk hs.qk (Ky.nonce_len s u) (Ky.nonce_bytes u hs) (r1.below hb) m1 b1 k1.1 (r2.below hb) m2 b2 k2.1).mono fun e w' ⟨v, h1, h2, h3⟩ => ⟨v, h1, own_base h2 hb.size, h3⟩
 obtain ⟨W1, hW1⟩ : ∃ W1, w.alloc (.cells (secV s) 29) = W1 := ⟨_, rfl⟩
 have hb1 : Below w.heap.size w W1 := hW1 ▸ (Below.refl _ w).alloc (Nat.le_refl _) _
 have h01 : Obj W1 w.heap.size 29 (secV s) := hW1 ▸ Obj.new w _ _
 have H1 : Hid (Obj W1.drew w.heap.size 29 (secV s) ∧ Below w.heap.size w W1.drew) := ⟨h01.drew, hb1.drew⟩
 have HI16 : Hid ((Tryd.prog.info? 26).map (·.size) = some (s.k.map u8v).length) := by unfold Hid; rw [List.length_map, hs.lk]; exact info16
 have HIS := Lib.hid (sizeSec hs)
 have HW1 := Lib.hid hW1
 clear hW1 hb1 h01 hs
 clear r1 m1 b1 k1 r2 m2 b2 k2 hu hu2
 go_enter Tryd.func15, Tryd.ntmps15
 go_wp2
 refine wp_region_held_drew (S := (fun wq => Obj wq w.heap.size 29 (secV s) ∧ Below w.heap.size w wq)) (by kernel_rfl) (by rw [HW1.out]; exact H1.out) (fun hHeld => ?_)
 rw [HW1.out]
 refine tkH 0 ?_
 refine tkH 1 (v := .agg (cellsN s.k)) ?_ (hy := by
  refine yieldsIf_load_mid ?_ 26 (.tmp 9) ?_ w.heap.size 0 ?_ (s.k.map u8v) _ ?_ Tryd.underlying26 rfl HI16.out
  ·rfl
  ·rfl
  ·rfl
  ·exact fun w hSw => hSw.1.secK)
 refine tkH 2 ?_ (hy := by
  refine yieldsIf_load_row (g := w.heap.size) (t := 29) (cs := secV s) (ty := 29) (x := (.tmp 4)) ?_ ?_ ?_ ?_ Tryd.underlying29 rfl HIS.out
  ·rfl
  ·rfl
  ·rfl
  ·exact fun w hSw => hSw.1)
 refine tkH 3 ?_
 refine tkH 5 ?_
 refine tkH 6 ?_
 refine onH 4 (fun KK hKK => ?_)
 go_simp
 refine (HNO.out _).mono ?_
 rintro e w2 ⟨rfl, hb2⟩
 have H2 : Hid (Obj w2 w.heap.size 29 (secV s) ∧ Below w.heap.size w w2) := ⟨H1.out.1.kept hb2, H1.out.2.trans (hb2.mono H1.out.2.size)⟩
 clear hb2
 try go_wp2_with fail
 refine hKK.out _ _ ?_ (fun hh4 => ?_)
 ·(try dsimp only)
  exact H2.out
 clear hKK KK
 try simp only [Act.put, setIfInBounds_toArray, set_cons_zero, set_cons_succ]
 refine onH 7 (fun KK hKK => ?_)
 go_simp
 refine (HSE.out _ H2.out.2).mono ?_
 rintro e w3 ⟨v3, rfl, ho3, hb3⟩
 have H3 : Hid (Obj w3 w.heap.size 29 (secV s) ∧ Below w.heap.size w w3) := ⟨H2.out.1.kept hb3, H2.out.2.trans (hb3.mono H2.out.2.size)⟩
 have HO := Lib.hid ho3
 clear hb3 ho3
 try go_wp2_with fail
 refine hKK.out _ _ ?_ (fun hh7 => ?_)
 ·(try dsimp only)
  exact H3.out
 clear hKK KK
 try simp only [Act.put, setIfInBounds_toArray, set_cons_zero, set_cons_succ]
 refine tkH 8 ?_
 refine wpAnyH_done (by kernel_rfl) ?_ _
 go_wp2
 go_ret
 exact ⟨_, rfl, HO.out, H3.out.2⟩
set_option maxHeartbeats 4000000 in
theorem rkopen_any (s : Ky.Sec) (n : Int) (u : Nat) (A1 : Option Addr) (n1 c1 : Nat) (more : List Nat) (A2 : Option Addr) (n2 c2 : Nat) (text : List Nat) (w : World) (hs : s.Ok) (hu : IntKind.u64.wrap n = (u : Int)) (hu2 : u < 18446744073709551616) (r1 : Rd w A1 more) (m1 : more.length = n1) (b1 : Ae.bytes more) (k1 : n1 ≤ 100000 ∧ n1 ≤ c1 ∧ c1 ≤ 9223372036854775807) (r2 : Rd w A2 text) (m2 : text.length = n2) (b2 : Ae.bytes text) (k2 : n2 ≤ 100000 ∧ n2 ≤ c2 ∧ c2 ≤ 9223372036854775807) :
  Calls Tryd.prog 12 #[.agg (secV s), .int .i64 n, .slice A1 n1 c1, .slice A2 n2 c2] w fun e w' => ∃ A n c, e = .returned (.tuple #[.slice A n c, .int .i64 ((Ky.open' s u more text).1 : Int)]) ∧ Rd w' A (Ky.open' s u more text).2 ∧ (Ky.open' s u more text).2.length = n ∧ n ≤ c ∧ Below w.heap.size w w' := by
 have HNO : Hid (∀ W, Calls Tryd.prog 43 #[.agg (secV s), .int .i64 n] W fun e w' => e = .returned (.agg (cellsN (Ky.nonce s u))) ∧ Below W.heap.size W w') := fun W => rnonce_any s n u W hs hu hu2
 obtain ⟨E, hE⟩ : ∃ E, (Ky.open' s u more text).1 = E := ⟨_, rfl⟩
 obtain ⟨t, ht⟩ : ∃ t, (Ky.open' s u more text).2 = t := ⟨_, rfl⟩
 have HSE : Hid (∀ W, Below w.heap.size w W → Calls Tryd.prog 42 #[.agg (cellsN s.k), .agg (cellsN (Ky.nonce s u)), .slice A1 n1 c1, .slice A2 n2 c2] W fun e w' => ∃ A n c, e = .returned (.tuple #[.slice A n c, .int .i64 (E : Int)]) ∧ Rd w' A t ∧ t.length = n ∧ n ≤ c ∧ Below W.heap.size W w') := fun W hb => by
  rw [← hE, ← ht]
  exact refOpen_any s.k (Ky.nonce s u) A1 n1 c1 more A2 n2 c2 text W hs.lk hs.qk (Ky.nonce_len s u) (Ky.nonce_bytes u hs) (r1.below hb) m1 b1 k1.1 (r2.below hb) m2 b2 ⟨k2.1, k2.2⟩
 rw [hE, ht]
 clear hE ht
 obtain ⟨W1, hW1⟩ : ∃ W1, w.alloc (.cells (secV s) 29) = W1 := ⟨_, rfl⟩
 have hb1 : Below w.heap.size w W1 := hW1 ▸ (Below.refl _ w).alloc (Nat.le_refl _) _
 have h01 : Obj W1 w.heap.size 29 (secV s) := hW1 ▸ Obj.new w _ _
 have H1 : Hid (Obj W1.drew w.heap.size 29 (secV s) ∧ Below w.heap.size w W1.drew) := ⟨h01.drew, hb1.drew⟩
 have HI16 : Hid ((Tryd.prog.info? 26).map (·.size) = some (s.k.map u8v).length) := by unfold Hid; rw [List.length_map, hs.lk]; exact info16
 have HIS := Lib.hid (sizeSec hs)
 have HW1 := Lib.hid hW1
 clear hW1 hb1 h01 hs
 clear r1 m1 b1 k1 r2 m2 b2 k2 hu hu2
 go_enter Tryd.func12, Tryd.ntmps12
 go_wp2
 refine wp_region_held_drew (S := (fun wq => Obj wq w.heap.size 29 (secV s) ∧ Below w.heap.size w wq)) (by kernel_rfl) (by rw [HW1.out]; exact H1.out) (fun hHeld => ?_)
 rw [HW1.out]
 refine tkH 0 ?_
 refine tkH 1 (v := .agg (cellsN s.k)) ?_ (hy := by
  refine yieldsIf_load_mid ?_ 26 (.tmp 10) ?_ w.heap.size 0 ?_ (s.k.map u8v) _ ?_ Tryd.underlying26 rfl HI16.out
  ·rfl
  ·rfl
  ·rfl
  ·exact fun w hSw => hSw.1.secK)
 refine tkH 2 ?_ (hy := by
  refine yieldsIf_load_row (g := w.heap.size) (t := 29) (cs := secV s) (ty := 29) (x := (.tmp 4)) ?_ ?_ ?_ ?_ Tryd.underlying29 rfl HIS.out
  ·rfl
  ·rfl
  ·rfl
  ·exact fun w hSw => hSw.1)
 refine tkH 3 ?_
 refine tkH 5 ?_
 refine tkH 6 ?_
 refine onH 4 (fun KK hKK => ?_)
 go_simp
 refine (HNO.out _).mono ?_
 rintro e w2 ⟨rfl, hb2⟩
 have H2 : Hid (Obj w2 w.heap.size 29 (secV s) ∧ Below w.heap.size w w2) := ⟨H1.out.1.kept hb2, H1.out.2.trans (hb2.mono H1.out.2.size)⟩
 clear hb2
 try go_wp2_with fail
 refine hKK.out _ _ ?_ (fun hh4 => ?_)
 ·(try dsimp only)
  exact H2.out
 clear hKK KK
 try simp only [Act.put, setIfInBounds_toArray, set_cons_zero, set_cons_succ]
 refine onH 7 (fun KK hKK => ?_)
 go_simp
 refine (HSE.out _ H2.out.2).mono ?_
 rintro e w3 ⟨A3, n3, c3, rfl, hr3, hl3, hc3, hb3⟩
 have H3 : Hid (Obj w3 w.heap.size 29 (secV s) ∧ Below w.heap.size w w3) := ⟨H2.out.1.kept hb3, H2.out.2.trans (hb3.mono H2.out.2.size)⟩
 have HO := Lib.hid hr3
 have HL := Lib.hid hl3
 clear hb3 hr3 hl3
 try go_wp2_with fail
 refine hKK.out _ _ ?_ (fun hh7 => ?_)
 ·(try dsimp only)
  exact H3.out
 clear hKK KK
 try simp only [Act.put, setIfInBounds_toArray, set_cons_zero, set_cons_succ]
 refine tkH 8 ?_
 refine tkH 9 ?_
 refine tkH 10 ?_
 refine tkH 11 ?_
 refine wpAnyH_done (by kernel_rfl) ?_ _
 go_wp2
 refine bodyPost_ret (results_tmp2 rfl _ _ _) rfl ?_
 exact ⟨_, _, _, rfl, HO.out, HL.out, hc3, H3.out.2⟩
end Go.Proofs.YtabfcaidioohfaaDoor
namespace Go.Gc
open List (getElem?_toArray getElem?_cons_zero getElem?_cons_succ setIfInBounds_toArray set_cons_zero set_cons_succ)
open Go.Proofs.YtabfcaidioohfaaDoor
theorem openC_len (key nonce more text : List Nat) : (openC key nonce more text).2.length ≤ text.length := by
 unfold openC openT
 split
 ·simp
 ·split
  ·simp
  ·rename_i t heq
   split at heq
   ·cases heq
    rw [ciph_len, List.length_take]
    omega
   ·cases heq
end Go.Gc
namespace Go.Proofs.YtabfcaidioohfaaDoor
open List (getElem?_toArray getElem?_cons_zero getElem?_cons_succ setIfInBounds_toArray set_cons_zero set_cons_succ)
open Go Go.RowKit Go.Shelf
set_option linter.unusedVariables false
set_option linter.unusedSimpArgs false
set_option maxRecDepth 100000
structure SlI (w : World) (T : Nat) (s : Ky.Sec) (A B : Option Addr) (t : List Nat) (V : World) : Prop where
 o : Obj V T 29 (secV s)
 a : Rd V A t
 b : Rd V B t
 bel : Below w.heap.size w V
theorem SlI.kept {w V V' : World} {T : Nat} {s : Ky.Sec} {A B : Option Addr} {t : List Nat} (h : SlI w T s A B t V) (hb : Below V.heap.size V V') : SlI w T s A B t V' :=
 ⟨h.o.kept hb, h.a.below hb, h.b.below hb, h.bel.trans (hb.mono h.bel.size)⟩
set_option maxHeartbeats 8000000 in
theorem keysSeal_small (h : List Nat) (n : Int) (A2 : Option Addr) (n2 c2 : Nat) (more : List Nat) (A3 : Option Addr) (n3 c3 : Nat) (text : List Nat) (w : World) (ht : KTab w) (lh : h.length = 32) (qh : Ae.bytes h)
  (r2 : Rd w A2 more) (m2 : more.length = n2) (q2 : Ae.bytes more) (k2 : n2 ≤ 100 ∧ n2 ≤ c2 ∧ c2 ≤ 9223372036854775807) (r3 : Rd w A3 text) (m3 : text.length = n3) (q3 : Ae.bytes text) (k3 : n3 ≤ 200 ∧ n3 ≤ c3 ∧ c3 ≤ 9223372036854775807) :
  Calls Tryd.prog 3 #[.agg (cellsN h), .int .i64 n, .slice A2 n2 c2, .slice A3 n3 c3] w fun e w' => e = .returned (.bool true) ∧ Below w.heap.size w w' := by
 have t2 : ¬ (n2 : Int) > 100 := by omega
 have t2' : ¬ 100 < (n2 : Int) := by omega
 have t3 : ¬ (n3 : Int) > 200 := by omega
 have t3' : ¬ 200 < (n3 : Int) := by omega
 obtain ⟨u, hu, hu2⟩ := u64_of (n := n)
 obtain ⟨s, hs⟩ : ∃ s, Ky.make h false = s := ⟨_, rfl⟩
 have ok : s.Ok := hs ▸ Ky.make_ok _ _
 obtain ⟨X, hX⟩ : ∃ X, Ky.sealW s u more text = X := ⟨_, rfl⟩
 have lX : X.length = n3 + 16 := by rw [← hX]; unfold Ky.sealW; rw [Gc.sealT_len, m3]
 obtain ⟨E, hE⟩ : ∃ E, (Ky.open' s u more text).1 = E := ⟨_, rfl⟩
 obtain ⟨t, ht'⟩ : ∃ t, (Ky.open' s u more text).2 = t := ⟨_, rfl⟩
 obtain ⟨m, hm⟩ : ∃ m, t.length = m := ⟨_, rfl⟩
 have hm2 : m ≤ 200 := by
  have := Gc.openC_len s.k (Ky.nonce s u) more text
  rw [← hm, ← ht']
  unfold Ky.open'
  omega
 have HMK : Hid (∀ W, Below w.heap.size w W → Calls Tryd.prog 10 #[.agg (cellsN h), .bool false] W fun e w' => e = .returned (.agg (secV s)) ∧ Below W.heap.size W w') := fun W hb => hs ▸ make_any h false W (ht.below hb) lh qh
 have HSE : Hid (∀ W, Below w.heap.size w W → Calls Tryd.prog 14 #[.agg (secV s), .int .i64 n, .slice A2 n2 c2, .slice A3 n3 c3] W fun e w' => ∃ b o c, e = .returned (.slice (some ⟨b, o, none⟩) (n3 + 16) c) ∧ Rd w' (some ⟨b, o, none⟩) X ∧ Below W.heap.size W w') := fun W hb =>
  (kseal_any s n u A2 n2 c2 more A3 n3 c3 text W ok hu hu2 (r2.below hb) m2 q2 ⟨by omega, k2.2⟩ (r3.below hb) m3 q3 ⟨by omega, k3.2⟩).mono fun e w' ⟨v, e1, hown, h3⟩ => by
   rw [hX] at hown
   obtain ⟨A, c, rfl, _, h4, h5, hr⟩ := own_cap hown
   obtain ⟨b, o, rfl, _, _⟩ := hr (by omega)
   exact ⟨b, o, c, e1, hr, h3⟩
 have HRE : Hid (∀ W, Below w.heap.size w W → Calls Tryd.prog 15 #[.agg (secV s), .int .i64 n, .slice A2 n2 c2, .slice A3 n3 c3] W fun e w' => ∃ b o c, e = .returned (.slice (some ⟨b, o, none⟩) (n3 + 16) c) ∧ Rd w' (some ⟨b, o, none⟩) X ∧ Below W.heap.size W w') := fun W hb =>
  (rkseal_any s n u A2 n2 c2 more A3 n3 c3 text W ok hu hu2 (r2.below hb) m2 q2 ⟨by omega, k2.2⟩ (r3.below hb) m3 q3 ⟨by omega, k3.2⟩).mono fun e w' ⟨v, e1, hown, h3⟩ => by
   rw [hX] at hown
   obtain ⟨A, c, rfl, _, h4, h5, hr⟩ := own_cap hown
   obtain ⟨b, o, rfl, _, _⟩ := hr (by omega)
   exact ⟨b, o, c, e1, hr, h3⟩
 have HOP : Hid (∀ W, Below w.heap.size w W → Calls Tryd.prog 11 #[.agg (secV s), .int .i64 n, .slice A2 n2 c2, .slice A3 n3 c3] W fun e w' => ∃ A c, e = .returned (.tuple #[.slice A m c, .int .i64 (E : Int)]) ∧ Rd w' A t ∧ Below W.heap.size W w') := fun W hb =>
  (kopen_any s n u A2 n2 c2 more A3 n3 c3 text W ok hu hu2 (r2.below hb) m2 q2 ⟨by omega, k2.2⟩ (r3.below hb) m3 q3 ⟨by omega, k3.2⟩).mono fun e w' ⟨A', n', c', e1, h5, h6, h7, h8⟩ => by
   rw [hE] at e1
   rw [ht'] at h5 h6
   obtain rfl : m = n' := by rw [← h6, hm]
   exact ⟨A', c', e1, h5, h8⟩
 have HRO : Hid (∀ W, Below w.heap.size w W → Calls Tryd.prog 12 #[.agg (secV s), .int .i64 n, .slice A2 n2 c2, .slice A3 n3 c3] W fun e w' => ∃ A c, e = .returned (.tuple #[.slice A m c, .int .i64 (E : Int)]) ∧ Rd w' A t ∧ Below W.heap.size W w') := fun W hb =>
  (rkopen_any s n u A2 n2 c2 more A3 n3 c3 text W ok hu hu2 (r2.below hb) m2 q2 ⟨by omega, k2.2⟩ (r3.below hb) m3 q3 ⟨by omega, k3.2⟩).mono fun e w' ⟨A', n', c', e1, h5, h6, h7, h8⟩ => by
   rw [hE] at e1
   rw [ht'] at h5 h6
   obtain rfl : m = n' := by rw [← h6, hm]
   exact ⟨A', c', e1, h5, h8⟩
 have HSM : Hid (∀ W A B c d l n, Rd W A l → Rd W B l → l.length = n → n ≤ 1000000 → Calls Tryd.prog 13 #[.slice A n c, .slice B n d] W fun e w' => e = .returned (.bool true) ∧ Below W.heap.size W w') := fun W A B c d l n hA hB hl hn =>
  (same_any A B c d n n l l W hA hB hl hl hn).mono fun e w' ⟨h3, q, h4⟩ => ⟨by rw [h3, decide_eq_true rfl], below_drewN' h4⟩
 have HAL := Lib.hid (fun W (hb : Below w.heap.size w W) => alive_true W (ht.below hb))
 obtain ⟨W1, hW1⟩ : ∃ W1, w.alloc (.cells (cellsN h) 23) = W1 := ⟨_, rfl⟩
 have HB1 : Hid (Below w.heap.size w W1) := hW1 ▸ (Below.refl _ w).alloc (Nat.le_refl _) _
 have HO1 : Hid (Obj W1 w.heap.size 23 (cellsN h)) := hW1 ▸ Obj.new w _ _
 have HIH := Lib.hid (sizeH32 lh)
 have HIS := Lib.hid (sizeSec ok)
 have HSZ : Hid (zSec.size = (secV s).size) := by unfold Hid zSec; rw [pSec_size, secV_size ok]
 have HW1 := Lib.hid hW1
 have HLX := Lib.hid lX
 have HTM := Lib.hid hm
 have HN3 : Hid (n3 + 16 ≤ 1000000 ∧ m ≤ 1000000) := ⟨by omega, by omega⟩
 clear hW1 hs hX lX hE ht' hm hm2 hu hu2 ok r2 m2 q2 k2 r3 m3 q3 k3 lh qh ht
 go_enter Tryd.func3, Tryd.ntmps3
 go_wp2_with fail
 rw [HW1.out]
 refine (HAL.out _ HB1.out).mono ?_
 rintro e w2 ⟨rfl, hb2⟩
 have HB2 := Lib.hid (HB1.out.trans (hb2.mono HB1.out.size))
 have HO2 := Lib.hid (HO1.out.kept hb2)
 clear hb2 HO1 HB1 HW1
 go_wp2_with (first
  | (refine wpList_load_row rfl 23 (.tmp 4) rfl w.heap.size rfl _ _ _ _ HO2.out Tryd.underlying23 rfl HIH.out ?_))
 refine (HMK.out _ HB2.out).mono ?_
 rintro e w3 ⟨rfl, hb3⟩
 have hB3 := HB2.out.trans (hb3.mono HB2.out.size)
 obtain ⟨T, hT⟩ : ∃ T, w3.heap.size = T := ⟨_, rfl⟩
 have hON : Obj (w3.alloc (.cells zSec 29)) T 29 zSec := hT ▸ Obj.new w3 _ _
 have U4 := (Upd.refl T (w3.alloc (.cells zSec 29))).row (secV s)
 obtain ⟨w4, hw4⟩ : ∃ w4, (w3.alloc (.cells zSec 29)).setRow T (secV s) = w4 := ⟨_, rfl⟩
 have HZ4 : Hid (SzI w T s w4) := ⟨hw4 ▸ hON.row _, hw4 ▸ Upd.below (hB3.alloc hB3.size _) (hT ▸ hB3.size) U4⟩
 have HON := Lib.hid hON
 have HW4 := Lib.hid hw4
 clear hON U4 hw4 hb3 hB3 HO2 HB2
 go_wp2_with (first
  | (refine wpList_allocS rfl rfl ?_)
  | (refine wpList_store_row rfl 29 (.tmp 9) (.tmp 25) rfl T _ (by simp [Act.eval, Act.put, hT]) rfl _ _ HON.out HIS.out HSZ.out (one_rowT _ _) ?_; rw [HW4.out])
  | (refine wpList_load_row rfl 29 (.tmp 9) rfl T (by simp [Act.eval, Act.put, hT]) _ _ _ _ HZ4.out.o Tryd.underlying29 rfl HIS.out ?_))
 try rw [hT]
 clear hT HON HW4
 refine (HOP.out _ HZ4.out.bel).mono ?_
 rintro e w5 ⟨A5, c5, rfl, hr5, hb5⟩
 have HZ5 := Lib.hid (HZ4.out.kept hb5)
 have HR5 := Lib.hid hr5
 clear hb5 hr5 HZ4
 go_wp2_with (first
  | (refine wpList_load_row rfl 29 (.tmp 9) rfl T rfl _ _ _ _ HZ5.out.o Tryd.underlying29 rfl HIS.out ?_))
 refine (HRO.out _ HZ5.out.bel).mono ?_
 rintro e w6 ⟨A6, c6, rfl, hr6, hb6⟩
 have hZ6 := HZ5.out.kept hb6
 have HJ0 : Hid (SlI w T s A5 A6 t w6.drew) := ⟨hZ6.o.drew, (HR5.out.below hb6).below ((Below.refl _ w6).drew), hr6.below ((Below.refl _ w6).drew), hZ6.bel.drew⟩
 clear hb6 hr6 HZ5 HR5 hZ6
 go_wp2_with fail
 refine wp_region_held_drew (S := (fun wq => SlI w T s A5 A6 t wq)) (by kernel_rfl) HJ0.out (fun hHeld => ?_)
 refine tkH 0 ?_ (hy := by
  refine yieldsIf_load_row (g := T) (t := 29) (cs := secV s) (ty := 29) (x := (.tmp 9)) ?_ ?_ ?_ ?_ Tryd.underlying29 rfl HIS.out
  ·rfl
  ·rfl
  ·rfl
  ·exact fun w hSw => hSw.o)
 refine tkH 1 ?_
 refine tkH 2 ?_
 refine tkH 3 ?_
 refine tkH 5 ?_ (hy := by
  refine yieldsIf_load_row (g := T) (t := 29) (cs := secV s) (ty := 29) (x := (.tmp 9)) ?_ ?_ ?_ ?_ Tryd.underlying29 rfl HIS.out
  ·rfl
  ·rfl
  ·rfl
  ·exact fun w hSw => hSw.o)
 refine tkH 6 ?_
 refine tkH 7 ?_
 refine tkH 8 ?_
 refine onH 4 (fun KK hKK => ?_)
 go_simp
 refine (HSE.out _ HJ0.out.bel).mono ?_
 rintro e x1 ⟨b0, o0, cc0, rfl, hr, hb⟩
 have HJ1 := Lib.hid (HJ0.out.kept hb)
 have HX0 := Lib.hid hr
 clear hr hb
 try go_wp2_with fail
 refine hKK.out _ _ ?_ (fun hh => ?_)
 ·(try dsimp only)
  exact HJ1.out
 clear hKK KK
 try simp only [Act.put, setIfInBounds_toArray, set_cons_zero, set_cons_succ]
 refine onH 9 (fun KK hKK => ?_)
 go_simp
 refine (HRE.out _ HJ1.out.bel).mono ?_
 rintro e x2 ⟨b1, o1, cc1, rfl, hr, hb⟩
 have HJ2 := Lib.hid (HJ1.out.kept hb)
 have HX1 := Lib.hid hr
 have HX0' := Lib.hid (HX0.out.below hb)
 clear hr hb
 try go_wp2_with fail
 refine hKK.out _ _ ?_ (fun hh => ?_)
 ·(try dsimp only)
  exact HJ2.out
 clear hKK KK
 try simp only [Act.put, setIfInBounds_toArray, set_cons_zero, set_cons_succ]
 refine onH 10 (fun KK hKK => ?_)
 go_simp
 refine (HSM.out _ _ _ _ _ X _ HX0'.out HX1.out HLX.out HN3.out.1).mono ?_
 rintro e x3 ⟨rfl, hb⟩
 have HJ3 := Lib.hid (HJ2.out.kept hb)
 clear hb
 try go_wp2_with fail
 refine hKK.out _ _ ?_ (fun hh => ?_)
 ·(try dsimp only)
  exact HJ3.out
 clear hKK KK
 try simp only [Act.put, setIfInBounds_toArray, set_cons_zero, set_cons_succ]
 refine tkH 11 ?_
 refine tkH 12 ?_
 refine tkH 13 ?_
 refine tkH 14 ?_
 refine tkH 15 ?_
 refine tkH 16 ?_
 refine tkH 17 ?_
 refine tkH 18 ?_
 refine onH 19 (fun KK hKK => ?_)
 go_simp
 refine (HSM.out _ _ _ _ _ t _ HJ3.out.a HJ3.out.b HTM.out HN3.out.2).mono ?_
 rintro e x4 ⟨rfl, hb⟩
 have HJ4 := Lib.hid (HJ3.out.kept hb)
 clear hb
 try go_wp2_with fail
 refine hKK.out _ _ ?_ (fun hh => ?_)
 ·(try dsimp only)
  exact HJ4.out
 clear hKK KK
 try simp only [Act.put, setIfInBounds_toArray, set_cons_zero, set_cons_succ]
 refine tkH 20 ?_
 refine tkH 21 ?_
 refine wpAnyH_done (by kernel_rfl) ?_ _
 go_wp2
 go_ret
 exact ⟨rfl, HJ4.out.bel⟩
set_option maxHeartbeats 4000000 in
theorem keysSeal_walk (h : List Nat) (n : Int) (A2 : Option Addr) (n2 c2 : Nat) (z2 : List Int) (A3 : Option Addr) (n3 c3 : Nat) (z3 : List Int) (w : World) (lh : h.length = 32) (qh : ∀ c ∈ h, c < 256) (w1 : (Lit.int .i64 n).wf = true) (i2 : Ints .u8 w A2 n2 z2) (x2 : n2 ≤ c2 ∧ c2 ≤ maxLen) (i3 : Ints .u8 w A3 n3 z3) (x3 : n3 ≤ c3 ∧ c3 ≤ maxLen) (ht : KTab w) :
  Calls Tryd.prog 3 #[.agg (cellsK .u8 h), .int .i64 n, .slice A2 n2 c2, .slice A3 n3 c3] w fun e w' => e = .returned (.bool true) ∧ Below w.heap.size w w' := by
 obtain ⟨l2, m2, q2, r2⟩ := i2.rd
 obtain ⟨l3, m3, q3, r3⟩ := i3.rd
 unfold maxLen at x2 x3
 by_cases hh : n2 ≤ 100 ∧ n3 ≤ 200
 ·exact keysSeal_small h n A2 n2 c2 l2 A3 n3 c3 l3 w ht lh qh r2 m2 q2 ⟨hh.1, x2⟩ r3 m3 q3 ⟨hh.2, x3⟩
 ·have HAL := Lib.hid (fun W (hb : Below w.heap.size w W) => alive_true W (ht.below hb))
  have PL : Hid (Below w.heap.size w (w.alloc (.cells (cellsK .u8 h) 23))) := (Below.refl _ w).alloc (Nat.le_refl _) _
  have hc : (100 < (n2 : Int)) ∨ (¬ 100 < (n2 : Int) ∧ 200 < (n3 : Int)) := by omega
  clear i2 m2 q2 r2 i3 m3 q3 r3 ht hh
  go_enter Tryd.func3, Tryd.ntmps3
  go_wp2_with fail
  refine (HAL.out _ PL.out).mono ?_
  rintro e w1 ⟨rfl, hb1⟩
  have HA := Lib.hid (PL.out.trans (hb1.mono PL.out.size))
  clear hb1 PL
  rcases hc with h1 | ⟨h1, h2⟩
  ·have h1' : (n2 : Int) > 100 := by omega
   go_wp2
   go_ret
   exact ⟨rfl, HA.out⟩
  ·have h1' : ¬ (n2 : Int) > 100 := by omega
   have h2' : (n3 : Int) > 200 := by omega
   go_wp2
   go_ret
   exact ⟨rfl, HA.out⟩
end Go.Proofs.YtabfcaidioohfaaDoor
