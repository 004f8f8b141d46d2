/- Layer 10's keys of the document, walked: the nonce, Seal and Open. -/
import Derived.Test.YtabfcaidioohfaaDoorZp
import Derived.Test.YtabfcaidioohfaaDoorRows
import Derived.Test.YtabfcaidioohfaaDoorZa
import Derived.Test.YtabfcaidioohfaaDoorZs
import Derived.Test.YtabfcaidioohfaaDoorZu
import Derived.Test.YtabfcaidioohfaaDoorZk
import Derived.WalkKit
import Derived.Great.Walk
import Derived.OwnWalkIn
import Derived.LoopN
import Derived.LoopIn
import Derived.WalkSpells
import Derived.WalkLawsBesides
import Derived.Laws.Rows
import Derived.Laws.CopyOwn
import Derived.Handy
import Derived.BigQuiet
import Derived.Deep.QuietTactic
import Derived.Deep.MidRow
import Derived.Deep.RegionHeld3
import Derived.IntWalk
import Derived.Lib.Hide
import Derived.Test.YtabfcaidioohfaaDoorZf
namespace Go.Proofs.YtabfcaidioohfaaDoor
open List (getElem?_toArray getElem?_cons_zero getElem?_cons_succ setIfInBounds_toArray set_cons_zero set_cons_succ)
open Go Go.RowKit Go.Shelf
set_option linter.unusedVariables false
set_option linter.unusedSimpArgs false
set_option maxRecDepth 100000
set_option maxHeartbeats 4000000 in
theorem rnonce_any (s : Ky.Sec) (n : Int) (u : Nat) (w : World) (hs : s.Ok) (hu : IntKind.u64.wrap n = (u : Int)) (hu2 : u < 18446744073709551616) :
  Calls Tryd.prog 43 #[.agg (secV s), .int .i64 n] w fun e w' => e = .returned (.agg (cellsN (Ky.nonce s u))) ∧ Below w.heap.size w w' := by
 obtain ⟨B, hB⟩ : ∃ B, w.heap.size = B := ⟨_, rfl⟩
 obtain ⟨W2, hW2⟩ : ∃ W2, (w.alloc (.cells (secV s) 29)).alloc (.cells #[.int .u8 0, .int .u8 0, .int .u8 0, .int .u8 0, .int .u8 0, .int .u8 0, .int .u8 0, .int .u8 0, .int .u8 0, .int .u8 0, .int .u8 0, .int .u8 0] 27) = W2 := ⟨_, rfl⟩
 have hb2 : Below w.heap.size w W2 := hW2 ▸ ((Below.refl _ w).alloc (Nat.le_refl _) _).alloc (by simp) _
 have s2 : W2.heap.size = B + 1 + 1 := by rw [← hW2]; simp [hB]
 have o0 : Obj W2 B 29 (secV s) := hW2 ▸ hB ▸ (Obj.new w _ _).alloc _
 have o1 : Obj W2 (B + 1) 27 (cellsN (List.replicate 12 0)) := by
  have := new2 w (.cells (secV s) 29) 27 #[.int .u8 0, .int .u8 0, .int .u8 0, .int .u8 0, .int .u8 0, .int .u8 0, .int .u8 0, .int .u8 0, .int .u8 0, .int .u8 0, .int .u8 0, .int .u8 0]
  rw [hB, hW2] at this; exact this
 have HRI := Lib.hid (o0.secI hs)
 have HI12 : Hid ((Tryd.prog.info? 27).map (·.size) = some (s.iv.map u8v).length) := by unfold Hid; rw [List.length_map, hs.li]; exact info12'
 have HI12N : Hid ((Tryd.prog.info? 27).map (·.size) = some (cellsN s.iv).size) := size12 hs.li
 have hON : Obj (W2.alloc (.cells #[.int .u8 0, .int .u8 0, .int .u8 0, .int .u8 0, .int .u8 0, .int .u8 0, .int .u8 0, .int .u8 0, .int .u8 0, .int .u8 0, .int .u8 0, .int .u8 0] 27)) (B + 1 + 1) 27 #[.int .u8 0, .int .u8 0, .int .u8 0, .int .u8 0, .int .u8 0, .int .u8 0, .int .u8 0, .int .u8 0, .int .u8 0, .int .u8 0, .int .u8 0, .int .u8 0] := s2 ▸ Obj.new W2 _ _
 have U3 := (Upd.refl (B + 1 + 1) (W2.alloc (.cells #[.int .u8 0, .int .u8 0, .int .u8 0, .int .u8 0, .int .u8 0, .int .u8 0, .int .u8 0, .int .u8 0, .int .u8 0, .int .u8 0, .int .u8 0, .int .u8 0] 27))).row (cellsN s.iv)
 obtain ⟨W3, hW3⟩ : ∃ W3, (W2.alloc (.cells #[.int .u8 0, .int .u8 0, .int .u8 0, .int .u8 0, .int .u8 0, .int .u8 0, .int .u8 0, .int .u8 0, .int .u8 0, .int .u8 0, .int .u8 0, .int .u8 0] 27)).setRow (B + 1 + 1) (cellsN s.iv) = W3 := ⟨_, rfl⟩
 have HI0 : Hid (NoI w B s u 0 W3) := by
  refine ⟨hW3 ▸ (o0.alloc _).upd U3 (by omega), hW3 ▸ (o1.alloc _).upd U3 (by omega), ?_, hW3 ▸ Upd.below (hb2.alloc hb2.size _) (by omega) U3⟩
  rw [Ky.nonceK_zero u hs.li]; exact hW3 ▸ hON.row _
 have HSZ : Hid ((#[.int .u8 0, .int .u8 0, .int .u8 0, .int .u8 0, .int .u8 0, .int .u8 0, .int .u8 0, .int .u8 0, .int .u8 0, .int .u8 0, .int .u8 0, .int .u8 0] : Array Value).size = (cellsN s.iv).size) := by unfold Hid; rw [cellsN_size, hs.li]; rfl
 have HON := Lib.hid hON
 have HW2 := Lib.hid hW2
 have HW3 := Lib.hid hW3
 have HLI := Lib.hid hs.li
 have HQI := Lib.hid hs.qi
 have HB := Lib.hid hB
 have HS2 := Lib.hid s2
 clear hW2 hW3 hb2 s2 o0 o1 hON U3 hs
 go_enter Tryd.func43, Tryd.ntmps43
 go_wp2_with (first
  | (rw [HW2.out]; refine wpList_load_mid rfl 27 (.tmp 8) rfl B 16 rfl _ _ HRI.out Tryd.underlying27 rfl HI12.out ?_; rw [cellsN_arr])
  | (refine wpList_store_row rfl 27 (.tmp 5) (.tmp 9) rfl (B + 1 + 1) _ (by rw [← HS2.out]; rfl) rfl _ _ HON.out HI12N.out HSZ.out (one_cellsN _) ?_; rw [HW3.out]))
 rw [HS2.out]
 have hu3 : n % 18446744073709551616 = (u : Int) := by rw [← hu, IntKind.wrap_u64]
 go_wp2
 go_loopw [6, 7] (fun v i V => ∃ k : Nat, k ≤ 8 ∧ i = .int .i64 (11 - (k : Int)) ∧ v = .int .u64 ((u / 256 ^ k : Nat) : Int) ∧ NoI w B s u k V) (fun _ i _ => (intOf i).toNat)
 case atStart => exact ⟨0, Nat.zero_le _, rfl, by rw [Nat.pow_zero, Nat.div_one], HI0.out⟩
 case round =>
  clear HI0 HON HW2 HW3 HS2 HRI hu hu3
  obtain ⟨k, hk, rfl, rfl, hI⟩ := hrel
  obtain ⟨z, hz⟩ : ∃ z, u / 256 ^ k = z := ⟨_, rfl⟩
  have hz2 : z < 18446744073709551616 := by rw [← hz]; exact Nat.lt_of_le_of_lt (Nat.div_le_self _ _) hu2
  have hzn : u / 256 ^ (k + 1) = z / 256 := by rw [← hz, Nat.pow_succ, Nat.div_div_eq_div_mul]
  have HZN := Lib.hid hzn
  obtain ⟨a, ha⟩ : ∃ a : Int, 11 - (k : Int) = a := ⟨_, rfl⟩
  rw [hz, ha]
  by_cases hlt : k < 8
  ·obtain ⟨c, hc⟩ : ∃ c, 11 - k = c := ⟨_, rfl⟩
   obtain rfl : a = (c : Int) := by omega
   have hki : (4 : Int) ≤ (c : Int) := by omega
   have hci : (c : Int) < 12 := by omega
   have r0 : wr.cell? ⟨B + 1 + 1, c, none⟩ = some (.int .u8 ((s.iv.getD c 0 : Nat) : Int)) := by
    have := hI.b.getN c (by rw [Ky.nonceK_len]; omega)
    rwa [Ky.nonceK_get _ _ _ _ (by omega), if_neg (by omega)] at this
   have z0 := hI.b.free c
   have v0 : (z : Int) % 256 = ((z % 256 : Nat) : Int) := by omega
   have hxr := u8_xor_nat (s.iv.getD c 0) (z % 256) (Ae.bytes_get HQI.out c) (Nat.mod_lt _ (by decide))
   have HNX : Hid (NoI w B s u (k + 1) (wr.setCell ⟨B + 1 + 1, c, none⟩ (.int .u8 ((s.iv.getD c 0 ^^^ (z % 256) : Nat) : Int)))) := by
    have := hI.set HB.out (by omega) hc
    rwa [hz] at this
   have e2 : IntKind.i64.wrap ((c : Int) - 1) = 11 - ((k + 1 : Nat) : Int) := by rw [IntWalk.i64_in _ (by omega)]; omega
   have hcp : (c : Int) - 1 = 11 - ((k + 1 : Nat) : Int) := by omega
   have HCP := Lib.hid hcp
   have hm := Nat.mod_lt z (show 0 < 256 by decide)
   have HK := Lib.hid hlt
   have v1 : (z : Int) / 256 = ((z / 256 : Nat) : Int) := by omega
   have HV1 := Lib.hid v1
   clear hI hc hz hzn ha hcp e2 v1
   generalize z % 256 = y at *
   generalize s.iv.getD c 0 = x at *
   go_wp2
   go_roundw
   case rel => exact ⟨k + 1, by omega, by rw [← HCP.out], by rw [HZN.out]; rw [← HV1.out], HNX.out⟩
   case measure => simp [intOf]; omega
  ·obtain rfl : k = 8 := by omega
   obtain rfl : a = 3 := by omega
   clear hz hzn ha HZN
   have HJ := Lib.hid hI
   have HIN := Lib.hid (size12 (Ky.nonceK_len s.iv u 8))
   have HSN : Hid ((cellsN (List.replicate 12 0)).size = (cellsN (Ky.nonceK s.iv u 8)).size) := by unfold Hid; rw [cellsN_size, cellsN_size, Ky.nonceK_len]; rfl
   have hFB : Below w.heap.size w (wr.setRow (B + 1) (cellsN (Ky.nonceK s.iv u 8))) := Upd.below hI.bel (by have := HB.out; omega) ((Upd.refl _ _).row _)
   have HFB := Lib.hid hFB
   clear hI hFB
   go_wp2_with (first
    | (refine wpList_load_row rfl 27 (.tmp 5) rfl _ rfl _ _ _ _ HJ.out.b Tryd.underlying27 rfl HIN.out ?_)
    | (refine wpList_store_row rfl 27 (.tmp 4) (.tmp 27) rfl _ _ rfl rfl _ _ HJ.out.r HIN.out HSN.out (one_cellsN _) ?_))
   exact bodyPost_ret (v := .agg (cellsN (Ky.nonceK s.iv u 8))) (results_cell_row rfl _ _ _ _ _ _ _ rfl (HJ.out.r.row _) Tryd.underlying27 rfl HIN.out) rfl ⟨rfl, HFB.out⟩
set_option maxHeartbeats 4000000 in
theorem rkseal_any (s : Ky.Sec) (n : Int) (u : Nat) (A1 : Option Addr) (n1 c1 : Nat) (more : List Nat) (A2 : Option Addr) (n2 c2 : Nat) (text : List Nat) (w : World) (hs : s.Ok) (hu : IntKind.u64.wrap n = (u : Int)) (hu2 : u < 18446744073709551616) (r1 : Rd w A1 more) (m1 : more.length = n1) (b1 : Ae.bytes more) (k1 : n1 ≤ 100000 ∧ n1 ≤ c1 ∧ c1 ≤ 9223372036854775807) (r2 : Rd w A2 text) (m2 : text.length = n2) (b2 : Ae.bytes text) (k2 : n2 ≤ 100000 ∧ n2 ≤ c2 ∧ c2 ≤ 9223372036854775807) :
  Calls Tryd.prog 15 #[.agg (secV s), .int .i64 n, .slice A1 n1 c1, .slice A2 n2 c2] w fun e w' => ∃ v, e = .returned v ∧ w'.ownsRow w.heap.size 5 1 v (n2 + 16) ((Ky.sealW s u more text).map u8v) ∧ Below w.heap.size w w' := by
 have HNO : Hid (∀ W, Calls Tryd.prog 43 #[.agg (secV s), .int .i64 n] W fun e w' => e = .returned (.agg (cellsN (Ky.nonce s u))) ∧ Below W.heap.size W w') := fun W => rnonce_any s n u W hs hu hu2
 have HSE : Hid (∀ W, Below w.heap.size w W → Calls Tryd.prog 45 #[.agg (cellsN s.k), .agg (cellsN (Ky.nonce s u)), .slice A1 n1 c1, .slice A2 n2 c2] W fun e w' => ∃ v, e = .returned v ∧ w'.ownsRow w.heap.size 5 1 v (n2 + 16) ((Ky.sealW s u more text).map u8v) ∧ Below W.heap.size W w') := fun W hb =>
  (refSeal_any s.k (Ky.nonce s u) A1 n1 c1 more A2 n2 c2 text W hs.lk hs.qk (Ky.nonce_len s u) (Ky.nonce_bytes u hs) (r1.below hb) m1 b1 k1.1 (r2.below hb) m2 b2 k2.1).mono fun e w' ⟨v, h1, h2, h3⟩ => ⟨v, h1, own_base h2 hb.size, h3⟩
 obtain ⟨W1, hW1⟩ : ∃ W1, w.alloc (.cells (secV s) 29) = W1 := ⟨_, rfl⟩
 have hb1 : Below w.heap.size w W1 := hW1 ▸ (Below.refl _ w).alloc (Nat.le_refl _) _
 have h01 : Obj W1 w.heap.size 29 (secV s) := hW1 ▸ Obj.new w _ _
 have H1 : Hid (Obj W1.drew w.heap.size 29 (secV s) ∧ Below w.heap.size w W1.drew) := ⟨h01.drew, hb1.drew⟩
 have HI16 : Hid ((Tryd.prog.info? 26).map (·.size) = some (s.k.map u8v).length) := by unfold Hid; rw [List.length_map, hs.lk]; exact info16
 have HIS := Lib.hid (sizeSec hs)
 have HW1 := Lib.hid hW1
 clear hW1 hb1 h01 hs
 clear r1 m1 b1 k1 r2 m2 b2 k2 hu hu2
 go_enter Tryd.func15, Tryd.ntmps15
 go_wp2
 refine wp_region_held_drew (S := (fun wq => Obj wq w.heap.size 29 (secV s) ∧ Below w.heap.size w wq)) (by kernel_rfl) (by rw [HW1.out]; exact H1.out) (fun hHeld => ?_)
 rw [HW1.out]
 refine tkH 0 ?_
 refine tkH 1 (v := .agg (cellsN s.k)) ?_ (hy := by
  refine yieldsIf_load_mid ?_ 26 (.tmp 9) ?_ w.heap.size 0 ?_ (s.k.map u8v) _ ?_ Tryd.underlying26 rfl HI16.out
  ·rfl
  ·rfl
  ·rfl
  ·exact fun w hSw => hSw.1.secK)
 refine tkH 2 ?_ (hy := by
  refine yieldsIf_load_row (g := w.heap.size) (t := 29) (cs := secV s) (ty := 29) (x := (.tmp 4)) ?_ ?_ ?_ ?_ Tryd.underlying29 rfl HIS.out
  ·rfl
  ·rfl
  ·rfl
  ·exact fun w hSw => hSw.1)
 refine tkH 3 ?_
 refine tkH 5 ?_
 refine tkH 6 ?_
 refine onH 4 (fun KK hKK => ?_)
 go_simp
 refine (HNO.out _).mono ?_
 rintro e w2 ⟨rfl, hb2⟩
 have H2 : Hid (Obj w2 w.heap.size 29 (secV s) ∧ Below w.heap.size w w2) := ⟨H1.out.1.kept hb2, H1.out.2.trans (hb2.mono H1.out.2.size)⟩
 clear hb2
 try go_wp2_with fail
 refine hKK.out _ _ ?_ (fun hh4 => ?_)
 ·(try dsimp only)
  exact H2.out
 clear hKK KK
 try simp only [Act.put, setIfInBounds_toArray, set_cons_zero, set_cons_succ]
 refine onH 7 (fun KK hKK => ?_)
 go_simp
 refine (HSE.out _ H2.out.2).mono ?_
 rintro e w3 ⟨v3, rfl, ho3, hb3⟩
 have H3 : Hid (Obj w3 w.heap.size 29 (secV s) ∧ Below w.heap.size w w3) := ⟨H2.out.1.kept hb3, H2.out.2.trans (hb3.mono H2.out.2.size)⟩
 have HO := Lib.hid ho3
 clear hb3 ho3
 try go_wp2_with fail
 refine hKK.out _ _ ?_ (fun hh7 => ?_)
 ·(try dsimp only)
  exact H3.out
 clear hKK KK
 try simp only [Act.put, setIfInBounds_toArray, set_cons_zero, set_cons_succ]
 refine tkH 8 ?_
 refine wpAnyH_done (by kernel_rfl) ?_ _
 go_wp2
 go_ret
 exact ⟨_, rfl, HO.out, H3.out.2⟩
set_option maxHeartbeats 4000000 in
theorem rkopen_fr (s : Ky.Sec) (n : Int) (u : Nat) (A1 : Option Addr) (n1 c1 : Nat) (more : List Nat) (A2 : Option Addr) (n2 c2 : Nat) (text : List Nat) (w : World) (hs : s.Ok) (hu : IntKind.u64.wrap n = (u : Int)) (hu2 : u < 18446744073709551616) (r1 : Rd w A1 more) (m1 : more.length = n1) (b1 : Ae.bytes more) (k1 : n1 ≤ 100000 ∧ n1 ≤ c1 ∧ c1 ≤ 9223372036854775807) (r2 : Rd w A2 text) (m2 : text.length = n2) (b2 : Ae.bytes text) (k2 : n2 ≤ 100000 ∧ n2 ≤ c2 ∧ c2 ≤ 9223372036854775807) :
  Calls Tryd.prog 12 #[.agg (secV s), .int .i64 n, .slice A1 n1 c1, .slice A2 n2 c2] w fun e w' => ∃ A n c, e = .returned (.tuple #[.slice A n c, .int .i64 ((Ky.open' s u more text).1 : Int)]) ∧ Rd w' A (Ky.open' s u more text).2 ∧ (Ky.open' s u more text).2.length = n ∧ n ≤ c ∧ Below w.heap.size w w' ∧ Fr w.heap.size A := by
 have HNO : Hid (∀ W, Calls Tryd.prog 43 #[.agg (secV s), .int .i64 n] W fun e w' => e = .returned (.agg (cellsN (Ky.nonce s u))) ∧ Below W.heap.size W w') := fun W => rnonce_any s n u W hs hu hu2
 obtain ⟨E, hE⟩ : ∃ E, (Ky.open' s u more text).1 = E := ⟨_, rfl⟩
 obtain ⟨t, ht⟩ : ∃ t, (Ky.open' s u more text).2 = t := ⟨_, rfl⟩
 have HSE : Hid (∀ W, Below w.heap.size w W → Calls Tryd.prog 42 #[.agg (cellsN s.k), .agg (cellsN (Ky.nonce s u)), .slice A1 n1 c1, .slice A2 n2 c2] W fun e w' => ∃ A n c, e = .returned (.tuple #[.slice A n c, .int .i64 (E : Int)]) ∧ Rd w' A t ∧ t.length = n ∧ n ≤ c ∧ Below W.heap.size W w' ∧ Fr W.heap.size A) := fun W hb => by
  rw [← hE, ← ht]
  exact refOpen_any s.k (Ky.nonce s u) A1 n1 c1 more A2 n2 c2 text W hs.lk hs.qk (Ky.nonce_len s u) (Ky.nonce_bytes u hs) (r1.below hb) m1 b1 k1.1 (r2.below hb) m2 b2 ⟨k2.1, k2.2⟩
 rw [hE, ht]
 clear hE ht
 obtain ⟨W1, hW1⟩ : ∃ W1, w.alloc (.cells (secV s) 29) = W1 := ⟨_, rfl⟩
 have hb1 : Below w.heap.size w W1 := hW1 ▸ (Below.refl _ w).alloc (Nat.le_refl _) _
 have h01 : Obj W1 w.heap.size 29 (secV s) := hW1 ▸ Obj.new w _ _
 have H1 : Hid (Obj W1.drew w.heap.size 29 (secV s) ∧ Below w.heap.size w W1.drew) := ⟨h01.drew, hb1.drew⟩
 have HI16 : Hid ((Tryd.prog.info? 26).map (·.size) = some (s.k.map u8v).length) := by unfold Hid; rw [List.length_map, hs.lk]; exact info16
 have HIS := Lib.hid (sizeSec hs)
 have HW1 := Lib.hid hW1
 clear hW1 hb1 h01 hs
 clear r1 m1 b1 k1 r2 m2 b2 k2 hu hu2
 go_enter Tryd.func12, Tryd.ntmps12
 go_wp2
 refine wp_region_held_drew (S := (fun wq => Obj wq w.heap.size 29 (secV s) ∧ Below w.heap.size w wq)) (by kernel_rfl) (by rw [HW1.out]; exact H1.out) (fun hHeld => ?_)
 rw [HW1.out]
 refine tkH 0 ?_
 refine tkH 1 (v := .agg (cellsN s.k)) ?_ (hy := by
  refine yieldsIf_load_mid ?_ 26 (.tmp 10) ?_ w.heap.size 0 ?_ (s.k.map u8v) _ ?_ Tryd.underlying26 rfl HI16.out
  ·rfl
  ·rfl
  ·rfl
  ·exact fun w hSw => hSw.1.secK)
 refine tkH 2 ?_ (hy := by
  refine yieldsIf_load_row (g := w.heap.size) (t := 29) (cs := secV s) (ty := 29) (x := (.tmp 4)) ?_ ?_ ?_ ?_ Tryd.underlying29 rfl HIS.out
  ·rfl
  ·rfl
  ·rfl
  ·exact fun w hSw => hSw.1)
 refine tkH 3 ?_
 refine tkH 5 ?_
 refine tkH 6 ?_
 refine onH 4 (fun KK hKK => ?_)
 go_simp
 refine (HNO.out _).mono ?_
 rintro e w2 ⟨rfl, hb2⟩
 have H2 : Hid (Obj w2 w.heap.size 29 (secV s) ∧ Below w.heap.size w w2) := ⟨H1.out.1.kept hb2, H1.out.2.trans (hb2.mono H1.out.2.size)⟩
 clear hb2
 try go_wp2_with fail
 refine hKK.out _ _ ?_ (fun hh4 => ?_)
 ·(try dsimp only)
  exact H2.out
 clear hKK KK
 try simp only [Act.put, setIfInBounds_toArray, set_cons_zero, set_cons_succ]
 refine onH 7 (fun KK hKK => ?_)
 go_simp
 refine (HSE.out _ H2.out.2).mono ?_
 rintro e w3 ⟨A3, n3, c3, rfl, hr3, hl3, hc3, hb3, hf3⟩
 have HFR := Lib.hid (hf3.mono H2.out.2.size)
 clear hf3
 have H3 : Hid (Obj w3 w.heap.size 29 (secV s) ∧ Below w.heap.size w w3) := ⟨H2.out.1.kept hb3, H2.out.2.trans (hb3.mono H2.out.2.size)⟩
 have HO := Lib.hid hr3
 have HL := Lib.hid hl3
 clear hb3 hr3 hl3
 try go_wp2_with fail
 refine hKK.out _ _ ?_ (fun hh7 => ?_)
 ·(try dsimp only)
  exact H3.out
 clear hKK KK
 try simp only [Act.put, setIfInBounds_toArray, set_cons_zero, set_cons_succ]
 refine tkH 8 ?_
 refine tkH 9 ?_
 refine tkH 10 ?_
 refine tkH 11 ?_
 refine wpAnyH_done (by kernel_rfl) ?_ _
 go_wp2
 refine bodyPost_ret (results_tmp2 rfl _ _ _) rfl ?_
 exact ⟨_, _, _, rfl, HO.out, HL.out, hc3, H3.out.2, HFR.out⟩
theorem rkopen_any (s : Ky.Sec) (n : Int) (u : Nat) (A1 : Option Addr) (n1 c1 : Nat) (more : List Nat) (A2 : Option Addr) (n2 c2 : Nat) (text : List Nat) (w : World) (hs : s.Ok) (hu : IntKind.u64.wrap n = (u : Int)) (hu2 : u < 18446744073709551616) (r1 : Rd w A1 more) (m1 : more.length = n1) (b1 : Ae.bytes more) (k1 : n1 ≤ 100000 ∧ n1 ≤ c1 ∧ c1 ≤ 9223372036854775807) (r2 : Rd w A2 text) (m2 : text.length = n2) (b2 : Ae.bytes text) (k2 : n2 ≤ 100000 ∧ n2 ≤ c2 ∧ c2 ≤ 9223372036854775807) :
  Calls Tryd.prog 12 #[.agg (secV s), .int .i64 n, .slice A1 n1 c1, .slice A2 n2 c2] w fun e w' => ∃ A n c, e = .returned (.tuple #[.slice A n c, .int .i64 ((Ky.open' s u more text).1 : Int)]) ∧ Rd w' A (Ky.open' s u more text).2 ∧ (Ky.open' s u more text).2.length = n ∧ n ≤ c ∧ Below w.heap.size w w' :=
 (rkopen_fr s n u A1 n1 c1 more A2 n2 c2 text w hs hu hu2 r1 m1 b1 k1 r2 m2 b2 k2).mono fun e w' ⟨A, n, c, h1, h2, h3, h4, h5, _⟩ => ⟨A, n, c, h1, h2, h3, h4, h5⟩
end Go.Proofs.YtabfcaidioohfaaDoor
