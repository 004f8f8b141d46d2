/- LedgerLate, walked. -/
import Derived.Test.YtlldomgfjmkcdaaRows
import Derived.Test.YtlldomgfjmkcdaaAid
import Derived.Test.YtlldomgfjmkcdaaLgW
import Derived.Test.YtlldomgfjmkcdaaLgB
import Derived.Test.YtlldomgfjmkcdaaLgD
import Derived.Test.YtlldomgfjmkcdaaLgU
import Derived.Test.YtlldomgfjmkcdaaLgV
import Derived.Test.YtlldomgfjmkcdaaLgX
import Derived.WalkLawsBesides
import Derived.OpenShut
namespace Go.Proofs.Ytlldomgfjmkcdaa
open Go Go.RowKit
set_option linter.unusedVariables false
set_option linter.unusedSimpArgs false

theorem due_keys (a s k d : Nat) : ∀ m, m + 2 ≤ k → dueLK (keysN a s (m + 1)) k d = tadd a d
  | 0, h => by
    show dueK k d 18446744073709551615 ⟨0, a, s, true⟩ = _
    unfold dueK
    rw [if_pos (show 0 + 1 < k by omega)]
    exact Nat.min_eq_right (tadd_le a d)
  | m + 1, h => by
    rw [keysN_succ]
    have ih := due_keys a s k d m (by omega)
    unfold dueLK at ih ⊢
    rw [List.foldl_append, ih]
    show dueK k d (tadd a d) _ = _
    unfold dueK
    rw [if_pos (show m + 1 + 1 < k by omega)]
    exact Nat.min_self _
theorem lost_keys (a s k d nw q : Nat) (hq : q + 1 = k) (hk : k ≤ 3) (P : Key) (hp : P ∈ keysN a s q) : lostK k d nw P = decide (tadd a d ≤ nw) := by
  unfold keysN at hp
  obtain ⟨i, hi, rfl⟩ := List.mem_map.1 hp
  have hi := List.mem_range.1 hi
  unfold lostK
  dsimp only
  rw [decide_eq_true (show i + 1 < k by omega), decide_eq_false (show ¬ i + 4 ≤ k by omega), Bool.false_or, Bool.true_and]
theorem ack_keys (a s k : Nat) (hk : k = 2 ∨ k = 3) : (keysN a s k).filter (inRsK [(k - 1, k - 1)]) = [⟨k - 1, a, s, true⟩] ∧ (keysN a s k).filter (fun p => !inRsK [(k - 1, k - 1)] p) = keysN a s (k - 1) := by
  rcases hk with rfl | rfl <;> exact ⟨rfl, rfl⟩

set_option maxRecDepth 100000 in
set_option maxHeartbeats 4000000 in
theorem ledgerLate_walk (n0 at0 d0 k0 : Int) (w : World) (wn : (Lit.int .u8 n0).wf = true) (wa : (Lit.int .u32 at0).wf = true) (wd : (Lit.int .u32 d0).wf = true) (wk : (Lit.int .u8 k0).wf = true) :
    Calls Try.prog 4 #[.int .u8 n0, .int .u32 at0, .int .u32 d0, .int .u8 k0] w fun e w' => e = .returned (.bool true) ∧ Below w.heap.size w w' := by
  have b1 := bounds_u8 wn
  have b2 := bounds_u32 wa
  have b3 := bounds_u32 wd
  clear wn wa wd wk
  obtain ⟨n, rfl⟩ := Int.eq_ofNat_of_zero_le b1.1
  obtain ⟨t, rfl⟩ := Int.eq_ofNat_of_zero_le b2.1
  obtain ⟨d, rfl⟩ := Int.eq_ofNat_of_zero_le b3.1
  obtain ⟨k, hk⟩ : ∃ k, 2 + n % 2 = k := ⟨_, rfl⟩
  have e1 : 2 + (n : Int) % 2 = (k : Int) := by omega
  have hk2 : k = 2 ∨ k = 3 := by omega
  have HK := Lib.hid hk2
  obtain ⟨q, hq⟩ : ∃ q, k - 1 = q := ⟨_, rfl⟩
  have e2 : (k : Int) - 1 = (q : Int) := by omega
  have HQ := Lib.hid hq
  have b4 : 1 ≤ q ∧ q ≤ 2 := by omega
  have b5 : 2 ≤ k ∧ k ≤ 3 := by omega
  obtain ⟨D, hD⟩ : ∃ D, t + d = D := ⟨_, rfl⟩
  have e3 : (t : Int) + (d : Int) = (D : Int) := by omega
  have HT : Hid (tadd t d = D) := by unfold Hid tadd; rw [if_neg (by omega)]; exact hD
  have b6 : D ≤ 8589934590 := by omega
  clear hk hq hD hk2
  go_enter Try.func4, Try.ntmps4
  go_wp2_with fail
  refine (alive_any w).mono ?_
  rintro e w1 ⟨rfl, hb⟩
  have HB := Lib.hid hb
  clear hb
  obtain ⟨B, hB⟩ : ∃ B, w1.heap.size = B := ⟨_, rfl⟩
  obtain ⟨W1, hW1⟩ : ∃ W1, w1.alloc (.cells #[.slice none 0 0, .int .i64 0, .int .i64 0] 27) = W1 := ⟨_, rfl⟩
  have L1 : LK w (B + 1) B (keysN t 0 0) 0 0 W1 := LK.start (HB.out.trans ((hW1 ▸ (Below.refl _ w1).alloc (Nat.le_refl _) _ : Below w1.heap.size w1 W1).mono HB.out.size)) (by have := HB.out.size; omega) (hW1 ▸ hB ▸ Obj.new w1 _ _) (by omega) (by rw [← hW1]; simp; omega)
  have L1 := Lib.hid L1
  have HW1 := Lib.hid hW1
  clear hW1
  go_wp2
  rw [HW1.out]
  clear e1
  go_loopw [11] (fun i wr => ∃ q : Nat, q ≤ k ∧ i = .int .i64 (q : Int) ∧ LK w (B + 1) B (keysN t 0 q) q 0 wr) (fun i _ => k - (intOf i).toNat)
  case atStart => exact ⟨0, by omega, rfl, L1.out⟩
  case round =>
    clear L1
    obtain ⟨i, hi, rfl, hL⟩ := hrel
    by_cases hlt : i < k
    · have hqi : (i : Int) < (k : Int) := by omega
      have hS := send_k hL 0 t 0 true none 0 0 [] (by omega) (by rw [keysN_length]; omega) (by omega) (frNil _ 0) (by omega)
      rw [← keysN_succ] at hS
      have HS := Lib.hid hS
      clear hS hL
      go_wp2_with fail
      refine HS.out.mono ?_
      rintro e W2 ⟨rfl, l2, k2⟩
      have L2 := Lib.hid l2
      clear l2 k2 HS
      go_wp2
      go_roundw
      case rel => exact ⟨i + 1, by omega, by go_num, L2.out⟩
      case measure => simp [intOf]; omega
    · obtain rfl : i = k := by omega
      have e4 : IntKind.u64.wrap (q : Int) = (q : Int) := by rw [IntKind.wrap_u64]; omega
      obtain ⟨W2, hW2⟩ : ∃ W2, wr.alloc (.cells #[.int .u64 (q : Int), .int .u64 (q : Int)] 49) = W2 := ⟨_, rfl⟩
      have hb2 : Below wr.heap.size wr W2 := hW2 ▸ (Below.refl _ wr).alloc (Nat.le_refl _) _
      have o2 : Obj W2 wr.heap.size 49 #[.int .u64 (q : Int), .int .u64 (q : Int)] := hW2 ▸ Obj.new wr _ _
      have r2 : RbR W2 (some ⟨wr.heap.size, 0, none⟩) [(q, q)] := hW2 ▸ rng_one wr q q
      have l2 := hL.kept hb2
      have hQ := HQ.out
      have hA := ack_k l2.1 (some ⟨wr.heap.size, 0, none⟩) 1 1 [(q, q)] (by rw [keysN_length]; omega) (keysN_kb _ _ _ (by omega) (by omega) (by omega)) (by omega) (by omega) rfl (by omega) r2 (rng_ne o2 rfl) (by simp; omega) (by simp [badR]; omega)
      obtain ⟨f1, f2⟩ := ack_keys t 0 i HK.out
      rw [hQ] at f1 f2
      rw [f1, f2, show ackMK 0 [⟨q, t, 0, true⟩] = i by show max 0 (q + 1) = i; omega] at hA
      have HA := Lib.hid hA
      clear hA f1 f2 l2 r2 o2 hb2 hL hQ
      go_wp2_with fail
      refine HA.out.mono ?_
      rintro e W3 ⟨gv, G, rfl, hown, hG, l3, k3⟩
      obtain ⟨A3, c3, rfl, _, _, _, _, _⟩ := ownS_rb hown
      have L3 := Lib.hid l3
      clear hown hG l3 k3 HA
      have hlen := keysN_length t 0 q
      have HKB := Lib.hid (keysN_kb t 0 q (by omega) (by omega) (by omega))
      have hd := due_k L3.out d (by omega) HKB.out (by omega) (by omega)
      rw [show dueLK (keysN t 0 q) i d = D by
        have hQ := HQ.out
        obtain ⟨m, rfl⟩ : ∃ m, q = m + 1 := ⟨q - 1, by omega⟩
        rw [due_keys t 0 i d m (by omega), HT.out]] at hd
      have HD := Lib.hid hd
      clear hd
      go_wp2_with fail
      refine HD.out.mono ?_
      rintro e W4 ⟨rfl, l4, k4⟩
      have L4 := Lib.hid l4
      clear l4 k4 HD L3
      have hX : ∃ nw lx ly : Nat, IntKind.u64.wrap ((D : Int) - 1) = (nw : Int) ∧ lx + ly = q ∧ (D = 0 ∨ lx = 0) ∧ ((keysN t 0 q).filter (lostK i d nw)).length = lx ∧ ∃ ks2, (keysN t 0 q).filter (fun p => !lostK i d nw p) = ks2 ∧ (ks2.filter (lostK i d D)).length = ly ∧ ks2.filter (fun p => !lostK i d D p) = [] ∧ ks2.length ≤ q ∧ KB ks2 := by
        have hQ := HQ.out
        have hl : ∀ nw P, P ∈ keysN t 0 q → lostK i d nw P = decide (D ≤ nw) := fun nw P hp => by rw [lost_keys t 0 i d nw q (by omega) b5.2 P hp, HT.out]
        have hd1 : decide (D ≤ D) = true := decide_eq_true (Nat.le_refl _)
        rcases Nat.eq_zero_or_pos D with h0 | h0
        · refine ⟨18446744073709551615, q, 0, by rw [h0]; decide, rfl, .inl h0, ?_, [], ?_, rfl, rfl, Nat.zero_le _, fun p hp => by cases hp⟩
          · rw [List.filter_eq_self.2 (fun p hp => by rw [hl _ p hp]; exact decide_eq_true (by omega)), hlen]
          · exact List.filter_eq_nil_iff.2 (fun p hp => by rw [hl _ p hp, decide_eq_true (by omega)]; simp)
        · refine ⟨D - 1, 0, q, by rw [IntKind.wrap_u64]; omega, by omega, .inr rfl, ?_, keysN t 0 q, ?_, ?_, ?_, by omega, HKB.out⟩
          · rw [List.filter_eq_nil_iff.2 (fun p hp => by rw [hl _ p hp, decide_eq_false (by omega)]; simp)]; rfl
          · exact List.filter_eq_self.2 (fun p hp => by rw [hl _ p hp, decide_eq_false (by omega)]; simp)
          · rw [List.filter_eq_self.2 (fun p hp => by rw [hl _ p hp]; exact hd1), hlen]
          · exact List.filter_eq_nil_iff.2 (fun p hp => by rw [hl _ p hp, hd1]; simp)
      obtain ⟨nw, lx, ly, x1, x2, x3, x4, ks2, x5, x6, x7, x8, x9⟩ := hX
      have hx := lost_k L4.out nw d (by omega) HKB.out (by omega) (by omega)
      rw [x4, x5] at hx
      have HX := Lib.hid hx
      have X3 := Lib.hid x3
      have X2 := Lib.hid x2
      have X6 := Lib.hid x6
      have X7 := Lib.hid x7
      have X9 := Lib.hid x9
      have b7 : lx ≤ 2 ∧ ly ≤ 2 := by omega
      clear hx x2 x3 x4 x5 x6 x7 x9
      go_wp2_with fail
      refine HX.out.mono ?_
      rintro e W5 ⟨gv, G', rfl, hown, hG, l5, k5⟩
      obtain ⟨A5, c5, rfl, _, _, _, _, _⟩ := ownS_rb hown
      have L5 := Lib.hid l5
      clear hown hG l5 k5 HX L4 x1
      have hy := lost_k L5.out D d (by omega) X9.out (by omega) (by omega)
      rw [X6.out, X7.out] at hy
      have HY := Lib.hid hy
      clear hy
      go_wp2_with fail
      refine HY.out.mono ?_
      rintro e W6 ⟨gv, G'', rfl, hown, hG, l6, k6⟩
      obtain ⟨A6, c6, rfl, _, _, _, _, _⟩ := ownS_rb hown
      have L6 := Lib.hid l6
      clear hown hG l6 k6 HY L5
      have hZ := due_k L6.out 0 (by simp) (fun p hp => by cases hp) (by omega) (by omega)
      rw [show dueLK [] i 0 = 18446744073709551615 from rfl] at hZ
      have HZ := Lib.hid hZ
      clear hZ
      have e5 : (lx : Int) + (ly : Int) = (q : Int) := by have := X2.out; omega
      by_cases hD0 : D = 0
      · subst hD0
        go_wp2_with fail
        refine HZ.out.mono ?_
        rintro e W7 ⟨rfl, l7, k7⟩
        have L7 := Lib.hid l7
        clear l7 k7
        go_wp2
        go_ret
        exact ⟨rfl, L7.out.bel⟩
      · obtain rfl : lx = 0 := by have := X3.out; omega
        have d0 : ((D : Int) == 0) = false := by simp; omega
        go_wp2_with fail
        refine HZ.out.mono ?_
        rintro e W7 ⟨rfl, l7, k7⟩
        have L7 := Lib.hid l7
        clear l7 k7
        go_wp2
        go_ret
        exact ⟨rfl, L7.out.bel⟩
end Go.Proofs.Ytlldomgfjmkcdaa
