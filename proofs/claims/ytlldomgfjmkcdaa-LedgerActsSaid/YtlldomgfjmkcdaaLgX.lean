/- LedgerNumbers, walked. -/
import Derived.Test.YtlldomgfjmkcdaaRows
import Derived.Test.YtlldomgfjmkcdaaAid
import Derived.Test.YtlldomgfjmkcdaaPlainFl
import Derived.Test.YtlldomgfjmkcdaaLgW
import Derived.Test.YtlldomgfjmkcdaaLgB
import Derived.Test.YtlldomgfjmkcdaaLgD
import Derived.Test.YtlldomgfjmkcdaaLgU
import Derived.Test.YtlldomgfjmkcdaaLgV
import Derived.WalkLawsBesides
import Derived.Laws.ComplexArith
import Derived.OpenShut
namespace Go.Proofs.Ytlldomgfjmkcdaa
open Go Go.RowKit
set_option linter.unusedVariables false
set_option linter.unusedSimpArgs false

theorem cntK_app (a b : List Key) : cntK (a ++ b) = cntK a + cntK b := by
  induction a with
  | nil => simp [cntK]
  | cons p t ih => simp [cntK, ih]; omega
theorem smsK_app (a b : List Key) : smsK (a ++ b) = smsK a + smsK b := by
  induction a with
  | nil => simp [smsK]
  | cons p t ih => simp [smsK, ih]; omega
theorem cntK_keys (t s : Nat) : ∀ m, cntK (keysN t s m) = m
  | 0 => rfl
  | m + 1 => by rw [keysN_succ, cntK_app, cntK_keys t s m]; rfl
theorem smsK_keys (t s : Nat) : ∀ m, smsK (keysN t s m) = m * s
  | 0 => by rw [Nat.zero_mul]; rfl
  | m + 1 => by
    rw [keysN_succ, smsK_app, smsK_keys t s m, Nat.add_mul, Nat.one_mul]
    show m * s + (s + 0) = m * s + s
    omega
theorem ord_F (a : Nat) (h : a < 9007199254740992) : (FloatKind.f64.format.order (Fl.F a) (Fl.F a) == some .eq) = true := by
  have := Fl.eq_F a a h h
  rw [decide_eq_true rfl] at this
  exact this

set_option maxRecDepth 100000 in
set_option maxHeartbeats 4000000 in
theorem ledgerNumbers_walk (n0 m0 : Int) (w : World) (wn : (Lit.int .u8 n0).wf = true) (wm : (Lit.int .u16 m0).wf = true) :
    Calls Try.prog 5 #[.int .u8 n0, .int .u16 m0] w fun e w' => e = .returned (.bool true) ∧ Below w.heap.size w w' := by
  have b1 := bounds_u8 wn
  have b2 := bounds_u16 wm
  clear wn wm
  obtain ⟨n, rfl⟩ := Int.eq_ofNat_of_zero_le b1.1
  obtain ⟨m, rfl⟩ := Int.eq_ofNat_of_zero_le b2.1
  obtain ⟨k, hk⟩ : ∃ k, n % 65 = k := ⟨_, rfl⟩
  obtain ⟨s, hs⟩ : ∃ s, m % 1201 = s := ⟨_, rfl⟩
  have e1 : (n : Int) % 65 = (k : Int) := by omega
  have e2 : (m : Int) % 1201 = (s : Int) := by omega
  have b3 : k ≤ 64 := by omega
  have b4 : s ≤ 1200 := by omega
  clear hk hs
  go_enter Try.func5, Try.ntmps5
  go_wp2_with fail
  refine (alive_any w).mono ?_
  rintro e w1 ⟨rfl, hb⟩
  have HB := Lib.hid hb
  clear hb
  obtain ⟨B, hB⟩ : ∃ B, w1.heap.size = B := ⟨_, rfl⟩
  obtain ⟨W1, hW1⟩ : ∃ W1, w1.alloc (.cells #[.slice none 0 0, .int .i64 0, .int .i64 0] 27) = W1 := ⟨_, rfl⟩
  have L1 : LK w (B + 1) B (keysN 0 s 0) 0 0 W1 := LK.start (HB.out.trans ((hW1 ▸ (Below.refl _ w1).alloc (Nat.le_refl _) _ : Below w1.heap.size w1 W1).mono HB.out.size)) (by have := HB.out.size; omega) (hW1 ▸ hB ▸ Obj.new w1 _ _) (by omega) (by rw [← hW1]; simp; omega)
  have L1 := Lib.hid L1
  have HW1 := Lib.hid hW1
  clear hW1
  go_wp2
  rw [HW1.out, e1, e2]
  clear e1 e2
  go_loopw [8] (fun i wr => ∃ q : Nat, q ≤ k ∧ i = .int .i64 (q : Int) ∧ LK w (B + 1) B (keysN 0 s q) q 0 wr) (fun i _ => k - (intOf i).toNat)
  case atStart => exact ⟨0, by omega, rfl, L1.out⟩
  case round =>
    clear L1
    obtain ⟨q, hq, rfl, hL⟩ := hrel
    by_cases hlt : q < k
    · have hqi : (q : Int) < (k : Int) := by omega
      have hS := send_k hL 77 0 s true none 0 0 [] b4 (by rw [keysN_length]; omega) (by omega) (frNil _ 0) (by omega)
      rw [← keysN_succ] at hS
      have HS := Lib.hid hS
      clear hS hL
      go_wp2_with fail
      refine HS.out.mono ?_
      rintro e W2 ⟨rfl, l2, k2⟩
      have L2 := Lib.hid l2
      clear l2 k2 HS
      go_wp2
      go_roundw
      case rel => exact ⟨q + 1, by omega, by go_num, L2.out⟩
      case measure => simp [intOf]; omega
    · obtain rfl : q = k := by omega
      have L2 := Lib.hid hL
      clear hL
      have HKB := Lib.hid (keysN_kb 0 s q (by omega) (by omega) b4)
      have hlen := keysN_length 0 s q
      obtain ⟨p, hp⟩ : ∃ p, q * s = p := ⟨_, rfl⟩
      have e3 : (q : Int) * (s : Int) = (p : Int) := by rw [← hp]; simp
      have b5 : p ≤ 76800 := by rw [← hp]; exact Nat.mul_le_mul b3 b4
      have hcq := fun w => conv_f q w
      have hcp := fun w => conv_f p w
      have o1 := ord_F q (by omega)
      have o2 := ord_F p (by omega)
      have o3 : (FloatKind.f64.format.order (Fl.F 0) 0 == some .eq) = true := by decide +kernel
      have HN := Lib.hid (next_k L2.out)
      go_wp2_with fail
      refine HN.out.mono ?_
      rintro e w' ⟨rfl, rfl⟩
      clear HN
      have hl := list_k L2.out (by omega)
      rw [hlen] at hl
      have HL := Lib.hid hl
      clear hl
      go_wp2_with fail
      refine HL.out.mono ?_
      rintro e W3 ⟨gv, G, rfl, hown, hG, l3, k3⟩
      obtain ⟨A3, c3, rfl, _, _, _, _, _⟩ := ownS_rb hown
      have L3 := Lib.hid l3
      clear hown hG l3 k3 HL L2
      have hf := flight_k L3.out (by omega) HKB.out
      rw [cntK_keys, smsK_keys, hp] at hf
      have HF := Lib.hid hf
      clear hf
      go_wp2_with fail
      refine HF.out.mono ?_
      rintro e W4 ⟨rfl, l4, k4⟩
      have L4 := Lib.hid l4
      clear l4 k4 HF L3
      have hd := drop_k L4.out (by omega)
      rw [hlen] at hd
      have HD := Lib.hid hd
      clear hd
      go_wp2_with fail
      refine HD.out.mono ?_
      rintro e W5 ⟨rfl, l5, k5⟩
      have L5 := Lib.hid l5
      clear l5 k5 HD L4
      have HN := Lib.hid (next_k L5.out)
      go_wp2_with fail
      refine HN.out.mono ?_
      rintro e w' ⟨rfl, rfl⟩
      clear HN
      have HF := Lib.hid (flight_k L5.out (by simp) (fun p hp => by cases hp))
      go_wp2_with fail
      refine HF.out.mono ?_
      rintro e W6 ⟨rfl, l6, k6⟩
      have L6 := Lib.hid l6
      clear l6 k6 HF L5
      have o4 : Fl.F (cntK []) = Fl.F 0 := rfl
      have o5 : Fl.F (smsK []) = Fl.F 0 := rfl
      go_wp2
      go_ret
      exact ⟨rfl, L6.out.bel⟩
end Go.Proofs.Ytlldomgfjmkcdaa
