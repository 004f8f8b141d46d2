/- Layer 7's words, walked: mix, word, four. -/
import Derived.Test.YtanigdadhldceaaDoorRows
import Derived.Test.YtanigdadhldceaaDoorAid
import Derived.Test.YtanigdadhldceaaDoorPlainSh
import Derived.Test.YtanigdadhldceaaDoorBy
import Derived.Test.YtanigdadhldceaaDoorShA
import Derived.WalkKit
import Derived.OwnWalk
import Derived.Laws.BitsAllLaws
import Derived.Laws.Rows
import Derived.Laws.Tables
import Derived.WalkSpells
import Derived.WalkLawsBesides
import Derived.Deep.QuietTactic
import Derived.BigQuiet
import Derived.Handy
import Derived.Lib.Hide
import Derived.IntWalk
namespace Go.Proofs.YtanigdadhldceaaDoor
open Go.RowKit
set_option linter.unusedVariables false
set_option linter.unusedSimpArgs false

theorem val32 {a b : Int} (h : a = b) : Value.int .u32 a = Value.int .u32 b := by rw [h]
/-- Three turns, put together so far. -/
def mixKA (x : Nat) : Nat → Nat
  | 0 => 0
  | 1 => Sh.rr x 6
  | 2 => Sh.rr x 6 ^^^ Sh.rr x 11
  | _ => Sh.mix x 6 11 25
set_option maxHeartbeats 1000000 in
theorem mixA_any (x : Nat) (w : World) (hx : x < 4294967296) :
    Calls Tryd.prog 28 #[.int .u32 (x : Int), .agg #[.int .i64 6, .int .i64 11, .int .i64 25]] w fun e w' => e = .returned (.int .u32 (Sh.mix x 6 11 25 : Nat)) ∧ Below w.heap.size w w' := by
  have ra := Sh.rr_lt x 6 hx
  have rb := Sh.rr_lt x 11 hx
  have rc := Sh.rr_lt x 25 hx
  have H1 : Hid (bits .xor .u32 0 ((Sh.rr x 6 : Nat) : Int) = ((mixKA x 1 : Nat) : Int)) := by
    have := u32_xor_nat 0 (Sh.rr x 6) (by decide) ra
    rw [Nat.zero_xor] at this; exact this
  have H2 : Hid (bits .xor .u32 ((mixKA x 1 : Nat) : Int) ((Sh.rr x 11 : Nat) : Int) = ((mixKA x 2 : Nat) : Int)) := u32_xor_nat _ _ ra rb
  have H3 : Hid (bits .xor .u32 ((mixKA x 2 : Nat) : Int) ((Sh.rr x 25 : Nat) : Int) = ((mixKA x 3 : Nat) : Int)) := u32_xor_nat _ _ (Sh.xor_lt ra rb) rc
  have HC := Lib.hid (fun w => rot6_any x w hx)
  have HD := Lib.hid (fun w => rot11_any x w hx)
  have HE := Lib.hid (fun w => rot25_any x w hx)
  have HB : Hid (Below w.heap.size w (w.alloc (.cells #[.int .i64 6, .int .i64 11, .int .i64 25] 53))) := (Below.refl _ w).alloc (Nat.le_refl _) _
  have HF : Hid (Sh.mix x 6 11 25 = mixKA x 3) := rfl
  clear ra rb rc
  generalize Sh.rr x 6 = ya at *
  generalize Sh.rr x 11 = yb at *
  generalize Sh.rr x 25 = yc at *
  rw [HF.out]
  have i0 : ∀ w : World, (Instr.index 53 (.agg #[.int .i64 6, .int .i64 11, .int .i64 25]) (.int .i64 0)).run Tryd.prog w = .ok (.int .i64 6) w := fun _ => by kernel_rfl
  have i1 : ∀ w : World, (Instr.index 53 (.agg #[.int .i64 6, .int .i64 11, .int .i64 25]) (.int .i64 1)).run Tryd.prog w = .ok (.int .i64 11) w := fun _ => by kernel_rfl
  have i2 : ∀ w : World, (Instr.index 53 (.agg #[.int .i64 6, .int .i64 11, .int .i64 25]) (.int .i64 2)).run Tryd.prog w = .ok (.int .i64 25) w := fun _ => by kernel_rfl
  go_enter Tryd.func28, Tryd.ntmps28
  go_wp2
  go_loop [5, 9] (fun y i => ∃ k : Nat, k ≤ 3 ∧ i = .int .i64 k ∧ y = .int .u32 ((mixKA x k : Nat) : Int)) (fun _ i => 3 - (intOf i).toNat)
  case atStart => exact ⟨0, by omega, rfl, rfl⟩
  case round =>
    obtain ⟨k, hk, rfl, rfl⟩ := hrel
    rcases Nat.lt_or_ge k 3 with hk3 | hk3
    · have hc : k = 0 ∨ k = 1 ∨ k = 2 := by omega
      rcases hc with rfl | rfl | rfl
      · have e0 : ((mixKA x 0 : Nat) : Int) = 0 := rfl
        rw [e0]
        clear e0
        go_wp2_with fail
        refine (HC.out _).mono ?_
        rintro e w' ⟨rfl, rfl⟩
        go_wp2
        go_round
        case rel => exact ⟨1, by omega, by first | rfl | go_num, val32 H1.out⟩
        case measure => simp [intOf]
      · generalize hm : mixKA x 1 = m at *
        have HM := Lib.hid hm
        clear hm
        go_wp2_with fail
        refine (HD.out _).mono ?_
        rintro e w' ⟨rfl, rfl⟩
        go_wp2
        go_round
        case rel => exact ⟨2, by omega, by first | rfl | go_num, val32 H2.out⟩
        case measure => simp [intOf]
      · generalize hm : mixKA x 2 = m at *
        have HM := Lib.hid hm
        clear hm
        go_wp2_with fail
        refine (HE.out _).mono ?_
        rintro e w' ⟨rfl, rfl⟩
        go_wp2
        go_round
        case rel => exact ⟨3, by omega, by first | rfl | go_num, val32 H3.out⟩
        case measure => simp [intOf]
    · obtain rfl : k = 3 := by omega
      go_wp2
      go_ret
      exact ⟨rfl, HB.out⟩
/-- Three turns, put together so far. -/
def mixKB (x : Nat) : Nat → Nat
  | 0 => 0
  | 1 => Sh.rr x 2
  | 2 => Sh.rr x 2 ^^^ Sh.rr x 13
  | _ => Sh.mix x 2 13 22
set_option maxHeartbeats 1000000 in
theorem mixB_any (x : Nat) (w : World) (hx : x < 4294967296) :
    Calls Tryd.prog 28 #[.int .u32 (x : Int), .agg #[.int .i64 2, .int .i64 13, .int .i64 22]] w fun e w' => e = .returned (.int .u32 (Sh.mix x 2 13 22 : Nat)) ∧ Below w.heap.size w w' := by
  have ra := Sh.rr_lt x 2 hx
  have rb := Sh.rr_lt x 13 hx
  have rc := Sh.rr_lt x 22 hx
  have H1 : Hid (bits .xor .u32 0 ((Sh.rr x 2 : Nat) : Int) = ((mixKB x 1 : Nat) : Int)) := by
    have := u32_xor_nat 0 (Sh.rr x 2) (by decide) ra
    rw [Nat.zero_xor] at this; exact this
  have H2 : Hid (bits .xor .u32 ((mixKB x 1 : Nat) : Int) ((Sh.rr x 13 : Nat) : Int) = ((mixKB x 2 : Nat) : Int)) := u32_xor_nat _ _ ra rb
  have H3 : Hid (bits .xor .u32 ((mixKB x 2 : Nat) : Int) ((Sh.rr x 22 : Nat) : Int) = ((mixKB x 3 : Nat) : Int)) := u32_xor_nat _ _ (Sh.xor_lt ra rb) rc
  have HC := Lib.hid (fun w => rot2_any x w hx)
  have HD := Lib.hid (fun w => rot13_any x w hx)
  have HE := Lib.hid (fun w => rot22_any x w hx)
  have HB : Hid (Below w.heap.size w (w.alloc (.cells #[.int .i64 2, .int .i64 13, .int .i64 22] 53))) := (Below.refl _ w).alloc (Nat.le_refl _) _
  have HF : Hid (Sh.mix x 2 13 22 = mixKB x 3) := rfl
  clear ra rb rc
  generalize Sh.rr x 2 = ya at *
  generalize Sh.rr x 13 = yb at *
  generalize Sh.rr x 22 = yc at *
  rw [HF.out]
  have i0 : ∀ w : World, (Instr.index 53 (.agg #[.int .i64 2, .int .i64 13, .int .i64 22]) (.int .i64 0)).run Tryd.prog w = .ok (.int .i64 2) w := fun _ => by kernel_rfl
  have i1 : ∀ w : World, (Instr.index 53 (.agg #[.int .i64 2, .int .i64 13, .int .i64 22]) (.int .i64 1)).run Tryd.prog w = .ok (.int .i64 13) w := fun _ => by kernel_rfl
  have i2 : ∀ w : World, (Instr.index 53 (.agg #[.int .i64 2, .int .i64 13, .int .i64 22]) (.int .i64 2)).run Tryd.prog w = .ok (.int .i64 22) w := fun _ => by kernel_rfl
  go_enter Tryd.func28, Tryd.ntmps28
  go_wp2
  go_loop [5, 9] (fun y i => ∃ k : Nat, k ≤ 3 ∧ i = .int .i64 k ∧ y = .int .u32 ((mixKB x k : Nat) : Int)) (fun _ i => 3 - (intOf i).toNat)
  case atStart => exact ⟨0, by omega, rfl, rfl⟩
  case round =>
    obtain ⟨k, hk, rfl, rfl⟩ := hrel
    rcases Nat.lt_or_ge k 3 with hk3 | hk3
    · have hc : k = 0 ∨ k = 1 ∨ k = 2 := by omega
      rcases hc with rfl | rfl | rfl
      · have e0 : ((mixKB x 0 : Nat) : Int) = 0 := rfl
        rw [e0]
        clear e0
        go_wp2_with fail
        refine (HC.out _).mono ?_
        rintro e w' ⟨rfl, rfl⟩
        go_wp2
        go_round
        case rel => exact ⟨1, by omega, by first | rfl | go_num, val32 H1.out⟩
        case measure => simp [intOf]
      · generalize hm : mixKB x 1 = m at *
        have HM := Lib.hid hm
        clear hm
        go_wp2_with fail
        refine (HD.out _).mono ?_
        rintro e w' ⟨rfl, rfl⟩
        go_wp2
        go_round
        case rel => exact ⟨2, by omega, by first | rfl | go_num, val32 H2.out⟩
        case measure => simp [intOf]
      · generalize hm : mixKB x 2 = m at *
        have HM := Lib.hid hm
        clear hm
        go_wp2_with fail
        refine (HE.out _).mono ?_
        rintro e w' ⟨rfl, rfl⟩
        go_wp2
        go_round
        case rel => exact ⟨3, by omega, by first | rfl | go_num, val32 H3.out⟩
        case measure => simp [intOf]
    · obtain rfl : k = 3 := by omega
      go_wp2
      go_ret
      exact ⟨rfl, HB.out⟩
set_option maxHeartbeats 1000000 in
theorem word_any (A : Option Addr) (n c : Nat) (l : List Nat) (w : World) (hA : Rb w A l) (hn : l.length = n) (h4 : 4 ≤ n) (hnc : n ≤ c ∧ c ≤ maxLen) (hb : ∀ x ∈ l, x < 256) :
    Calls Tryd.prog 26 #[.slice A n c] w fun e w' => e = .returned (.int .u32 (Sh.word l 0 : Nat)) ∧ ∃ q, w' = w.drewN q := by
  obtain ⟨b, o, rfl, _, hc⟩ := hA (by omega)
  have hg : ∀ j, l.getD j 0 < 256 := fun j => by
    rw [List.getD_eq_getElem?_getD]
    cases e : l[j]? with
    | none => decide
    | some v => exact hb v (List.mem_of_getElem? e)
  have f0 : w.cell? ⟨b, o, none⟩ = some (.int .u8 ((l.getD 0 0 : Nat) : Int)) := hc 0 (by omega)
  have f1 : w.cell? ⟨b, o + 1, none⟩ = some (.int .u8 ((l.getD 1 0 : Nat) : Int)) := hc 1 (by omega)
  have f2 : w.cell? ⟨b, o + 2, none⟩ = some (.int .u8 ((l.getD 2 0 : Nat) : Int)) := hc 2 (by omega)
  have f3 : w.cell? ⟨b, o + 3, none⟩ = some (.int .u8 ((l.getD 3 0 : Nat) : Int)) := hc 3 (by omega)
  have g0 := hg 0
  have g1 := hg 1
  have g2 := hg 2
  have g3 := hg 3
  have hci : n ≤ c ∧ c ≤ 9223372036854775807 := ⟨hnc.1, by have := hnc.2; simp only [maxLen] at this; omega⟩
  have HW : Hid (Sh.word l 0 = ((l.getD 0 0 * 256 + l.getD 1 0) * 256 + l.getD 2 0) * 256 + l.getD 3 0) := rfl
  rw [HW.out]
  clear HW hg hc hA hn hb hnc
  generalize l.getD 0 0 = x0 at *
  generalize l.getD 1 0 = x1 at *
  generalize l.getD 2 0 = x2 at *
  generalize l.getD 3 0 = x3 at *
  have HV : Hid (bits .or .u32 (bits .or .u32 (bits .or .u32 ((x0 : Int) * 16777216) ((x1 : Int) * 65536)) ((x2 : Int) * 256)) (x3 : Int) = ((((x0 * 256 + x1) * 256 + x2) * 256 + x3 : Nat) : Int)) := by
    have q1 : (x0 : Int) * 16777216 = ((x0 * 16777216 : Nat) : Int) := by omega
    have q2 : (x1 : Int) * 65536 = ((x1 * 65536 : Nat) : Int) := by omega
    have q3 : (x2 : Int) * 256 = ((x2 * 256 : Nat) : Int) := by omega
    have a1 : x0 * 16777216 ||| x1 * 65536 < 4294967296 := Sh.or_lt (by omega) (by omega)
    have a2 : x0 * 16777216 ||| x1 * 65536 ||| x2 * 256 < 4294967296 := Sh.or_lt a1 (by omega)
    unfold Hid
    rw [q1, q2, q3, u32_or_nat _ _ (by omega) (by omega), u32_or_nat _ _ a1 (by omega), u32_or_nat _ _ a2 (by omega), Sh.word_or _ _ _ _ g0 g1 g2 g3]
  have e0 : IntKind.u32.wrap (x0 : Int) = (x0 : Int) := by rw [IntKind.wrap_u32]; omega
  have e1 : IntKind.u32.wrap (x1 : Int) = (x1 : Int) := by rw [IntKind.wrap_u32]; omega
  have e2 : IntKind.u32.wrap (x2 : Int) = (x2 : Int) := by rw [IntKind.wrap_u32]; omega
  have e3 : IntKind.u32.wrap (x3 : Int) = (x3 : Int) := by rw [IntKind.wrap_u32]; omega
  go_enter Tryd.func26, Tryd.ntmps26
  go_wp2
  go_quiet (fail)
  go_wp2
  go_ret
  exact ⟨ret_int HV.out, _, rfl⟩
theorem b8_eq {a b : Int} (h : a = b) : Value.int .u8 a = Value.int .u8 b := by rw [h]
set_option maxHeartbeats 1000000 in
theorem four_any (x : Nat) (w : World) (hx : x < 4294967296) :
    Calls Tryd.prog 20 #[.int .u32 (x : Int)] w fun e w' => e = .returned (.slice (some ⟨w.heap.size, 0, none⟩) 4 4) ∧ w' = w.alloc (.cells ((Sh.four x).map b8).toArray 5) := by
  have k1 : IntKind.u8.wrap ((x : Int) / 16777216) = ((x / 16777216 % 256 : Nat) : Int) := by rw [IntKind.wrap_u8]; omega
  have k2 : IntKind.u8.wrap ((x : Int) / 65536) = ((x / 65536 % 256 : Nat) : Int) := by rw [IntKind.wrap_u8]; omega
  have k3 : IntKind.u8.wrap ((x : Int) / 256) = ((x / 256 % 256 : Nat) : Int) := by rw [IntKind.wrap_u8]; omega
  have k4 : IntKind.u8.wrap (x : Int) = ((x % 256 : Nat) : Int) := by rw [IntKind.wrap_u8]; omega
  have HF : Hid ((Sh.four x).map b8 = [.int .u8 ((x / 16777216 % 256 : Nat) : Int), .int .u8 ((x / 65536 % 256 : Nat) : Int), .int .u8 ((x / 256 % 256 : Nat) : Int), .int .u8 ((x % 256 : Nat) : Int)]) := rfl
  rw [HF.out]
  generalize x / 16777216 % 256 = y1 at *
  generalize x / 65536 % 256 = y2 at *
  generalize x / 256 % 256 = y3 at *
  generalize x % 256 = y4 at *
  clear hx
  go_enter Tryd.func20, Tryd.ntmps20
  go_wp2
  go_ret
  exact ⟨rfl, rfl⟩
end Go.Proofs.YtanigdadhldceaaDoor
