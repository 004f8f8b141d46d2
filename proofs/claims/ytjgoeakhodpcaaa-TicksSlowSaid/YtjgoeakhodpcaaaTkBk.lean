/- Layer 11: Times, Sub, the buckets, of the program and of the document: for every argument and every world. -/
import Derived.Test.YtjgoeakhodpcaaaRows
import Derived.Test.YtjgoeakhodpcaaaShelf
import Derived.Test.YtjgoeakhodpcaaaPlainTk
import Derived.Test.YtjgoeakhodpcaaaPlainBk
import Derived.Test.YtjgoeakhodpcaaaAid
import Derived.Test.YtjgoeakhodpcaaaTicks
import Derived.Test.YtjgoeakhodpcaaaTicks3
import Derived.WalkKit
import Derived.WalkSpells
import Derived.WalkLawsBesides
import Derived.Deep.QuietTactic
import Derived.BigQuiet
import Derived.Handy
import Derived.Lib.Hide
import Derived.StillTailTactics
namespace Go.Proofs.Ytjgoeakhodpcaaa
open Go.RowKit
set_option linter.unusedVariables false

theorem mul64 (a b : Int) (w : World) (ha : 0 ≤ a) (ha1 : a ≤ 18446744073709551615) (hb : 0 ≤ b) (hb1 : b ≤ 18446744073709551615) :
    Calls Try.prog 27 #[.int .u64 a, .int .u64 b] w fun e w' => e = .returned (.tuple #[.int .u64 (a * b / 18446744073709551616), .int .u64 (a * b % 18446744073709551616)]) ∧ w = w' := by
  obtain ⟨x, rfl⟩ := Int.eq_ofNat_of_zero_le ha
  obtain ⟨y, rfl⟩ := Int.eq_ofNat_of_zero_le hb
  refine (Try.bits_Mul64 x y (by omega) (by omega) w).mono ?_
  rintro e w' ⟨rfl, rfl⟩
  simp

theorem times_any (a b : Int) (w : World) (ha : 0 ≤ a) (ha1 : a ≤ 18446744073709551615) (hb : 0 ≤ b) (hb1 : b ≤ 18446744073709551615) :
    Calls Try.prog 13 #[.int .u64 a, .int .u64 b] w fun e w' => e = .returned (.int .u64 (Tk.times a b)) ∧ Below w.heap.size w w' := by
  have HM := mul64 a b w ha ha1 hb hb1
  have h0 : 0 ≤ a * b := Int.mul_nonneg ha hb
  have HT : Hid (Tk.times a b = Tk.sat (a * b)) := rfl
  generalize a * b = m at *
  by_cases h : m ≤ 18446744073709551615
  · have HF : Hid (Tk.times a b = m) := by unfold Hid; rw [HT.out, Tk.sat_low _ h]
    have q1 : m / 18446744073709551616 = 0 := by omega
    have q2 : m % 18446744073709551616 = m := by omega
    rw [q1, q2] at HM
    clear q1 q2
    go_enter Try.func13, Try.ntmps13
    go_wp2_with fail
    refine HM.mono ?_
    rintro e w1 ⟨rfl, rfl⟩
    go_wp2
    go_ret
    exact ⟨(ret_int HF.out).symm, by go_grown⟩
  · have HF : Hid (Tk.times a b = 18446744073709551615) := by unfold Hid; rw [HT.out, Tk.sat_high _ (by omega)]
    obtain ⟨q, hq⟩ : ∃ q, m / 18446744073709551616 = q := ⟨_, rfl⟩
    have q1 : 0 < q := by omega
    have q3 : decide (0 < q) = true := by simp; omega
    obtain ⟨r, hr⟩ : ∃ r, m % 18446744073709551616 = r := ⟨_, rfl⟩
    rw [hq, hr] at HM
    clear hq hr h h0
    go_enter Try.func13, Try.ntmps13
    go_wp2_with fail
    refine HM.mono ?_
    rintro e w1 ⟨rfl, rfl⟩
    go_wp2
    go_ret
    exact ⟨(ret_int HF.out).symm, by go_grown⟩

theorem sub_any (a b : Int) (w : World) (ha : 0 ≤ a) (ha1 : a ≤ 18446744073709551615) (hb : 0 ≤ b) (hb1 : b ≤ 18446744073709551615) :
    Calls Try.prog 15 #[.int .u64 a, .int .u64 b] w fun e w' => e = .returned (.int .u64 (Tk.sub a b)) ∧ w = w' := by
  have HF : Hid (Tk.sub a b = a - min a b) := rfl
  have q1 : min a b ≤ a := Int.min_le_left a b
  have q2 : 0 ≤ min a b := by omega
  go_enter Try.func15, Try.ntmps15
  go_wp2
  go_ret
  exact ⟨(ret_int HF.out).symm, rfl⟩

theorem refTimes_any (a b : Int) (w : World) (ha : 0 ≤ a) (ha1 : a ≤ 18446744073709551615) (hb : 0 ≤ b) (hb1 : b ≤ 18446744073709551615) :
    Calls Try.prog 14 #[.int .u64 a, .int .u64 b] w fun e w' => e = .returned (.int .u64 (Tk.times a b)) ∧ w = w' := by
  by_cases hz : a = 0
  · subst hz
    have HF : Hid (Tk.times 0 b = 0) := by unfold Hid Tk.times; simp [Tk.sat]
    go_enter Try.func14, Try.ntmps14
    go_wp2
    go_ret
    exact ⟨(ret_int HF.out).symm, rfl⟩
  · have hp : 0 < a := by omega
    have hd : b ≤ 18446744073709551615 / a ↔ a * b ≤ 18446744073709551615 := by
      rw [Int.le_ediv_iff_mul_le hp, Int.mul_comm]
    have h0 : 0 ≤ a * b := Int.mul_nonneg ha hb
    have hq0 : 0 ≤ 18446744073709551615 / a := Int.ediv_nonneg (by decide) ha
    have HT : Hid (Tk.times a b = Tk.sat (a * b)) := rfl
    have hz' : (a == 0) = false := by simp [hz]
    clear hz
    by_cases h : a * b ≤ 18446744073709551615
    · have HF : Hid (Tk.times a b = a * b) := by unfold Hid; rw [HT.out, Tk.sat_low _ h]
      have hb2 : b ≤ 18446744073709551615 / a := hd.2 h
      clear hd
      go_enter Try.func14, Try.ntmps14
      go_wp2
      go_ret
      exact ⟨(ret_int HF.out).symm, rfl⟩
    · have HF : Hid (Tk.times a b = 18446744073709551615) := by unfold Hid; rw [HT.out, Tk.sat_high _ (by omega)]
      have hb2 : 18446744073709551615 / a < b := by omega
      clear hd h
      go_enter Try.func14, Try.ntmps14
      go_wp2
      go_ret
      exact ⟨(ret_int HF.out).symm, rfl⟩

def bkCells (b : Bk.Bucket) : Array Value := #[.int .u64 b.size, .int .u64 b.every, .int .u64 b.tokens, .int .u64 b.since]
def BkAt (w : World) (x : Nat) (b : Bk.Bucket) : Prop := Obj w x 50 (bkCells b)
def RbAt (w : World) (x : Nat) (b : Bk.Bucket) : Prop := Obj w x 34 (bkCells b)

theorem newBucket_any (s e : Int) (w : World) (he : 0 < e) :
    Calls Try.prog 20 #[.int .u64 s, .int .u64 e] w fun r w' => r = .returned (.pointer (some ⟨w.heap.size, 0, none⟩)) ∧ BkAt w' w.heap.size (Bk.new s e) ∧ Below w.heap.size w w' := by
  have hz : (e == 0) = false := by simp; omega
  go_enter Try.func20, Try.ntmps20
  go_wp2
  go_ret
  exact ⟨rfl, Obj.new w 50 (bkCells (Bk.new s e)), by go_grown⟩
theorem newBucket_none (s : Int) (w : World) :
    Calls Try.prog 20 #[.int .u64 s, .int .u64 0] w fun r w' => r = .returned (.pointer none) ∧ w = w' := by
  go_enter Try.func20, Try.ntmps20
  go_wp2
  go_ret
  exact ⟨rfl, rfl⟩
theorem take_nil (n : Int) (w : World) :
    Calls Try.prog 21 #[.pointer none, .int .u64 n] w fun r w' => r = .returned (.bool false) ∧ w = w' := by
  go_enter Try.func21, Try.ntmps21
  go_wp2
  go_ret
  exact ⟨rfl, rfl⟩
theorem left_nil (n : Int) (w : World) :
    Calls Try.prog 22 #[.pointer none, .int .u64 n] w fun r w' => r = .returned (.int .u64 0) ∧ w = w' := by
  go_enter Try.func22, Try.ntmps22
  go_wp2
  go_ret
  exact ⟨rfl, rfl⟩

end Go.Proofs.Ytjgoeakhodpcaaa
