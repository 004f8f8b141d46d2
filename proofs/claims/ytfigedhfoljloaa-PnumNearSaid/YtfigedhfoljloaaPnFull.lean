/- The walks of layer 2's Full, of the program and of the document. -/
import Derived.Test.YtfigedhfoljloaaRows
import Derived.Test.YtfigedhfoljloaaShelf
import Derived.Test.YtfigedhfoljloaaPlainPn
import Derived.Test.YtfigedhfoljloaaAid
import Derived.Test.YtfigedhfoljloaaPnum
import Derived.WalkKit
import Derived.WalkSpells
import Derived.WalkLawsBesides
import Derived.Deep.QuietTactic
import Derived.BigQuiet
import Derived.Handy
import Derived.Lib.Hide
namespace Go.Proofs.Ytfigedhfoljloaa
open Go.RowKit
set_option linter.unusedVariables false

set_option maxHeartbeats 1000000 in
theorem full_1w1 (largest : Int) (b off cap : Nat) (c0 c : Int) (w : World) (hl0 : -1 ≤ largest) (hl1 : largest ≤ 4611686018427387903) (a0 : 0 ≤ c0) (b0 : c0 ≤ 255) (hc : c = (largest + 1) / 256 * 256 + c0) (p1 : c ≤ largest + 1 - 128) (p2 : c ≤ 4611686018427387647) (g0 : w.cell? ⟨b, off, none⟩ = some (.int .u8 c0)) :
    Calls Try.prog 14 #[.int .i64 largest, .slice (some ⟨b, off, none⟩) 1 cap] w fun e w' => e = .returned (.int .i64 (c + 256)) ∧ w = w' := by
  have o0 : bits .or .i64 0 c0 = c0 := by simpa using i64_join 8 0 c0 (by omega) (by omega) (by omega) a0 (by omega) (by omega)
  obtain ⟨m, km⟩ : ∃ m, (largest + 1) / 256 * 256 = m := ⟨_, rfl⟩
  have om : bits .andNot .i64 (largest + 1) 255 = m := by rw [← km]; exact i64_andNot_low (largest + 1) 8 (by decide) (by omega) (by omega)
  have mm : 0 ≤ m ∧ m ≤ 4611686018427387904 := by omega
  obtain ⟨mma, mmb⟩ := mm
  rw [km] at hc
  have oc : bits .or .i64 m c0 = c := by rw [hc]; exact or_top 8 _ _ mma (by omega) mmb a0 (by omega) (by decide)
  have cc : 0 ≤ c ∧ c ≤ 4611686018427388159 := by omega
  obtain ⟨cca, ccb⟩ := cc
  clear hc km 
  go_enter Try.func14, Try.ntmps14
  go_wp2_with (first | (go_at_call 16; refine (within64_in _ _ _ _ (by omega) (by omega)).mono ?_; rintro e w' ⟨rfl, rfl⟩) | (go_at_call 18; refine (within_in _ _ _ _ (by omega) (by omega)).mono ?_; rintro e w' ⟨rfl, rfl⟩))
  refine wp_loop_rounds 2 ?_; repeat any_goals (rw [rounds_succ]; go_wp2)
  go_ret
  exact ⟨rfl, rfl⟩

set_option maxHeartbeats 1000000 in
theorem full_1w2 (largest : Int) (b off cap : Nat) (c0 c : Int) (w : World) (hl0 : -1 ≤ largest) (hl1 : largest ≤ 4611686018427387903) (a0 : 0 ≤ c0) (b0 : c0 ≤ 255) (hc : c = (largest + 1) / 256 * 256 + c0) (p1 : c ≤ largest + 1 - 128) (p2 : 4611686018427387647 < c) (g0 : w.cell? ⟨b, off, none⟩ = some (.int .u8 c0)) :
    Calls Try.prog 14 #[.int .i64 largest, .slice (some ⟨b, off, none⟩) 1 cap] w fun e w' => e = .returned (.int .i64 (c)) ∧ w = w' := by
  have o0 : bits .or .i64 0 c0 = c0 := by simpa using i64_join 8 0 c0 (by omega) (by omega) (by omega) a0 (by omega) (by omega)
  obtain ⟨m, km⟩ : ∃ m, (largest + 1) / 256 * 256 = m := ⟨_, rfl⟩
  have om : bits .andNot .i64 (largest + 1) 255 = m := by rw [← km]; exact i64_andNot_low (largest + 1) 8 (by decide) (by omega) (by omega)
  have mm : 0 ≤ m ∧ m ≤ 4611686018427387904 := by omega
  obtain ⟨mma, mmb⟩ := mm
  rw [km] at hc
  have oc : bits .or .i64 m c0 = c := by rw [hc]; exact or_top 8 _ _ mma (by omega) mmb a0 (by omega) (by decide)
  have cc : 0 ≤ c ∧ c ≤ 4611686018427388159 := by omega
  obtain ⟨cca, ccb⟩ := cc
  clear hc km 
  go_enter Try.func14, Try.ntmps14
  go_wp2_with (first | (go_at_call 16; refine (within64_in _ _ _ _ (by omega) (by omega)).mono ?_; rintro e w' ⟨rfl, rfl⟩) | (go_at_call 18; refine (within_in _ _ _ _ (by omega) (by omega)).mono ?_; rintro e w' ⟨rfl, rfl⟩))
  refine wp_loop_rounds 2 ?_; repeat any_goals (rw [rounds_succ]; go_wp2)
  go_ret
  exact ⟨rfl, rfl⟩

set_option maxHeartbeats 1000000 in
theorem full_1w3 (largest : Int) (b off cap : Nat) (c0 c : Int) (w : World) (hl0 : -1 ≤ largest) (hl1 : largest ≤ 4611686018427387903) (a0 : 0 ≤ c0) (b0 : c0 ≤ 255) (hc : c = (largest + 1) / 256 * 256 + c0) (p1 : largest + 1 - 128 < c) (p3 : largest + 1 + 128 < c) (p4 : 256 ≤ c) (g0 : w.cell? ⟨b, off, none⟩ = some (.int .u8 c0)) :
    Calls Try.prog 14 #[.int .i64 largest, .slice (some ⟨b, off, none⟩) 1 cap] w fun e w' => e = .returned (.int .i64 (c - 256)) ∧ w = w' := by
  have o0 : bits .or .i64 0 c0 = c0 := by simpa using i64_join 8 0 c0 (by omega) (by omega) (by omega) a0 (by omega) (by omega)
  obtain ⟨m, km⟩ : ∃ m, (largest + 1) / 256 * 256 = m := ⟨_, rfl⟩
  have om : bits .andNot .i64 (largest + 1) 255 = m := by rw [← km]; exact i64_andNot_low (largest + 1) 8 (by decide) (by omega) (by omega)
  have mm : 0 ≤ m ∧ m ≤ 4611686018427387904 := by omega
  obtain ⟨mma, mmb⟩ := mm
  rw [km] at hc
  have oc : bits .or .i64 m c0 = c := by rw [hc]; exact or_top 8 _ _ mma (by omega) mmb a0 (by omega) (by decide)
  have cc : 0 ≤ c ∧ c ≤ 4611686018427388159 := by omega
  obtain ⟨cca, ccb⟩ := cc
  clear hc km 
  go_enter Try.func14, Try.ntmps14
  go_wp2_with (first | (go_at_call 16; refine (within64_in _ _ _ _ (by omega) (by omega)).mono ?_; rintro e w' ⟨rfl, rfl⟩) | (go_at_call 18; refine (within_in _ _ _ _ (by omega) (by omega)).mono ?_; rintro e w' ⟨rfl, rfl⟩))
  refine wp_loop_rounds 2 ?_; repeat any_goals (rw [rounds_succ]; go_wp2)
  go_ret
  exact ⟨rfl, rfl⟩

set_option maxHeartbeats 1000000 in
theorem full_1w4 (largest : Int) (b off cap : Nat) (c0 c : Int) (w : World) (hl0 : -1 ≤ largest) (hl1 : largest ≤ 4611686018427387903) (a0 : 0 ≤ c0) (b0 : c0 ≤ 255) (hc : c = (largest + 1) / 256 * 256 + c0) (p1 : largest + 1 - 128 < c) (p3 : largest + 1 + 128 < c) (p4 : c < 256) (g0 : w.cell? ⟨b, off, none⟩ = some (.int .u8 c0)) :
    Calls Try.prog 14 #[.int .i64 largest, .slice (some ⟨b, off, none⟩) 1 cap] w fun e w' => e = .returned (.int .i64 (c)) ∧ w = w' := by
  have o0 : bits .or .i64 0 c0 = c0 := by simpa using i64_join 8 0 c0 (by omega) (by omega) (by omega) a0 (by omega) (by omega)
  obtain ⟨m, km⟩ : ∃ m, (largest + 1) / 256 * 256 = m := ⟨_, rfl⟩
  have om : bits .andNot .i64 (largest + 1) 255 = m := by rw [← km]; exact i64_andNot_low (largest + 1) 8 (by decide) (by omega) (by omega)
  have mm : 0 ≤ m ∧ m ≤ 4611686018427387904 := by omega
  obtain ⟨mma, mmb⟩ := mm
  rw [km] at hc
  have oc : bits .or .i64 m c0 = c := by rw [hc]; exact or_top 8 _ _ mma (by omega) mmb a0 (by omega) (by decide)
  have cc : 0 ≤ c ∧ c ≤ 4611686018427388159 := by omega
  obtain ⟨cca, ccb⟩ := cc
  clear hc km 
  go_enter Try.func14, Try.ntmps14
  go_wp2_with (first | (go_at_call 16; refine (within64_in _ _ _ _ (by omega) (by omega)).mono ?_; rintro e w' ⟨rfl, rfl⟩) | (go_at_call 18; refine (within_in _ _ _ _ (by omega) (by omega)).mono ?_; rintro e w' ⟨rfl, rfl⟩))
  refine wp_loop_rounds 2 ?_; repeat any_goals (rw [rounds_succ]; go_wp2)
  go_ret
  exact ⟨rfl, rfl⟩

set_option maxHeartbeats 1000000 in
theorem full_1w5 (largest : Int) (b off cap : Nat) (c0 c : Int) (w : World) (hl0 : -1 ≤ largest) (hl1 : largest ≤ 4611686018427387903) (a0 : 0 ≤ c0) (b0 : c0 ≤ 255) (hc : c = (largest + 1) / 256 * 256 + c0) (p1 : largest + 1 - 128 < c) (p3 : c ≤ largest + 1 + 128) (g0 : w.cell? ⟨b, off, none⟩ = some (.int .u8 c0)) :
    Calls Try.prog 14 #[.int .i64 largest, .slice (some ⟨b, off, none⟩) 1 cap] w fun e w' => e = .returned (.int .i64 (c)) ∧ w = w' := by
  have o0 : bits .or .i64 0 c0 = c0 := by simpa using i64_join 8 0 c0 (by omega) (by omega) (by omega) a0 (by omega) (by omega)
  obtain ⟨m, km⟩ : ∃ m, (largest + 1) / 256 * 256 = m := ⟨_, rfl⟩
  have om : bits .andNot .i64 (largest + 1) 255 = m := by rw [← km]; exact i64_andNot_low (largest + 1) 8 (by decide) (by omega) (by omega)
  have mm : 0 ≤ m ∧ m ≤ 4611686018427387904 := by omega
  obtain ⟨mma, mmb⟩ := mm
  rw [km] at hc
  have oc : bits .or .i64 m c0 = c := by rw [hc]; exact or_top 8 _ _ mma (by omega) mmb a0 (by omega) (by decide)
  have cc : 0 ≤ c ∧ c ≤ 4611686018427388159 := by omega
  obtain ⟨cca, ccb⟩ := cc
  clear hc km 
  go_enter Try.func14, Try.ntmps14
  go_wp2_with (first | (go_at_call 16; refine (within64_in _ _ _ _ (by omega) (by omega)).mono ?_; rintro e w' ⟨rfl, rfl⟩) | (go_at_call 18; refine (within_in _ _ _ _ (by omega) (by omega)).mono ?_; rintro e w' ⟨rfl, rfl⟩))
  refine wp_loop_rounds 2 ?_; repeat any_goals (rw [rounds_succ]; go_wp2)
  go_ret
  exact ⟨rfl, rfl⟩

set_option maxHeartbeats 1000000 in
theorem ref_full_1w1 (largest : Int) (b off cap : Nat) (c0 c : Int) (w : World) (hl0 : -1 ≤ largest) (hl1 : largest ≤ 4611686018427387903) (a0 : 0 ≤ c0) (b0 : c0 ≤ 255) (hc : c = (largest + 1) / 256 * 256 + c0) (p1 : c ≤ largest + 1 - 128) (p2 : c ≤ 4611686018427387647) (g0 : w.cell? ⟨b, off, none⟩ = some (.int .u8 c0)) :
    Calls Try.prog 15 #[.int .i64 largest, .slice (some ⟨b, off, none⟩) 1 cap] w fun e w' => e = .returned (.int .i64 (c + 256)) ∧ w = w' := by
  obtain ⟨m, km⟩ : ∃ m, (largest + 1) / 256 * 256 = m := ⟨_, rfl⟩
  have mm : 0 ≤ m ∧ m ≤ 4611686018427387904 := by omega
  obtain ⟨mma, mmb⟩ := mm
  rw [km] at hc
  have oc : m + c0 = c := hc.symm
  have cc : 0 ≤ c ∧ c ≤ 4611686018427388159 := by omega
  obtain ⟨cca, ccb⟩ := cc
  clear hc
  go_enter Try.func15, Try.ntmps15
  go_wp2
  refine wp_loop_rounds 2 ?_; repeat any_goals (rw [rounds_succ]; go_wp2)
  go_ret
  exact ⟨rfl, rfl⟩

set_option maxHeartbeats 1000000 in
theorem ref_full_1w2 (largest : Int) (b off cap : Nat) (c0 c : Int) (w : World) (hl0 : -1 ≤ largest) (hl1 : largest ≤ 4611686018427387903) (a0 : 0 ≤ c0) (b0 : c0 ≤ 255) (hc : c = (largest + 1) / 256 * 256 + c0) (p1 : c ≤ largest + 1 - 128) (p2 : 4611686018427387647 < c) (g0 : w.cell? ⟨b, off, none⟩ = some (.int .u8 c0)) :
    Calls Try.prog 15 #[.int .i64 largest, .slice (some ⟨b, off, none⟩) 1 cap] w fun e w' => e = .returned (.int .i64 (c)) ∧ w = w' := by
  obtain ⟨m, km⟩ : ∃ m, (largest + 1) / 256 * 256 = m := ⟨_, rfl⟩
  have mm : 0 ≤ m ∧ m ≤ 4611686018427387904 := by omega
  obtain ⟨mma, mmb⟩ := mm
  rw [km] at hc
  have oc : m + c0 = c := hc.symm
  have cc : 0 ≤ c ∧ c ≤ 4611686018427388159 := by omega
  obtain ⟨cca, ccb⟩ := cc
  clear hc
  go_enter Try.func15, Try.ntmps15
  go_wp2
  refine wp_loop_rounds 2 ?_; repeat any_goals (rw [rounds_succ]; go_wp2)
  go_ret
  exact ⟨rfl, rfl⟩

set_option maxHeartbeats 1000000 in
theorem ref_full_1w3 (largest : Int) (b off cap : Nat) (c0 c : Int) (w : World) (hl0 : -1 ≤ largest) (hl1 : largest ≤ 4611686018427387903) (a0 : 0 ≤ c0) (b0 : c0 ≤ 255) (hc : c = (largest + 1) / 256 * 256 + c0) (p1 : largest + 1 - 128 < c) (p3 : largest + 1 + 128 < c) (p4 : 256 ≤ c) (g0 : w.cell? ⟨b, off, none⟩ = some (.int .u8 c0)) :
    Calls Try.prog 15 #[.int .i64 largest, .slice (some ⟨b, off, none⟩) 1 cap] w fun e w' => e = .returned (.int .i64 (c - 256)) ∧ w = w' := by
  obtain ⟨m, km⟩ : ∃ m, (largest + 1) / 256 * 256 = m := ⟨_, rfl⟩
  have mm : 0 ≤ m ∧ m ≤ 4611686018427387904 := by omega
  obtain ⟨mma, mmb⟩ := mm
  rw [km] at hc
  have oc : m + c0 = c := hc.symm
  have cc : 0 ≤ c ∧ c ≤ 4611686018427388159 := by omega
  obtain ⟨cca, ccb⟩ := cc
  clear hc
  go_enter Try.func15, Try.ntmps15
  go_wp2
  refine wp_loop_rounds 2 ?_; repeat any_goals (rw [rounds_succ]; go_wp2)
  go_ret
  exact ⟨rfl, rfl⟩

set_option maxHeartbeats 1000000 in
theorem ref_full_1w4 (largest : Int) (b off cap : Nat) (c0 c : Int) (w : World) (hl0 : -1 ≤ largest) (hl1 : largest ≤ 4611686018427387903) (a0 : 0 ≤ c0) (b0 : c0 ≤ 255) (hc : c = (largest + 1) / 256 * 256 + c0) (p1 : largest + 1 - 128 < c) (p3 : largest + 1 + 128 < c) (p4 : c < 256) (g0 : w.cell? ⟨b, off, none⟩ = some (.int .u8 c0)) :
    Calls Try.prog 15 #[.int .i64 largest, .slice (some ⟨b, off, none⟩) 1 cap] w fun e w' => e = .returned (.int .i64 (c)) ∧ w = w' := by
  obtain ⟨m, km⟩ : ∃ m, (largest + 1) / 256 * 256 = m := ⟨_, rfl⟩
  have mm : 0 ≤ m ∧ m ≤ 4611686018427387904 := by omega
  obtain ⟨mma, mmb⟩ := mm
  rw [km] at hc
  have oc : m + c0 = c := hc.symm
  have cc : 0 ≤ c ∧ c ≤ 4611686018427388159 := by omega
  obtain ⟨cca, ccb⟩ := cc
  clear hc
  go_enter Try.func15, Try.ntmps15
  go_wp2
  refine wp_loop_rounds 2 ?_; repeat any_goals (rw [rounds_succ]; go_wp2)
  go_ret
  exact ⟨rfl, rfl⟩

set_option maxHeartbeats 1000000 in
theorem ref_full_1w5 (largest : Int) (b off cap : Nat) (c0 c : Int) (w : World) (hl0 : -1 ≤ largest) (hl1 : largest ≤ 4611686018427387903) (a0 : 0 ≤ c0) (b0 : c0 ≤ 255) (hc : c = (largest + 1) / 256 * 256 + c0) (p1 : largest + 1 - 128 < c) (p3 : c ≤ largest + 1 + 128) (g0 : w.cell? ⟨b, off, none⟩ = some (.int .u8 c0)) :
    Calls Try.prog 15 #[.int .i64 largest, .slice (some ⟨b, off, none⟩) 1 cap] w fun e w' => e = .returned (.int .i64 (c)) ∧ w = w' := by
  obtain ⟨m, km⟩ : ∃ m, (largest + 1) / 256 * 256 = m := ⟨_, rfl⟩
  have mm : 0 ≤ m ∧ m ≤ 4611686018427387904 := by omega
  obtain ⟨mma, mmb⟩ := mm
  rw [km] at hc
  have oc : m + c0 = c := hc.symm
  have cc : 0 ≤ c ∧ c ≤ 4611686018427388159 := by omega
  obtain ⟨cca, ccb⟩ := cc
  clear hc
  go_enter Try.func15, Try.ntmps15
  go_wp2
  refine wp_loop_rounds 2 ?_; repeat any_goals (rw [rounds_succ]; go_wp2)
  go_ret
  exact ⟨rfl, rfl⟩

set_option maxHeartbeats 1000000 in
theorem full_2w1 (largest : Int) (b off cap : Nat) (c0 c1 c : Int) (w : World) (hl0 : -1 ≤ largest) (hl1 : largest ≤ 4611686018427387903) (a0 : 0 ≤ c0) (b0 : c0 ≤ 255) (a1 : 0 ≤ c1) (b1 : c1 ≤ 255) (hc : c = (largest + 1) / 65536 * 65536 + (c0 * 256 + c1)) (p1 : c ≤ largest + 1 - 32768) (p2 : c ≤ 4611686018427322367) (g0 : w.cell? ⟨b, off, none⟩ = some (.int .u8 c0)) (g1 : w.cell? ⟨b, off + 1, none⟩ = some (.int .u8 c1)) :
    Calls Try.prog 14 #[.int .i64 largest, .slice (some ⟨b, off, none⟩) 2 cap] w fun e w' => e = .returned (.int .i64 (c + 65536)) ∧ w = w' := by
  have o0 : bits .or .i64 0 c0 = c0 := by simpa using i64_join 8 0 c0 (by omega) (by omega) (by omega) a0 (by omega) (by omega)
  obtain ⟨l1, k1⟩ : ∃ l, c0 * 256 + c1 = l := ⟨_, rfl⟩
  have m1 : 0 ≤ l1 ∧ l1 ≤ 65535 := by omega
  obtain ⟨m1a, m1b⟩ := m1
  have o1 : bits .or .i64 (c0 * 256) c1 = l1 := by rw [← k1]; exact i64_join 8 _ _ (by omega) (by omega) (by omega) a1 (by omega) (by omega)
  obtain ⟨m, km⟩ : ∃ m, (largest + 1) / 65536 * 65536 = m := ⟨_, rfl⟩
  have om : bits .andNot .i64 (largest + 1) 65535 = m := by rw [← km]; exact i64_andNot_low (largest + 1) 16 (by decide) (by omega) (by omega)
  have mm : 0 ≤ m ∧ m ≤ 4611686018427387904 := by omega
  obtain ⟨mma, mmb⟩ := mm
  rw [k1] at hc; rw [km] at hc
  have oc : bits .or .i64 m l1 = c := by rw [hc]; exact or_top 16 _ _ mma (by omega) mmb m1a (by omega) (by decide)
  have cc : 0 ≤ c ∧ c ≤ 4611686018427453439 := by omega
  obtain ⟨cca, ccb⟩ := cc
  clear hc km k1
  go_enter Try.func14, Try.ntmps14
  go_wp2_with (first | (go_at_call 16; refine (within64_in _ _ _ _ (by omega) (by omega)).mono ?_; rintro e w' ⟨rfl, rfl⟩) | (go_at_call 18; refine (within_in _ _ _ _ (by omega) (by omega)).mono ?_; rintro e w' ⟨rfl, rfl⟩))
  refine wp_loop_rounds 3 ?_; repeat any_goals (rw [rounds_succ]; go_wp2)
  go_ret
  exact ⟨rfl, rfl⟩

set_option maxHeartbeats 1000000 in
theorem full_2w2 (largest : Int) (b off cap : Nat) (c0 c1 c : Int) (w : World) (hl0 : -1 ≤ largest) (hl1 : largest ≤ 4611686018427387903) (a0 : 0 ≤ c0) (b0 : c0 ≤ 255) (a1 : 0 ≤ c1) (b1 : c1 ≤ 255) (hc : c = (largest + 1) / 65536 * 65536 + (c0 * 256 + c1)) (p1 : c ≤ largest + 1 - 32768) (p2 : 4611686018427322367 < c) (g0 : w.cell? ⟨b, off, none⟩ = some (.int .u8 c0)) (g1 : w.cell? ⟨b, off + 1, none⟩ = some (.int .u8 c1)) :
    Calls Try.prog 14 #[.int .i64 largest, .slice (some ⟨b, off, none⟩) 2 cap] w fun e w' => e = .returned (.int .i64 (c)) ∧ w = w' := by
  have o0 : bits .or .i64 0 c0 = c0 := by simpa using i64_join 8 0 c0 (by omega) (by omega) (by omega) a0 (by omega) (by omega)
  obtain ⟨l1, k1⟩ : ∃ l, c0 * 256 + c1 = l := ⟨_, rfl⟩
  have m1 : 0 ≤ l1 ∧ l1 ≤ 65535 := by omega
  obtain ⟨m1a, m1b⟩ := m1
  have o1 : bits .or .i64 (c0 * 256) c1 = l1 := by rw [← k1]; exact i64_join 8 _ _ (by omega) (by omega) (by omega) a1 (by omega) (by omega)
  obtain ⟨m, km⟩ : ∃ m, (largest + 1) / 65536 * 65536 = m := ⟨_, rfl⟩
  have om : bits .andNot .i64 (largest + 1) 65535 = m := by rw [← km]; exact i64_andNot_low (largest + 1) 16 (by decide) (by omega) (by omega)
  have mm : 0 ≤ m ∧ m ≤ 4611686018427387904 := by omega
  obtain ⟨mma, mmb⟩ := mm
  rw [k1] at hc; rw [km] at hc
  have oc : bits .or .i64 m l1 = c := by rw [hc]; exact or_top 16 _ _ mma (by omega) mmb m1a (by omega) (by decide)
  have cc : 0 ≤ c ∧ c ≤ 4611686018427453439 := by omega
  obtain ⟨cca, ccb⟩ := cc
  clear hc km k1
  go_enter Try.func14, Try.ntmps14
  go_wp2_with (first | (go_at_call 16; refine (within64_in _ _ _ _ (by omega) (by omega)).mono ?_; rintro e w' ⟨rfl, rfl⟩) | (go_at_call 18; refine (within_in _ _ _ _ (by omega) (by omega)).mono ?_; rintro e w' ⟨rfl, rfl⟩))
  refine wp_loop_rounds 3 ?_; repeat any_goals (rw [rounds_succ]; go_wp2)
  go_ret
  exact ⟨rfl, rfl⟩

set_option maxHeartbeats 1000000 in
theorem full_2w3 (largest : Int) (b off cap : Nat) (c0 c1 c : Int) (w : World) (hl0 : -1 ≤ largest) (hl1 : largest ≤ 4611686018427387903) (a0 : 0 ≤ c0) (b0 : c0 ≤ 255) (a1 : 0 ≤ c1) (b1 : c1 ≤ 255) (hc : c = (largest + 1) / 65536 * 65536 + (c0 * 256 + c1)) (p1 : largest + 1 - 32768 < c) (p3 : largest + 1 + 32768 < c) (p4 : 65536 ≤ c) (g0 : w.cell? ⟨b, off, none⟩ = some (.int .u8 c0)) (g1 : w.cell? ⟨b, off + 1, none⟩ = some (.int .u8 c1)) :
    Calls Try.prog 14 #[.int .i64 largest, .slice (some ⟨b, off, none⟩) 2 cap] w fun e w' => e = .returned (.int .i64 (c - 65536)) ∧ w = w' := by
  have o0 : bits .or .i64 0 c0 = c0 := by simpa using i64_join 8 0 c0 (by omega) (by omega) (by omega) a0 (by omega) (by omega)
  obtain ⟨l1, k1⟩ : ∃ l, c0 * 256 + c1 = l := ⟨_, rfl⟩
  have m1 : 0 ≤ l1 ∧ l1 ≤ 65535 := by omega
  obtain ⟨m1a, m1b⟩ := m1
  have o1 : bits .or .i64 (c0 * 256) c1 = l1 := by rw [← k1]; exact i64_join 8 _ _ (by omega) (by omega) (by omega) a1 (by omega) (by omega)
  obtain ⟨m, km⟩ : ∃ m, (largest + 1) / 65536 * 65536 = m := ⟨_, rfl⟩
  have om : bits .andNot .i64 (largest + 1) 65535 = m := by rw [← km]; exact i64_andNot_low (largest + 1) 16 (by decide) (by omega) (by omega)
  have mm : 0 ≤ m ∧ m ≤ 4611686018427387904 := by omega
  obtain ⟨mma, mmb⟩ := mm
  rw [k1] at hc; rw [km] at hc
  have oc : bits .or .i64 m l1 = c := by rw [hc]; exact or_top 16 _ _ mma (by omega) mmb m1a (by omega) (by decide)
  have cc : 0 ≤ c ∧ c ≤ 4611686018427453439 := by omega
  obtain ⟨cca, ccb⟩ := cc
  clear hc km k1
  go_enter Try.func14, Try.ntmps14
  go_wp2_with (first | (go_at_call 16; refine (within64_in _ _ _ _ (by omega) (by omega)).mono ?_; rintro e w' ⟨rfl, rfl⟩) | (go_at_call 18; refine (within_in _ _ _ _ (by omega) (by omega)).mono ?_; rintro e w' ⟨rfl, rfl⟩))
  refine wp_loop_rounds 3 ?_; repeat any_goals (rw [rounds_succ]; go_wp2)
  go_ret
  exact ⟨rfl, rfl⟩

set_option maxHeartbeats 1000000 in
theorem full_2w4 (largest : Int) (b off cap : Nat) (c0 c1 c : Int) (w : World) (hl0 : -1 ≤ largest) (hl1 : largest ≤ 4611686018427387903) (a0 : 0 ≤ c0) (b0 : c0 ≤ 255) (a1 : 0 ≤ c1) (b1 : c1 ≤ 255) (hc : c = (largest + 1) / 65536 * 65536 + (c0 * 256 + c1)) (p1 : largest + 1 - 32768 < c) (p3 : largest + 1 + 32768 < c) (p4 : c < 65536) (g0 : w.cell? ⟨b, off, none⟩ = some (.int .u8 c0)) (g1 : w.cell? ⟨b, off + 1, none⟩ = some (.int .u8 c1)) :
    Calls Try.prog 14 #[.int .i64 largest, .slice (some ⟨b, off, none⟩) 2 cap] w fun e w' => e = .returned (.int .i64 (c)) ∧ w = w' := by
  have o0 : bits .or .i64 0 c0 = c0 := by simpa using i64_join 8 0 c0 (by omega) (by omega) (by omega) a0 (by omega) (by omega)
  obtain ⟨l1, k1⟩ : ∃ l, c0 * 256 + c1 = l := ⟨_, rfl⟩
  have m1 : 0 ≤ l1 ∧ l1 ≤ 65535 := by omega
  obtain ⟨m1a, m1b⟩ := m1
  have o1 : bits .or .i64 (c0 * 256) c1 = l1 := by rw [← k1]; exact i64_join 8 _ _ (by omega) (by omega) (by omega) a1 (by omega) (by omega)
  obtain ⟨m, km⟩ : ∃ m, (largest + 1) / 65536 * 65536 = m := ⟨_, rfl⟩
  have om : bits .andNot .i64 (largest + 1) 65535 = m := by rw [← km]; exact i64_andNot_low (largest + 1) 16 (by decide) (by omega) (by omega)
  have mm : 0 ≤ m ∧ m ≤ 4611686018427387904 := by omega
  obtain ⟨mma, mmb⟩ := mm
  rw [k1] at hc; rw [km] at hc
  have oc : bits .or .i64 m l1 = c := by rw [hc]; exact or_top 16 _ _ mma (by omega) mmb m1a (by omega) (by decide)
  have cc : 0 ≤ c ∧ c ≤ 4611686018427453439 := by omega
  obtain ⟨cca, ccb⟩ := cc
  clear hc km k1
  go_enter Try.func14, Try.ntmps14
  go_wp2_with (first | (go_at_call 16; refine (within64_in _ _ _ _ (by omega) (by omega)).mono ?_; rintro e w' ⟨rfl, rfl⟩) | (go_at_call 18; refine (within_in _ _ _ _ (by omega) (by omega)).mono ?_; rintro e w' ⟨rfl, rfl⟩))
  refine wp_loop_rounds 3 ?_; repeat any_goals (rw [rounds_succ]; go_wp2)
  go_ret
  exact ⟨rfl, rfl⟩

set_option maxHeartbeats 1000000 in
theorem full_2w5 (largest : Int) (b off cap : Nat) (c0 c1 c : Int) (w : World) (hl0 : -1 ≤ largest) (hl1 : largest ≤ 4611686018427387903) (a0 : 0 ≤ c0) (b0 : c0 ≤ 255) (a1 : 0 ≤ c1) (b1 : c1 ≤ 255) (hc : c = (largest + 1) / 65536 * 65536 + (c0 * 256 + c1)) (p1 : largest + 1 - 32768 < c) (p3 : c ≤ largest + 1 + 32768) (g0 : w.cell? ⟨b, off, none⟩ = some (.int .u8 c0)) (g1 : w.cell? ⟨b, off + 1, none⟩ = some (.int .u8 c1)) :
    Calls Try.prog 14 #[.int .i64 largest, .slice (some ⟨b, off, none⟩) 2 cap] w fun e w' => e = .returned (.int .i64 (c)) ∧ w = w' := by
  have o0 : bits .or .i64 0 c0 = c0 := by simpa using i64_join 8 0 c0 (by omega) (by omega) (by omega) a0 (by omega) (by omega)
  obtain ⟨l1, k1⟩ : ∃ l, c0 * 256 + c1 = l := ⟨_, rfl⟩
  have m1 : 0 ≤ l1 ∧ l1 ≤ 65535 := by omega
  obtain ⟨m1a, m1b⟩ := m1
  have o1 : bits .or .i64 (c0 * 256) c1 = l1 := by rw [← k1]; exact i64_join 8 _ _ (by omega) (by omega) (by omega) a1 (by omega) (by omega)
  obtain ⟨m, km⟩ : ∃ m, (largest + 1) / 65536 * 65536 = m := ⟨_, rfl⟩
  have om : bits .andNot .i64 (largest + 1) 65535 = m := by rw [← km]; exact i64_andNot_low (largest + 1) 16 (by decide) (by omega) (by omega)
  have mm : 0 ≤ m ∧ m ≤ 4611686018427387904 := by omega
  obtain ⟨mma, mmb⟩ := mm
  rw [k1] at hc; rw [km] at hc
  have oc : bits .or .i64 m l1 = c := by rw [hc]; exact or_top 16 _ _ mma (by omega) mmb m1a (by omega) (by decide)
  have cc : 0 ≤ c ∧ c ≤ 4611686018427453439 := by omega
  obtain ⟨cca, ccb⟩ := cc
  clear hc km k1
  go_enter Try.func14, Try.ntmps14
  go_wp2_with (first | (go_at_call 16; refine (within64_in _ _ _ _ (by omega) (by omega)).mono ?_; rintro e w' ⟨rfl, rfl⟩) | (go_at_call 18; refine (within_in _ _ _ _ (by omega) (by omega)).mono ?_; rintro e w' ⟨rfl, rfl⟩))
  refine wp_loop_rounds 3 ?_; repeat any_goals (rw [rounds_succ]; go_wp2)
  go_ret
  exact ⟨rfl, rfl⟩

set_option maxHeartbeats 1000000 in
theorem ref_full_2w1 (largest : Int) (b off cap : Nat) (c0 c1 c : Int) (w : World) (hl0 : -1 ≤ largest) (hl1 : largest ≤ 4611686018427387903) (a0 : 0 ≤ c0) (b0 : c0 ≤ 255) (a1 : 0 ≤ c1) (b1 : c1 ≤ 255) (hc : c = (largest + 1) / 65536 * 65536 + (c0 * 256 + c1)) (p1 : c ≤ largest + 1 - 32768) (p2 : c ≤ 4611686018427322367) (g0 : w.cell? ⟨b, off, none⟩ = some (.int .u8 c0)) (g1 : w.cell? ⟨b, off + 1, none⟩ = some (.int .u8 c1)) :
    Calls Try.prog 15 #[.int .i64 largest, .slice (some ⟨b, off, none⟩) 2 cap] w fun e w' => e = .returned (.int .i64 (c + 65536)) ∧ w = w' := by
  obtain ⟨m, km⟩ : ∃ m, (largest + 1) / 65536 * 65536 = m := ⟨_, rfl⟩
  have mm : 0 ≤ m ∧ m ≤ 4611686018427387904 := by omega
  obtain ⟨mma, mmb⟩ := mm
  rw [km] at hc
  have oc : m + (c0 * 256 + c1) = c := hc.symm
  have cc : 0 ≤ c ∧ c ≤ 4611686018427453439 := by omega
  obtain ⟨cca, ccb⟩ := cc
  clear hc
  go_enter Try.func15, Try.ntmps15
  go_wp2
  refine wp_loop_rounds 3 ?_; repeat any_goals (rw [rounds_succ]; go_wp2)
  go_ret
  exact ⟨rfl, rfl⟩

set_option maxHeartbeats 1000000 in
theorem ref_full_2w2 (largest : Int) (b off cap : Nat) (c0 c1 c : Int) (w : World) (hl0 : -1 ≤ largest) (hl1 : largest ≤ 4611686018427387903) (a0 : 0 ≤ c0) (b0 : c0 ≤ 255) (a1 : 0 ≤ c1) (b1 : c1 ≤ 255) (hc : c = (largest + 1) / 65536 * 65536 + (c0 * 256 + c1)) (p1 : c ≤ largest + 1 - 32768) (p2 : 4611686018427322367 < c) (g0 : w.cell? ⟨b, off, none⟩ = some (.int .u8 c0)) (g1 : w.cell? ⟨b, off + 1, none⟩ = some (.int .u8 c1)) :
    Calls Try.prog 15 #[.int .i64 largest, .slice (some ⟨b, off, none⟩) 2 cap] w fun e w' => e = .returned (.int .i64 (c)) ∧ w = w' := by
  obtain ⟨m, km⟩ : ∃ m, (largest + 1) / 65536 * 65536 = m := ⟨_, rfl⟩
  have mm : 0 ≤ m ∧ m ≤ 4611686018427387904 := by omega
  obtain ⟨mma, mmb⟩ := mm
  rw [km] at hc
  have oc : m + (c0 * 256 + c1) = c := hc.symm
  have cc : 0 ≤ c ∧ c ≤ 4611686018427453439 := by omega
  obtain ⟨cca, ccb⟩ := cc
  clear hc
  go_enter Try.func15, Try.ntmps15
  go_wp2
  refine wp_loop_rounds 3 ?_; repeat any_goals (rw [rounds_succ]; go_wp2)
  go_ret
  exact ⟨rfl, rfl⟩

set_option maxHeartbeats 1000000 in
theorem ref_full_2w3 (largest : Int) (b off cap : Nat) (c0 c1 c : Int) (w : World) (hl0 : -1 ≤ largest) (hl1 : largest ≤ 4611686018427387903) (a0 : 0 ≤ c0) (b0 : c0 ≤ 255) (a1 : 0 ≤ c1) (b1 : c1 ≤ 255) (hc : c = (largest + 1) / 65536 * 65536 + (c0 * 256 + c1)) (p1 : largest + 1 - 32768 < c) (p3 : largest + 1 + 32768 < c) (p4 : 65536 ≤ c) (g0 : w.cell? ⟨b, off, none⟩ = some (.int .u8 c0)) (g1 : w.cell? ⟨b, off + 1, none⟩ = some (.int .u8 c1)) :
    Calls Try.prog 15 #[.int .i64 largest, .slice (some ⟨b, off, none⟩) 2 cap] w fun e w' => e = .returned (.int .i64 (c - 65536)) ∧ w = w' := by
  obtain ⟨m, km⟩ : ∃ m, (largest + 1) / 65536 * 65536 = m := ⟨_, rfl⟩
  have mm : 0 ≤ m ∧ m ≤ 4611686018427387904 := by omega
  obtain ⟨mma, mmb⟩ := mm
  rw [km] at hc
  have oc : m + (c0 * 256 + c1) = c := hc.symm
  have cc : 0 ≤ c ∧ c ≤ 4611686018427453439 := by omega
  obtain ⟨cca, ccb⟩ := cc
  clear hc
  go_enter Try.func15, Try.ntmps15
  go_wp2
  refine wp_loop_rounds 3 ?_; repeat any_goals (rw [rounds_succ]; go_wp2)
  go_ret
  exact ⟨rfl, rfl⟩

set_option maxHeartbeats 1000000 in
theorem ref_full_2w4 (largest : Int) (b off cap : Nat) (c0 c1 c : Int) (w : World) (hl0 : -1 ≤ largest) (hl1 : largest ≤ 4611686018427387903) (a0 : 0 ≤ c0) (b0 : c0 ≤ 255) (a1 : 0 ≤ c1) (b1 : c1 ≤ 255) (hc : c = (largest + 1) / 65536 * 65536 + (c0 * 256 + c1)) (p1 : largest + 1 - 32768 < c) (p3 : largest + 1 + 32768 < c) (p4 : c < 65536) (g0 : w.cell? ⟨b, off, none⟩ = some (.int .u8 c0)) (g1 : w.cell? ⟨b, off + 1, none⟩ = some (.int .u8 c1)) :
    Calls Try.prog 15 #[.int .i64 largest, .slice (some ⟨b, off, none⟩) 2 cap] w fun e w' => e = .returned (.int .i64 (c)) ∧ w = w' := by
  obtain ⟨m, km⟩ : ∃ m, (largest + 1) / 65536 * 65536 = m := ⟨_, rfl⟩
  have mm : 0 ≤ m ∧ m ≤ 4611686018427387904 := by omega
  obtain ⟨mma, mmb⟩ := mm
  rw [km] at hc
  have oc : m + (c0 * 256 + c1) = c := hc.symm
  have cc : 0 ≤ c ∧ c ≤ 4611686018427453439 := by omega
  obtain ⟨cca, ccb⟩ := cc
  clear hc
  go_enter Try.func15, Try.ntmps15
  go_wp2
  refine wp_loop_rounds 3 ?_; repeat any_goals (rw [rounds_succ]; go_wp2)
  go_ret
  exact ⟨rfl, rfl⟩

set_option maxHeartbeats 1000000 in
theorem ref_full_2w5 (largest : Int) (b off cap : Nat) (c0 c1 c : Int) (w : World) (hl0 : -1 ≤ largest) (hl1 : largest ≤ 4611686018427387903) (a0 : 0 ≤ c0) (b0 : c0 ≤ 255) (a1 : 0 ≤ c1) (b1 : c1 ≤ 255) (hc : c = (largest + 1) / 65536 * 65536 + (c0 * 256 + c1)) (p1 : largest + 1 - 32768 < c) (p3 : c ≤ largest + 1 + 32768) (g0 : w.cell? ⟨b, off, none⟩ = some (.int .u8 c0)) (g1 : w.cell? ⟨b, off + 1, none⟩ = some (.int .u8 c1)) :
    Calls Try.prog 15 #[.int .i64 largest, .slice (some ⟨b, off, none⟩) 2 cap] w fun e w' => e = .returned (.int .i64 (c)) ∧ w = w' := by
  obtain ⟨m, km⟩ : ∃ m, (largest + 1) / 65536 * 65536 = m := ⟨_, rfl⟩
  have mm : 0 ≤ m ∧ m ≤ 4611686018427387904 := by omega
  obtain ⟨mma, mmb⟩ := mm
  rw [km] at hc
  have oc : m + (c0 * 256 + c1) = c := hc.symm
  have cc : 0 ≤ c ∧ c ≤ 4611686018427453439 := by omega
  obtain ⟨cca, ccb⟩ := cc
  clear hc
  go_enter Try.func15, Try.ntmps15
  go_wp2
  refine wp_loop_rounds 3 ?_; repeat any_goals (rw [rounds_succ]; go_wp2)
  go_ret
  exact ⟨rfl, rfl⟩

set_option maxHeartbeats 1000000 in
theorem full_3w1 (largest : Int) (b off cap : Nat) (c0 c1 c2 c : Int) (w : World) (hl0 : -1 ≤ largest) (hl1 : largest ≤ 4611686018427387903) (a0 : 0 ≤ c0) (b0 : c0 ≤ 255) (a1 : 0 ≤ c1) (b1 : c1 ≤ 255) (a2 : 0 ≤ c2) (b2 : c2 ≤ 255) (hc : c = (largest + 1) / 16777216 * 16777216 + ((c0 * 256 + c1) * 256 + c2)) (p1 : c ≤ largest + 1 - 8388608) (p2 : c ≤ 4611686018410610687) (g0 : w.cell? ⟨b, off, none⟩ = some (.int .u8 c0)) (g1 : w.cell? ⟨b, off + 1, none⟩ = some (.int .u8 c1)) (g2 : w.cell? ⟨b, off + 2, none⟩ = some (.int .u8 c2)) :
    Calls Try.prog 14 #[.int .i64 largest, .slice (some ⟨b, off, none⟩) 3 cap] w fun e w' => e = .returned (.int .i64 (c + 16777216)) ∧ w = w' := by
  have o0 : bits .or .i64 0 c0 = c0 := by simpa using i64_join 8 0 c0 (by omega) (by omega) (by omega) a0 (by omega) (by omega)
  obtain ⟨l1, k1⟩ : ∃ l, c0 * 256 + c1 = l := ⟨_, rfl⟩
  have m1 : 0 ≤ l1 ∧ l1 ≤ 65535 := by omega
  obtain ⟨m1a, m1b⟩ := m1
  have o1 : bits .or .i64 (c0 * 256) c1 = l1 := by rw [← k1]; exact i64_join 8 _ _ (by omega) (by omega) (by omega) a1 (by omega) (by omega)
  obtain ⟨l2, k2⟩ : ∃ l, l1 * 256 + c2 = l := ⟨_, rfl⟩
  have m2 : 0 ≤ l2 ∧ l2 ≤ 16777215 := by omega
  obtain ⟨m2a, m2b⟩ := m2
  have o2 : bits .or .i64 (l1 * 256) c2 = l2 := by rw [← k2]; exact i64_join 8 _ _ (by omega) (by omega) (by omega) a2 (by omega) (by omega)
  obtain ⟨m, km⟩ : ∃ m, (largest + 1) / 16777216 * 16777216 = m := ⟨_, rfl⟩
  have om : bits .andNot .i64 (largest + 1) 16777215 = m := by rw [← km]; exact i64_andNot_low (largest + 1) 24 (by decide) (by omega) (by omega)
  have mm : 0 ≤ m ∧ m ≤ 4611686018427387904 := by omega
  obtain ⟨mma, mmb⟩ := mm
  rw [k1] at hc; rw [k2] at hc; rw [km] at hc
  have oc : bits .or .i64 m l2 = c := by rw [hc]; exact or_top 24 _ _ mma (by omega) mmb m2a (by omega) (by decide)
  have cc : 0 ≤ c ∧ c ≤ 4611686018444165119 := by omega
  obtain ⟨cca, ccb⟩ := cc
  clear hc km k1 k2
  go_enter Try.func14, Try.ntmps14
  go_wp2_with (first | (go_at_call 16; refine (within64_in _ _ _ _ (by omega) (by omega)).mono ?_; rintro e w' ⟨rfl, rfl⟩) | (go_at_call 18; refine (within_in _ _ _ _ (by omega) (by omega)).mono ?_; rintro e w' ⟨rfl, rfl⟩))
  refine wp_loop_rounds 4 ?_; repeat any_goals (rw [rounds_succ]; go_wp2)
  go_ret
  exact ⟨rfl, rfl⟩

set_option maxHeartbeats 1000000 in
theorem full_3w2 (largest : Int) (b off cap : Nat) (c0 c1 c2 c : Int) (w : World) (hl0 : -1 ≤ largest) (hl1 : largest ≤ 4611686018427387903) (a0 : 0 ≤ c0) (b0 : c0 ≤ 255) (a1 : 0 ≤ c1) (b1 : c1 ≤ 255) (a2 : 0 ≤ c2) (b2 : c2 ≤ 255) (hc : c = (largest + 1) / 16777216 * 16777216 + ((c0 * 256 + c1) * 256 + c2)) (p1 : c ≤ largest + 1 - 8388608) (p2 : 4611686018410610687 < c) (g0 : w.cell? ⟨b, off, none⟩ = some (.int .u8 c0)) (g1 : w.cell? ⟨b, off + 1, none⟩ = some (.int .u8 c1)) (g2 : w.cell? ⟨b, off + 2, none⟩ = some (.int .u8 c2)) :
    Calls Try.prog 14 #[.int .i64 largest, .slice (some ⟨b, off, none⟩) 3 cap] w fun e w' => e = .returned (.int .i64 (c)) ∧ w = w' := by
  have o0 : bits .or .i64 0 c0 = c0 := by simpa using i64_join 8 0 c0 (by omega) (by omega) (by omega) a0 (by omega) (by omega)
  obtain ⟨l1, k1⟩ : ∃ l, c0 * 256 + c1 = l := ⟨_, rfl⟩
  have m1 : 0 ≤ l1 ∧ l1 ≤ 65535 := by omega
  obtain ⟨m1a, m1b⟩ := m1
  have o1 : bits .or .i64 (c0 * 256) c1 = l1 := by rw [← k1]; exact i64_join 8 _ _ (by omega) (by omega) (by omega) a1 (by omega) (by omega)
  obtain ⟨l2, k2⟩ : ∃ l, l1 * 256 + c2 = l := ⟨_, rfl⟩
  have m2 : 0 ≤ l2 ∧ l2 ≤ 16777215 := by omega
  obtain ⟨m2a, m2b⟩ := m2
  have o2 : bits .or .i64 (l1 * 256) c2 = l2 := by rw [← k2]; exact i64_join 8 _ _ (by omega) (by omega) (by omega) a2 (by omega) (by omega)
  obtain ⟨m, km⟩ : ∃ m, (largest + 1) / 16777216 * 16777216 = m := ⟨_, rfl⟩
  have om : bits .andNot .i64 (largest + 1) 16777215 = m := by rw [← km]; exact i64_andNot_low (largest + 1) 24 (by decide) (by omega) (by omega)
  have mm : 0 ≤ m ∧ m ≤ 4611686018427387904 := by omega
  obtain ⟨mma, mmb⟩ := mm
  rw [k1] at hc; rw [k2] at hc; rw [km] at hc
  have oc : bits .or .i64 m l2 = c := by rw [hc]; exact or_top 24 _ _ mma (by omega) mmb m2a (by omega) (by decide)
  have cc : 0 ≤ c ∧ c ≤ 4611686018444165119 := by omega
  obtain ⟨cca, ccb⟩ := cc
  clear hc km k1 k2
  go_enter Try.func14, Try.ntmps14
  go_wp2_with (first | (go_at_call 16; refine (within64_in _ _ _ _ (by omega) (by omega)).mono ?_; rintro e w' ⟨rfl, rfl⟩) | (go_at_call 18; refine (within_in _ _ _ _ (by omega) (by omega)).mono ?_; rintro e w' ⟨rfl, rfl⟩))
  refine wp_loop_rounds 4 ?_; repeat any_goals (rw [rounds_succ]; go_wp2)
  go_ret
  exact ⟨rfl, rfl⟩

set_option maxHeartbeats 1000000 in
theorem full_3w3 (largest : Int) (b off cap : Nat) (c0 c1 c2 c : Int) (w : World) (hl0 : -1 ≤ largest) (hl1 : largest ≤ 4611686018427387903) (a0 : 0 ≤ c0) (b0 : c0 ≤ 255) (a1 : 0 ≤ c1) (b1 : c1 ≤ 255) (a2 : 0 ≤ c2) (b2 : c2 ≤ 255) (hc : c = (largest + 1) / 16777216 * 16777216 + ((c0 * 256 + c1) * 256 + c2)) (p1 : largest + 1 - 8388608 < c) (p3 : largest + 1 + 8388608 < c) (p4 : 16777216 ≤ c) (g0 : w.cell? ⟨b, off, none⟩ = some (.int .u8 c0)) (g1 : w.cell? ⟨b, off + 1, none⟩ = some (.int .u8 c1)) (g2 : w.cell? ⟨b, off + 2, none⟩ = some (.int .u8 c2)) :
    Calls Try.prog 14 #[.int .i64 largest, .slice (some ⟨b, off, none⟩) 3 cap] w fun e w' => e = .returned (.int .i64 (c - 16777216)) ∧ w = w' := by
  have o0 : bits .or .i64 0 c0 = c0 := by simpa using i64_join 8 0 c0 (by omega) (by omega) (by omega) a0 (by omega) (by omega)
  obtain ⟨l1, k1⟩ : ∃ l, c0 * 256 + c1 = l := ⟨_, rfl⟩
  have m1 : 0 ≤ l1 ∧ l1 ≤ 65535 := by omega
  obtain ⟨m1a, m1b⟩ := m1
  have o1 : bits .or .i64 (c0 * 256) c1 = l1 := by rw [← k1]; exact i64_join 8 _ _ (by omega) (by omega) (by omega) a1 (by omega) (by omega)
  obtain ⟨l2, k2⟩ : ∃ l, l1 * 256 + c2 = l := ⟨_, rfl⟩
  have m2 : 0 ≤ l2 ∧ l2 ≤ 16777215 := by omega
  obtain ⟨m2a, m2b⟩ := m2
  have o2 : bits .or .i64 (l1 * 256) c2 = l2 := by rw [← k2]; exact i64_join 8 _ _ (by omega) (by omega) (by omega) a2 (by omega) (by omega)
  obtain ⟨m, km⟩ : ∃ m, (largest + 1) / 16777216 * 16777216 = m := ⟨_, rfl⟩
  have om : bits .andNot .i64 (largest + 1) 16777215 = m := by rw [← km]; exact i64_andNot_low (largest + 1) 24 (by decide) (by omega) (by omega)
  have mm : 0 ≤ m ∧ m ≤ 4611686018427387904 := by omega
  obtain ⟨mma, mmb⟩ := mm
  rw [k1] at hc; rw [k2] at hc; rw [km] at hc
  have oc : bits .or .i64 m l2 = c := by rw [hc]; exact or_top 24 _ _ mma (by omega) mmb m2a (by omega) (by decide)
  have cc : 0 ≤ c ∧ c ≤ 4611686018444165119 := by omega
  obtain ⟨cca, ccb⟩ := cc
  clear hc km k1 k2
  go_enter Try.func14, Try.ntmps14
  go_wp2_with (first | (go_at_call 16; refine (within64_in _ _ _ _ (by omega) (by omega)).mono ?_; rintro e w' ⟨rfl, rfl⟩) | (go_at_call 18; refine (within_in _ _ _ _ (by omega) (by omega)).mono ?_; rintro e w' ⟨rfl, rfl⟩))
  refine wp_loop_rounds 4 ?_; repeat any_goals (rw [rounds_succ]; go_wp2)
  go_ret
  exact ⟨rfl, rfl⟩

set_option maxHeartbeats 1000000 in
theorem full_3w4 (largest : Int) (b off cap : Nat) (c0 c1 c2 c : Int) (w : World) (hl0 : -1 ≤ largest) (hl1 : largest ≤ 4611686018427387903) (a0 : 0 ≤ c0) (b0 : c0 ≤ 255) (a1 : 0 ≤ c1) (b1 : c1 ≤ 255) (a2 : 0 ≤ c2) (b2 : c2 ≤ 255) (hc : c = (largest + 1) / 16777216 * 16777216 + ((c0 * 256 + c1) * 256 + c2)) (p1 : largest + 1 - 8388608 < c) (p3 : largest + 1 + 8388608 < c) (p4 : c < 16777216) (g0 : w.cell? ⟨b, off, none⟩ = some (.int .u8 c0)) (g1 : w.cell? ⟨b, off + 1, none⟩ = some (.int .u8 c1)) (g2 : w.cell? ⟨b, off + 2, none⟩ = some (.int .u8 c2)) :
    Calls Try.prog 14 #[.int .i64 largest, .slice (some ⟨b, off, none⟩) 3 cap] w fun e w' => e = .returned (.int .i64 (c)) ∧ w = w' := by
  have o0 : bits .or .i64 0 c0 = c0 := by simpa using i64_join 8 0 c0 (by omega) (by omega) (by omega) a0 (by omega) (by omega)
  obtain ⟨l1, k1⟩ : ∃ l, c0 * 256 + c1 = l := ⟨_, rfl⟩
  have m1 : 0 ≤ l1 ∧ l1 ≤ 65535 := by omega
  obtain ⟨m1a, m1b⟩ := m1
  have o1 : bits .or .i64 (c0 * 256) c1 = l1 := by rw [← k1]; exact i64_join 8 _ _ (by omega) (by omega) (by omega) a1 (by omega) (by omega)
  obtain ⟨l2, k2⟩ : ∃ l, l1 * 256 + c2 = l := ⟨_, rfl⟩
  have m2 : 0 ≤ l2 ∧ l2 ≤ 16777215 := by omega
  obtain ⟨m2a, m2b⟩ := m2
  have o2 : bits .or .i64 (l1 * 256) c2 = l2 := by rw [← k2]; exact i64_join 8 _ _ (by omega) (by omega) (by omega) a2 (by omega) (by omega)
  obtain ⟨m, km⟩ : ∃ m, (largest + 1) / 16777216 * 16777216 = m := ⟨_, rfl⟩
  have om : bits .andNot .i64 (largest + 1) 16777215 = m := by rw [← km]; exact i64_andNot_low (largest + 1) 24 (by decide) (by omega) (by omega)
  have mm : 0 ≤ m ∧ m ≤ 4611686018427387904 := by omega
  obtain ⟨mma, mmb⟩ := mm
  rw [k1] at hc; rw [k2] at hc; rw [km] at hc
  have oc : bits .or .i64 m l2 = c := by rw [hc]; exact or_top 24 _ _ mma (by omega) mmb m2a (by omega) (by decide)
  have cc : 0 ≤ c ∧ c ≤ 4611686018444165119 := by omega
  obtain ⟨cca, ccb⟩ := cc
  clear hc km k1 k2
  go_enter Try.func14, Try.ntmps14
  go_wp2_with (first | (go_at_call 16; refine (within64_in _ _ _ _ (by omega) (by omega)).mono ?_; rintro e w' ⟨rfl, rfl⟩) | (go_at_call 18; refine (within_in _ _ _ _ (by omega) (by omega)).mono ?_; rintro e w' ⟨rfl, rfl⟩))
  refine wp_loop_rounds 4 ?_; repeat any_goals (rw [rounds_succ]; go_wp2)
  go_ret
  exact ⟨rfl, rfl⟩

set_option maxHeartbeats 1000000 in
theorem full_3w5 (largest : Int) (b off cap : Nat) (c0 c1 c2 c : Int) (w : World) (hl0 : -1 ≤ largest) (hl1 : largest ≤ 4611686018427387903) (a0 : 0 ≤ c0) (b0 : c0 ≤ 255) (a1 : 0 ≤ c1) (b1 : c1 ≤ 255) (a2 : 0 ≤ c2) (b2 : c2 ≤ 255) (hc : c = (largest + 1) / 16777216 * 16777216 + ((c0 * 256 + c1) * 256 + c2)) (p1 : largest + 1 - 8388608 < c) (p3 : c ≤ largest + 1 + 8388608) (g0 : w.cell? ⟨b, off, none⟩ = some (.int .u8 c0)) (g1 : w.cell? ⟨b, off + 1, none⟩ = some (.int .u8 c1)) (g2 : w.cell? ⟨b, off + 2, none⟩ = some (.int .u8 c2)) :
    Calls Try.prog 14 #[.int .i64 largest, .slice (some ⟨b, off, none⟩) 3 cap] w fun e w' => e = .returned (.int .i64 (c)) ∧ w = w' := by
  have o0 : bits .or .i64 0 c0 = c0 := by simpa using i64_join 8 0 c0 (by omega) (by omega) (by omega) a0 (by omega) (by omega)
  obtain ⟨l1, k1⟩ : ∃ l, c0 * 256 + c1 = l := ⟨_, rfl⟩
  have m1 : 0 ≤ l1 ∧ l1 ≤ 65535 := by omega
  obtain ⟨m1a, m1b⟩ := m1
  have o1 : bits .or .i64 (c0 * 256) c1 = l1 := by rw [← k1]; exact i64_join 8 _ _ (by omega) (by omega) (by omega) a1 (by omega) (by omega)
  obtain ⟨l2, k2⟩ : ∃ l, l1 * 256 + c2 = l := ⟨_, rfl⟩
  have m2 : 0 ≤ l2 ∧ l2 ≤ 16777215 := by omega
  obtain ⟨m2a, m2b⟩ := m2
  have o2 : bits .or .i64 (l1 * 256) c2 = l2 := by rw [← k2]; exact i64_join 8 _ _ (by omega) (by omega) (by omega) a2 (by omega) (by omega)
  obtain ⟨m, km⟩ : ∃ m, (largest + 1) / 16777216 * 16777216 = m := ⟨_, rfl⟩
  have om : bits .andNot .i64 (largest + 1) 16777215 = m := by rw [← km]; exact i64_andNot_low (largest + 1) 24 (by decide) (by omega) (by omega)
  have mm : 0 ≤ m ∧ m ≤ 4611686018427387904 := by omega
  obtain ⟨mma, mmb⟩ := mm
  rw [k1] at hc; rw [k2] at hc; rw [km] at hc
  have oc : bits .or .i64 m l2 = c := by rw [hc]; exact or_top 24 _ _ mma (by omega) mmb m2a (by omega) (by decide)
  have cc : 0 ≤ c ∧ c ≤ 4611686018444165119 := by omega
  obtain ⟨cca, ccb⟩ := cc
  clear hc km k1 k2
  go_enter Try.func14, Try.ntmps14
  go_wp2_with (first | (go_at_call 16; refine (within64_in _ _ _ _ (by omega) (by omega)).mono ?_; rintro e w' ⟨rfl, rfl⟩) | (go_at_call 18; refine (within_in _ _ _ _ (by omega) (by omega)).mono ?_; rintro e w' ⟨rfl, rfl⟩))
  refine wp_loop_rounds 4 ?_; repeat any_goals (rw [rounds_succ]; go_wp2)
  go_ret
  exact ⟨rfl, rfl⟩

set_option maxHeartbeats 1000000 in
theorem ref_full_3w1 (largest : Int) (b off cap : Nat) (c0 c1 c2 c : Int) (w : World) (hl0 : -1 ≤ largest) (hl1 : largest ≤ 4611686018427387903) (a0 : 0 ≤ c0) (b0 : c0 ≤ 255) (a1 : 0 ≤ c1) (b1 : c1 ≤ 255) (a2 : 0 ≤ c2) (b2 : c2 ≤ 255) (hc : c = (largest + 1) / 16777216 * 16777216 + ((c0 * 256 + c1) * 256 + c2)) (p1 : c ≤ largest + 1 - 8388608) (p2 : c ≤ 4611686018410610687) (g0 : w.cell? ⟨b, off, none⟩ = some (.int .u8 c0)) (g1 : w.cell? ⟨b, off + 1, none⟩ = some (.int .u8 c1)) (g2 : w.cell? ⟨b, off + 2, none⟩ = some (.int .u8 c2)) :
    Calls Try.prog 15 #[.int .i64 largest, .slice (some ⟨b, off, none⟩) 3 cap] w fun e w' => e = .returned (.int .i64 (c + 16777216)) ∧ w = w' := by
  obtain ⟨m, km⟩ : ∃ m, (largest + 1) / 16777216 * 16777216 = m := ⟨_, rfl⟩
  have mm : 0 ≤ m ∧ m ≤ 4611686018427387904 := by omega
  obtain ⟨mma, mmb⟩ := mm
  rw [km] at hc
  have oc : m + ((c0 * 256 + c1) * 256 + c2) = c := hc.symm
  have cc : 0 ≤ c ∧ c ≤ 4611686018444165119 := by omega
  obtain ⟨cca, ccb⟩ := cc
  clear hc
  go_enter Try.func15, Try.ntmps15
  go_wp2
  refine wp_loop_rounds 4 ?_; repeat any_goals (rw [rounds_succ]; go_wp2)
  go_ret
  exact ⟨rfl, rfl⟩

set_option maxHeartbeats 1000000 in
theorem ref_full_3w2 (largest : Int) (b off cap : Nat) (c0 c1 c2 c : Int) (w : World) (hl0 : -1 ≤ largest) (hl1 : largest ≤ 4611686018427387903) (a0 : 0 ≤ c0) (b0 : c0 ≤ 255) (a1 : 0 ≤ c1) (b1 : c1 ≤ 255) (a2 : 0 ≤ c2) (b2 : c2 ≤ 255) (hc : c = (largest + 1) / 16777216 * 16777216 + ((c0 * 256 + c1) * 256 + c2)) (p1 : c ≤ largest + 1 - 8388608) (p2 : 4611686018410610687 < c) (g0 : w.cell? ⟨b, off, none⟩ = some (.int .u8 c0)) (g1 : w.cell? ⟨b, off + 1, none⟩ = some (.int .u8 c1)) (g2 : w.cell? ⟨b, off + 2, none⟩ = some (.int .u8 c2)) :
    Calls Try.prog 15 #[.int .i64 largest, .slice (some ⟨b, off, none⟩) 3 cap] w fun e w' => e = .returned (.int .i64 (c)) ∧ w = w' := by
  obtain ⟨m, km⟩ : ∃ m, (largest + 1) / 16777216 * 16777216 = m := ⟨_, rfl⟩
  have mm : 0 ≤ m ∧ m ≤ 4611686018427387904 := by omega
  obtain ⟨mma, mmb⟩ := mm
  rw [km] at hc
  have oc : m + ((c0 * 256 + c1) * 256 + c2) = c := hc.symm
  have cc : 0 ≤ c ∧ c ≤ 4611686018444165119 := by omega
  obtain ⟨cca, ccb⟩ := cc
  clear hc
  go_enter Try.func15, Try.ntmps15
  go_wp2
  refine wp_loop_rounds 4 ?_; repeat any_goals (rw [rounds_succ]; go_wp2)
  go_ret
  exact ⟨rfl, rfl⟩

set_option maxHeartbeats 1000000 in
theorem ref_full_3w3 (largest : Int) (b off cap : Nat) (c0 c1 c2 c : Int) (w : World) (hl0 : -1 ≤ largest) (hl1 : largest ≤ 4611686018427387903) (a0 : 0 ≤ c0) (b0 : c0 ≤ 255) (a1 : 0 ≤ c1) (b1 : c1 ≤ 255) (a2 : 0 ≤ c2) (b2 : c2 ≤ 255) (hc : c = (largest + 1) / 16777216 * 16777216 + ((c0 * 256 + c1) * 256 + c2)) (p1 : largest + 1 - 8388608 < c) (p3 : largest + 1 + 8388608 < c) (p4 : 16777216 ≤ c) (g0 : w.cell? ⟨b, off, none⟩ = some (.int .u8 c0)) (g1 : w.cell? ⟨b, off + 1, none⟩ = some (.int .u8 c1)) (g2 : w.cell? ⟨b, off + 2, none⟩ = some (.int .u8 c2)) :
    Calls Try.prog 15 #[.int .i64 largest, .slice (some ⟨b, off, none⟩) 3 cap] w fun e w' => e = .returned (.int .i64 (c - 16777216)) ∧ w = w' := by
  obtain ⟨m, km⟩ : ∃ m, (largest + 1) / 16777216 * 16777216 = m := ⟨_, rfl⟩
  have mm : 0 ≤ m ∧ m ≤ 4611686018427387904 := by omega
  obtain ⟨mma, mmb⟩ := mm
  rw [km] at hc
  have oc : m + ((c0 * 256 + c1) * 256 + c2) = c := hc.symm
  have cc : 0 ≤ c ∧ c ≤ 4611686018444165119 := by omega
  obtain ⟨cca, ccb⟩ := cc
  clear hc
  go_enter Try.func15, Try.ntmps15
  go_wp2
  refine wp_loop_rounds 4 ?_; repeat any_goals (rw [rounds_succ]; go_wp2)
  go_ret
  exact ⟨rfl, rfl⟩

set_option maxHeartbeats 1000000 in
theorem ref_full_3w4 (largest : Int) (b off cap : Nat) (c0 c1 c2 c : Int) (w : World) (hl0 : -1 ≤ largest) (hl1 : largest ≤ 4611686018427387903) (a0 : 0 ≤ c0) (b0 : c0 ≤ 255) (a1 : 0 ≤ c1) (b1 : c1 ≤ 255) (a2 : 0 ≤ c2) (b2 : c2 ≤ 255) (hc : c = (largest + 1) / 16777216 * 16777216 + ((c0 * 256 + c1) * 256 + c2)) (p1 : largest + 1 - 8388608 < c) (p3 : largest + 1 + 8388608 < c) (p4 : c < 16777216) (g0 : w.cell? ⟨b, off, none⟩ = some (.int .u8 c0)) (g1 : w.cell? ⟨b, off + 1, none⟩ = some (.int .u8 c1)) (g2 : w.cell? ⟨b, off + 2, none⟩ = some (.int .u8 c2)) :
    Calls Try.prog 15 #[.int .i64 largest, .slice (some ⟨b, off, none⟩) 3 cap] w fun e w' => e = .returned (.int .i64 (c)) ∧ w = w' := by
  obtain ⟨m, km⟩ : ∃ m, (largest + 1) / 16777216 * 16777216 = m := ⟨_, rfl⟩
  have mm : 0 ≤ m ∧ m ≤ 4611686018427387904 := by omega
  obtain ⟨mma, mmb⟩ := mm
  rw [km] at hc
  have oc : m + ((c0 * 256 + c1) * 256 + c2) = c := hc.symm
  have cc : 0 ≤ c ∧ c ≤ 4611686018444165119 := by omega
  obtain ⟨cca, ccb⟩ := cc
  clear hc
  go_enter Try.func15, Try.ntmps15
  go_wp2
  refine wp_loop_rounds 4 ?_; repeat any_goals (rw [rounds_succ]; go_wp2)
  go_ret
  exact ⟨rfl, rfl⟩

set_option maxHeartbeats 1000000 in
theorem ref_full_3w5 (largest : Int) (b off cap : Nat) (c0 c1 c2 c : Int) (w : World) (hl0 : -1 ≤ largest) (hl1 : largest ≤ 4611686018427387903) (a0 : 0 ≤ c0) (b0 : c0 ≤ 255) (a1 : 0 ≤ c1) (b1 : c1 ≤ 255) (a2 : 0 ≤ c2) (b2 : c2 ≤ 255) (hc : c = (largest + 1) / 16777216 * 16777216 + ((c0 * 256 + c1) * 256 + c2)) (p1 : largest + 1 - 8388608 < c) (p3 : c ≤ largest + 1 + 8388608) (g0 : w.cell? ⟨b, off, none⟩ = some (.int .u8 c0)) (g1 : w.cell? ⟨b, off + 1, none⟩ = some (.int .u8 c1)) (g2 : w.cell? ⟨b, off + 2, none⟩ = some (.int .u8 c2)) :
    Calls Try.prog 15 #[.int .i64 largest, .slice (some ⟨b, off, none⟩) 3 cap] w fun e w' => e = .returned (.int .i64 (c)) ∧ w = w' := by
  obtain ⟨m, km⟩ : ∃ m, (largest + 1) / 16777216 * 16777216 = m := ⟨_, rfl⟩
  have mm : 0 ≤ m ∧ m ≤ 4611686018427387904 := by omega
  obtain ⟨mma, mmb⟩ := mm
  rw [km] at hc
  have oc : m + ((c0 * 256 + c1) * 256 + c2) = c := hc.symm
  have cc : 0 ≤ c ∧ c ≤ 4611686018444165119 := by omega
  obtain ⟨cca, ccb⟩ := cc
  clear hc
  go_enter Try.func15, Try.ntmps15
  go_wp2
  refine wp_loop_rounds 4 ?_; repeat any_goals (rw [rounds_succ]; go_wp2)
  go_ret
  exact ⟨rfl, rfl⟩

set_option maxHeartbeats 1000000 in
theorem full_4w1 (largest : Int) (b off cap : Nat) (c0 c1 c2 c3 c : Int) (w : World) (hl0 : -1 ≤ largest) (hl1 : largest ≤ 4611686018427387903) (a0 : 0 ≤ c0) (b0 : c0 ≤ 255) (a1 : 0 ≤ c1) (b1 : c1 ≤ 255) (a2 : 0 ≤ c2) (b2 : c2 ≤ 255) (a3 : 0 ≤ c3) (b3 : c3 ≤ 255) (hc : c = (largest + 1) / 4294967296 * 4294967296 + (((c0 * 256 + c1) * 256 + c2) * 256 + c3)) (p1 : c ≤ largest + 1 - 2147483648) (p2 : c ≤ 4611686014132420607) (g0 : w.cell? ⟨b, off, none⟩ = some (.int .u8 c0)) (g1 : w.cell? ⟨b, off + 1, none⟩ = some (.int .u8 c1)) (g2 : w.cell? ⟨b, off + 2, none⟩ = some (.int .u8 c2)) (g3 : w.cell? ⟨b, off + 3, none⟩ = some (.int .u8 c3)) :
    Calls Try.prog 14 #[.int .i64 largest, .slice (some ⟨b, off, none⟩) 4 cap] w fun e w' => e = .returned (.int .i64 (c + 4294967296)) ∧ w = w' := by
  have o0 : bits .or .i64 0 c0 = c0 := by simpa using i64_join 8 0 c0 (by omega) (by omega) (by omega) a0 (by omega) (by omega)
  obtain ⟨l1, k1⟩ : ∃ l, c0 * 256 + c1 = l := ⟨_, rfl⟩
  have m1 : 0 ≤ l1 ∧ l1 ≤ 65535 := by omega
  obtain ⟨m1a, m1b⟩ := m1
  have o1 : bits .or .i64 (c0 * 256) c1 = l1 := by rw [← k1]; exact i64_join 8 _ _ (by omega) (by omega) (by omega) a1 (by omega) (by omega)
  obtain ⟨l2, k2⟩ : ∃ l, l1 * 256 + c2 = l := ⟨_, rfl⟩
  have m2 : 0 ≤ l2 ∧ l2 ≤ 16777215 := by omega
  obtain ⟨m2a, m2b⟩ := m2
  have o2 : bits .or .i64 (l1 * 256) c2 = l2 := by rw [← k2]; exact i64_join 8 _ _ (by omega) (by omega) (by omega) a2 (by omega) (by omega)
  obtain ⟨l3, k3⟩ : ∃ l, l2 * 256 + c3 = l := ⟨_, rfl⟩
  have m3 : 0 ≤ l3 ∧ l3 ≤ 4294967295 := by omega
  obtain ⟨m3a, m3b⟩ := m3
  have o3 : bits .or .i64 (l2 * 256) c3 = l3 := by rw [← k3]; exact i64_join 8 _ _ (by omega) (by omega) (by omega) a3 (by omega) (by omega)
  obtain ⟨m, km⟩ : ∃ m, (largest + 1) / 4294967296 * 4294967296 = m := ⟨_, rfl⟩
  have om : bits .andNot .i64 (largest + 1) 4294967295 = m := by rw [← km]; exact i64_andNot_low (largest + 1) 32 (by decide) (by omega) (by omega)
  have mm : 0 ≤ m ∧ m ≤ 4611686018427387904 := by omega
  obtain ⟨mma, mmb⟩ := mm
  rw [k1] at hc; rw [k2] at hc; rw [k3] at hc; rw [km] at hc
  have oc : bits .or .i64 m l3 = c := by rw [hc]; exact or_top 32 _ _ mma (by omega) mmb m3a (by omega) (by decide)
  have cc : 0 ≤ c ∧ c ≤ 4611686022722355199 := by omega
  obtain ⟨cca, ccb⟩ := cc
  clear hc km k1 k2 k3
  go_enter Try.func14, Try.ntmps14
  go_wp2_with (first | (go_at_call 16; refine (within64_in _ _ _ _ (by omega) (by omega)).mono ?_; rintro e w' ⟨rfl, rfl⟩) | (go_at_call 18; refine (within_in _ _ _ _ (by omega) (by omega)).mono ?_; rintro e w' ⟨rfl, rfl⟩))
  refine wp_loop_rounds 5 ?_; repeat any_goals (rw [rounds_succ]; go_wp2)
  go_ret
  exact ⟨rfl, rfl⟩

set_option maxHeartbeats 1000000 in
theorem full_4w2 (largest : Int) (b off cap : Nat) (c0 c1 c2 c3 c : Int) (w : World) (hl0 : -1 ≤ largest) (hl1 : largest ≤ 4611686018427387903) (a0 : 0 ≤ c0) (b0 : c0 ≤ 255) (a1 : 0 ≤ c1) (b1 : c1 ≤ 255) (a2 : 0 ≤ c2) (b2 : c2 ≤ 255) (a3 : 0 ≤ c3) (b3 : c3 ≤ 255) (hc : c = (largest + 1) / 4294967296 * 4294967296 + (((c0 * 256 + c1) * 256 + c2) * 256 + c3)) (p1 : c ≤ largest + 1 - 2147483648) (p2 : 4611686014132420607 < c) (g0 : w.cell? ⟨b, off, none⟩ = some (.int .u8 c0)) (g1 : w.cell? ⟨b, off + 1, none⟩ = some (.int .u8 c1)) (g2 : w.cell? ⟨b, off + 2, none⟩ = some (.int .u8 c2)) (g3 : w.cell? ⟨b, off + 3, none⟩ = some (.int .u8 c3)) :
    Calls Try.prog 14 #[.int .i64 largest, .slice (some ⟨b, off, none⟩) 4 cap] w fun e w' => e = .returned (.int .i64 (c)) ∧ w = w' := by
  have o0 : bits .or .i64 0 c0 = c0 := by simpa using i64_join 8 0 c0 (by omega) (by omega) (by omega) a0 (by omega) (by omega)
  obtain ⟨l1, k1⟩ : ∃ l, c0 * 256 + c1 = l := ⟨_, rfl⟩
  have m1 : 0 ≤ l1 ∧ l1 ≤ 65535 := by omega
  obtain ⟨m1a, m1b⟩ := m1
  have o1 : bits .or .i64 (c0 * 256) c1 = l1 := by rw [← k1]; exact i64_join 8 _ _ (by omega) (by omega) (by omega) a1 (by omega) (by omega)
  obtain ⟨l2, k2⟩ : ∃ l, l1 * 256 + c2 = l := ⟨_, rfl⟩
  have m2 : 0 ≤ l2 ∧ l2 ≤ 16777215 := by omega
  obtain ⟨m2a, m2b⟩ := m2
  have o2 : bits .or .i64 (l1 * 256) c2 = l2 := by rw [← k2]; exact i64_join 8 _ _ (by omega) (by omega) (by omega) a2 (by omega) (by omega)
  obtain ⟨l3, k3⟩ : ∃ l, l2 * 256 + c3 = l := ⟨_, rfl⟩
  have m3 : 0 ≤ l3 ∧ l3 ≤ 4294967295 := by omega
  obtain ⟨m3a, m3b⟩ := m3
  have o3 : bits .or .i64 (l2 * 256) c3 = l3 := by rw [← k3]; exact i64_join 8 _ _ (by omega) (by omega) (by omega) a3 (by omega) (by omega)
  obtain ⟨m, km⟩ : ∃ m, (largest + 1) / 4294967296 * 4294967296 = m := ⟨_, rfl⟩
  have om : bits .andNot .i64 (largest + 1) 4294967295 = m := by rw [← km]; exact i64_andNot_low (largest + 1) 32 (by decide) (by omega) (by omega)
  have mm : 0 ≤ m ∧ m ≤ 4611686018427387904 := by omega
  obtain ⟨mma, mmb⟩ := mm
  rw [k1] at hc; rw [k2] at hc; rw [k3] at hc; rw [km] at hc
  have oc : bits .or .i64 m l3 = c := by rw [hc]; exact or_top 32 _ _ mma (by omega) mmb m3a (by omega) (by decide)
  have cc : 0 ≤ c ∧ c ≤ 4611686022722355199 := by omega
  obtain ⟨cca, ccb⟩ := cc
  clear hc km k1 k2 k3
  go_enter Try.func14, Try.ntmps14
  go_wp2_with (first | (go_at_call 16; refine (within64_in _ _ _ _ (by omega) (by omega)).mono ?_; rintro e w' ⟨rfl, rfl⟩) | (go_at_call 18; refine (within_in _ _ _ _ (by omega) (by omega)).mono ?_; rintro e w' ⟨rfl, rfl⟩))
  refine wp_loop_rounds 5 ?_; repeat any_goals (rw [rounds_succ]; go_wp2)
  go_ret
  exact ⟨rfl, rfl⟩

set_option maxHeartbeats 1000000 in
theorem full_4w3 (largest : Int) (b off cap : Nat) (c0 c1 c2 c3 c : Int) (w : World) (hl0 : -1 ≤ largest) (hl1 : largest ≤ 4611686018427387903) (a0 : 0 ≤ c0) (b0 : c0 ≤ 255) (a1 : 0 ≤ c1) (b1 : c1 ≤ 255) (a2 : 0 ≤ c2) (b2 : c2 ≤ 255) (a3 : 0 ≤ c3) (b3 : c3 ≤ 255) (hc : c = (largest + 1) / 4294967296 * 4294967296 + (((c0 * 256 + c1) * 256 + c2) * 256 + c3)) (p1 : largest + 1 - 2147483648 < c) (p3 : largest + 1 + 2147483648 < c) (p4 : 4294967296 ≤ c) (g0 : w.cell? ⟨b, off, none⟩ = some (.int .u8 c0)) (g1 : w.cell? ⟨b, off + 1, none⟩ = some (.int .u8 c1)) (g2 : w.cell? ⟨b, off + 2, none⟩ = some (.int .u8 c2)) (g3 : w.cell? ⟨b, off + 3, none⟩ = some (.int .u8 c3)) :
    Calls Try.prog 14 #[.int .i64 largest, .slice (some ⟨b, off, none⟩) 4 cap] w fun e w' => e = .returned (.int .i64 (c - 4294967296)) ∧ w = w' := by
  have o0 : bits .or .i64 0 c0 = c0 := by simpa using i64_join 8 0 c0 (by omega) (by omega) (by omega) a0 (by omega) (by omega)
  obtain ⟨l1, k1⟩ : ∃ l, c0 * 256 + c1 = l := ⟨_, rfl⟩
  have m1 : 0 ≤ l1 ∧ l1 ≤ 65535 := by omega
  obtain ⟨m1a, m1b⟩ := m1
  have o1 : bits .or .i64 (c0 * 256) c1 = l1 := by rw [← k1]; exact i64_join 8 _ _ (by omega) (by omega) (by omega) a1 (by omega) (by omega)
  obtain ⟨l2, k2⟩ : ∃ l, l1 * 256 + c2 = l := ⟨_, rfl⟩
  have m2 : 0 ≤ l2 ∧ l2 ≤ 16777215 := by omega
  obtain ⟨m2a, m2b⟩ := m2
  have o2 : bits .or .i64 (l1 * 256) c2 = l2 := by rw [← k2]; exact i64_join 8 _ _ (by omega) (by omega) (by omega) a2 (by omega) (by omega)
  obtain ⟨l3, k3⟩ : ∃ l, l2 * 256 + c3 = l := ⟨_, rfl⟩
  have m3 : 0 ≤ l3 ∧ l3 ≤ 4294967295 := by omega
  obtain ⟨m3a, m3b⟩ := m3
  have o3 : bits .or .i64 (l2 * 256) c3 = l3 := by rw [← k3]; exact i64_join 8 _ _ (by omega) (by omega) (by omega) a3 (by omega) (by omega)
  obtain ⟨m, km⟩ : ∃ m, (largest + 1) / 4294967296 * 4294967296 = m := ⟨_, rfl⟩
  have om : bits .andNot .i64 (largest + 1) 4294967295 = m := by rw [← km]; exact i64_andNot_low (largest + 1) 32 (by decide) (by omega) (by omega)
  have mm : 0 ≤ m ∧ m ≤ 4611686018427387904 := by omega
  obtain ⟨mma, mmb⟩ := mm
  rw [k1] at hc; rw [k2] at hc; rw [k3] at hc; rw [km] at hc
  have oc : bits .or .i64 m l3 = c := by rw [hc]; exact or_top 32 _ _ mma (by omega) mmb m3a (by omega) (by decide)
  have cc : 0 ≤ c ∧ c ≤ 4611686022722355199 := by omega
  obtain ⟨cca, ccb⟩ := cc
  clear hc km k1 k2 k3
  go_enter Try.func14, Try.ntmps14
  go_wp2_with (first | (go_at_call 16; refine (within64_in _ _ _ _ (by omega) (by omega)).mono ?_; rintro e w' ⟨rfl, rfl⟩) | (go_at_call 18; refine (within_in _ _ _ _ (by omega) (by omega)).mono ?_; rintro e w' ⟨rfl, rfl⟩))
  refine wp_loop_rounds 5 ?_; repeat any_goals (rw [rounds_succ]; go_wp2)
  go_ret
  exact ⟨rfl, rfl⟩

set_option maxHeartbeats 1000000 in
theorem full_4w4 (largest : Int) (b off cap : Nat) (c0 c1 c2 c3 c : Int) (w : World) (hl0 : -1 ≤ largest) (hl1 : largest ≤ 4611686018427387903) (a0 : 0 ≤ c0) (b0 : c0 ≤ 255) (a1 : 0 ≤ c1) (b1 : c1 ≤ 255) (a2 : 0 ≤ c2) (b2 : c2 ≤ 255) (a3 : 0 ≤ c3) (b3 : c3 ≤ 255) (hc : c = (largest + 1) / 4294967296 * 4294967296 + (((c0 * 256 + c1) * 256 + c2) * 256 + c3)) (p1 : largest + 1 - 2147483648 < c) (p3 : largest + 1 + 2147483648 < c) (p4 : c < 4294967296) (g0 : w.cell? ⟨b, off, none⟩ = some (.int .u8 c0)) (g1 : w.cell? ⟨b, off + 1, none⟩ = some (.int .u8 c1)) (g2 : w.cell? ⟨b, off + 2, none⟩ = some (.int .u8 c2)) (g3 : w.cell? ⟨b, off + 3, none⟩ = some (.int .u8 c3)) :
    Calls Try.prog 14 #[.int .i64 largest, .slice (some ⟨b, off, none⟩) 4 cap] w fun e w' => e = .returned (.int .i64 (c)) ∧ w = w' := by
  have o0 : bits .or .i64 0 c0 = c0 := by simpa using i64_join 8 0 c0 (by omega) (by omega) (by omega) a0 (by omega) (by omega)
  obtain ⟨l1, k1⟩ : ∃ l, c0 * 256 + c1 = l := ⟨_, rfl⟩
  have m1 : 0 ≤ l1 ∧ l1 ≤ 65535 := by omega
  obtain ⟨m1a, m1b⟩ := m1
  have o1 : bits .or .i64 (c0 * 256) c1 = l1 := by rw [← k1]; exact i64_join 8 _ _ (by omega) (by omega) (by omega) a1 (by omega) (by omega)
  obtain ⟨l2, k2⟩ : ∃ l, l1 * 256 + c2 = l := ⟨_, rfl⟩
  have m2 : 0 ≤ l2 ∧ l2 ≤ 16777215 := by omega
  obtain ⟨m2a, m2b⟩ := m2
  have o2 : bits .or .i64 (l1 * 256) c2 = l2 := by rw [← k2]; exact i64_join 8 _ _ (by omega) (by omega) (by omega) a2 (by omega) (by omega)
  obtain ⟨l3, k3⟩ : ∃ l, l2 * 256 + c3 = l := ⟨_, rfl⟩
  have m3 : 0 ≤ l3 ∧ l3 ≤ 4294967295 := by omega
  obtain ⟨m3a, m3b⟩ := m3
  have o3 : bits .or .i64 (l2 * 256) c3 = l3 := by rw [← k3]; exact i64_join 8 _ _ (by omega) (by omega) (by omega) a3 (by omega) (by omega)
  obtain ⟨m, km⟩ : ∃ m, (largest + 1) / 4294967296 * 4294967296 = m := ⟨_, rfl⟩
  have om : bits .andNot .i64 (largest + 1) 4294967295 = m := by rw [← km]; exact i64_andNot_low (largest + 1) 32 (by decide) (by omega) (by omega)
  have mm : 0 ≤ m ∧ m ≤ 4611686018427387904 := by omega
  obtain ⟨mma, mmb⟩ := mm
  rw [k1] at hc; rw [k2] at hc; rw [k3] at hc; rw [km] at hc
  have oc : bits .or .i64 m l3 = c := by rw [hc]; exact or_top 32 _ _ mma (by omega) mmb m3a (by omega) (by decide)
  have cc : 0 ≤ c ∧ c ≤ 4611686022722355199 := by omega
  obtain ⟨cca, ccb⟩ := cc
  clear hc km k1 k2 k3
  go_enter Try.func14, Try.ntmps14
  go_wp2_with (first | (go_at_call 16; refine (within64_in _ _ _ _ (by omega) (by omega)).mono ?_; rintro e w' ⟨rfl, rfl⟩) | (go_at_call 18; refine (within_in _ _ _ _ (by omega) (by omega)).mono ?_; rintro e w' ⟨rfl, rfl⟩))
  refine wp_loop_rounds 5 ?_; repeat any_goals (rw [rounds_succ]; go_wp2)
  go_ret
  exact ⟨rfl, rfl⟩

set_option maxHeartbeats 1000000 in
theorem full_4w5 (largest : Int) (b off cap : Nat) (c0 c1 c2 c3 c : Int) (w : World) (hl0 : -1 ≤ largest) (hl1 : largest ≤ 4611686018427387903) (a0 : 0 ≤ c0) (b0 : c0 ≤ 255) (a1 : 0 ≤ c1) (b1 : c1 ≤ 255) (a2 : 0 ≤ c2) (b2 : c2 ≤ 255) (a3 : 0 ≤ c3) (b3 : c3 ≤ 255) (hc : c = (largest + 1) / 4294967296 * 4294967296 + (((c0 * 256 + c1) * 256 + c2) * 256 + c3)) (p1 : largest + 1 - 2147483648 < c) (p3 : c ≤ largest + 1 + 2147483648) (g0 : w.cell? ⟨b, off, none⟩ = some (.int .u8 c0)) (g1 : w.cell? ⟨b, off + 1, none⟩ = some (.int .u8 c1)) (g2 : w.cell? ⟨b, off + 2, none⟩ = some (.int .u8 c2)) (g3 : w.cell? ⟨b, off + 3, none⟩ = some (.int .u8 c3)) :
    Calls Try.prog 14 #[.int .i64 largest, .slice (some ⟨b, off, none⟩) 4 cap] w fun e w' => e = .returned (.int .i64 (c)) ∧ w = w' := by
  have o0 : bits .or .i64 0 c0 = c0 := by simpa using i64_join 8 0 c0 (by omega) (by omega) (by omega) a0 (by omega) (by omega)
  obtain ⟨l1, k1⟩ : ∃ l, c0 * 256 + c1 = l := ⟨_, rfl⟩
  have m1 : 0 ≤ l1 ∧ l1 ≤ 65535 := by omega
  obtain ⟨m1a, m1b⟩ := m1
  have o1 : bits .or .i64 (c0 * 256) c1 = l1 := by rw [← k1]; exact i64_join 8 _ _ (by omega) (by omega) (by omega) a1 (by omega) (by omega)
  obtain ⟨l2, k2⟩ : ∃ l, l1 * 256 + c2 = l := ⟨_, rfl⟩
  have m2 : 0 ≤ l2 ∧ l2 ≤ 16777215 := by omega
  obtain ⟨m2a, m2b⟩ := m2
  have o2 : bits .or .i64 (l1 * 256) c2 = l2 := by rw [← k2]; exact i64_join 8 _ _ (by omega) (by omega) (by omega) a2 (by omega) (by omega)
  obtain ⟨l3, k3⟩ : ∃ l, l2 * 256 + c3 = l := ⟨_, rfl⟩
  have m3 : 0 ≤ l3 ∧ l3 ≤ 4294967295 := by omega
  obtain ⟨m3a, m3b⟩ := m3
  have o3 : bits .or .i64 (l2 * 256) c3 = l3 := by rw [← k3]; exact i64_join 8 _ _ (by omega) (by omega) (by omega) a3 (by omega) (by omega)
  obtain ⟨m, km⟩ : ∃ m, (largest + 1) / 4294967296 * 4294967296 = m := ⟨_, rfl⟩
  have om : bits .andNot .i64 (largest + 1) 4294967295 = m := by rw [← km]; exact i64_andNot_low (largest + 1) 32 (by decide) (by omega) (by omega)
  have mm : 0 ≤ m ∧ m ≤ 4611686018427387904 := by omega
  obtain ⟨mma, mmb⟩ := mm
  rw [k1] at hc; rw [k2] at hc; rw [k3] at hc; rw [km] at hc
  have oc : bits .or .i64 m l3 = c := by rw [hc]; exact or_top 32 _ _ mma (by omega) mmb m3a (by omega) (by decide)
  have cc : 0 ≤ c ∧ c ≤ 4611686022722355199 := by omega
  obtain ⟨cca, ccb⟩ := cc
  clear hc km k1 k2 k3
  go_enter Try.func14, Try.ntmps14
  go_wp2_with (first | (go_at_call 16; refine (within64_in _ _ _ _ (by omega) (by omega)).mono ?_; rintro e w' ⟨rfl, rfl⟩) | (go_at_call 18; refine (within_in _ _ _ _ (by omega) (by omega)).mono ?_; rintro e w' ⟨rfl, rfl⟩))
  refine wp_loop_rounds 5 ?_; repeat any_goals (rw [rounds_succ]; go_wp2)
  go_ret
  exact ⟨rfl, rfl⟩

set_option maxHeartbeats 1000000 in
theorem ref_full_4w1 (largest : Int) (b off cap : Nat) (c0 c1 c2 c3 c : Int) (w : World) (hl0 : -1 ≤ largest) (hl1 : largest ≤ 4611686018427387903) (a0 : 0 ≤ c0) (b0 : c0 ≤ 255) (a1 : 0 ≤ c1) (b1 : c1 ≤ 255) (a2 : 0 ≤ c2) (b2 : c2 ≤ 255) (a3 : 0 ≤ c3) (b3 : c3 ≤ 255) (hc : c = (largest + 1) / 4294967296 * 4294967296 + (((c0 * 256 + c1) * 256 + c2) * 256 + c3)) (p1 : c ≤ largest + 1 - 2147483648) (p2 : c ≤ 4611686014132420607) (g0 : w.cell? ⟨b, off, none⟩ = some (.int .u8 c0)) (g1 : w.cell? ⟨b, off + 1, none⟩ = some (.int .u8 c1)) (g2 : w.cell? ⟨b, off + 2, none⟩ = some (.int .u8 c2)) (g3 : w.cell? ⟨b, off + 3, none⟩ = some (.int .u8 c3)) :
    Calls Try.prog 15 #[.int .i64 largest, .slice (some ⟨b, off, none⟩) 4 cap] w fun e w' => e = .returned (.int .i64 (c + 4294967296)) ∧ w = w' := by
  obtain ⟨m, km⟩ : ∃ m, (largest + 1) / 4294967296 * 4294967296 = m := ⟨_, rfl⟩
  have mm : 0 ≤ m ∧ m ≤ 4611686018427387904 := by omega
  obtain ⟨mma, mmb⟩ := mm
  rw [km] at hc
  have oc : m + (((c0 * 256 + c1) * 256 + c2) * 256 + c3) = c := hc.symm
  have cc : 0 ≤ c ∧ c ≤ 4611686022722355199 := by omega
  obtain ⟨cca, ccb⟩ := cc
  clear hc
  go_enter Try.func15, Try.ntmps15
  go_wp2
  refine wp_loop_rounds 5 ?_; repeat any_goals (rw [rounds_succ]; go_wp2)
  go_ret
  exact ⟨rfl, rfl⟩

set_option maxHeartbeats 1000000 in
theorem ref_full_4w2 (largest : Int) (b off cap : Nat) (c0 c1 c2 c3 c : Int) (w : World) (hl0 : -1 ≤ largest) (hl1 : largest ≤ 4611686018427387903) (a0 : 0 ≤ c0) (b0 : c0 ≤ 255) (a1 : 0 ≤ c1) (b1 : c1 ≤ 255) (a2 : 0 ≤ c2) (b2 : c2 ≤ 255) (a3 : 0 ≤ c3) (b3 : c3 ≤ 255) (hc : c = (largest + 1) / 4294967296 * 4294967296 + (((c0 * 256 + c1) * 256 + c2) * 256 + c3)) (p1 : c ≤ largest + 1 - 2147483648) (p2 : 4611686014132420607 < c) (g0 : w.cell? ⟨b, off, none⟩ = some (.int .u8 c0)) (g1 : w.cell? ⟨b, off + 1, none⟩ = some (.int .u8 c1)) (g2 : w.cell? ⟨b, off + 2, none⟩ = some (.int .u8 c2)) (g3 : w.cell? ⟨b, off + 3, none⟩ = some (.int .u8 c3)) :
    Calls Try.prog 15 #[.int .i64 largest, .slice (some ⟨b, off, none⟩) 4 cap] w fun e w' => e = .returned (.int .i64 (c)) ∧ w = w' := by
  obtain ⟨m, km⟩ : ∃ m, (largest + 1) / 4294967296 * 4294967296 = m := ⟨_, rfl⟩
  have mm : 0 ≤ m ∧ m ≤ 4611686018427387904 := by omega
  obtain ⟨mma, mmb⟩ := mm
  rw [km] at hc
  have oc : m + (((c0 * 256 + c1) * 256 + c2) * 256 + c3) = c := hc.symm
  have cc : 0 ≤ c ∧ c ≤ 4611686022722355199 := by omega
  obtain ⟨cca, ccb⟩ := cc
  clear hc
  go_enter Try.func15, Try.ntmps15
  go_wp2
  refine wp_loop_rounds 5 ?_; repeat any_goals (rw [rounds_succ]; go_wp2)
  go_ret
  exact ⟨rfl, rfl⟩

set_option maxHeartbeats 1000000 in
theorem ref_full_4w3 (largest : Int) (b off cap : Nat) (c0 c1 c2 c3 c : Int) (w : World) (hl0 : -1 ≤ largest) (hl1 : largest ≤ 4611686018427387903) (a0 : 0 ≤ c0) (b0 : c0 ≤ 255) (a1 : 0 ≤ c1) (b1 : c1 ≤ 255) (a2 : 0 ≤ c2) (b2 : c2 ≤ 255) (a3 : 0 ≤ c3) (b3 : c3 ≤ 255) (hc : c = (largest + 1) / 4294967296 * 4294967296 + (((c0 * 256 + c1) * 256 + c2) * 256 + c3)) (p1 : largest + 1 - 2147483648 < c) (p3 : largest + 1 + 2147483648 < c) (p4 : 4294967296 ≤ c) (g0 : w.cell? ⟨b, off, none⟩ = some (.int .u8 c0)) (g1 : w.cell? ⟨b, off + 1, none⟩ = some (.int .u8 c1)) (g2 : w.cell? ⟨b, off + 2, none⟩ = some (.int .u8 c2)) (g3 : w.cell? ⟨b, off + 3, none⟩ = some (.int .u8 c3)) :
    Calls Try.prog 15 #[.int .i64 largest, .slice (some ⟨b, off, none⟩) 4 cap] w fun e w' => e = .returned (.int .i64 (c - 4294967296)) ∧ w = w' := by
  obtain ⟨m, km⟩ : ∃ m, (largest + 1) / 4294967296 * 4294967296 = m := ⟨_, rfl⟩
  have mm : 0 ≤ m ∧ m ≤ 4611686018427387904 := by omega
  obtain ⟨mma, mmb⟩ := mm
  rw [km] at hc
  have oc : m + (((c0 * 256 + c1) * 256 + c2) * 256 + c3) = c := hc.symm
  have cc : 0 ≤ c ∧ c ≤ 4611686022722355199 := by omega
  obtain ⟨cca, ccb⟩ := cc
  clear hc
  go_enter Try.func15, Try.ntmps15
  go_wp2
  refine wp_loop_rounds 5 ?_; repeat any_goals (rw [rounds_succ]; go_wp2)
  go_ret
  exact ⟨rfl, rfl⟩

set_option maxHeartbeats 1000000 in
theorem ref_full_4w4 (largest : Int) (b off cap : Nat) (c0 c1 c2 c3 c : Int) (w : World) (hl0 : -1 ≤ largest) (hl1 : largest ≤ 4611686018427387903) (a0 : 0 ≤ c0) (b0 : c0 ≤ 255) (a1 : 0 ≤ c1) (b1 : c1 ≤ 255) (a2 : 0 ≤ c2) (b2 : c2 ≤ 255) (a3 : 0 ≤ c3) (b3 : c3 ≤ 255) (hc : c = (largest + 1) / 4294967296 * 4294967296 + (((c0 * 256 + c1) * 256 + c2) * 256 + c3)) (p1 : largest + 1 - 2147483648 < c) (p3 : largest + 1 + 2147483648 < c) (p4 : c < 4294967296) (g0 : w.cell? ⟨b, off, none⟩ = some (.int .u8 c0)) (g1 : w.cell? ⟨b, off + 1, none⟩ = some (.int .u8 c1)) (g2 : w.cell? ⟨b, off + 2, none⟩ = some (.int .u8 c2)) (g3 : w.cell? ⟨b, off + 3, none⟩ = some (.int .u8 c3)) :
    Calls Try.prog 15 #[.int .i64 largest, .slice (some ⟨b, off, none⟩) 4 cap] w fun e w' => e = .returned (.int .i64 (c)) ∧ w = w' := by
  obtain ⟨m, km⟩ : ∃ m, (largest + 1) / 4294967296 * 4294967296 = m := ⟨_, rfl⟩
  have mm : 0 ≤ m ∧ m ≤ 4611686018427387904 := by omega
  obtain ⟨mma, mmb⟩ := mm
  rw [km] at hc
  have oc : m + (((c0 * 256 + c1) * 256 + c2) * 256 + c3) = c := hc.symm
  have cc : 0 ≤ c ∧ c ≤ 4611686022722355199 := by omega
  obtain ⟨cca, ccb⟩ := cc
  clear hc
  go_enter Try.func15, Try.ntmps15
  go_wp2
  refine wp_loop_rounds 5 ?_; repeat any_goals (rw [rounds_succ]; go_wp2)
  go_ret
  exact ⟨rfl, rfl⟩

set_option maxHeartbeats 1000000 in
theorem ref_full_4w5 (largest : Int) (b off cap : Nat) (c0 c1 c2 c3 c : Int) (w : World) (hl0 : -1 ≤ largest) (hl1 : largest ≤ 4611686018427387903) (a0 : 0 ≤ c0) (b0 : c0 ≤ 255) (a1 : 0 ≤ c1) (b1 : c1 ≤ 255) (a2 : 0 ≤ c2) (b2 : c2 ≤ 255) (a3 : 0 ≤ c3) (b3 : c3 ≤ 255) (hc : c = (largest + 1) / 4294967296 * 4294967296 + (((c0 * 256 + c1) * 256 + c2) * 256 + c3)) (p1 : largest + 1 - 2147483648 < c) (p3 : c ≤ largest + 1 + 2147483648) (g0 : w.cell? ⟨b, off, none⟩ = some (.int .u8 c0)) (g1 : w.cell? ⟨b, off + 1, none⟩ = some (.int .u8 c1)) (g2 : w.cell? ⟨b, off + 2, none⟩ = some (.int .u8 c2)) (g3 : w.cell? ⟨b, off + 3, none⟩ = some (.int .u8 c3)) :
    Calls Try.prog 15 #[.int .i64 largest, .slice (some ⟨b, off, none⟩) 4 cap] w fun e w' => e = .returned (.int .i64 (c)) ∧ w = w' := by
  obtain ⟨m, km⟩ : ∃ m, (largest + 1) / 4294967296 * 4294967296 = m := ⟨_, rfl⟩
  have mm : 0 ≤ m ∧ m ≤ 4611686018427387904 := by omega
  obtain ⟨mma, mmb⟩ := mm
  rw [km] at hc
  have oc : m + (((c0 * 256 + c1) * 256 + c2) * 256 + c3) = c := hc.symm
  have cc : 0 ≤ c ∧ c ≤ 4611686022722355199 := by omega
  obtain ⟨cca, ccb⟩ := cc
  clear hc
  go_enter Try.func15, Try.ntmps15
  go_wp2
  refine wp_loop_rounds 5 ?_; repeat any_goals (rw [rounds_succ]; go_wp2)
  go_ret
  exact ⟨rfl, rfl⟩

end Go.Proofs.Ytfigedhfoljloaa
