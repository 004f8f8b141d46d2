/- The walks of layer 14's functions: what each returns, for every estimator, every argument and every world. -/
import Derived.Test.YtbiidcdgcbaahaaRows
import Derived.Test.YtbiidcdgcbaahaaPlainTk
import Derived.Test.YtbiidcdgcbaahaaPlainRt
import Derived.Test.YtbiidcdgcbaahaaAid
import Derived.Test.YtbiidcdgcbaahaaTicks
import Derived.WalkKit
import Derived.WalkSpells
import Derived.WalkLawsBesides
import Derived.Deep.QuietTactic
import Derived.BigQuiet
import Derived.Handy
import Derived.Lib.Hide
import Derived.StillTailTactics
import Derived.Deep.RegionHeld3
namespace Go.Proofs.Ytbiidcdgcbaahaa
open Go.RowKit
set_option linter.unusedVariables false

/-- An estimator's cells. -/
def estCells (e : Rt.Est) : Array Value := #[.int .u64 e.smooth, .int .u64 e.dev, .int .u64 e.least, .int .u64 e.latest, .bool e.some]
def EstAt (w : World) (b : Nat) (e : Rt.Est) : Prop := Obj w b 47 (estCells e)

theorem EstAt.facts {w : World} {b : Nat} {e : Rt.Est} (h : EstAt w b e) :
    w.cell? ⟨b, 0, none⟩ = some (.int .u64 e.smooth) ∧ w.cell? ⟨b, 1, none⟩ = some (.int .u64 e.dev) ∧ w.cell? ⟨b, 2, none⟩ = some (.int .u64 e.least) ∧
    w.cell? ⟨b, 3, none⟩ = some (.int .u64 e.latest) ∧ w.cell? ⟨b, 4, none⟩ = some (.bool e.some) ∧ (∀ i, w.frozen? ⟨b, i, none⟩ = false) :=
  ⟨h.cell 0, h.cell 1, h.cell 2, h.cell 3, h.cell 4, fun i => h.free i⟩

set_option maxHeartbeats 400000 in
theorem new_any (g : Int) (w : World) (h0 : 0 ≤ g) (h1 : g ≤ 18446744073709551615) :
    Calls Try.prog 17 #[.int .u64 g] w fun e w' => e = .returned (.pointer (some ⟨w.heap.size, 0, none⟩)) ∧ EstAt w' w.heap.size (Rt.new g) ∧ Below w.heap.size w w' := by
  go_enter Try.func17, Try.ntmps17
  go_wp2
  go_ret
  exact ⟨rfl, Obj.new w _ _, (Below.refl _ _).alloc (Nat.le_refl _) _⟩

theorem mean_any (m a b : Int) (w : World) (hm : m = 4 ∨ m = 8) (ha : 0 ≤ a) (ha1 : a ≤ 4398046511104) (hb : 0 ≤ b) (hb1 : b ≤ 4398046511104) :
    Calls Try.prog 21 #[.int .u64 m, .int .u64 a, .int .u64 b] w fun e w' => e = .returned (.int .u64 (((m - 1) * a + b) / m)) ∧ w = w' := by
  rcases hm with rfl | rfl
  all_goals
    go_enter Try.func21, Try.ntmps21
    go_wp2
    go_ret
    exact ⟨rfl, rfl⟩

theorem apart_any (a b : Int) (w : World) (ha : 0 ≤ a) (ha1 : a ≤ 4398046511104) (hb : 0 ≤ b) (hb1 : b ≤ 4398046511104) :
    Calls Try.prog 22 #[.int .u64 a, .int .u64 b] w fun e w' => e = .returned (.int .u64 (Rt.far a b)) ∧ w = w' := by
  go_enter Try.func22, Try.ntmps22
  go_wp2
  go_ret
  exact ⟨rfl, rfl⟩

theorem smooth_any (b : Nat) (e : Rt.Est) (w : World) (h : EstAt w b e) :
    Calls Try.prog 11 #[.pointer (some ⟨b, 0, none⟩)] w fun r w' => r = .returned (.int .u64 e.smooth) ∧ w = w' := by
  obtain ⟨f0, f1, f2, f3, f4, f5⟩ := h.facts
  clear f5
  go_enter Try.func11, Try.ntmps11
  go_wp2
  go_ret
  exact ⟨rfl, rfl⟩
theorem smooth_nil (w : World) :
    Calls Try.prog 11 #[.pointer none] w fun r w' => r = .returned (.int .u64 0) ∧ w = w' := by
  go_enter Try.func11, Try.ntmps11
  go_wp2
  go_ret
  exact ⟨rfl, rfl⟩

theorem dev_any (b : Nat) (e : Rt.Est) (w : World) (h : EstAt w b e) :
    Calls Try.prog 12 #[.pointer (some ⟨b, 0, none⟩)] w fun r w' => r = .returned (.int .u64 e.dev) ∧ w = w' := by
  obtain ⟨f0, f1, f2, f3, f4, f5⟩ := h.facts
  clear f5
  go_enter Try.func12, Try.ntmps12
  go_wp2
  go_ret
  exact ⟨rfl, rfl⟩
theorem dev_nil (w : World) :
    Calls Try.prog 12 #[.pointer none] w fun r w' => r = .returned (.int .u64 0) ∧ w = w' := by
  go_enter Try.func12, Try.ntmps12
  go_wp2
  go_ret
  exact ⟨rfl, rfl⟩

theorem least_any (b : Nat) (e : Rt.Est) (w : World) (h : EstAt w b e) :
    Calls Try.prog 13 #[.pointer (some ⟨b, 0, none⟩)] w fun r w' => r = .returned (.int .u64 e.least) ∧ w = w' := by
  obtain ⟨f0, f1, f2, f3, f4, f5⟩ := h.facts
  clear f5
  go_enter Try.func13, Try.ntmps13
  go_wp2
  go_ret
  exact ⟨rfl, rfl⟩
theorem least_nil (w : World) :
    Calls Try.prog 13 #[.pointer none] w fun r w' => r = .returned (.int .u64 0) ∧ w = w' := by
  go_enter Try.func13, Try.ntmps13
  go_wp2
  go_ret
  exact ⟨rfl, rfl⟩

theorem latest_any (b : Nat) (e : Rt.Est) (w : World) (h : EstAt w b e) :
    Calls Try.prog 14 #[.pointer (some ⟨b, 0, none⟩)] w fun r w' => r = .returned (.int .u64 e.latest) ∧ w = w' := by
  obtain ⟨f0, f1, f2, f3, f4, f5⟩ := h.facts
  clear f5
  go_enter Try.func14, Try.ntmps14
  go_wp2
  go_ret
  exact ⟨rfl, rfl⟩
theorem latest_nil (w : World) :
    Calls Try.prog 14 #[.pointer none] w fun r w' => r = .returned (.int .u64 0) ∧ w = w' := by
  go_enter Try.func14, Try.ntmps14
  go_wp2
  go_ret
  exact ⟨rfl, rfl⟩

theorem take_nil (t d : Int) (w : World) :
    Calls Try.prog 10 #[.pointer none, .int .u64 t, .int .u64 d] w fun r w' => r = .returned (.tuple #[]) ∧ w = w' := by
  go_enter Try.func10, Try.ntmps10
  go_wp2
  go_returns
  exact ⟨rfl, rfl⟩
theorem probe_nil (t d : Int) (w : World) :
    Calls Try.prog 15 #[.pointer none, .int .u64 t, .int .i64 d] w fun r w' => r = .returned (.int .u64 0) ∧ w = w' := by
  go_enter Try.func15, Try.ntmps15
  go_wp2
  go_ret
  exact ⟨rfl, rfl⟩
theorem loss_nil (w : World) :
    Calls Try.prog 16 #[.pointer none] w fun r w' => r = .returned (.int .u64 0) ∧ w = w' := by
  go_enter Try.func16, Try.ntmps16
  go_wp2
  go_ret
  exact ⟨rfl, rfl⟩

set_option maxHeartbeats 400000 in
theorem probe_any (b : Nat) (e : Rt.Est) (t c : Int) (w : World) (h : EstAt w b e) (ho : Rt.ok e) (ht : 0 ≤ t) (hc0 : -9223372036854775808 ≤ c) (hc1 : c ≤ 9223372036854775807) :
    Calls Try.prog 15 #[.pointer (some ⟨b, 0, none⟩), .int .u64 t, .int .i64 c] w fun r w' => r = .returned (.int .u64 (Rt.probe e t c)) ∧ ∃ q, w' = w.drewN q := by
  obtain ⟨f0, f1, f2, f3, f4, f5⟩ := h.facts
  obtain ⟨o0, o1, o2, o3, o4, o5, o6, o7⟩ := ho
  clear f5 f2 f3 f4
  go_enter Try.func15, Try.ntmps15
  go_wp2
  go_quiet ((go_at_call 23; exact quiet1 (backoff_any _ _ _ (by omega) (by omega) hc0 hc1)))
  go_wp2
  go_ret
  exact ⟨rfl, nq, rfl⟩

theorem loss_any (b : Nat) (e : Rt.Est) (w : World) (h : EstAt w b e) (ho : Rt.ok e) :
    Calls Try.prog 16 #[.pointer (some ⟨b, 0, none⟩)] w fun r w' => r = .returned (.int .u64 (Rt.loss e)) ∧ ∃ q, w' = w.drewN q := by
  obtain ⟨f0, f1, f2, f3, f4, f5⟩ := h.facts
  obtain ⟨o0, o1, o2, o3, o4, o5, o6, o7⟩ := ho
  clear f5 f2 f1 f4
  go_enter Try.func16, Try.ntmps16
  go_wp2
  go_quiet (fail)
  go_wp2
  go_ret
  exact ⟨rfl, nq, rfl⟩

theorem held_any (n : Int) (w : World) (h0 : 0 ≤ n) (h1 : n ≤ 18446744073709551615) :
    Calls Try.prog 24 #[.int .u64 n] w fun e w' => e = .returned (.int .u64 (Rt.hold n)) ∧ w = w' := by
  by_cases h : 1099511627776 < n
  · have HF := Lib.hid (show Rt.hold n = 1099511627776 by unfold Rt.hold; omega)
    go_enter Try.func24, Try.ntmps24
    go_wp2
    go_ret
    exact ⟨(ret_int HF.out).symm, rfl⟩
  · have HF := Lib.hid (show Rt.hold n = n by unfold Rt.hold; omega)
    go_enter Try.func24, Try.ntmps24
    go_wp2
    go_ret
    exact ⟨(ret_int HF.out).symm, rfl⟩

set_option maxHeartbeats 400000 in
theorem take_first (b : Nat) (e : Rt.Est) (t d : Int) (w : World) (h : EstAt w b e) (hs : e.some = false) (ht : 0 ≤ t) (hd : 0 ≤ d) :
    Calls Try.prog 10 #[.pointer (some ⟨b, 0, none⟩), .int .u64 t, .int .u64 d] w fun r w' => r = .returned (.tuple #[]) ∧ EstAt w' b (Rt.take e t d) ∧ Upd b w w' := by
  obtain ⟨f0, f1, f2, f3, f4, f5⟩ := h.facts
  rw [hs] at f4
  have bt := Rt.hold_bound t ht
  have bd := Rt.hold_bound d hd
  have HT := Lib.hid (show min t 1099511627776 = Rt.hold t from rfl)
  have HD := Lib.hid (show min d 1099511627776 = Rt.hold d from rfl)
  have ET := HT.out
  have ED := HD.out
  have z0 := f5 0
  have z1 := f5 1
  have z2 := f5 2
  have z3 := f5 3
  have z4 := f5 4
  clear f5
  go_enter Try.func10, Try.ntmps10
  go_wp2
  go_returns
  have HK : Rt.take e t d = ⟨Rt.hold t, Rt.hold t / 2, Rt.hold t, Rt.hold t, true⟩ := by unfold Rt.take; rw [hs]; rfl
  rw [HK]
  exact ⟨rfl, (((((h.set 3 _).set 4 _).set 0 _).set 1 _).set 2 _).as rfl, (((((Upd.refl _ _).set _ _).set _ _).set _ _).set _ _).set _ _⟩

set_option maxHeartbeats 400000 in
theorem take_next (b : Nat) (e : Rt.Est) (t d : Int) (w : World) (h : EstAt w b e) (hs : e.some = true) (ho : Rt.ok e) (ht : 0 ≤ t) (hd : 0 ≤ d) :
    Calls Try.prog 10 #[.pointer (some ⟨b, 0, none⟩), .int .u64 t, .int .u64 d] w fun r w' => r = .returned (.tuple #[]) ∧ EstAt w' b (Rt.take e t d) ∧ Upd b w w' := by
  obtain ⟨f0, f1, f2, f3, f4, f5⟩ := h.facts
  obtain ⟨o0, o1, o2, o3, o4, o5, o6, o7⟩ := ho
  rw [hs] at f4
  obtain ⟨bt0, bt1⟩ := Rt.hold_bound t ht
  obtain ⟨bd0, bd1⟩ := Rt.hold_bound d hd
  obtain ⟨T, ET⟩ : ∃ T, min t 1099511627776 = T := ⟨_, rfl⟩
  obtain ⟨D, ED⟩ : ∃ D, min d 1099511627776 = D := ⟨_, rfl⟩
  obtain ⟨L, EL⟩ : ∃ L, min e.least T = L := ⟨_, rfl⟩
  have HK : Hid (Rt.take e t d = ⟨(7 * e.smooth + Rt.less T D L) / 8, (3 * e.dev + Rt.far e.smooth (Rt.less T D L)) / 4, L, T, true⟩) := by
    unfold Rt.take Rt.hold; rw [hs, ET, ED, EL]; rfl
  have z0 := f5 0
  have z1 := f5 1
  have z2 := f5 2
  have z3 := f5 3
  have z4 := f5 4
  clear f5
  rw [show Rt.hold t = T from ET] at bt0 bt1
  rw [show Rt.hold d = D from ED] at bd0 bd1
  have bl0 : 0 ≤ L := by omega
  have bl1 : L ≤ 1099511627776 := by omega
  by_cases hl : L + D ≤ T
  · have HL := Lib.hid (show Rt.less T D L = T - D by unfold Rt.less; rw [if_pos hl])
    go_enter Try.func10, Try.ntmps10
    go_wp2
    refine wp_region_still_tail 14 (by kernel_rfl) (by kernel_rfl) ?_
    simp only [List.take_succ_cons, List.take_zero, List.drop_succ_cons, List.drop_zero]
    change wpStill _ _ (World.drew _) (fun a' => wpList _ _ _ _ a' (World.drew _)) _ _
    iterate 10 still_step
    still_call (still1 (apart_any e.smooth (T - D) _ (by omega) (by omega) (by omega) (by omega)))
    still_call (still1 (mean_any 4 e.dev (Rt.far e.smooth (T - D)) _ (by simp) (by omega) (by omega) (by unfold Rt.far; omega) (by unfold Rt.far; omega)))
    iterate 2 still_step
    refine wpStill_nil ?_
    go_wp2
    go_end0
    rw [HK.out, HL.out]
    exact ⟨rfl, ((((h.set 3 _).set 2 _).set 1 _).set 0 _).drew.as (by simp [estCells, hs]), ((((Upd.refl _ _).set _ _).set _ _).set _ _).set _ _ |>.drew⟩
  · have HL := Lib.hid (show Rt.less T D L = T by unfold Rt.less; rw [if_neg hl])
    have hl' : T < L + D := by omega
    clear hl
    go_enter Try.func10, Try.ntmps10
    go_wp2
    refine wp_region_still_tail 14 (by kernel_rfl) (by kernel_rfl) ?_
    simp only [List.take_succ_cons, List.take_zero, List.drop_succ_cons, List.drop_zero]
    change wpStill _ _ (World.drew _) (fun a' => wpList _ _ _ _ a' (World.drew _)) _ _
    iterate 10 still_step
    still_call (still1 (apart_any e.smooth (T) _ (by omega) (by omega) (by omega) (by omega)))
    still_call (still1 (mean_any 4 e.dev (Rt.far e.smooth (T)) _ (by simp) (by omega) (by omega) (by unfold Rt.far; omega) (by unfold Rt.far; omega)))
    iterate 2 still_step
    refine wpStill_nil ?_
    go_wp2
    go_end0
    rw [HK.out, HL.out]
    exact ⟨rfl, ((((h.set 3 _).set 2 _).set 1 _).set 0 _).drew.as (by simp [estCells, hs]), ((((Upd.refl _ _).set _ _).set _ _).set _ _).set _ _ |>.drew⟩

theorem take_any (b : Nat) (e : Rt.Est) (t d : Int) (w : World) (h : EstAt w b e) (ho : Rt.ok e) (ht : 0 ≤ t) (hd : 0 ≤ d) :
    Calls Try.prog 10 #[.pointer (some ⟨b, 0, none⟩), .int .u64 t, .int .u64 d] w fun r w' => r = .returned (.tuple #[]) ∧ EstAt w' b (Rt.take e t d) ∧ Upd b w w' := by
  cases hs : e.some
  · exact take_first b e t d w h hs ht hd
  · exact take_next b e t d w h hs ho ht hd

end Go.Proofs.Ytbiidcdgcbaahaa
