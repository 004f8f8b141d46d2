/- Layer 14's reference by one contract each; alive. -/
import Derived.Test.YtbiidcdgcbaahaaRows
import Derived.Test.YtbiidcdgcbaahaaPlainTk
import Derived.Test.YtbiidcdgcbaahaaPlainRt
import Derived.Test.YtbiidcdgcbaahaaAid
import Derived.Test.YtbiidcdgcbaahaaTicks
import Derived.Test.YtbiidcdgcbaahaaRtt
import Derived.Test.YtbiidcdgcbaahaaRttRef
import Derived.Test.YtbiidcdgcbaahaaRttRf2
import Derived.WalkKit
import Derived.WalkSpells
import Derived.WalkLawsBesides
import Derived.Deep.QuietTactic
import Derived.BigQuiet
import Derived.Handy
import Derived.Lib.Hide
namespace Go.Proofs.Ytbiidcdgcbaahaa
open Go.RowKit
set_option linter.unusedVariables false

set_option maxHeartbeats 400000 in
theorem of_none (g : Int) (A : Option Addr) (c : Nat) (w : World) (h0 : 0 ≤ g) (h1 : g ≤ 18446744073709551615) :
    Calls Try.prog 18 #[.int .u64 g, .slice A 0 c] w fun r w' =>
      r = .returned (.agg (stCells (Rt.run (Rt.new g) []))) ∧ Below w.heap.size w w' := by
  have hgb := Rt.hold_bound g h0
  by_cases hg : Rt.hold g = 0
  · have HG := Lib.hid hg
    have H0 : Hid (stCells (Rt.new g) = #[.int .u64 1, .int .u64 0, .int .u64 0, .int .u64 0]) := by unfold Hid Rt.new stCells; rw [hg]; rfl
    clear hg
    go_enter Try.func18, Try.ntmps18
    go_wp2_with (go_at_call 24; refine (held_any _ _ (by omega) (by omega)).mono ?_; rintro e' w' ⟨rfl, rfl⟩; rw [HG.out])
    go_rounds 1
    refine bodyPost_ret (v := .agg (stCells (Rt.new g))) (by rw [H0.out]; simp [results, Try.results18, go_sem]) rfl ⟨rfl, ?_⟩
    exact ((Below.refl _ _).alloc (Nat.le_refl _) _).alloc (by simp) _
  · have H0 : Hid (stCells (Rt.new g) = #[.int .u64 (Rt.hold g), .int .u64 (Rt.hold g / 2), .int .u64 0, .int .u64 0]) := by
      unfold Hid Rt.new stCells; rw [show max 1 (Rt.hold g) = Rt.hold g by omega]
    obtain ⟨G, hG⟩ : ∃ G, Rt.hold g = G := ⟨_, rfl⟩
    rw [hG] at hgb hg H0
    have HG := Lib.hid hG
    have hG0 : (G == 0) = false := by simp; omega
    obtain ⟨hgb0, hgb1⟩ := hgb
    have hgb2 : 1 ≤ G := by omega
    clear hG hg
    go_enter Try.func18, Try.ntmps18
    go_wp2_with (go_at_call 24; refine (held_any _ _ (by omega) (by omega)).mono ?_; rintro e' w' ⟨rfl, rfl⟩; rw [HG.out])
    go_rounds 1
    refine bodyPost_ret (v := .agg (stCells (Rt.new g))) (by rw [H0.out]; simp [results, Try.results18, go_sem]) rfl ⟨rfl, ?_⟩
    exact ((Below.refl _ _).alloc (Nat.le_refl _) _).alloc (by simp) _

/-- The document's state behind answers. -/
theorem of_any (g : Int) (A : Option Addr) (n c : Nat) (l : List (Int × Int)) (w : World) (h : Answers w A n l) (hn : n ≤ 9223372036854775807) (h0 : 0 ≤ g) (h1 : g ≤ 18446744073709551615) :
    Calls Try.prog 18 #[.int .u64 g, .slice A n c] w fun r w' =>
      r = .returned (.agg (stCells (Rt.run (Rt.new g) l))) ∧ Below w.heap.size w w' := by
  by_cases hn0 : n = 0
  · subst hn0
    obtain rfl := List.eq_nil_of_length_eq_zero h.1
    exact of_none g A c w h0 h1
  · have h' := h
    obtain ⟨b, off, rfl, _⟩ := h.2.2 (by omega)
    by_cases hg : Rt.hold g = 0
    · exact of_some0 g b off n c l w h' (by omega) hn h0 h1 hg
    · exact of_some1 g b off n c l w h' (by omega) hn h0 h1 hg

set_option maxHeartbeats 400000 in
theorem refProbe_any (e : Rt.Est) (t c : Int) (w : World) (ho : Rt.ok e) (ht : 0 ≤ t) (ht1 : t ≤ 18446744073709551615) (hc0 : -9223372036854775808 ≤ c) (hc1 : c ≤ 9223372036854775807) :
    Calls Try.prog 19 #[.agg (stCells e), .int .u64 t, .int .i64 c] w fun r w' => r = .returned (.int .u64 (Rt.probe e t c)) ∧ Below w.heap.size w w' := by
  obtain ⟨o0, o1, o2, o3, o4, o5, o6, o7⟩ := ho
  have bt := Rt.hold_bound t ht
  unfold stCells
  by_cases hz : e.dev = 0
  · have HP : Hid (Rt.probe e t c = Tk.bko (e.smooth + 1 + Rt.hold t) c) := by unfold Hid Rt.probe; rw [hz]; rfl
    go_enter Try.func19, Try.ntmps19
    go_wp2
    go_quiet ((first | (go_at_call 24; exact quiet1 (held_any _ _ ht ht1)) | (go_at_call 25; exact quiet1 (refBackoff_any _ _ _ (by omega) (by omega) hc0 hc1))))
    go_wp2
    go_ret
    exact ⟨(ret_int HP.out).symm, below_drewN ((Below.refl _ _).alloc (Nat.le_refl _) _) _⟩
  · have HP : Hid (Rt.probe e t c = Tk.bko (e.smooth + 4 * e.dev + Rt.hold t) c) := by unfold Hid Rt.probe; rw [show max (4 * e.dev) 1 = 4 * e.dev by omega]
    have hz' : (4 * e.dev == 0) = false := by simp; omega
    clear hz
    go_enter Try.func19, Try.ntmps19
    go_wp2
    go_quiet ((first | (go_at_call 24; exact quiet1 (held_any _ _ ht ht1)) | (go_at_call 25; exact quiet1 (refBackoff_any _ _ _ (by omega) (by omega) hc0 hc1))))
    go_wp2
    go_ret
    exact ⟨(ret_int HP.out).symm, below_drewN ((Below.refl _ _).alloc (Nat.le_refl _) _) _⟩

set_option maxHeartbeats 400000 in
theorem refLoss_any (e : Rt.Est) (w : World) (ho : Rt.ok e) :
    Calls Try.prog 20 #[.agg (stCells e)] w fun r w' => r = .returned (.int .u64 (Rt.loss e)) ∧ Below w.heap.size w w' := by
  obtain ⟨o0, o1, o2, o3, o4, o5, o6, o7⟩ := ho
  unfold stCells
  by_cases hl : e.smooth < e.latest
  · by_cases hz : e.latest = 0
    · omega
    · have HP : Hid (Rt.loss e = 9 * e.latest / 8) := by unfold Hid Rt.loss; omega
      have hz' : (9 * e.latest / 8 == 0) = false := by simp; omega
      go_enter Try.func20, Try.ntmps20
      go_wp2
      go_ret
      exact ⟨(ret_int HP.out).symm, (Below.refl _ _).alloc (Nat.le_refl _) _⟩
  · by_cases hz : 9 * e.smooth / 8 = 0
    · have HP : Hid (Rt.loss e = 1) := by unfold Hid Rt.loss; omega
      have hz' : (9 * e.smooth / 8 == 0) = true := by simp [hz]
      have hl' : e.latest ≤ e.smooth := by omega
      clear hz hl
      go_enter Try.func20, Try.ntmps20
      go_wp2
      go_ret
      exact ⟨(ret_int HP.out).symm, (Below.refl _ _).alloc (Nat.le_refl _) _⟩
    · have HP : Hid (Rt.loss e = 9 * e.smooth / 8) := by unfold Hid Rt.loss; omega
      have hz' : (9 * e.smooth / 8 == 0) = false := by simp; omega
      have hl' : e.latest ≤ e.smooth := by omega
      clear hz hl
      go_enter Try.func20, Try.ntmps20
      go_wp2
      go_ret
      exact ⟨(ret_int HP.out).symm, (Below.refl _ _).alloc (Nat.le_refl _) _⟩

end Go.Proofs.Ytbiidcdgcbaahaa
