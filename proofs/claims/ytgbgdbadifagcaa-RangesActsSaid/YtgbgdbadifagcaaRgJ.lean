/- Layer 13's ranges, walked: join. -/
import Derived.Test.YtgbgdbadifagcaaRows
import Derived.Test.YtgbgdbadifagcaaAid
import Derived.Test.YtgbgdbadifagcaaPlainRg
import Derived.Test.YtgbgdbadifagcaaRgW
import Derived.Test.YtgbgdbadifagcaaRgX
import Derived.Test.YtgbgdbadifagcaaRgI
import Derived.WalkKit
import Derived.Laws.Rows
import Derived.Laws.Tables
import Derived.WalkSpells
import Derived.WalkLawsBesides
import Derived.Deep.QuietTactic
import Derived.BigQuiet
import Derived.RegionTactic
import Derived.Handy
import Derived.StillTailTactics
import Derived.Lib.Hide
import Derived.IntWalk
namespace Go.Proofs.Ytgbgdbadifagcaa
open Go.RowKit Go.Shelf Go.Lib Go.Sort
set_option linter.unusedVariables false
set_option linter.unusedSimpArgs false

theorem Upd2.drewN {w w1 : World} {a b : Nat} (h : Upd2 a b w w1) (n : Nat) : Upd2 a b w (w1.drewN n) := ⟨h.os, h.tape, h.output, h.size, h.block⟩
theorem RowR.drewN {w : World} {v : Value} {g : Nat} {l : List Rg.R} (h : RowR w v g l) (n : Nat) : RowR (w.drewN n) v g l := h
theorem flat_set_lo (l : List Rg.R) : ∀ (i x : Nat), i < l.length → (flat l).set (i * 2) (u64v x) = flat (l.set i (x, (l.getD i (0, 0)).2)) := by
  induction l with
  | nil => intro i x h; simp at h
  | cons r t ih =>
    intro i x h
    cases i with
    | zero => simp [flat]
    | succ i =>
      rw [show (i + 1) * 2 = i * 2 + 1 + 1 by omega]
      simpa [flat] using ih i x (by simpa using h)

/-- A store into a range's Lo. -/
theorem RowR.setLo {w : World} {g c : Nat} {l : List Rg.R} (h : RowR w (.slice (some ⟨g, 0, none⟩) l.length c) g l) {i : Nat} (hi : i < l.length) (x : Nat) :
    RowR (w.setCell ⟨g, i * 2, none⟩ (u64v x)) (.slice (some ⟨g, 0, none⟩) l.length c) g (l.set i (x, (l.getD i (0, 0)).2)) := by
  rcases h with ⟨_, h⟩ | ⟨c', rest, h1, h2, h3, h4, h⟩
  · rw [h] at hi; simp at hi
  · cases h1
    refine Or.inr ⟨c, rest, by simp, by simpa using h2, h3, by simpa using h4, ?_⟩
    refine (h.set (i * 2) (u64v x)).as ?_
    have hl := flat_length l
    rw [List.setIfInBounds_toArray, List.set_append_left _ _ (by omega), flat_set_lo l i x hi]

set_option maxHeartbeats 2000000 in
theorem join_neg (a : Nat) (w : World) :
    Calls Try.prog 23 #[.pointer (some ⟨a, 0, none⟩), .int .i64 (-1)] w fun e w' => e = .returned (.tuple #[]) ∧ ∃ q, w' = w.drewN q := by
  go_enter Try.func23, Try.ntmps23
  go_wp2
  go_quiet (fail)
  go_wp2
  go_returns
  exact ⟨rfl, _, rfl⟩

theorem delete_next (g i m c : Nat) (l : List Rg.R) (w : World) (hR : RowR w (.slice (some ⟨g, 0, none⟩) m c) g l) (hm : l.length = m) (hi : i + 1 < m) (hl : m ≤ 1000) :
    Calls Try.prog 30 #[.slice (some ⟨g, 0, none⟩) m c, .int .i64 ((i : Int) + 1), .int .i64 ((i : Int) + 2)] w fun e w' => ∃ v', e = .returned v' ∧ RowR w' v' g (l.eraseIdx (i + 1)) ∧ Upd g w w' := by
  have := delete_any g (i + 1) _ l w hR (by omega) (by omega) (by omega)
  rwa [show ((i + 1 : Nat) : Int) = (i : Int) + 1 by omega, show (i : Int) + 1 + 1 = (i : Int) + 2 by omega] at this

set_option maxHeartbeats 2000000 in
theorem join_any (a g i old : Nat) (l : List Rg.R) (w : World) (hS : St w a g l old) (hi : i ≤ l.length) (hl : l.length ≤ 1000) (hm : ∀ r ∈ l, r.2 ≤ 4611686018427387903) :
    Calls Try.prog 23 #[.pointer (some ⟨a, 0, none⟩), .int .i64 (i : Nat)] w fun e w' => e = .returned (.tuple #[]) ∧ St w' a g (Rg.join l i) old ∧ Upd2 a g w w' := by
  obtain ⟨v, hO, hR⟩ := hS
  by_cases hlt : i + 1 < l.length
  · obtain ⟨c, rfl, f1, f2⟩ := hR.cells (i := i) (by omega)
    obtain ⟨c', hc', f3, f4⟩ := hR.cells (i := i + 1) (by omega)
    cases hc'
    have hgne : g ≠ a := by
      rintro rfl
      rcases hR with ⟨h, _⟩ | ⟨_, _, _, _, _, _, h⟩
      · cases h
      · have := h.symm.trans hO
        simp at this
    have f0 : w.cell? ⟨a, 0, none⟩ = some (.slice (some ⟨g, 0, none⟩) l.length c) := by rw [hO.cell]; rfl
    have hx := hm _ (Rg.getD_mem (i := i + 1) hlt)
    have HJ : Hid (Rg.join l i = if (l.getD i (0, 0)).1 = (l.getD (i + 1) (0, 0)).2 + 1 then (l.set i ((l.getD (i + 1) (0, 0)).1, (l.getD i (0, 0)).2)).eraseIdx (i + 1) else l) := by
      unfold Hid Rg.join
      simp [hlt]
    have i1 : (i : Int) + 1 < (l.length : Int) := by omega
    have i2 : (i : Int) < (l.length : Int) := by omega
    have i3 : ¬ (l.length : Int) ≤ (i : Int) + 1 := by omega
    have i4 : ((i : Int) + 1).toNat = i + 1 := by omega
    have i5 : (0 : Int) ≤ (i : Int) + 1 := by omega
    have i6 : IntKind.i64.wrap ((i : Int) + 1) = (i : Int) + 1 := by rw [IntKind.wrap_i64]; omega
    by_cases he : (l.getD i (0, 0)).1 = (l.getD (i + 1) (0, 0)).2 + 1
    · have HK := HJ.out
      rw [if_pos he] at HK
      have HJ2 := Lib.hid HK
      clear HJ HK
      have hR1 := hR.setLo (i := i) (by omega) (l.getD (i + 1) (0, 0)).1
      have hlen1 : (l.set i ((l.getD (i + 1) (0, 0)).1, (l.getD i (0, 0)).2)).length = l.length := by simp
      have hxx : (l.getD i (0, 0)).1 = (l.getD (i + 1) (0, 0)).2 + 1 := he
      have HO := Lib.hid hO
      have HR := Lib.hid hR
      have z1 : ∀ w', Upd a w w' → True := fun _ _ => trivial
      generalize hll : l.set i ((l.getD (i + 1) (0, 0)).1, (l.getD i (0, 0)).2) = l1 at *
      rw [hxx] at f1
      generalize (l.getD (i + 1) (0, 0)).2 = y at *
      generalize (l.getD (i + 1) (0, 0)).1 = x at *
      have HR1 : Hid (∀ n, RowR ((w.drewN n).setCell ⟨g, i * 2, none⟩ (u64v x)) (.slice (some ⟨g, 0, none⟩) l.length c) g l1) := fun n => by
        rw [← hll]
        exact (hR.drewN n).setLo (i := i) (by omega) x
      have HL1 := Lib.hid hlen1
      have hwy : IntKind.u64.wrap ((y : Int) + 1) = (y : Int) + 1 := by rw [IntKind.wrap_u64]; omega
      have he' : ((y + 1 : Nat) : Int) = (y : Int) + 1 := by omega
      have z0 : w.frozen? ⟨g, i * 2, none⟩ = false := by
        rcases hR with ⟨h, _⟩ | ⟨_, _, _, _, _, _, h⟩
        · cases h
        · exact h.free _
      have i8 : IntKind.i64.wrap ((i : Int) + 2) = (i : Int) + 2 := by rw [IntKind.wrap_i64]; omega
      have i9 : decide ((i : Int) < 0) = false := by simp
      have i10 : decide ((l.length : Int) ≤ (i : Int) + 1) = false := by simp; omega
      have HG := Lib.hid hgne
      unfold u64v at f1 f2 f3 f4
      rw [he'] at f1
      clear f2 he' hxx he hR1 hll hlen1 hm hO hR z1
      generalize hm' : l.length = m at *
      have HM' : Hid (l.length = m) := hm'
      clear hm'
      go_enter Try.func23, Try.ntmps23
      go_wp2
      go_quiet (fail)
      go_wp2
      refine wp_region_still_tail 16 (by kernel_rfl) (by kernel_rfl) ?_
      simp only [List.take_succ_cons, List.take_zero, List.drop_succ_cons, List.drop_zero]
      change wpStill _ _ (World.drew _) (fun a' => wpList _ _ _ _ a' (World.drew _)) _ _
      iterate 16 still_step
      refine wpStill_nil ?_
      go_wp2_with fail
      refine (delete_next g i m c l1 _ (HR1.out _) HL1.out (by omega) (by omega)).mono ?_
      rintro e w2 ⟨v', rfl, hR2, hU2⟩
      have hU : Upd g w w2 := Upd.trans (((Upd.refl g w).drewN _).set _ _) hU2
      have hO2 := HO.out.upd hU (fun h => HG.out h.symm)
      obtain ⟨base, c2, rfl, _, _⟩ := hR2.nilOr
      have f5 : w2.cell? ⟨a, 0, none⟩ = some (.slice (some ⟨g, 0, none⟩) m c) := by
        rw [hO2.cell]
        simp [HM'.out]
      have z5 := hO2.free 0
      have HO2 := Lib.hid hO2
      have HR2 := Lib.hid hR2
      have HU := Lib.hid hU
      clear hO2 hR2 hU hU2
      generalize (l1.eraseIdx (i + 1)).length = m2 at *
      go_wp2
      go_returns
      rw [HJ2.out]
      have hus := (Upd.refl a w2).set 0 (.slice base m2 c2)
      exact ⟨rfl, ⟨_, (HO2.out.set 0 _).as rfl, HR2.out.upd hus HG.out⟩, (Upd2.right HU.out a).trans (Upd2.left hus g) (Or.inl rfl)⟩
    · have HK := HJ.out
      rw [if_neg he] at HK
      have HJ2 := Lib.hid HK
      clear HJ HK
      have HO := Lib.hid hO
      have HR := Lib.hid hR
      generalize (l.getD i (0, 0)).1 = x at *
      generalize (l.getD (i + 1) (0, 0)).2 = y at *
      unfold u64v at *
      have he' : ((x : Int) != (y : Int) + 1) = true := by simp; omega
      have i7 : ¬ (i : Int) < 0 := by omega
      have hw : IntKind.u64.wrap ((y : Int) + 1) = (y : Int) + 1 := by rw [IntKind.wrap_u64]; omega
      clear f2 f3 hO hR he
      generalize hm' : l.length = m at *
      go_enter Try.func23, Try.ntmps23
      go_wp2
      go_quiet (fail)
      go_wp2
      go_returns
      rw [HJ2.out]
      exact ⟨rfl, ⟨_, HO.out.drewN _, HR.out.drewN _⟩, (Upd2.refl _ _ _).drewN _⟩
  · have HJ : Hid (Rg.join l i = l) := by unfold Hid Rg.join; simp [hlt]
    obtain ⟨base, c, rfl, hb, hg⟩ := hR.nilOr
    have f0 : w.cell? ⟨a, 0, none⟩ = some (.slice base l.length c) := by rw [hO.cell]; rfl
    have i3 : decide ((l.length : Int) ≤ (i : Int) + 1) = true := by simp; omega
    have i6 : IntKind.i64.wrap ((i : Int) + 1) = (i : Int) + 1 := by rw [IntKind.wrap_i64]; omega
    have HO := Lib.hid hO
    have HR := Lib.hid hR
    clear hO hR hb hg
    generalize hm' : l.length = m at *
    have i7 : decide ((i : Int) < 0) = false := by simp
    go_enter Try.func23, Try.ntmps23
    go_wp2
    go_quiet (fail)
    go_wp2
    go_returns
    rw [HJ.out]
    exact ⟨rfl, ⟨_, HO.out.drewN _, HR.out.drewN _⟩, (Upd2.refl _ _ _).drewN _⟩
end Go.Proofs.Ytgbgdbadifagcaa
