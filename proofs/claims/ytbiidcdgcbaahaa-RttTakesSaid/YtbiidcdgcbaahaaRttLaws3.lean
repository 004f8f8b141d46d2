/- RttTakes, walked. -/
import Derived.Test.YtbiidcdgcbaahaaRows
import Derived.Test.YtbiidcdgcbaahaaPlainTk
import Derived.Test.YtbiidcdgcbaahaaPlainRt
import Derived.Test.YtbiidcdgcbaahaaAid
import Derived.Test.YtbiidcdgcbaahaaTicks
import Derived.Test.YtbiidcdgcbaahaaRtt
import Derived.Test.YtbiidcdgcbaahaaRttLaws
import Derived.Test.YtbiidcdgcbaahaaRttRef
import Derived.Test.YtbiidcdgcbaahaaRttAny
import Derived.Deep.RegionHeld3
import Derived.StillTailTactics
import Derived.WalkKit
import Derived.WalkSpells
import Derived.WalkLawsBesides
import Derived.Deep.QuietTactic
import Derived.BigQuiet
import Derived.Handy
import Derived.Lib.Hide
namespace Go.Proofs.Ytbiidcdgcbaahaa
open Go.RowKit
set_option linter.unusedVariables false

theorem Answers.take {w : World} {A : Option Addr} {n k : Nat} {l : List (Int × Int)} (h : Answers w A n l) (hk : k ≤ n) : Answers w A k (l.take k) := by
  obtain ⟨h1, h2, h3⟩ := h
  refine ⟨by rw [List.length_take]; omega, fun a ha => h2 a (List.mem_of_mem_take ha), fun h0 => ?_⟩
  obtain ⟨b, off, e, hb, hc⟩ := h3 (by omega)
  refine ⟨b, off, e, hb, fun j hj => ?_⟩
  have e2 : (l.take k).getD j (0, 0) = l.getD j (0, 0) := by simp [List.getD_eq_getElem?_getD, hj]
  rw [e2]
  exact hc j (by omega)

theorem Answers.below {w w' : World} {A : Option Addr} {n : Nat} {l : List (Int × Int)} (h : Answers w A n l) (hb : Below w.heap.size w w') : Answers w' A n l := by
  obtain ⟨h1, h2, h3⟩ := h
  refine ⟨h1, h2, fun hn => ?_⟩
  obtain ⟨b, off, e, hlt, hc⟩ := h3 hn
  exact ⟨b, off, e, Nat.lt_of_lt_of_le hlt hb.size, fun j hj => ⟨(hb.cell (p := ⟨b, off + j * 2, none⟩) hlt).trans (hc j hj).1, (hb.cell (p := ⟨b, off + j * 2 + 1, none⟩) hlt).trans (hc j hj).2⟩⟩

/-- What holds all through the great test: the estimator, and the cells of the document's state. -/
abbrev Held (W : World) (b : Nat) (E : Rt.Est) (s : Nat) (w : World) : Prop :=
  Own W b E w ∧ w.cell? ⟨s, 0, none⟩ = some (.int .u64 E.smooth) ∧ w.cell? ⟨s, 1, none⟩ = some (.int .u64 E.dev) ∧ w.cell? ⟨s, 2, none⟩ = some (.int .u64 E.least) ∧ w.cell? ⟨s, 3, none⟩ = some (.int .u64 E.latest)
theorem Held.below {W : World} {b : Nat} {E : Rt.Est} {s : Nat} {w w' : World} (h : Held W b E s w) (hb : Below w.heap.size w w') : Held W b E s w' :=
  ⟨h.1.kept hb, (hb.cell (World.block_lt_of_cell? _ _ h.2.1)).trans h.2.1, (hb.cell (World.block_lt_of_cell? _ _ h.2.2.1)).trans h.2.2.1,
    (hb.cell (World.block_lt_of_cell? _ _ h.2.2.2.1)).trans h.2.2.2.1, (hb.cell (World.block_lt_of_cell? _ _ h.2.2.2.2)).trans h.2.2.2.2⟩
theorem Held.drewN {W : World} {b : Nat} {E : Rt.Est} {s : Nat} {w : World} (h : Held W b E s w) (q : Nat) : Held W b E s (w.drewN q) := ⟨h.1.drewN q, h.2⟩

set_option maxRecDepth 100000 in
set_option maxHeartbeats 4000000 in
theorem rttTakes_walk (a0 : Int) (A1 : Option Addr) (n1 c1 : Nat) (l1 : List (Int × Int)) (a2 a3 : Int) (w : World) (w0 : (Lit.int .u64 a0).wf = true) (i1 : Answers w A1 n1 l1) (x1 : n1 ≤ c1 ∧ c1 ≤ maxLen) (w2 : (Lit.int .u64 a2).wf = true) (w3 : (Lit.int .i64 a3).wf = true) :
    Calls Try.prog 3 #[.int .u64 a0, .slice A1 n1 c1, .int .u64 a2, .int .i64 a3] w fun e w' => e = .returned (.bool true) ∧ Below w.heap.size w w' := by
  obtain ⟨b0, c0⟩ := bounds_u64 w0
  obtain ⟨b2, c2⟩ := bounds_u64 w2
  obtain ⟨b3, c3⟩ := bounds_i64 w3
  unfold maxLen at x1
  obtain ⟨x11, x12⟩ := x1
  clear w0 w2 w3
  by_cases hbig : 100 < n1
  · clear i1
    go_enter Try.func3, Try.ntmps3
    go_wp2_with fail
    refine (alive_true _).mono ?_
    rintro e w1 ⟨rfl, hb1⟩
    have HA := Lib.hid hb1
    clear hb1
    go_wp2
    go_ret
    exact ⟨rfl, HA.out⟩
  · have hsm : (n1 : Int) ≤ 100 := by omega
    have II := Lib.hid i1
    clear hbig i1
    go_enter Try.func3, Try.ntmps3
    go_wp2_with fail
    refine (alive_true _).mono ?_
    rintro e w1 ⟨rfl, hb1⟩
    have HA := Lib.hid hb1
    clear hb1
    go_wp2_with fail
    refine (take_nil _ _ _).mono ?_
    rintro e w6 ⟨rfl, rfl⟩
    go_wp2_with fail
    refine (smooth_nil _).mono ?_
    rintro e w6 ⟨rfl, rfl⟩
    go_wp2_with fail
    refine (dev_nil _).mono ?_
    rintro e w6 ⟨rfl, rfl⟩
    go_wp2_with fail
    refine (least_nil _).mono ?_
    rintro e w6 ⟨rfl, rfl⟩
    go_wp2_with fail
    refine (latest_nil _).mono ?_
    rintro e w6 ⟨rfl, rfl⟩
    go_wp2_with fail
    refine (probe_nil _ _ _).mono ?_
    rintro e w6 ⟨rfl, rfl⟩
    go_wp2_with fail
    refine (loss_nil _).mono ?_
    rintro e w6 ⟨rfl, rfl⟩
    go_wp2_with fail
    refine (own_new w _ a0 b0 c0 HA.out).mono ?_
    rintro e w2 ⟨b, rfl, h2, hwb⟩
    clear hwb
    go_wp2
    go_loopw [11] (fun i wr => ∃ k : Nat, k ≤ n1 + 1 ∧ i = .int .i64 k ∧ Own w b (Rt.run (Rt.new a0) (l1.take k)) wr) (fun i _ => n1 + 2 - (intOf i).toNat)
    case atStart => exact ⟨0, by omega, rfl, h2⟩
    case round =>
      obtain ⟨k, hk, rfl, HO⟩ := hrel
      clear h2
      by_cases hkn : k ≤ n1
      · have hle : (k : Int) ≤ (n1 : Int) := by omega
        obtain ⟨E, hE⟩ : ∃ E, Rt.run (Rt.new a0) (l1.take k) = E := ⟨_, rfl⟩
        rw [hE] at HO
        have HE := Lib.hid hE
        clear hE
        have hAn := (II.out.below HO.2.2.2).take hkn
        go_wp2_with fail
        refine (of_any a0 A1 k c1 (l1.take k) wr hAn (by omega) b0 c0).mono ?_
        rintro e w4 ⟨rfl, hb4⟩
        rw [HE.out]
        have HO4 := HO.kept hb4
        clear hAn hb4 HO
        have HS := Obj.new w4 31 (stCells E)
        have HH : Held w b E w4.heap.size (w4.alloc (.cells (stCells E) 31)) :=
          ⟨HO4.kept ((Below.refl _ _).alloc (Nat.le_refl _) _), HS.cell 0, HS.cell 1, HS.cell 2, HS.cell 3⟩
        have ok := HO4.2.1
        unfold stCells at HH ⊢
        clear HS HO4
        go_wp2
        go_region_held3 (fun w' => Own w b E w' ∧ w'.cell? ⟨w4.heap.size, 0, none⟩ = some (.int .u64 E.smooth) ∧ w'.cell? ⟨w4.heap.size, 1, none⟩ = some (.int .u64 E.dev) ∧ w'.cell? ⟨w4.heap.size, 2, none⟩ = some (.int .u64 E.least) ∧ w'.cell? ⟨w4.heap.size, 3, none⟩ = some (.int .u64 E.latest))
          (first | assumption | (exact HH.drewN 1) | (exact Held.drewN (W := w) (b := b) (E := E) (s := w4.heap.size) (by assumption) _) | (exact Held.below (W := w) (b := b) (E := E) (s := w4.heap.size) (by assumption) (by assumption)))
          (first
            | (go_at_call 11; refine (own_smooth w _ b E ((by assumption : Held w b E w4.heap.size _)).1).mono ?_; rintro e w' ⟨rfl, rfl⟩)
            | (go_at_call 12; refine (own_var w _ b E ((by assumption : Held w b E w4.heap.size _)).1).mono ?_; rintro e w' ⟨rfl, rfl⟩)
            | (go_at_call 13; refine (own_least w _ b E ((by assumption : Held w b E w4.heap.size _)).1).mono ?_; rintro e w' ⟨rfl, rfl⟩)
            | (go_at_call 14; refine (own_latest w _ b E ((by assumption : Held w b E w4.heap.size _)).1).mono ?_; rintro e w' ⟨rfl, rfl⟩)
            | (go_at_call 15; refine (probe_any b E a2 a3 _ ((by assumption : Held w b E w4.heap.size _)).1.1 ok b2 b3 c3).mono ?_; rintro e w' ⟨rfl, q, rfl⟩)
            | (go_at_call 16; refine (loss_any b E _ ((by assumption : Held w b E w4.heap.size _)).1.1 ok).mono ?_; rintro e w' ⟨rfl, q, rfl⟩)
            | (go_at_call 19; refine (refProbe_any E a2 a3 _ ok b2 c2 b3 c3).mono ?_; rintro e w' ⟨rfl, hbq⟩)
            | (go_at_call 20; refine (refLoss_any E _ ok).mono ?_; rintro e w' ⟨rfl, hbq⟩))
        have HO5 : Own w b E w' := (by assumption : Held w b E w4.heap.size w').1
        clear HH
        by_cases hlt : k < n1
        · obtain ⟨i1, i2, i3⟩ := II.out
          obtain ⟨B, off, rfl, hB, hc⟩ := i3 (by omega)
          obtain ⟨g1, g2⟩ := hc k hlt
          have hkl : k < l1.length := by omega
          have hr := i2 (l1.getD k (0, 0)) (by rw [List.getD_eq_getElem?_getD, List.getElem?_eq_getElem hkl]; exact List.getElem_mem hkl)
          have HT : Hid (l1.take (k + 1) = l1.take k ++ [l1.getD k (0, 0)]) := by
            unfold Hid
            rw [List.take_succ_eq_append_getElem hkl, List.getD_eq_getElem?_getD, List.getElem?_eq_getElem hkl]; rfl
          generalize l1.getD k (0, 0) = a at *
          obtain ⟨t, d⟩ := a
          dsimp only at g1 g2 hr
          have c1' := (HO5.2.2.2.cell (p := ⟨B, off + k * 2, none⟩) hB).trans g1
          have c2' := (HO5.2.2.2.cell (p := ⟨B, off + k * 2 + 1, none⟩) hB).trans g2
          obtain ⟨r1, r2, r3, r4⟩ := hr
          have hlt' : (k : Int) < (n1 : Int) := by omega
          clear i1 i2 i3 hc hkl
          go_wp2
          refine wp_region_still_tail 11 (by kernel_rfl) (by kernel_rfl) ?_
          simp only [List.take_succ_cons, List.take_zero, List.drop_succ_cons, List.drop_zero]
          change wpStill _ _ (World.drew _) (fun a' => wpList _ _ _ _ a' (World.drew _)) _ _
          iterate 11 still_step
          refine wpStill_nil ?_
          go_wp2_with fail
          refine (own_take w _ b E t d (HO5.drewN 1) r1 r3).mono ?_
          rintro e w6 ⟨rfl, h6⟩
          go_wp2
          go_roundw
          case rel => exact ⟨k + 1, by omega, by go_num, by rw [HT.out, Rt.run_snoc, HE.out]; exact h6⟩
          case measure => simp [intOf]; omega
        · obtain rfl : k = n1 := by omega
          go_wp2
          go_roundw
          case rel => exact ⟨k + 1, by omega, by go_num, by
            rw [List.take_of_length_le (by rw [II.out.1]; omega)]
            have h2 := HE.out
            rw [List.take_of_length_le (by rw [II.out.1]; omega)] at h2
            rw [h2]; exact HO5⟩
          case measure => simp [intOf]
      · obtain rfl : k = n1 + 1 := by omega
        have hle : ¬ ((n1 : Int) + 1 ≤ n1) := by omega
        go_wp2
        go_ret
        exact ⟨rfl, HO.2.2.2⟩

end Go.Proofs.Ytbiidcdgcbaahaa
