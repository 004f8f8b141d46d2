/- The walks of layer 14's reference: Of, Probe, LossDelay. -/
import Derived.Test.YtbiidcdgcbaahaaRows
import Derived.Test.YtbiidcdgcbaahaaPlainTk
import Derived.Test.YtbiidcdgcbaahaaPlainRt
import Derived.Test.YtbiidcdgcbaahaaAid
import Derived.Test.YtbiidcdgcbaahaaTicks
import Derived.Test.YtbiidcdgcbaahaaRtt
import Derived.Test.YtbiidcdgcbaahaaRttRef
import Derived.WalkKit
import Derived.WalkSpells
import Derived.WalkLawsBesides
import Derived.Deep.QuietTactic
import Derived.BigQuiet
import Derived.Handy
import Derived.Lib.Hide
namespace Go.Proofs.Ytbiidcdgcbaahaa
open Go.RowKit
set_option linter.unusedVariables false

set_option maxRecDepth 100000 in
set_option maxHeartbeats 4000000 in
theorem of_some1 (g : Int) (b off n c : Nat) (l : List (Int × Int)) (w : World) (h : Answers w (some ⟨b, off, none⟩) n l) (hn0 : 0 < n) (hn : n ≤ 9223372036854775807) (h0 : 0 ≤ g) (h1 : g ≤ 18446744073709551615) (hg : Rt.hold g ≠ 0) :
    Calls Try.prog 18 #[.int .u64 g, .slice (some ⟨b, off, none⟩) n c] w fun r w' =>
      r = .returned (.agg (stCells (Rt.run (Rt.new g) l))) ∧ Below w.heap.size w w' := by
  obtain ⟨hl, hr, hc⟩ := h
  obtain ⟨b', off', he, hb, hc⟩ := hc hn0
  injection he with he
  injection he with e1 e2 _
  subst e1 e2
  have HC := Lib.hid hc
  have HL := Lib.hid hl
  have HR := Lib.hid hr
  clear hc hl hr
  have hgb := Rt.hold_bound g h0
  have H0 : Hid (stCells (Rt.new g) = #[.int .u64 (Rt.hold g), .int .u64 (Rt.hold g / 2), .int .u64 0, .int .u64 0]) := by
    unfold Hid Rt.new stCells; rw [show max 1 (Rt.hold g) = Rt.hold g by omega]
  obtain ⟨G, hG⟩ : ∃ G, Rt.hold g = G := ⟨_, rfl⟩
  rw [hG] at hgb hg H0
  have HG := Lib.hid hG
  have hG0 : (G == 0) = false := by simp; omega
  obtain ⟨hgb0, hgb1⟩ := hgb
  have hgb2 : 1 ≤ G := by omega
  clear hG hg
  go_enter Try.func18, Try.ntmps18
  go_wp2_with (go_at_call 24; refine (held_any _ _ (by omega) (by omega)).mono ?_; rintro e' w' ⟨rfl, rfl⟩; rw [HG.out])
  go_loopw [7] (fun i wr => ∃ k : Nat, k ≤ n ∧ i = .int .i64 k ∧ Obj wr (w.heap.size + 1) 31 (stCells (Rt.run (Rt.new g) (l.take k))) ∧ Obj wr w.heap.size 31 #[.int .u64 0, .int .u64 0, .int .u64 0, .int .u64 0] ∧ Below w.heap.size w wr) (fun i _ => n - (intOf i).toNat)
  case atStart =>
    refine ⟨0, by omega, rfl, ?_, ?_, ?_⟩
    · have h2 := Obj.new (w.alloc (.cells #[.int .u64 0, .int .u64 0, .int .u64 0, .int .u64 0] 31)) 31 (stCells (Rt.new g))
      simp only [World.size_alloc] at h2
      rw [H0.out] at h2
      rw [show Rt.run (Rt.new g) (l.take 0) = Rt.new g from rfl, H0.out]
      exact h2
    · exact (Obj.new w _ _).alloc _
    · exact ((Below.refl _ _).alloc (Nat.le_refl _) _).alloc (by simp) _
  case round =>
    obtain ⟨k, hk, rfl, HO, HZ, HB⟩ := hrel
    by_cases hlt : k < n
    · obtain ⟨g1, g2⟩ := HC.out k hlt
      rw [← HB.cell hb] at g1 g2
      have hkl : k < l.length := by rw [HL.out]; exact hlt
      have hr := HR.out (l.getD k (0, 0)) (by rw [List.getD_eq_getElem?_getD, List.getElem?_eq_getElem hkl]; exact List.getElem_mem hkl)
      have HT : Hid (l.take (k + 1) = l.take k ++ [l.getD k (0, 0)]) := by
        unfold Hid
        rw [List.take_succ_eq_append_getElem hkl, List.getD_eq_getElem?_getD, List.getElem?_eq_getElem hkl]; rfl
      have HSm : Hid (k ≠ 0 → (Rt.run (Rt.new g) (l.take k)).some = true) := fun h => run_some _ _ (by intro e; have := congrArg List.length e; simp only [List.length_take, List.length_nil] at this; omega)
      have hE0 : Hid (k = 0 → (Rt.run (Rt.new g) (l.take k)).some = false) := by rintro rfl; rfl
      have hok := Rt.run_ok (l.take k) (Rt.new g) (Rt.new_ok g h0) (fun x hx => ⟨(HR.out x (List.mem_of_mem_take hx)).1, (HR.out x (List.mem_of_mem_take hx)).2.2.1⟩)
      obtain ⟨E, hE⟩ : ∃ E, Rt.run (Rt.new g) (l.take k) = E := ⟨_, rfl⟩
      rw [hE] at HO HSm hE0 hok
      have HE := Lib.hid hE
      clear hE hkl
      generalize l.getD k (0, 0) = a at *
      obtain ⟨t, d⟩ := a
      obtain ⟨r1, r2, r3, r4⟩ := hr
      dsimp only at g1 g2 r1 r2 r3 r4
      obtain ⟨o0, o1, o2, o3, o4, o5, o6, o7⟩ := hok
      have c0 : wr.cell? ⟨w.heap.size + 1, 0, none⟩ = some (.int .u64 E.smooth) := HO.cell 0
      have c1 : wr.cell? ⟨w.heap.size + 1, 1, none⟩ = some (.int .u64 E.dev) := HO.cell 1
      have c2 : wr.cell? ⟨w.heap.size + 1, 2, none⟩ = some (.int .u64 E.least) := HO.cell 2
      have c3 : wr.cell? ⟨w.heap.size + 1, 3, none⟩ = some (.int .u64 E.latest) := HO.cell 3
      have z0 := HO.free 0
      have z1 := HO.free 1
      have z2 := HO.free 2
      have z3 := HO.free 3
      have bt := Rt.hold_bound t r1
      have bd := Rt.hold_bound d r3
      have HK0 : Hid (E.some = false → Rt.take E t d = ⟨Rt.hold t, Rt.hold t / 2, Rt.hold t, Rt.hold t, true⟩) := by intro h; unfold Rt.take; rw [h]; rfl
      have HK1 : Hid (E.some = true → Rt.take E t d = ⟨(7 * E.smooth + Rt.less (Rt.hold t) (Rt.hold d) (min E.least (Rt.hold t))) / 8, (3 * E.dev + Rt.far E.smooth (Rt.less (Rt.hold t) (Rt.hold d) (min E.least (Rt.hold t)))) / 4, min E.least (Rt.hold t), Rt.hold t, true⟩) := by intro h; unfold Rt.take; rw [h]; rfl
      obtain ⟨T, hT⟩ : ∃ T, Rt.hold t = T := ⟨_, rfl⟩
      obtain ⟨D, hD⟩ : ∃ D, Rt.hold d = D := ⟨_, rfl⟩
      rw [hT] at bt HK0 HK1
      rw [hD] at bd HK1
      obtain ⟨bt0, bt1⟩ := bt
      obtain ⟨bd0, bd1⟩ := bd
      by_cases hk0 : k = 0
      · subst hk0
        simp only [Nat.zero_mul, Nat.add_zero] at g1 g2
        have HK := Lib.hid (HK0.out (hE0.out rfl))
        go_wp2
        go_quiet ((go_at_call 24; exact quiet1 (held_any _ _ (by omega) (by omega))))
        go_wp2
        go_roundw
        case rel =>
          refine of_rel 0 l g t d E w wr _ HT HE HK HZ HB hlt ?_ ?_
          · apply Obj.as
            · repeat (with_reducible (first | apply Obj.set | apply Obj.drewN | apply Obj.drew))
              exact HO
            · simp [stCells]
          · repeat (with_reducible (first | apply Upd.set | apply Upd.drewN | apply Upd.drew))
            exact Upd.refl _ _
        case measure => simp [intOf]; omega
      · have hs := HSm.out hk0
        have hk0' : ((k : Int) == 0) = false := by simp; omega
        have HK2 := Lib.hid (HK1.out hs)
        clear hs
        by_cases hl : T < E.least
        · by_cases hd : T + D ≤ T
          · by_cases hx : T - D < E.smooth
            · have HK : Hid (Rt.take E t d = ⟨(7 * E.smooth + (T - D)) / 8, (3 * E.dev + (E.smooth - (T - D))) / 4, T, T, true⟩) := by
                unfold Hid; rw [HK2.out, show min E.least T = T by omega, show Rt.less T D T = T - D by unfold Rt.less; rw [if_pos hd], show Rt.far E.smooth (T - D) = E.smooth - (T - D) by unfold Rt.far; omega]
              go_wp2
              go_quiet ((go_at_call 24; exact quiet1 (held_any _ _ (by omega) (by omega))))
              go_wp2
              go_roundw
              case rel =>
                refine of_rel k l g t d E w wr _ HT HE HK HZ HB hlt ?_ ?_
                · apply Obj.as
                  · repeat (with_reducible (first | apply Obj.set | apply Obj.drewN | apply Obj.drew))
                    exact HO
                  · simp [stCells]
                · repeat (with_reducible (first | apply Upd.set | apply Upd.drewN | apply Upd.drew))
                  exact Upd.refl _ _
              case measure => simp [intOf]; omega
            · have HK : Hid (Rt.take E t d = ⟨(7 * E.smooth + (T - D)) / 8, (3 * E.dev + (T - D - E.smooth)) / 4, T, T, true⟩) := by
                unfold Hid; rw [HK2.out, show min E.least T = T by omega, show Rt.less T D T = T - D by unfold Rt.less; rw [if_pos hd], show Rt.far E.smooth (T - D) = T - D - E.smooth by unfold Rt.far; omega]
              have hx' : E.smooth ≤ T - D := by omega
              clear hx
              go_wp2
              go_quiet ((go_at_call 24; exact quiet1 (held_any _ _ (by omega) (by omega))))
              go_wp2
              go_roundw
              case rel =>
                refine of_rel k l g t d E w wr _ HT HE HK HZ HB hlt ?_ ?_
                · apply Obj.as
                  · repeat (with_reducible (first | apply Obj.set | apply Obj.drewN | apply Obj.drew))
                    exact HO
                  · simp [stCells]
                · repeat (with_reducible (first | apply Upd.set | apply Upd.drewN | apply Upd.drew))
                  exact Upd.refl _ _
              case measure => simp [intOf]; omega
          · by_cases hx : T < E.smooth
            · have HK : Hid (Rt.take E t d = ⟨(7 * E.smooth + T) / 8, (3 * E.dev + (E.smooth - T)) / 4, T, T, true⟩) := by
                unfold Hid; rw [HK2.out, show min E.least T = T by omega, show Rt.less T D T = T by unfold Rt.less; rw [if_neg hd], show Rt.far E.smooth T = E.smooth - T by unfold Rt.far; omega]
              have hd' : T < T + D := by omega
              clear hd
              go_wp2
              go_quiet ((go_at_call 24; exact quiet1 (held_any _ _ (by omega) (by omega))))
              go_wp2
              go_roundw
              case rel =>
                refine of_rel k l g t d E w wr _ HT HE HK HZ HB hlt ?_ ?_
                · apply Obj.as
                  · repeat (with_reducible (first | apply Obj.set | apply Obj.drewN | apply Obj.drew))
                    exact HO
                  · simp [stCells]
                · repeat (with_reducible (first | apply Upd.set | apply Upd.drewN | apply Upd.drew))
                  exact Upd.refl _ _
              case measure => simp [intOf]; omega
            · have HK : Hid (Rt.take E t d = ⟨(7 * E.smooth + T) / 8, (3 * E.dev + (T - E.smooth)) / 4, T, T, true⟩) := by
                unfold Hid; rw [HK2.out, show min E.least T = T by omega, show Rt.less T D T = T by unfold Rt.less; rw [if_neg hd], show Rt.far E.smooth T = T - E.smooth by unfold Rt.far; omega]
              have hd' : T < T + D := by omega
              have hx' : E.smooth ≤ T := by omega
              clear hd hx
              go_wp2
              go_quiet ((go_at_call 24; exact quiet1 (held_any _ _ (by omega) (by omega))))
              go_wp2
              go_roundw
              case rel =>
                refine of_rel k l g t d E w wr _ HT HE HK HZ HB hlt ?_ ?_
                · apply Obj.as
                  · repeat (with_reducible (first | apply Obj.set | apply Obj.drewN | apply Obj.drew))
                    exact HO
                  · simp [stCells]
                · repeat (with_reducible (first | apply Upd.set | apply Upd.drewN | apply Upd.drew))
                  exact Upd.refl _ _
              case measure => simp [intOf]; omega
        · by_cases hd : E.least + D ≤ T
          · by_cases hx : T - D < E.smooth
            · have HK : Hid (Rt.take E t d = ⟨(7 * E.smooth + (T - D)) / 8, (3 * E.dev + (E.smooth - (T - D))) / 4, E.least, T, true⟩) := by
                unfold Hid; rw [HK2.out, show min E.least T = E.least by omega, show Rt.less T D E.least = T - D by unfold Rt.less; rw [if_pos hd], show Rt.far E.smooth (T - D) = E.smooth - (T - D) by unfold Rt.far; omega]
              have hl' : E.least ≤ T := by omega
              clear hl
              go_wp2
              go_quiet ((go_at_call 24; exact quiet1 (held_any _ _ (by omega) (by omega))))
              go_wp2
              go_roundw
              case rel =>
                refine of_rel k l g t d E w wr _ HT HE HK HZ HB hlt ?_ ?_
                · apply Obj.as
                  · repeat (with_reducible (first | apply Obj.set | apply Obj.drewN | apply Obj.drew))
                    exact HO
                  · simp [stCells]
                · repeat (with_reducible (first | apply Upd.set | apply Upd.drewN | apply Upd.drew))
                  exact Upd.refl _ _
              case measure => simp [intOf]; omega
            · have HK : Hid (Rt.take E t d = ⟨(7 * E.smooth + (T - D)) / 8, (3 * E.dev + (T - D - E.smooth)) / 4, E.least, T, true⟩) := by
                unfold Hid; rw [HK2.out, show min E.least T = E.least by omega, show Rt.less T D E.least = T - D by unfold Rt.less; rw [if_pos hd], show Rt.far E.smooth (T - D) = T - D - E.smooth by unfold Rt.far; omega]
              have hl' : E.least ≤ T := by omega
              have hx' : E.smooth ≤ T - D := by omega
              clear hl hx
              go_wp2
              go_quiet ((go_at_call 24; exact quiet1 (held_any _ _ (by omega) (by omega))))
              go_wp2
              go_roundw
              case rel =>
                refine of_rel k l g t d E w wr _ HT HE HK HZ HB hlt ?_ ?_
                · apply Obj.as
                  · repeat (with_reducible (first | apply Obj.set | apply Obj.drewN | apply Obj.drew))
                    exact HO
                  · simp [stCells]
                · repeat (with_reducible (first | apply Upd.set | apply Upd.drewN | apply Upd.drew))
                  exact Upd.refl _ _
              case measure => simp [intOf]; omega
          · by_cases hx : T < E.smooth
            · have HK : Hid (Rt.take E t d = ⟨(7 * E.smooth + T) / 8, (3 * E.dev + (E.smooth - T)) / 4, E.least, T, true⟩) := by
                unfold Hid; rw [HK2.out, show min E.least T = E.least by omega, show Rt.less T D E.least = T by unfold Rt.less; rw [if_neg hd], show Rt.far E.smooth T = E.smooth - T by unfold Rt.far; omega]
              have hl' : E.least ≤ T := by omega
              have hd' : T < E.least + D := by omega
              clear hl hd
              go_wp2
              go_quiet ((go_at_call 24; exact quiet1 (held_any _ _ (by omega) (by omega))))
              go_wp2
              go_roundw
              case rel =>
                refine of_rel k l g t d E w wr _ HT HE HK HZ HB hlt ?_ ?_
                · apply Obj.as
                  · repeat (with_reducible (first | apply Obj.set | apply Obj.drewN | apply Obj.drew))
                    exact HO
                  · simp [stCells]
                · repeat (with_reducible (first | apply Upd.set | apply Upd.drewN | apply Upd.drew))
                  exact Upd.refl _ _
              case measure => simp [intOf]; omega
            · have HK : Hid (Rt.take E t d = ⟨(7 * E.smooth + T) / 8, (3 * E.dev + (T - E.smooth)) / 4, E.least, T, true⟩) := by
                unfold Hid; rw [HK2.out, show min E.least T = E.least by omega, show Rt.less T D E.least = T by unfold Rt.less; rw [if_neg hd], show Rt.far E.smooth T = T - E.smooth by unfold Rt.far; omega]
              have hl' : E.least ≤ T := by omega
              have hd' : T < E.least + D := by omega
              have hx' : E.smooth ≤ T := by omega
              clear hl hd hx
              go_wp2
              go_quiet ((go_at_call 24; exact quiet1 (held_any _ _ (by omega) (by omega))))
              go_wp2
              go_roundw
              case rel =>
                refine of_rel k l g t d E w wr _ HT HE HK HZ HB hlt ?_ ?_
                · apply Obj.as
                  · repeat (with_reducible (first | apply Obj.set | apply Obj.drewN | apply Obj.drew))
                    exact HO
                  · simp [stCells]
                · repeat (with_reducible (first | apply Upd.set | apply Upd.drewN | apply Upd.drew))
                  exact Upd.refl _ _
              case measure => simp [intOf]; omega
    · obtain rfl : k = n := by omega
      rw [List.take_of_length_le (by rw [HL.out]; omega)] at HO
      obtain ⟨E, hE⟩ : ∃ E, Rt.run (Rt.new g) l = E := ⟨_, rfl⟩
      rw [hE] at HO
      have HE := Lib.hid hE
      clear hE hlt
      have c0 : wr.cell? ⟨w.heap.size + 1, 0, none⟩ = some (.int .u64 E.smooth) := HO.cell 0
      have c1 : wr.cell? ⟨w.heap.size + 1, 1, none⟩ = some (.int .u64 E.dev) := HO.cell 1
      have c2 : wr.cell? ⟨w.heap.size + 1, 2, none⟩ = some (.int .u64 E.least) := HO.cell 2
      have c3 : wr.cell? ⟨w.heap.size + 1, 3, none⟩ = some (.int .u64 E.latest) := HO.cell 3
      have y0 : wr.cell? ⟨w.heap.size, 0, none⟩ = some (.int .u64 0) := HZ.cell 0
      have y1 : wr.cell? ⟨w.heap.size, 1, none⟩ = some (.int .u64 0) := HZ.cell 1
      have y2 : wr.cell? ⟨w.heap.size, 2, none⟩ = some (.int .u64 0) := HZ.cell 2
      have y3 : wr.cell? ⟨w.heap.size, 3, none⟩ = some (.int .u64 0) := HZ.cell 3
      have z0 := HZ.free 0
      have z1 := HZ.free 1
      have z2 := HZ.free 2
      have z3 := HZ.free 3
      go_wp2
      refine bodyPost_ret (v := .agg (stCells E)) (by simp [results, Try.results18, stCells, go_sem, y0, y1, y2, y3]) rfl ⟨by rw [HE.out], ?_⟩
      exact (((HB.setCell (Nat.le_refl _) _).setCell (Nat.le_refl _) _).setCell (Nat.le_refl _) _).setCell (Nat.le_refl _) _

end Go.Proofs.Ytbiidcdgcbaahaa
