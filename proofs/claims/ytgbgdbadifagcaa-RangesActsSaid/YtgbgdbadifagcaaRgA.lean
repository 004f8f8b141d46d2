/- Layer 13's ranges, walked: Add. -/
import Derived.Test.YtgbgdbadifagcaaRows
import Derived.Test.YtgbgdbadifagcaaAid
import Derived.Test.YtgbgdbadifagcaaPlainRg
import Derived.Test.YtgbgdbadifagcaaPlainRg2
import Derived.Test.YtgbgdbadifagcaaRgW
import Derived.Test.YtgbgdbadifagcaaRgX
import Derived.Test.YtgbgdbadifagcaaRgI
import Derived.Test.YtgbgdbadifagcaaRgJ
import Derived.Test.YtgbgdbadifagcaaRgF
import Derived.WalkKit
import Derived.Laws.Rows
import Derived.Laws.Tables
import Derived.WalkSpells
import Derived.WalkLawsBesides
import Derived.Handy
import Derived.StillTailTactics
import Derived.Lib.Hide
import Derived.IntWalk
namespace Go.Proofs.Ytgbgdbadifagcaa
open Go.RowKit Go.Shelf Go.Lib Go.Sort
set_option linter.unusedVariables false
set_option linter.unusedSimpArgs false

theorem join_prev (a g r old : Nat) (l : List Rg.R) (w : World) (hS : St w a g l old) (hi : r ≤ l.length + 1) (hl : l.length ≤ 1000) (hm : ∀ r ∈ l, r.2 ≤ 4611686018427387903) :
    Calls Try.prog 23 #[.pointer (some ⟨a, 0, none⟩), .int .i64 ((r : Int) - 1)] w fun e w' => e = .returned (.tuple #[]) ∧ St w' a g (if r = 0 then l else Rg.join l (r - 1)) old ∧ Upd2 a g w w' := by
  rcases Nat.eq_zero_or_pos r with rfl | h
  · refine (join_neg a w).mono ?_
    rintro e w' ⟨rfl, q, rfl⟩
    exact ⟨rfl, hS, (Upd2.refl _ _ _).drewN _⟩
  · have := join_any a g (r - 1) old l w hS (by omega) hl hm
    rw [show ((r - 1 : Nat) : Int) = (r : Int) - 1 by omega] at this
    rwa [if_neg (by omega)]

set_option maxHeartbeats 4000000 in
theorem add_any (a g n : Nat) (s : Rg.S) (w : World) (hS : St w a g s.l s.old) (hk : Rg.Ok s) (hg : g < w.heap.size) :
    Calls Try.prog 9 #[.pointer (some ⟨a, 0, none⟩), u64v n] w fun e w' => ∃ g', e = .returned (.bool (Rg.add n s).1) ∧ St w' a g' (Rg.add n s).2.l (Rg.add n s).2.old ∧ g' < w'.heap.size ∧ (g' = g ∨ w.heap.size ≤ g') ∧ Upd2 a g w w' := by
  have hlen := hk.len
  have HOLD := Lib.hid (fun W hW => old_any a g n s.old s.l W hW)
  have HHAS := Lib.hid (fun W hW => has_any a g n s.old s.l W hW hk.norm (by omega))
  by_cases h1 : 4611686018427387903 < n
  · have HA : Hid (Rg.add n s = (false, s)) := Rg.add_no hk (Or.inl h1)
    have HS := Lib.hid hS
    have h1' : decide ((4611686018427387903 : Int) < (n : Int)) = true := by simp; omega
    clear hS hk
    unfold u64v
    go_enter Try.func9, Try.ntmps9
    go_wp2
    go_ret
    rw [HA.out]
    exact ⟨g, rfl, HS.out, hg, Or.inl rfl, Upd2.refl _ _ _⟩
  have h1' : decide ((4611686018427387903 : Int) < (n : Int)) = false := by simp; omega
  by_cases h2 : n < s.old
  · have HA : Hid (Rg.add n s = (false, s)) := Rg.add_no hk (Or.inr (Or.inl h2))
    have HS := Lib.hid hS
    have h2' : decide (n < s.old) = true := by simpa using h2
    rw [h2'] at HOLD
    clear hS hk h2'
    unfold u64v at *
    go_enter Try.func9, Try.ntmps9
    go_wp2_with fail
    refine (HOLD.out _ HS.out).mono ?_
    rintro e w1 ⟨rfl, rfl⟩
    go_wp2
    go_ret
    rw [HA.out]
    exact ⟨g, rfl, HS.out, hg, Or.inl rfl, Upd2.refl _ _ _⟩
  have h2' : decide (n < s.old) = false := by simpa using h2
  by_cases h3 : Rg.has n s.l = true
  · have HA : Hid (Rg.add n s = (false, s)) := Rg.add_no hk (Or.inr (Or.inr ((Rg.has_iff hk.norm n).1 h3)))
    have HS := Lib.hid hS
    rw [h2'] at HOLD
    rw [h3] at HHAS
    clear hS hk h2' h3
    unfold u64v at *
    go_enter Try.func9, Try.ntmps9
    go_wp2_with fail
    refine (HOLD.out _ HS.out).mono ?_
    rintro e w1 ⟨rfl, rfl⟩
    go_wp2_with fail
    refine (HHAS.out _ HS.out).mono ?_
    rintro e w2 ⟨rfl, hb2⟩
    have HB := Lib.hid hb2
    clear hb2
    go_wp2
    go_ret
    rw [HA.out]
    exact ⟨g, rfl, HS.out.kept HB.out, Nat.lt_of_lt_of_le hg HB.out.size, Or.inl rfl, Upd2.below HB.out _ _⟩
  have hh : ¬ (Rg.top < n ∨ n < s.old ∨ Rg.has n s.l = true) := by
    rintro (h' | h' | h')
    · unfold Rg.top at h'; omega
    · omega
    · exact h3 h'
  have hadd : Rg.add n s = if (Rg.addL n s.l).length = 17 then (true, ⟨Rg.cutL (Rg.last n s) (Rg.addL n s.l), max s.old (Rg.last n s + 1)⟩) else (true, ⟨Rg.addL n s.l, s.old⟩) := by
    unfold Rg.add; rw [if_neg hh]; rfl
  have hnm : ¬ Rg.mem n s.l := fun h' => h3 ((Rg.has_iff hk.norm n).2 h')
  obtain ⟨a1, a2, a3⟩ := Rg.addL_spec hk.norm hnm
  have hhi : ∀ r ∈ s.l, r.2 ≤ 4611686018427387903 := hk.hi
  obtain ⟨r, hr⟩ : ∃ r, Rg.find n s.l = r := ⟨_, rfl⟩
  have hrl : r ≤ s.l.length := by rw [← hr]; exact Rg.find_le n s.l
  have HFIND := Lib.hid (fun W hW => find_any a g n s.old s.l W hW hk.norm (by omega))
  have hil : (Rg.ins n s.l).length = s.l.length + 1 := Rg.ins_len n s.l
  have hi2 : ∀ q ∈ Rg.ins n s.l, q.2 ≤ 4611686018427387903 := Rg.ins_le hhi (by omega)
  have hjl := Rg.join_len (Rg.ins n s.l) r
  have hj2 : ∀ q ∈ Rg.join (Rg.ins n s.l) r, q.2 ≤ 4611686018427387903 := Rg.join_le hi2
  have HINS := Lib.hid (fun W v g vb (hR : RowR W v g s.l) (hV : Obj W vb 41 #[u64v n, u64v n]) (hne : vb ≠ g) => insert_any g vb r v s.l (n, n) W hR hrl (by omega) hV hne)
  have HJ1 := Lib.hid (fun W g (hW : St W a g (Rg.ins n s.l) s.old) => join_any a g r s.old (Rg.ins n s.l) W hW (by omega) (by omega) hi2)
  have HJ2 := Lib.hid (fun W g (hW : St W a g (Rg.join (Rg.ins n s.l) r) s.old) => join_prev a g r s.old (Rg.join (Rg.ins n s.l) r) W hW (by have : r ≤ s.l.length := hrl; unfold Rg.join; split; (rw [List.length_eraseIdx]; simp; split <;> omega); omega) (by omega) hj2)
  have hins : s.l.take r ++ (n, n) :: s.l.drop r = Rg.ins n s.l := by unfold Rg.ins; rw [hr]
  have haddL : (if r = 0 then Rg.join (Rg.ins n s.l) r else Rg.join (Rg.join (Rg.ins n s.l) r) (r - 1)) = Rg.addL n s.l := by unfold Rg.addL; rw [hr]
  have HADDL := Lib.hid haddL
  have HSI := Lib.hid hins
  have h3' : Rg.has n s.l = false := by simpa using h3
  rw [h2'] at HOLD
  rw [h3'] at HHAS
  rw [hr] at HFIND
  have HS := Lib.hid hS
  have HADD := Lib.hid hadd
  have hl3 : (Rg.addL n s.l).length ≤ 17 := by omega
  have hl3m : ∀ q ∈ Rg.addL n s.l, q.2 ≤ 4611686018427387903 := by
    rw [← haddL]; split
    · exact Rg.join_le hi2
    · exact Rg.join_le hj2
  have HLA : Hid (Rg.last n s = ((Rg.addL n s.l).getD 16 (0, 0)).2) := rfl
  have HFOR : Hid ((Rg.addL n s.l).length = 17 → ∀ W g, St W a g (Rg.addL n s.l) s.old → Calls Try.prog 14 #[.pointer (some ⟨a, 0, none⟩), .int .u64 (Rg.last n s : Int)] W fun e w' => e = .returned (.int .i64 (((Rg.addL n s.l).length - Rg.findH (Rg.last n s) (Rg.addL n s.l) : Nat) : Int)) ∧ St w' a g (Rg.cutL (Rg.last n s) (Rg.addL n s.l)) (max s.old (Rg.last n s + 1)) ∧ Upd2 a g W w') := fun h17 W g hW => by
    have h : Rg.last n s ≤ 4611686018427387903 := hl3m _ (Rg.getD_mem (i := 16) (by omega))
    exact forget_any a g (Rg.last n s) s.old (Rg.addL n s.l) W hW a1 (by omega) hk.oldle (Rg.last n s) (by omega)
  have hr16 : r ≤ 16 := by omega
  have hwr : IntKind.i64.wrap ((r : Int) - 1) = (r : Int) - 1 := by rw [IntKind.wrap_i64]; omega
  have HNE : Hid (Rg.ins n s.l ≠ []) := fun h => by rw [h] at hil; simp at hil
  have HA1 := Lib.hid a1
  have HI2 := Lib.hid hi2
  have HL3 : Hid ((Rg.addL n s.l).length ≤ 17) := by unfold Hid; omega
  have HOO : Hid (s.old ≤ 4611686018427387904) := hk.oldle
  rw [hins] at HINS
  rw [haddL] at HJ2
  clear hS hadd a1 a2 a3 hi2 hj2 hjl hins haddL hr hnm hh hhi h2' h3 h3' hk hil hlen h1 h2 HSI HADDL
  unfold u64v at HOLD HHAS HFIND HINS
  generalize Rg.ins n s.l = L1 at *
  generalize Rg.join L1 r = L2 at *
  generalize Rg.last n s = la at *
  generalize hadl : Rg.addL n s.l = L3 at *
  generalize Rg.add n s = RES at *
  unfold u64v
  go_enter Try.func9, Try.ntmps9
  go_wp2_with fail
  refine (HOLD.out _ HS.out).mono ?_
  rintro e w1 ⟨rfl, rfl⟩
  go_wp2_with fail
  refine (HHAS.out _ HS.out).mono ?_
  rintro e w2 ⟨rfl, hb2⟩
  have HS2 := Lib.hid (HS.out.kept hb2)
  go_wp2_with fail
  refine (HFIND.out _ HS2.out).mono ?_
  rintro e w3 ⟨rfl, hb3⟩
  have HB3 := Lib.hid (hb2.trans (hb3.mono hb2.size))
  obtain ⟨v, hO3, hR3⟩ := HS2.out.kept hb3
  have f0 : w3.cell? ⟨a, 0, none⟩ = some v := by rw [hO3.cell]; rfl
  have HO3 := Lib.hid hO3
  have HR3 := Lib.hid hR3
  have z0 := hO3.free 0
  clear hb2 hb3 HS2 hO3 hR3
  go_wp2_with fail
  obtain ⟨gg, hgg, hga, hgn, hRg⟩ : ∃ gg, (gg = g ∨ w3.heap.size ≤ gg) ∧ gg ≠ a ∧ gg ≠ w3.heap.size ∧ RowR w3 v gg s.l := by
    have hal := HO3.out.lt
    have hg3 := Nat.lt_of_lt_of_le hg HB3.out.size
    rcases HR3.out.ne HO3.out with ⟨h1, h2⟩ | h1
    · exact ⟨w3.heap.size + 1, Or.inr (by omega), by omega, by omega, Or.inl ⟨h1, h2⟩⟩
    · exact ⟨g, Or.inl rfl, h1, by omega, HR3.out⟩
  refine (HINS.out _ v gg w3.heap.size (hRg.kept ((Below.refl _ w3).alloc (Nat.le_refl _) _)) (Obj.new w3 _ _) (fun h => hgn h.symm)).mono ?_
  rintro e w4 ⟨v4, g4, rfl, hR4, hg4, hU4⟩
  have hO4 := (HO3.out.alloc (.cells #[.int .u64 (n : Int), .int .u64 (n : Int)] 41)).upd hU4 (fun h => hga h.symm)
  obtain ⟨base, c4, rfl, _, _⟩ := hR4.nilOr
  have f4 : w4.cell? ⟨a, 0, none⟩ = some v := by rw [hO4.cell]; rfl
  have z4 := hO4.free 0
  have HG4 : Hid (g4 = g ∨ w.heap.size ≤ g4) := by
    have := HB3.out.size
    rcases hg4 with h | h
    · rcases hgg with h' | h'
      · exact Or.inl (h.trans h')
      · exact Or.inr (by omega)
    · exact Or.inr (by simp at h; omega)
  have HU4 : Hid (Upd2 a g w w4) := by
    have hb : Below w.heap.size w (w3.alloc (.cells #[.int .u64 (n : Int), .int .u64 (n : Int)] 41)) := HB3.out.alloc HB3.out.size _
    refine ⟨hU4.os.trans hb.os, hU4.tape.trans hb.tape, hU4.output.trans hb.output, Nat.le_trans hb.size hU4.size, fun k hk h1 h2 => ?_⟩
    refine (hU4.block k (Nat.lt_of_lt_of_le hk hb.size) ?_).trans (hb.block k hk)
    rcases hgg with h' | h'
    · rw [h']; exact h2
    · have := HB3.out.size; omega
  have HL4 : Hid (g4 < w4.heap.size) := hR4.lt HNE.out
  have HO4 := Lib.hid hO4
  have HR4 := Lib.hid hR4
  clear hR4 hg4 hU4 hO4 hgg hga hgn hRg f0 z0 HO3 HR3
  generalize L1.length = m1 at *
  go_wp2_with fail
  have hu5 : Upd a w4 (w4.setCell ⟨a, 0, none⟩ (.slice base m1 c4)) := (Upd.refl a w4).set _ _
  refine (HJ1.out _ g4 ⟨.slice base m1 c4, (HO4.out.set 0 _).as rfl, HR4.out.updA HO4.out hu5⟩).mono ?_
  rintro e w6 ⟨rfl, hS6, hU6⟩
  have HU6 := Lib.hid ((HU4.out.trans (Upd2.left hu5 g) (Or.inl rfl)).trans hU6 (by rcases HG4.out with h | h; exact Or.inl h; exact Or.inr h))
  have HL6 : Hid (g4 < w6.heap.size) := Nat.lt_of_lt_of_le HL4.out (Nat.le_trans hu5.size hU6.size)
  have HS6 := Lib.hid hS6
  clear hS6 hU6 hu5 HU4 HL4 HO4 HR4 f4 z4
  go_wp2_with fail
  refine (HJ2.out _ g4 HS6.out).mono ?_
  rintro e w7 ⟨rfl, hS7, hU7⟩
  have HU7 := Lib.hid (HU6.out.trans hU7 (by rcases HG4.out with h | h; exact Or.inl h; exact Or.inr h))
  have HL7 : Hid (g4 < w7.heap.size) := Nat.lt_of_lt_of_le HL6.out hU7.size
  have HS7 := Lib.hid hS7
  obtain ⟨v7, hO7, hR7⟩ := hS7
  clear HS6 HU6 HL6 hU7
  by_cases h17 : L3.length = 17
  · obtain ⟨c7, rfl, g1, g2⟩ := hR7.cells (i := 16) (by omega)
    have f7 : w7.cell? ⟨a, 0, none⟩ = some (.slice (some ⟨g4, 0, none⟩) 17 c7) := by rw [hO7.cell, h17]; rfl
    rw [← HLA.out] at g2
    have HF7 := Lib.hid (HFOR.out h17 w7 g4 HS7.out)
    have HR : Hid (RES = (true, ⟨Rg.cutL la L3, max s.old (la + 1)⟩)) := by
      unfold Hid; rw [HADD.out, if_pos h17]
    unfold u64v at g2
    clear hO7 hR7 g1 h17 HADD HFOR
    go_wp2_with fail
    refine HF7.out.mono ?_
    rintro e w8 ⟨rfl, hS8, hU8⟩
    have HS8 := Lib.hid hS8
    have HU8 := Lib.hid hU8
    clear hS8 hU8
    go_wp2
    go_ret
    rw [HR.out]
    exact ⟨g4, rfl, HS8.out, Nat.lt_of_lt_of_le HL7.out HU8.out.size, HG4.out, HU7.out.trans HU8.out (by rcases HG4.out with h | h; exact Or.inl h; exact Or.inr h)⟩
  · obtain ⟨base7, c7, rfl, _, _⟩ := hR7.nilOr
    have f7 : w7.cell? ⟨a, 0, none⟩ = some (.slice base7 L3.length c7) := by rw [hO7.cell]; rfl
    have HR : Hid (RES = (true, ⟨L3, s.old⟩)) := by
      unfold Hid; rw [HADD.out, if_neg h17]
    have h16 : ¬ (L3.length : Int) - 1 = 16 := by omega
    have hl17 : L3.length ≤ 17 := HL3.out
    clear hO7 hR7 h17 HADD HFOR
    generalize L3.length = m3 at *
    go_wp2
    go_ret
    rw [HR.out]
    exact ⟨g4, rfl, HS7.out, HL7.out, HG4.out, HU7.out⟩
end Go.Proofs.Ytgbgdbadifagcaa
