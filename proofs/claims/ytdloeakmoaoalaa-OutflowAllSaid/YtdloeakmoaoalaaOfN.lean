/- Layer 17's outflow, walked: Next. -/
import Derived.Test.YtdloeakmoaoalaaRows
import Derived.Test.YtdloeakmoaoalaaAid
import Derived.Test.YtdloeakmoaoalaaPlainOf
import Derived.Test.YtdloeakmoaoalaaOfW
import Derived.Test.YtdloeakmoaoalaaOfX
import Derived.Test.YtdloeakmoaoalaaOfA
import Derived.Test.YtdloeakmoaoalaaOfB
import Derived.Test.YtdloeakmoaoalaaOfC
import Derived.Test.YtdloeakmoaoalaaOfD
import Derived.Test.YtdloeakmoaoalaaOfE
import Derived.Test.YtdloeakmoaoalaaOfM
import Derived.WalkKit
import Derived.OwnWalk
import Derived.Laws.Rows
import Derived.Laws.Tables
import Derived.WalkSpells
import Derived.WalkLawsBesides
import Derived.BigQuiet
import Derived.Handy
import Derived.Lib.Hide
import Derived.IntWalk
namespace Of
theorem due_le (x : B) (many : Nat) : (due x many).1 ≤ (due x many).2.1 ∧ (due x many).2.1 ≤ x.s.length := by
  unfold due
  simp only
  have h1 := fst_le 2 x.s
  have h2 := runs_le 2 (x.s.drop (fst 2 x.s)) many
  have h3 := fst_le 0 (x.s.take (openB x))
  have h4 := runs_le 0 ((x.s.take (openB x)).drop (fst 0 (x.s.take (openB x)))) many
  rw [List.length_drop] at h2 h4
  rw [List.length_take] at h3 h4
  split
  · exact ⟨by simp, by simp only; omega⟩
  · split
    · exact ⟨by simp, by simp only; omega⟩
    · split
      · exact ⟨Nat.le_refl _, Nat.le_refl _⟩
      · exact ⟨Nat.le_refl _, Nat.zero_le _⟩
end Of
namespace Go.Proofs.Ytdloeakmoaoalaa
open Go.RowKit
set_option linter.unusedVariables false
set_option linter.unusedSimpArgs false

/-- What Next gives. -/
def outB (x : Of.B) (many : Nat) : List Nat := (x.b.drop (Of.due x many).1).take ((Of.due x many).2.1 - (Of.due x many).1)

set_option maxHeartbeats 4000000 in
theorem next_any (a gb gs many : Nat) (x : Of.B) (w : World) (h : Bf w a gb gs x) (hok : Of.Ok x) (hm0 : 0 < many) (hm : many ≤ 9223372036854775807) :
    Calls Try.prog 12 #[.pointer (some ⟨a, 0, none⟩), .int .i64 (many : Int)] w fun e w' => ∃ v, e = .returned (.tuple #[.int .u64 ((Of.due x many).1 : Nat), v, .bool (Of.due x many).2.2.1, .bool (Of.due x many).2.2.2])
      ∧ w'.ownsRow w.heap.size 5 1 v (outB x many).length ((outB x many).map b8) ∧ Bf w' a gb gs (Of.next x many) ∧ Upd3 a gb gs w w' := by
  obtain ⟨vb, vs, hO, hb, hs, hsep⟩ := id h
  obtain ⟨hd1, hd2⟩ := Of.due_le x many
  have hdue := due_any a gb gs many x w h hok hm
  have hN : Hid (Of.next x many = { x with s := Of.setR x.s (Of.due x many).1 (Of.due x many).2.1 1, en := if (Of.due x many).2.2.1 then 1 else x.en }) := by
    unfold Hid Of.next; rw [if_neg (by omega)]
  have hOB : outB x many = (x.b.drop (Of.due x many).1).take ((Of.due x many).2.1 - (Of.due x many).1) := rfl
  generalize outB x many = OB at *
  generalize Of.due x many = D at *
  obtain ⟨at_, to, en1, ok1⟩ := D
  simp only at hd1 hd2 hN hOB
  unfold dueV at hdue
  have HD := Lib.hid hdue
  have hsl : x.s.length ≤ 2000 := by have := hok.len; have := hok.cap; omega
  have hbl : x.b.length = x.s.length := hok.len.symm
  obtain ⟨bs, cs, rfl, hlcs, hcms, _, _⟩ := hs.form
  obtain ⟨bb, cb, rfl, hlcb, hcmb, hfb, _⟩ := hb.form
  have hcbi : cb ≤ 9223372036854775807 := by simp only [maxLen] at hcmb; omega
  have hcsi : cs ≤ 9223372036854775807 := by simp only [maxLen] at hcms; omega
  have hbs1 : 0 < x.s.length → bs = some ⟨gs, 0, none⟩ := fun hl => by
    rcases hs with ⟨_, h⟩ | ⟨c', rest, h1, _⟩
    · rw [h] at hl; simp at hl
    · cases h1; rfl
  have hags : 0 < x.s.length → gs ≠ a := fun hl => by
    rcases hs.ne hO with ⟨_, h⟩ | h
    · rw [h] at hl; simp at hl
    · exact h
  have hgbs : 0 < x.s.length → gb ≠ gs := fun hl => by
    rcases hsep with h' | h' | h'
    · rcases hb with ⟨_, h⟩ | ⟨c', rest, h1, _⟩
      · rw [h] at hbl; simp at hbl; omega
      · rw [h1] at h'; cases h'
    · rw [hbs1 hl] at h'; cases h'
    · exact h'
  -- the loop's state
  let R : Nat → World → Prop := fun k wr => Obj wr a 63 #[.slice bb x.b.length cb, .slice bs x.s.length cs, .bool x.fin, b8 x.en, .int .u64 (x.lim : Int)] ∧ RowB wr (.slice bb x.b.length cb) gb x.b ∧ RowB wr (.slice bs x.s.length cs) gs (Of.setR x.s at_ k 1) ∧ Upd3 a gb gs w wr
  have hR0 : ∀ q, R at_ (w.drewN q) := fun q => ⟨hO.drewN q, hb.kept (below_draws w q), by rw [Of.setR_none]; exact hs.kept (below_draws w q), Upd3.below (below_draws w q) _ _ _⟩
  have hR1 : ∀ k wr, R k wr → at_ ≤ k → k < to → bs = some ⟨gs, 0, none⟩ ∧ wr.cell? ⟨a, 1, none⟩ = some (.slice bs x.s.length cs) ∧ wr.frozen? ⟨gs, k, none⟩ = false ∧ (∃ v, wr.cell? ⟨gs, k, none⟩ = some v) ∧ R (k + 1) (wr.setCell ⟨gs, k, none⟩ (.int .u8 1)) := by
    rintro k wr ⟨r1, r2, r3, r4⟩ h1 h2
    have hl : 0 < x.s.length := by omega
    obtain ⟨bs', cs', hbc, _, _, _, hcell⟩ := r3.form
    have hl2 : 0 < (Of.setR x.s at_ k 1).length := by rw [Of.setR_len]; exact hl
    refine ⟨hbs1 hl, by rw [r1.cell]; rfl, r3.free hl2 k, ⟨_, (hcell k (by rw [Of.setR_len]; omega)).2⟩, ?_, ?_, ?_, ?_⟩
    · exact r1.upd ((Upd.refl gs wr).set _ _) (fun e => hags hl e.symm)
    · exact r2.upd ((Upd.refl gs wr).set _ _) (hgbs hl)
    · have := RowB.set (w := wr) (g := gs) (c := cs) (base := bs) (l := Of.setR x.s at_ k 1) (by rw [Of.setR_len]; exact r3) (i := k) (by rw [Of.setR_len]; omega) 1
      rw [Of.setR_set _ _ _ _ h1 (by omega), Of.setR_len] at this
      exact this
    · exact r4.trans (Upd3.three ((Upd.refl gs wr).set _ _) a gb)
  have hR2 : ∀ wr, R to wr → wr.cell? ⟨a, 0, none⟩ = some (.slice bb x.b.length cb) ∧ wr.frozen? ⟨a, 3, none⟩ = false ∧ wr.cell? ⟨a, 3, none⟩ = some (b8 x.en) ∧ (wr.setCell ⟨a, 3, none⟩ (.int .u8 1)).cell? ⟨a, 0, none⟩ = some (.slice bb x.b.length cb)
      ∧ (en1 = false → Bf wr a gb gs (Of.next x many) ∧ Rb wr bb x.b ∧ Upd3 a gb gs w wr) ∧ (en1 = true → Bf (wr.setCell ⟨a, 3, none⟩ (.int .u8 1)) a gb gs (Of.next x many) ∧ Rb (wr.setCell ⟨a, 3, none⟩ (.int .u8 1)) bb x.b ∧ Upd3 a gb gs w (wr.setCell ⟨a, 3, none⟩ (.int .u8 1))) := by
    rintro wr ⟨r1, r2, r3, r4⟩
    have hu : Upd a wr (wr.setCell ⟨a, 3, none⟩ (.int .u8 1)) := (Upd.refl a wr).set _ _
    have hO2 : Obj (wr.setCell ⟨a, 3, none⟩ (.int .u8 1)) a 63 #[.slice bb x.b.length cb, .slice bs x.s.length cs, .bool x.fin, b8 1, .int .u64 (x.lim : Int)] := (r1.set 3 _).as rfl
    have r2' := r2.updA r1 hu
    refine ⟨by rw [r1.cell]; rfl, r1.free 3, by rw [r1.cell]; rfl, by rw [hO2.cell]; rfl, fun e => ?_, fun e => ?_⟩
    · subst e
      refine ⟨?_, r2.rb, r4⟩
      rw [hN.out]
      exact ⟨_, _, r1, r2, r3, hsep⟩
    · subst e
      refine ⟨?_, r2'.rb, r4.trans (Upd3.one hu gb gs)⟩
      rw [hN.out]
      exact ⟨_, _, hO2, r2', r3.updA r1 hu, hsep⟩
  have HR0 : Hid (∀ q, R at_ (w.drewN q)) := hR0
  have HR1 : Hid (∀ k wr, R k wr → at_ ≤ k → k < to → _) := hR1
  have HR2 : Hid (∀ wr, R to wr → _) := hR2
  have HB0 : Hid ((bb = none ∧ to = 0) ∨ bb = some ⟨gb, 0, none⟩) := by
    rcases hfb with ⟨h0, h, _⟩ | h
    · refine Or.inl ⟨h0, ?_⟩
      rw [h] at hbl; simp at hbl; omega
    · exact Or.inr h
  have HOB : Hid (OB = (x.b.drop at_).take (to - at_) ∧ OB.length = to - at_ ∧ to ≤ x.b.length) := ⟨hOB, by rw [hOB, List.length_take, List.length_drop]; omega, by omega⟩
  have HSUB : Hid (∀ w', Rb w' (some ⟨gb, 0, none⟩) x.b → Rb w' (some ⟨gb, at_, none⟩) OB) := fun w' hr hp => by
    have hl := HOB.out.2
    obtain ⟨B, off, e, hlt, hc⟩ := hr (by omega)
    cases e
    refine ⟨gb, at_, rfl, hlt, fun i hi => ?_⟩
    have := hc (at_ + i) (by omega)
    rw [Nat.zero_add] at this
    rw [this]
    congr 2
    rw [HOB.out.1, List.getD_eq_getElem?_getD, List.getD_eq_getElem?_getD, List.getElem?_take, if_pos (by omega), List.getElem?_drop]
  clear hO hb hs hsep hdue hN hOB hR0 hR1 hR2 hfb hbs1 hags hgbs h hok
  rw [hbl] at *
  clear_value R
  generalize x.s.length = m at *
  go_enter Try.func12, Try.ntmps12
  go_wp2_with fail
  refine HD.out.mono ?_
  rintro e w1 ⟨rfl, q, rfl⟩
  go_wp2
  go_loopw [12] (fun i wr => ∃ k : Nat, at_ ≤ k ∧ k ≤ to ∧ i = .int .i64 k ∧ R k wr) (fun i _ => to - (intOf i).toNat)
  case atStart => exact ⟨at_, Nat.le_refl _, hd1, rfl, HR0.out _⟩
  case round =>
    obtain ⟨k, hk1, hk2, rfl, hRk⟩ := hrel
    by_cases hlt : k < to
    · obtain ⟨rfl, f1, z1, ⟨v, f2⟩, hRn⟩ := HR1.out k wr hRk hk1 hlt
      have HRN := Lib.hid hRn
      clear hRn hRk
      go_wp2
      go_roundw
      case rel => exact ⟨k + 1, by omega, by omega, by go_num, HRN.out⟩
      case measure => simp [intOf]; omega
    · obtain rfl : to = k := by omega
      obtain ⟨f0, z3, c3, f0', hE0, hE1⟩ := HR2.out wr hRk
      have HE0 : Hid (en1 = false → _) := hE0
      have HE1 : Hid (en1 = true → _) := hE1
      clear hE0 hE1 hRk HR1 HR2 HR0
      rcases HB0.out with ⟨rfl, h0⟩ | rfl
      · have H0 := Lib.hid h0
        clear h0
        · cases en1 with
          | false =>
            obtain ⟨hB, hRb, hU⟩ := HE0.out rfl
            have HBf := Lib.hid hB
            have HU := Lib.hid hU
            have HCL := Lib.hid (clone_any none (cb - at_) OB wr (fun hp => absurd hp (by rw [HOB.out.2.1]; have := H0.out; omega)) (by rw [HOB.out.2.1]; omega))
            rw [HOB.out.2.1] at HCL
            have HSZ : Hid (w.heap.size ≤ wr.heap.size) := hU.size
            clear hB hRb hU
            go_wp2_with fail
            refine HCL.out.mono ?_
            rintro e w2 ⟨v, rfl, hown, hbel⟩
            have HL := Lib.hid HOB.out.2.1
            clear HCL
            have hbf := HBf.out.kept hbel
            have hu := HU.out.trans (Upd3.below hbel a gb gs)
            have HX := Lib.hid (And.intro hown (And.intro hbf hu))
            clear hown hbel hbf hu
            go_wp2
            ((try simp only [Exit.inBlock, Exit.then]); refine bodyPost_ret (results_tmp4 rfl _ _ _) rfl ?_)
            refine ⟨v, rfl, ?_, HX.out.2.1, HX.out.2.2⟩
            rw [HL.out]
            exact ⟨HX.out.1.1, HX.out.1.2.imp id fun ⟨g, cap, cur, h1, h2, h3⟩ => ⟨g, cap, cur, h1, Nat.le_trans HSZ.out h2, h3⟩⟩
          | true =>
            obtain ⟨hB, hRb, hU⟩ := HE1.out rfl
            have HBf := Lib.hid hB
            have HU := Lib.hid hU
            have HCL := Lib.hid (clone_any none (cb - at_) OB (wr.setCell ⟨a, 3, none⟩ (.int .u8 1)) (fun hp => absurd hp (by rw [HOB.out.2.1]; have := H0.out; omega)) (by rw [HOB.out.2.1]; omega))
            rw [HOB.out.2.1] at HCL
            have HSZ : Hid (w.heap.size ≤ (wr.setCell ⟨a, 3, none⟩ (.int .u8 1)).heap.size) := hU.size
            clear hB hRb hU
            go_wp2_with fail
            refine HCL.out.mono ?_
            rintro e w2 ⟨v, rfl, hown, hbel⟩
            have HL := Lib.hid HOB.out.2.1
            clear HCL
            have hbf := HBf.out.kept hbel
            have hu := HU.out.trans (Upd3.below hbel a gb gs)
            have HX := Lib.hid (And.intro hown (And.intro hbf hu))
            clear hown hbel hbf hu
            go_wp2
            ((try simp only [Exit.inBlock, Exit.then]); refine bodyPost_ret (results_tmp4 rfl _ _ _) rfl ?_)
            refine ⟨v, rfl, ?_, HX.out.2.1, HX.out.2.2⟩
            rw [HL.out]
            exact ⟨HX.out.1.1, HX.out.1.2.imp id fun ⟨g, cap, cur, h1, h2, h3⟩ => ⟨g, cap, cur, h1, Nat.le_trans HSZ.out h2, h3⟩⟩
      · by_cases hac : at_ < cb
        · cases en1 with
          | false =>
            obtain ⟨hB, hRb, hU⟩ := HE0.out rfl
            have HBf := Lib.hid hB
            have HU := Lib.hid hU
            have HCL := Lib.hid (clone_any (some ⟨gb, at_, none⟩) (cb - at_) OB wr (HSUB.out _ hRb) (by rw [HOB.out.2.1]; omega))
            rw [HOB.out.2.1] at HCL
            have HSZ : Hid (w.heap.size ≤ wr.heap.size) := hU.size
            clear hB hRb hU
            go_wp2_with fail
            refine HCL.out.mono ?_
            rintro e w2 ⟨v, rfl, hown, hbel⟩
            have HL := Lib.hid HOB.out.2.1
            clear HCL
            have hbf := HBf.out.kept hbel
            have hu := HU.out.trans (Upd3.below hbel a gb gs)
            have HX := Lib.hid (And.intro hown (And.intro hbf hu))
            clear hown hbel hbf hu
            go_wp2
            ((try simp only [Exit.inBlock, Exit.then]); refine bodyPost_ret (results_tmp4 rfl _ _ _) rfl ?_)
            refine ⟨v, rfl, ?_, HX.out.2.1, HX.out.2.2⟩
            rw [HL.out]
            exact ⟨HX.out.1.1, HX.out.1.2.imp id fun ⟨g, cap, cur, h1, h2, h3⟩ => ⟨g, cap, cur, h1, Nat.le_trans HSZ.out h2, h3⟩⟩
          | true =>
            obtain ⟨hB, hRb, hU⟩ := HE1.out rfl
            have HBf := Lib.hid hB
            have HU := Lib.hid hU
            have HCL := Lib.hid (clone_any (some ⟨gb, at_, none⟩) (cb - at_) OB (wr.setCell ⟨a, 3, none⟩ (.int .u8 1)) (HSUB.out _ hRb) (by rw [HOB.out.2.1]; omega))
            rw [HOB.out.2.1] at HCL
            have HSZ : Hid (w.heap.size ≤ (wr.setCell ⟨a, 3, none⟩ (.int .u8 1)).heap.size) := hU.size
            clear hB hRb hU
            go_wp2_with fail
            refine HCL.out.mono ?_
            rintro e w2 ⟨v, rfl, hown, hbel⟩
            have HL := Lib.hid HOB.out.2.1
            clear HCL
            have hbf := HBf.out.kept hbel
            have hu := HU.out.trans (Upd3.below hbel a gb gs)
            have HX := Lib.hid (And.intro hown (And.intro hbf hu))
            clear hown hbel hbf hu
            go_wp2
            ((try simp only [Exit.inBlock, Exit.then]); refine bodyPost_ret (results_tmp4 rfl _ _ _) rfl ?_)
            refine ⟨v, rfl, ?_, HX.out.2.1, HX.out.2.2⟩
            rw [HL.out]
            exact ⟨HX.out.1.1, HX.out.1.2.imp id fun ⟨g, cap, cur, h1, h2, h3⟩ => ⟨g, cap, cur, h1, Nat.le_trans HSZ.out h2, h3⟩⟩
        · cases en1 with
          | false =>
            obtain ⟨hB, hRb, hU⟩ := HE0.out rfl
            have HBf := Lib.hid hB
            have HU := Lib.hid hU
            have HCL := Lib.hid (clone_any (some ⟨gb, 0, none⟩) 0 OB wr (fun hp => absurd hp (by rw [HOB.out.2.1]; omega)) (by rw [HOB.out.2.1]; omega))
            rw [HOB.out.2.1] at HCL
            have HSZ : Hid (w.heap.size ≤ wr.heap.size) := hU.size
            clear hB hRb hU
            go_wp2_with fail
            refine HCL.out.mono ?_
            rintro e w2 ⟨v, rfl, hown, hbel⟩
            have HL := Lib.hid HOB.out.2.1
            clear HCL
            have hbf := HBf.out.kept hbel
            have hu := HU.out.trans (Upd3.below hbel a gb gs)
            have HX := Lib.hid (And.intro hown (And.intro hbf hu))
            clear hown hbel hbf hu
            go_wp2
            ((try simp only [Exit.inBlock, Exit.then]); refine bodyPost_ret (results_tmp4 rfl _ _ _) rfl ?_)
            refine ⟨v, rfl, ?_, HX.out.2.1, HX.out.2.2⟩
            rw [HL.out]
            exact ⟨HX.out.1.1, HX.out.1.2.imp id fun ⟨g, cap, cur, h1, h2, h3⟩ => ⟨g, cap, cur, h1, Nat.le_trans HSZ.out h2, h3⟩⟩
          | true =>
            obtain ⟨hB, hRb, hU⟩ := HE1.out rfl
            have HBf := Lib.hid hB
            have HU := Lib.hid hU
            have HCL := Lib.hid (clone_any (some ⟨gb, 0, none⟩) 0 OB (wr.setCell ⟨a, 3, none⟩ (.int .u8 1)) (fun hp => absurd hp (by rw [HOB.out.2.1]; omega)) (by rw [HOB.out.2.1]; omega))
            rw [HOB.out.2.1] at HCL
            have HSZ : Hid (w.heap.size ≤ (wr.setCell ⟨a, 3, none⟩ (.int .u8 1)).heap.size) := hU.size
            clear hB hRb hU
            go_wp2_with fail
            refine HCL.out.mono ?_
            rintro e w2 ⟨v, rfl, hown, hbel⟩
            have HL := Lib.hid HOB.out.2.1
            clear HCL
            have hbf := HBf.out.kept hbel
            have hu := HU.out.trans (Upd3.below hbel a gb gs)
            have HX := Lib.hid (And.intro hown (And.intro hbf hu))
            clear hown hbel hbf hu
            go_wp2
            ((try simp only [Exit.inBlock, Exit.then]); refine bodyPost_ret (results_tmp4 rfl _ _ _) rfl ?_)
            refine ⟨v, rfl, ?_, HX.out.2.1, HX.out.2.2⟩
            rw [HL.out]
            exact ⟨HX.out.1.1, HX.out.1.2.imp id fun ⟨g, cap, cur, h1, h2, h3⟩ => ⟨g, cap, cur, h1, Nat.le_trans HSZ.out h2, h3⟩⟩
end Go.Proofs.Ytdloeakmoaoalaa
