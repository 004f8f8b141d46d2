/- LifeActs, walked. -/
import Derived.Test.YtckmnjeibikeeaaRows
import Derived.Test.YtckmnjeibikeeaaPlainTk
import Derived.Test.YtckmnjeibikeeaaPlainPw
import Derived.Test.YtckmnjeibikeeaaPlainLf
import Derived.Test.YtckmnjeibikeeaaAid
import Derived.Test.YtckmnjeibikeeaaTicks2
import Derived.Test.YtckmnjeibikeeaaLife
import Derived.Test.YtckmnjeibikeeaaLife2
import Derived.Test.YtckmnjeibikeeaaLfLaws
import Derived.Test.YtckmnjeibikeeaaLfOpen
import Derived.Test.YtckmnjeibikeeaaLfRef
import Derived.Test.YtckmnjeibikeeaaLfNil
import Derived.StillTailTactics
import Derived.Deep.RegionHeld3
import Derived.WalkKit
import Derived.WalkSpells
import Derived.WalkLawsBesides
import Derived.Deep.QuietTactic
import Derived.BigQuiet
import Derived.Handy
import Derived.Lib.Hide
import Derived.Deep.DeepCutAuto
import Derived.Deep.CutBlock
import Derived.Deep.LoopGhost
namespace Go.Proofs.Ytckmnjeibikeeaa
open Go.RowKit
set_option linter.unusedVariables false

theorem OwnL.apart {W w w' : World} {b br : Nat} {l : Lf.Life} (h : OwnL W b l w) (u : Upd br w w') (hne : b ≠ br) (hbr : W.heap.size ≤ br) : OwnL W b l w' :=
  ⟨h.1.upd u hne, h.2.1, h.2.2.1, Upd.below h.2.2.2 hbr u⟩
theorem came_arrived (l : Lf.Life) (n : Int) : (Lf.arrived l n).came = l.came := by unfold Lf.arrived; split <;> rfl
theorem came_sent (l : Lf.Life) (n : Int) (a : Bool) : (Lf.sent l n a).came = l.came := by unfold Lf.sent; split <;> rfl
theorem came_close (l : Lf.Life) (n p : Int) : (Lf.close l n p).came = l.came := by unfold Lf.close; split <;> rfl
theorem came_drain (l : Lf.Life) (n p : Int) : (Lf.drain l n p).came = l.came := by unfold Lf.drain; split; rfl; split <;> rfl
theorem came_tick (l : Lf.Life) (n p : Int) : (Lf.tick l n p).came = l.came := by unfold Lf.tick; split <;> rfl
theorem came_idle (l : Lf.Life) (n : Int) : (Lf.setIdle l n).came = l.came := by unfold Lf.setIdle; split <;> rfl
theorem came_count (l : Lf.Life) : (Lf.count l).came ≤ l.came + 1 := by unfold Lf.count; split; exact Int.le_refl _; omega

theorem below_drewN (w : World) (n : Nat) : Below w.heap.size w (w.drewN n) := ⟨rfl, rfl, rfl, Nat.le_refl _, fun _ _ => rfl⟩
/-- What the test at the round's end reads. -/
def Both (W : World) (b br ba : Nat) (L : Lf.Life) (now p : Int) (w : World) : Prop :=
  OwnL W b L w ∧ w.cell? ⟨br, 0, none⟩ = some (.int .i64 L.state) ∧ w.cell? ⟨ba, 1, none⟩ = some (.int .u64 now) ∧ w.cell? ⟨ba, 2, none⟩ = some (.int .u64 p) ∧ RefAt w br L ∧ ba < w.heap.size
theorem Both.below {W w w' : World} {b br ba : Nat} {L : Lf.Life} {now p : Int} (h : Both W b br ba L now p w) (hb : Below w.heap.size w w') : Both W b br ba L now p w' := by
  obtain ⟨h1, h2, h3, h4, h5, h6⟩ := h
  exact ⟨h1.kept hb, (hb.cell (p := ⟨br, 0, none⟩) h5.lt).trans h2, (hb.cell (p := ⟨ba, 1, none⟩) h6).trans h3, (hb.cell (p := ⟨ba, 2, none⟩) h6).trans h4, h5.kept hb, Nat.lt_of_lt_of_le h6 hb.size⟩
theorem Both.of {W w : World} {b br ba : Nat} {t : TypeId} {L : Lf.Life} {kind now p : Int} {ask : Bool} (h : OwnL W b L w) (hr : RefAt w br L) (ha : Obj w ba t #[.int .i64 kind, .int .u64 now, .int .u64 p, .bool ask]) : Both W b br ba L now p w :=
  ⟨h, hr.cell 0, ha.cell 1, ha.cell 2, hr, ha.lt⟩

set_option maxRecDepth 100000 in
set_option maxHeartbeats 40000000 in
theorem lifeActs_small (a0 a1 a2 : Int) (A3 : Option Addr) (n3 c3 : Nat) (l3 : List Act) (w : World) (b0 : 0 ≤ a0) (c0 : a0 ≤ 18446744073709551615) (b1 : 0 ≤ a1) (c1 : a1 ≤ 18446744073709551615) (b2 : 0 ≤ a2) (c2 : a2 ≤ 18446744073709551615) (i3 : Acts w A3 n3 l3) (hsm : n3 ≤ 100) :
    Calls Try.prog 9 #[.int .u64 a0, .int .u64 a1, .int .u64 a2, .slice A3 n3 c3] w fun e w' => e = .returned (.bool true) ∧ Below w.heap.size w w' := by
  have hsm' : (n3 : Int) ≤ 100 := by omega
  go_enter Try.func9, Try.ntmps9
  go_wp2_with fail
  refine (alive_true _).mono ?_
  rintro e w1 ⟨rfl, hb1⟩
  have HA := Lib.hid hb1
  clear hb1
  go_wp2_with fail
  refine (idle_nil _ _).mono ?_
  rintro e wn ⟨rfl, rfl⟩
  go_wp2_with fail
  refine (came_nil _ _).mono ?_
  rintro e wn ⟨rfl, rfl⟩
  go_wp2_with fail
  refine (sent_nil _ _ _).mono ?_
  rintro e wn ⟨rfl, rfl⟩
  go_wp2_with fail
  refine (state_nil _).mono ?_
  rintro e wn ⟨rfl, rfl⟩
  go_wp2_with fail
  refine (close_nil _ _ _).mono ?_
  rintro e wn ⟨rfl, rfl⟩
  go_wp2_with fail
  refine (drain_nil _ _ _).mono ?_
  rintro e wn ⟨rfl, rfl⟩
  go_wp2_with fail
  refine (arrive_nil _).mono ?_
  rintro e wn ⟨rfl, rfl⟩
  go_wp2_with fail
  refine (tick_nil _ _ _).mono ?_
  rintro e wn ⟨rfl, rfl⟩
  go_wp2_with fail
  refine (end_nil _).mono ?_
  rintro e wn ⟨rfl, rfl⟩
  go_wp2_with fail
  refine (next_nil _ _).mono ?_
  rintro e wn ⟨rfl, rfl⟩
  go_wp2_with fail
  refine (keep_nil _ _).mono ?_
  rintro e wn ⟨rfl, rfl⟩
  go_wp2_with fail
  refine (keepAt_nil _).mono ?_
  rintro e wn ⟨rfl, rfl⟩
  go_wp2_with fail
  refine (o_new w _ a0 a1 a2 b0 c0 b1 c1 b2 c2 HA.out).mono ?_
  rintro e w2 ⟨b, rfl, h0⟩
  have hbl := h0.1.lt
  have hbr := h0.below.size
  have hwb := h0.2.2.1
  have HX0 := h0.kept ((Below.refl _ _).alloc (Nat.le_refl _) (.cells (lifeCells (Lf.new a0 a1 a2)) 48))
  have HR0 : RefAt _ w2.heap.size (Lf.new a0 a1 a2) := Obj.new w2 48 (lifeCells (Lf.new a0 a1 a2))
  clear h0
  go_wp2
  generalize w2.heap.size = br at *
  go_loopg [12] n3 (fun g i wr => ∃ (k : Nat) (L : Lf.Life), k + g = n3 ∧ i = .int .i64 k ∧ OwnL w b L wr ∧ RefAt wr br L ∧ L.came ≤ k)
  case atStart => exact ⟨0, _, by omega, rfl, HX0, HR0, Int.le_refl _⟩
  case round =>
    obtain ⟨k, L, hk, rfl, HO, HR, HC⟩ := hrel
    clear HX0 HR0
    by_cases hlt : k < n3
    · obtain ⟨e1, e2, e3⟩ := i3
      obtain ⟨B, off, rfl, hB, hc⟩ := e3 (by omega)
      obtain ⟨r1, r2, r3, r4, r5, r6⟩ := e2 k hlt
      obtain ⟨g0, g1, g2, g3⟩ := (hc k hlt).below hB HO.below
      clear e1 e2 e3 hc
      generalize l3.getD k default = a at *
      obtain ⟨kind, now, p, ask⟩ := a
      dsimp only at r1 r2 r3 r4 r5 r6 g0 g1 g2 g3
      have hne : wr.heap.size ≠ b := by have := HO.1.lt; omega
      have hner : wr.heap.size ≠ br := by have := HR.lt; omega
      have hxr : b ≠ br := by omega
      have HNE := Lib.hid (And.intro hne (And.intro hner hxr))
      clear hne hner hxr
      have ok := Lib.hid HO.2.1
      have hcm : L.came < 1152921504606846976 := by omega
      have HO2 := HO.kept ((Below.refl _ _).alloc (Nat.le_refl _) (.cells #[.int .i64 kind, .int .u64 now, .int .u64 p, .bool ask] 44))
      have HR2 := HR.kept ((Below.refl _ _).alloc (Nat.le_refl _) (.cells #[.int .i64 kind, .int .u64 now, .int .u64 p, .bool ask] 44))
      have HA2 := Obj.new wr 44 #[.int .i64 kind, .int .u64 now, .int .u64 p, .bool ask]
      clear HO HR
      go_upto_block 2 with fail
      go_cut [14] (fun s wx => s = .bool true ∧ ∃ L', OwnL w b L' wx ∧ RefAt wx br L' ∧ Obj wx wr.heap.size 44 #[.int .i64 kind, .int .u64 now, .int .u64 p, .bool ask] ∧ L'.came ≤ (k + 1 : Nat))
      case first =>
        by_cases hk0 : kind = 0
        · subst hk0
          as_aux_lemma =>
            obtain ⟨L', hL⟩ : ∃ L', Lf.arrived L now = L' := ⟨_, rfl⟩
            have HL := Lib.hid hL
            clear hL
            go_wp2_with fail
            refine (u_came w _ b L now HO2 r1 r2).mono ?_
            rintro e w3 ⟨rfl, hx, ux⟩
            have HR3 := HR2.upd ux HNE.out.2.2.symm
            have d0 : w3.cell? ⟨wr.heap.size, 0, none⟩ = some (.int .i64 0) := (HA2.upd ux HNE.out.1).cell 0
            have d1 : w3.cell? ⟨wr.heap.size, 1, none⟩ = some (.int .u64 now) := (HA2.upd ux HNE.out.1).cell 1
            have d3 : w3.cell? ⟨wr.heap.size, 3, none⟩ = some (.bool ask) := (HA2.upd ux HNE.out.1).cell 3
            go_wp2_with fail
            refine (rcame_any br L now _ HR3).mono ?_
            rintro e w4 ⟨rfl, hr, ur⟩
            clear d0 d1 d3
            rw [HL.out] at hr hx
            have HX := hx.apart ur HNE.out.2.2 (Nat.le_trans hwb (by omega))
            have HRx := hr
            have HAx := (HA2.upd ux HNE.out.1).upd ur HNE.out.2.1
            clear hr hx ur ux
            have HC' : L'.came ≤ (k + 1 : Nat) := by rw [← HL.out]; rw [came_arrived]; omega
            try go_wp2
            go_meet
            exact ⟨rfl, L', HX, HRx, HAx, HC'⟩
        by_cases hk1 : kind = 1
        · subst hk1
          as_aux_lemma =>
            obtain ⟨L', hL⟩ : ∃ L', Lf.sent L now ask = L' := ⟨_, rfl⟩
            have HL := Lib.hid hL
            clear hL
            go_wp2_with fail
            refine (u_sent w _ b L now ask HO2 r1 r2).mono ?_
            rintro e w3 ⟨rfl, hx, ux⟩
            have HR3 := HR2.upd ux HNE.out.2.2.symm
            have d0 : w3.cell? ⟨wr.heap.size, 0, none⟩ = some (.int .i64 1) := (HA2.upd ux HNE.out.1).cell 0
            have d1 : w3.cell? ⟨wr.heap.size, 1, none⟩ = some (.int .u64 now) := (HA2.upd ux HNE.out.1).cell 1
            have d3 : w3.cell? ⟨wr.heap.size, 3, none⟩ = some (.bool ask) := (HA2.upd ux HNE.out.1).cell 3
            go_wp2_with fail
            refine (rsent_any br L now ask _ HR3).mono ?_
            rintro e w4 ⟨rfl, hr, ur⟩
            clear d0 d1 d3
            rw [HL.out] at hr hx
            have HX := hx.apart ur HNE.out.2.2 (Nat.le_trans hwb (by omega))
            have HRx := hr
            have HAx := (HA2.upd ux HNE.out.1).upd ur HNE.out.2.1
            clear hr hx ur ux
            have HC' : L'.came ≤ (k + 1 : Nat) := by rw [← HL.out]; rw [came_sent]; omega
            try go_wp2
            go_meet
            exact ⟨rfl, L', HX, HRx, HAx, HC'⟩
        by_cases hk2 : kind = 2
        · subst hk2
          as_aux_lemma =>
            have HO3 := HO2.kept (Below.refl _ _).drew
            have HR3 := HR2.kept (Below.refl _ _).drew
            have HA3 := HA2.kept (Below.refl _ _).drew
            have d1 := HA2.cell 1
            have d2 := HA2.cell 2
            obtain ⟨L', hL⟩ : ∃ L', Lf.close L now p = L' := ⟨_, rfl⟩
            have HL := Lib.hid hL
            clear hL
            go_wp2
            go_region_held3 (fun w' => w'.cell? ⟨wr.heap.size, 1, none⟩ = some (.int .u64 now) ∧ w'.cell? ⟨wr.heap.size, 2, none⟩ = some (.int .u64 p))
              (first | assumption | (exact ⟨HA3.cell 1, HA3.cell 2⟩) | (exact ⟨ha3.cell 1, ha3.cell 2⟩) | (exact ⟨ha4.cell 1, ha4.cell 2⟩))
              (first
                | (go_at_call 20; refine (u_close w _ b L now p HO3 r1 r2 r3 r4).mono ?_; rintro e w3 ⟨rfl, hx, ux⟩; have hr3 := HR3.upd ux HNE.out.2.2.symm; have ha3 := HA3.upd ux HNE.out.1)
                | (go_at_call 26; refine (rclose_any br L now p _ hr3 r1 r2 r3 r4).mono ?_; rintro e w4 ⟨rfl, hr, ur⟩; have ha4 := ha3.upd ur HNE.out.2.1))
            rw [HL.out] at hr hx
            have HX := hx.apart ur HNE.out.2.2 (Nat.le_trans hwb (by omega))
            have HRx := hr
            have HAx := ha4
            clear hr hx ur ux ha3 ha4 hr3 HO3 HR3 HA3
            have HC' : L'.came ≤ (k + 1 : Nat) := by rw [← HL.out]; rw [came_close]; omega
            try go_wp2
            go_meet
            exact ⟨rfl, L', HX, HRx, HAx, HC'⟩
        by_cases hk3 : kind = 3
        · subst hk3
          as_aux_lemma =>
            have HO3 := HO2.kept (Below.refl _ _).drew
            have HR3 := HR2.kept (Below.refl _ _).drew
            have HA3 := HA2.kept (Below.refl _ _).drew
            have d1 := HA2.cell 1
            have d2 := HA2.cell 2
            obtain ⟨L', hL⟩ : ∃ L', Lf.drain L now p = L' := ⟨_, rfl⟩
            have HL := Lib.hid hL
            clear hL
            go_wp2
            go_region_held3 (fun w' => w'.cell? ⟨wr.heap.size, 1, none⟩ = some (.int .u64 now) ∧ w'.cell? ⟨wr.heap.size, 2, none⟩ = some (.int .u64 p))
              (first | assumption | (exact ⟨HA3.cell 1, HA3.cell 2⟩) | (exact ⟨ha3.cell 1, ha3.cell 2⟩) | (exact ⟨ha4.cell 1, ha4.cell 2⟩))
              (first
                | (go_at_call 22; refine (u_drain w _ b L now p HO3 r1 r2 r3 r4).mono ?_; rintro e w3 ⟨rfl, hx, ux⟩; have hr3 := HR3.upd ux HNE.out.2.2.symm; have ha3 := HA3.upd ux HNE.out.1)
                | (go_at_call 27; refine (rdrain_any br L now p _ hr3 ok.out r1 r2 r3 r4).mono ?_; rintro e w4 ⟨rfl, hr, ur⟩; have ha4 := ha3.upd ur HNE.out.2.1))
            rw [HL.out] at hr hx
            have HX := hx.apart ur HNE.out.2.2 (Nat.le_trans hwb (by omega))
            have HRx := hr
            have HAx := ha4
            clear hr hx ur ux ha3 ha4 hr3 HO3 HR3 HA3
            have HC' : L'.came ≤ (k + 1 : Nat) := by rw [← HL.out]; rw [came_drain]; omega
            try go_wp2
            go_meet
            exact ⟨rfl, L', HX, HRx, HAx, HC'⟩
        by_cases hk4 : kind = 4
        · subst hk4
          as_aux_lemma =>
            obtain ⟨L', hL⟩ : ∃ L', Lf.count L = L' := ⟨_, rfl⟩
            have HL := Lib.hid hL
            clear hL
            go_wp2_with fail
            refine (u_arrive w _ b L HO2 hcm).mono ?_
            rintro e w3 ⟨rfl, hx, ux⟩
            have HR3 := HR2.upd ux HNE.out.2.2.symm
            go_wp2_with fail
            refine (rarrive_any br L _ HR3 ok.out).mono ?_
            rintro e w4 ⟨rfl, hr, ur⟩
            rw [HL.out] at hr hx
            have HX := hx.apart ur HNE.out.2.2 (Nat.le_trans hwb (by omega))
            have HRx := hr
            have HAx := (HA2.upd ux HNE.out.1).upd ur HNE.out.2.1
            clear hr hx ur ux
            have HC' : L'.came ≤ (k + 1 : Nat) := by rw [← HL.out]; have := came_count L; omega
            try go_wp2
            go_meet
            exact ⟨rfl, L', HX, HRx, HAx, HC'⟩
        by_cases hk5 : kind = 5
        · subst hk5
          as_aux_lemma =>
            have HO3 := HO2.kept (Below.refl _ _).drew
            have HR3 := HR2.kept (Below.refl _ _).drew
            have HA3 := HA2.kept (Below.refl _ _).drew
            have d1 := HA2.cell 1
            have d2 := HA2.cell 2
            obtain ⟨L', hL⟩ : ∃ L', Lf.tick L now p = L' := ⟨_, rfl⟩
            have HL := Lib.hid hL
            clear hL
            go_wp2
            go_region_held3 (fun w' => w'.cell? ⟨wr.heap.size, 1, none⟩ = some (.int .u64 now) ∧ w'.cell? ⟨wr.heap.size, 2, none⟩ = some (.int .u64 p))
              (first | assumption | (exact ⟨HA3.cell 1, HA3.cell 2⟩) | (exact ⟨ha3.cell 1, ha3.cell 2⟩) | (exact ⟨ha4.cell 1, ha4.cell 2⟩))
              (first
                | (go_at_call 13; refine (u_tick w _ b L now p HO3 r1 r2 r3 r4).mono ?_; rintro e w3 ⟨rfl, hx, ux⟩; have hr3 := HR3.upd ux HNE.out.2.2.symm; have ha3 := HA3.upd ux HNE.out.1)
                | (go_at_call 29; refine (rtick_any br L now p _ hr3 ok.out r1 r2 r3 r4).mono ?_; rintro e w4 ⟨rfl, hr, ur⟩; have ha4 := ha3.upd ur HNE.out.2.1))
            rw [HL.out] at hr hx
            have HX := hx.apart ur HNE.out.2.2 (Nat.le_trans hwb (by omega))
            have HRx := hr
            have HAx := ha4
            clear hr hx ur ux ha3 ha4 hr3 HO3 HR3 HA3
            have HC' : L'.came ≤ (k + 1 : Nat) := by rw [← HL.out]; rw [came_tick]; omega
            try go_wp2
            go_meet
            exact ⟨rfl, L', HX, HRx, HAx, HC'⟩
        by_cases hk6 : kind = 6
        · subst hk6
          as_aux_lemma =>
            have HO3 := HO2.kept (Below.refl _ _).drew
            have HR3 := HR2.kept (Below.refl _ _).drew
            have HA3 := HA2.kept (Below.refl _ _).drew
            have d1 := HA2.cell 1
            have d2 := HA2.cell 2
            obtain ⟨L', hL⟩ : ∃ L', Lf.ended L = L' := ⟨_, rfl⟩
            have HL := Lib.hid hL
            clear hL
            have hE : Hid (Lf.ends L = (L.state != 3)) := by unfold Hid Lf.ends; simp only [bne, decide_not]; rfl
            have z0 := fun i => HR3.free i
            go_wp2
            go_region_held3 (fun w' => w'.cell? ⟨br, 0, none⟩ = some (.int .i64 L.state))
              (first | assumption | (exact HR3.cell 0) | (exact hr3.cell 0))
              (first | (go_at_call 16; refine (u_end w _ b L HO3).mono ?_; rintro e w3 ⟨rfl, hx, ux⟩; rw [hE.out]; have hr3 := HR3.upd ux HNE.out.2.2.symm; have ha3 := HA3.upd ux HNE.out.1))
            have f0 := hr3.cell 0
            have zz := hr3.free 0
            rw [HL.out] at hx
            have HRx : RefAt (w3.setCell ⟨br, 0, none⟩ (.int .i64 3)) br L' := by rw [← HL.out]; exact (hr3.set 0 (.int .i64 3)).as rfl
            have uu := (Upd.refl br w3).set 0 (.int .i64 3)
            have HX := hx.apart uu HNE.out.2.2 (Nat.le_trans hwb (by omega))
            have HAx := ha3.upd uu HNE.out.2.1
            clear hr3 ha3 hx uu ux HO3 HR3 HA3 z0
            have HC' : L'.came ≤ (k + 1 : Nat) := by rw [← HL.out]; show L.came ≤ _; omega
            try go_wp2
            go_meet
            exact ⟨rfl, L', HX, HRx, HAx, HC'⟩
        by_cases hk7 : kind = 7
        · subst hk7
          as_aux_lemma =>
            obtain ⟨L', hL⟩ : ∃ L', Lf.setIdle L p = L' := ⟨_, rfl⟩
            have HL := Lib.hid hL
            clear hL
            by_cases hs : L.state = 0
            · have HK : Hid (Lf.setIdle L p = { L with idle := p }) := by unfold Hid Lf.setIdle; rw [if_pos hs]
              go_wp2_with fail
              refine (u_idle w _ b L p HO2 r3 r4).mono ?_
              rintro e w3 ⟨rfl, hx, ux⟩
              have hr3 := HR2.upd ux HNE.out.2.2.symm
              have ha3 := HA2.upd ux HNE.out.1
              have f0 : w3.cell? ⟨br, 0, none⟩ = some (.int .i64 L.state) := hr3.cell 0
              rw [hs] at f0
              have f1 : w3.cell? ⟨br, 1, none⟩ = some (.int .u64 L.idle) := hr3.cell 1
              have zz := hr3.free 1
              have d2 : w3.cell? ⟨wr.heap.size, 2, none⟩ = some (.int .u64 p) := ha3.cell 2
              rw [HL.out] at hx
              have HRx : RefAt (w3.setCell ⟨br, 1, none⟩ (.int .u64 p)) br L' := by rw [← HL.out, HK.out]; exact (hr3.set 1 (.int .u64 p)).as rfl
              have uu := (Upd.refl br w3).set 1 (.int .u64 p)
              have HX := hx.apart uu HNE.out.2.2 (Nat.le_trans hwb (by omega))
              have HAx := ha3.upd uu HNE.out.2.1
              clear hs hr3 ha3 hx uu ux
              have HC' : L'.came ≤ (k + 1 : Nat) := by rw [← HL.out]; rw [came_idle]; omega
              try go_wp2
              go_meet
              exact ⟨rfl, L', HX, HRx, HAx, HC'⟩
            · have HK : Hid (Lf.setIdle L p = L) := by unfold Hid Lf.setIdle; rw [if_neg hs]
              have hs' : (L.state == 0) = false := by simp [hs]
              go_wp2_with fail
              refine (u_idle w _ b L p HO2 r3 r4).mono ?_
              rintro e w3 ⟨rfl, hx, ux⟩
              have hr3 := HR2.upd ux HNE.out.2.2.symm
              have ha3 := HA2.upd ux HNE.out.1
              have f0 : w3.cell? ⟨br, 0, none⟩ = some (.int .i64 L.state) := hr3.cell 0
              rw [HL.out] at hx
              have HRx : RefAt w3 br L' := by rw [← HL.out, HK.out]; exact hr3
              have HX := hx
              have HAx := ha3
              clear hs hr3 ha3 hx ux
              have HC' : L'.came ≤ (k + 1 : Nat) := by rw [← HL.out]; rw [came_idle]; omega
              try go_wp2
              go_meet
              exact ⟨rfl, L', HX, HRx, HAx, HC'⟩
        · have q0 : (kind == 0) = false := by simp [hk0]
          have q1 : (kind == 1) = false := by simp [hk1]
          have q2 : (kind == 2) = false := by simp [hk2]
          have q3 : (kind == 3) = false := by simp [hk3]
          have q4 : (kind == 4) = false := by simp [hk4]
          have q5 : (kind == 5) = false := by simp [hk5]
          have q6 : (kind == 6) = false := by simp [hk6]
          have q7 : (kind == 7) = false := by simp [hk7]
          clear hk0 hk1 hk2 hk3 hk4 hk5 hk6 hk7
          obtain ⟨L', hL⟩ : ∃ L', L = L' := ⟨_, rfl⟩
          have HL := Lib.hid hL
          clear hL
          have HX := HO2
          have HRx := HR2
          rw [HL.out] at HX HRx
          have HAx := HA2
          have HC' : L'.came ≤ (k + 1 : Nat) := by rw [← HL.out]; omega
          try go_wp2
          go_meet
          exact ⟨rfl, L', HX, HRx, HAx, HC'⟩
      case rest =>
        obtain ⟨rfl, L', HX, HRx, HAx, HC'⟩ := hcut
        clear HO2 HR2 HA2 g0 g1 g2 g3
        have hok' := HX.2.1
        obtain ⟨K, hK⟩ : ∃ K, Lf.keepAt L' = K := ⟨_, rfl⟩
        obtain ⟨kb0, kb1⟩ := Lf.keepAt_bound L' hok'
        have HKK := Lib.hid hK
        rw [hK] at kb0 kb1
        have OKL := Lib.hid hok'
        clear hok' hK
        go_wp2_with fail
        refine (rkeepAt_any br L' _ HRx OKL.out).mono ?_
        rintro e w5 ⟨rfl, q5, hq5⟩
        rw [HKK.out]
        have HB : Both w b br wr.heap.size L' now p w5 := (Both.of HX HRx HAx).below (by rw [hq5]; exact below_drewN _ q5)
        clear hq5 HX HRx HAx
        have HB1 := HB.below (Below.refl _ _).drew
        go_upto_region 41 with fail
        go_cut [234] (fun s wx => s = .bool false ∧ Both w b br wr.heap.size L' now p wx)
        case rest =>
          obtain ⟨rfl, HB6⟩ := hcut
          clear HB HB1
          go_wp2
          go_roundg (gk - 1)
          case rel => exact ⟨k + 1, _, by omega, by go_num, HB6.1, HB6.2.2.2.2.1, HC'⟩
          case measure => omega
        by_cases hkn : K = 18446744073709551615
        · have hks : Hid (Lf.keeps L' now = false) := by unfold Hid Lf.keeps; rw [HKK.out, hkn]; rfl
          subst hkn
          as_aux_lemma =>
            go_wp2
            refine wp_region_held_drew (S := (fun w' => OwnL w b L' w' ∧ w'.cell? ⟨br, 0, none⟩ = some (.int .i64 L'.state) ∧ w'.cell? ⟨wr.heap.size, 1, none⟩ = some (.int .u64 now) ∧ w'.cell? ⟨wr.heap.size, 2, none⟩ = some (.int .u64 p) ∧ RefAt w' br L' ∧ wr.heap.size < w'.heap.size)) (by kernel_rfl) HB1 (fun hHeld => ?_)
            refine wpAnyH_take (i := 0) (oi := ?_) (v := ?_) ?_ ?_ ?_ ?_ ?_ ?_ (by assumption) ?_
            rotate_left 2
            · simp only [List.getElem?_toArray, List.getElem?_cons_zero, List.getElem?_cons_succ]
              rfl
            · kernel_rfl
            · kernel_rfl
            · kernel_rfl
            · exact fun _ _ _ h => h
            · refine Or.inl ⟨by rfl, ?_⟩
              intro w hSw
              (try dsimp only at hSw)
              go_simp
              all_goals with_reducible rfl
            simp only [Act.put, List.setIfInBounds_toArray, List.set_cons_zero, List.set_cons_succ]
            refine wpAnyH_take (i := 1) (oi := ?_) (v := ?_) ?_ ?_ ?_ ?_ ?_ ?_ (by assumption) ?_
            rotate_left 2
            · simp only [List.getElem?_toArray, List.getElem?_cons_zero, List.getElem?_cons_succ]
              rfl
            · kernel_rfl
            · kernel_rfl
            · kernel_rfl
            · exact fun _ _ _ h => h
            · refine Or.inl ⟨by rfl, ?_⟩
              intro w hSw
              (try dsimp only at hSw)
              go_simp
              all_goals with_reducible rfl
            simp only [Act.put, List.setIfInBounds_toArray, List.set_cons_zero, List.set_cons_succ]
            refine wpAnyH_take (i := 2) (oi := ?_) (v := ?_) ?_ ?_ ?_ ?_ ?_ ?_ (by assumption) ?_
            rotate_left 2
            · simp only [List.getElem?_toArray, List.getElem?_cons_zero, List.getElem?_cons_succ]
              rfl
            · kernel_rfl
            · kernel_rfl
            · kernel_rfl
            · exact fun _ _ _ h => h
            · refine Or.inl ⟨by rfl, ?_⟩
              intro w hSw
              (try dsimp only at hSw)
              go_simp
              all_goals with_reducible rfl
            simp only [Act.put, List.setIfInBounds_toArray, List.set_cons_zero, List.set_cons_succ]
            refine wpAnyH_take (i := 3) (oi := ?_) (v := ?_) ?_ ?_ ?_ ?_ ?_ ?_ (by assumption) ?_
            rotate_left 2
            · simp only [List.getElem?_toArray, List.getElem?_cons_zero, List.getElem?_cons_succ]
              rfl
            · kernel_rfl
            · kernel_rfl
            · kernel_rfl
            · exact fun _ _ _ h => h
            · refine Or.inl ⟨by rfl, ?_⟩
              intro w hSw
              (try dsimp only at hSw)
              go_simp
              all_goals with_reducible rfl
            simp only [Act.put, List.setIfInBounds_toArray, List.set_cons_zero, List.set_cons_succ]
            refine wpAnyH_take (i := 5) (oi := ?_) (v := ?_) ?_ ?_ ?_ ?_ ?_ ?_ (by assumption) ?_
            rotate_left 2
            · simp only [List.getElem?_toArray, List.getElem?_cons_zero, List.getElem?_cons_succ]
              rfl
            · kernel_rfl
            · kernel_rfl
            · kernel_rfl
            · exact fun _ _ _ h => h
            · refine Or.inl ⟨by rfl, ?_⟩
              intro w hSw
              (try dsimp only at hSw)
              go_simp
              all_goals with_reducible rfl
            simp only [Act.put, List.setIfInBounds_toArray, List.set_cons_zero, List.set_cons_succ]
            refine wpAnyH_take (i := 6) (oi := ?_) (v := ?_) ?_ ?_ ?_ ?_ ?_ ?_ (by assumption) ?_
            rotate_left 2
            · simp only [List.getElem?_toArray, List.getElem?_cons_zero, List.getElem?_cons_succ]
              rfl
            · kernel_rfl
            · kernel_rfl
            · kernel_rfl
            · exact fun _ _ _ h => h
            · refine Or.inl ⟨by rfl, ?_⟩
              intro w hSw
              (try dsimp only at hSw)
              go_simp
              all_goals with_reducible rfl
            simp only [Act.put, List.setIfInBounds_toArray, List.set_cons_zero, List.set_cons_succ]
            refine wpAnyH_take (i := 7) (oi := ?_) (v := ?_) ?_ ?_ ?_ ?_ ?_ ?_ (by assumption) ?_
            rotate_left 2
            · simp only [List.getElem?_toArray, List.getElem?_cons_zero, List.getElem?_cons_succ]
              rfl
            · kernel_rfl
            · kernel_rfl
            · kernel_rfl
            · exact fun _ _ _ h => h
            · refine Or.inl ⟨by rfl, ?_⟩
              intro w hSw
              (try dsimp only at hSw)
              go_simp
              all_goals with_reducible rfl
            simp only [Act.put, List.setIfInBounds_toArray, List.set_cons_zero, List.set_cons_succ]
            refine wpAnyH_take (i := 8) (oi := ?_) (v := ?_) ?_ ?_ ?_ ?_ ?_ ?_ (by assumption) ?_
            rotate_left 2
            · simp only [List.getElem?_toArray, List.getElem?_cons_zero, List.getElem?_cons_succ]
              rfl
            · kernel_rfl
            · kernel_rfl
            · kernel_rfl
            · exact fun _ _ _ h => h
            · refine Or.inl ⟨by rfl, ?_⟩
              intro w hSw
              (try dsimp only at hSw)
              go_simp
              all_goals with_reducible rfl
            simp only [Act.put, List.setIfInBounds_toArray, List.set_cons_zero, List.set_cons_succ]
            refine wpAnyH_ready (rs := [4]) (by kernel_rfl) (by simp) ?_
            refine AllReadyH.cons (o := ?_) ?_ (fun KK hKK => ?_) AllReadyH.nil
            rotate_left
            · simp only [List.getElem?_toArray, List.getElem?_cons_zero, List.getElem?_cons_succ]
              rfl
            go_simp
            go_at_call 15; refine (o_state w _ b L' ((by assumption : Both w b br wr.heap.size L' now p _)).1).mono ?_; rintro e w' ⟨rfl, rfl⟩
            try go_wp2_with fail
            refine hKK.out _ _ ?_ (fun hHeld4 => ?_)
            · (try dsimp only)
              (first | assumption | (exact HB1) | (exact Both.below (W := w) (b := b) (br := br) (ba := wr.heap.size) (L := L') (now := now) (p := p) (by assumption) (by assumption)))
            clear hKK KK
            try simp only [Act.put, List.setIfInBounds_toArray, List.set_cons_zero, List.set_cons_succ]
            refine wpAnyH_take (i := 9) (oi := ?_) (v := ?_) ?_ ?_ ?_ ?_ ?_ ?_ (by assumption) ?_
            rotate_left 2
            · simp only [List.getElem?_toArray, List.getElem?_cons_zero, List.getElem?_cons_succ]
              rfl
            · kernel_rfl
            · kernel_rfl
            · kernel_rfl
            · exact fun _ _ _ h => h
            · refine Or.inl ⟨by rfl, ?_⟩
              intro w hSw
              (try dsimp only at hSw)
              go_simp
              all_goals with_reducible rfl
            simp only [Act.put, List.setIfInBounds_toArray, List.set_cons_zero, List.set_cons_succ]
            refine wpAnyH_take (i := 10) (oi := ?_) (v := ?_) ?_ ?_ ?_ ?_ ?_ ?_ (by assumption) ?_
            rotate_left 2
            · simp only [List.getElem?_toArray, List.getElem?_cons_zero, List.getElem?_cons_succ]
              rfl
            · kernel_rfl
            · kernel_rfl
            · kernel_rfl
            · exact fun _ _ _ h => h
            · refine Or.inl ⟨by rfl, ?_⟩
              intro w hSw
              (try dsimp only at hSw)
              go_simp
              all_goals with_reducible rfl
            simp only [Act.put, List.setIfInBounds_toArray, List.set_cons_zero, List.set_cons_succ]
            refine wpAnyH_take (i := 11) (oi := ?_) (v := ?_) ?_ ?_ ?_ ?_ ?_ ?_ (by assumption) ?_
            rotate_left 2
            · simp only [List.getElem?_toArray, List.getElem?_cons_zero, List.getElem?_cons_succ]
              rfl
            · kernel_rfl
            · kernel_rfl
            · kernel_rfl
            · exact fun _ _ _ h => h
            · refine Or.inl ⟨by rfl, ?_⟩
              intro w hSw
              (try dsimp only at hSw)
              go_simp
              all_goals with_reducible rfl
            simp only [Act.put, List.setIfInBounds_toArray, List.set_cons_zero, List.set_cons_succ]
            refine wpAnyH_take (i := 12) (oi := ?_) (v := ?_) ?_ ?_ ?_ ?_ ?_ ?_ (by assumption) ?_
            rotate_left 2
            · simp only [List.getElem?_toArray, List.getElem?_cons_zero, List.getElem?_cons_succ]
              rfl
            · kernel_rfl
            · kernel_rfl
            · kernel_rfl
            · exact fun _ _ _ h => h
            · refine Or.inl ⟨by rfl, ?_⟩
              intro w hSw
              (try dsimp only at hSw)
              go_simp
              all_goals with_reducible rfl
            simp only [Act.put, List.setIfInBounds_toArray, List.set_cons_zero, List.set_cons_succ]
            refine wpAnyH_take (i := 13) (oi := ?_) (v := ?_) ?_ ?_ ?_ ?_ ?_ ?_ (by assumption) ?_
            rotate_left 2
            · simp only [List.getElem?_toArray, List.getElem?_cons_zero, List.getElem?_cons_succ]
              rfl
            · kernel_rfl
            · kernel_rfl
            · kernel_rfl
            · exact fun _ _ _ h => h
            · refine Or.inl ⟨by rfl, ?_⟩
              intro w hSw
              (try dsimp only at hSw)
              go_simp
              all_goals with_reducible rfl
            simp only [Act.put, List.setIfInBounds_toArray, List.set_cons_zero, List.set_cons_succ]
            refine wpAnyH_take (i := 14) (oi := ?_) (v := ?_) ?_ ?_ ?_ ?_ ?_ ?_ (by assumption) ?_
            rotate_left 2
            · simp only [List.getElem?_toArray, List.getElem?_cons_zero, List.getElem?_cons_succ]
              rfl
            · kernel_rfl
            · kernel_rfl
            · kernel_rfl
            · exact fun _ _ _ h => h
            · refine Or.inl ⟨by rfl, ?_⟩
              intro w hSw
              (try dsimp only at hSw)
              go_simp
              all_goals with_reducible rfl
            simp only [Act.put, List.setIfInBounds_toArray, List.set_cons_zero, List.set_cons_succ]
            refine wpAnyH_take (i := 16) (oi := ?_) (v := ?_) ?_ ?_ ?_ ?_ ?_ ?_ (by assumption) ?_
            rotate_left 2
            · simp only [List.getElem?_toArray, List.getElem?_cons_zero, List.getElem?_cons_succ]
              rfl
            · kernel_rfl
            · kernel_rfl
            · kernel_rfl
            · exact fun _ _ _ h => h
            · refine Or.inl ⟨by rfl, ?_⟩
              intro w hSw
              (try dsimp only at hSw)
              go_simp
              all_goals with_reducible rfl
            simp only [Act.put, List.setIfInBounds_toArray, List.set_cons_zero, List.set_cons_succ]
            refine wpAnyH_take (i := 17) (oi := ?_) (v := ?_) ?_ ?_ ?_ ?_ ?_ ?_ (by assumption) ?_
            rotate_left 2
            · simp only [List.getElem?_toArray, List.getElem?_cons_zero, List.getElem?_cons_succ]
              rfl
            · kernel_rfl
            · kernel_rfl
            · kernel_rfl
            · exact fun _ _ _ h => h
            · refine Or.inl ⟨by rfl, ?_⟩
              intro w hSw
              (try dsimp only at hSw)
              go_simp
              all_goals with_reducible rfl
            simp only [Act.put, List.setIfInBounds_toArray, List.set_cons_zero, List.set_cons_succ]
            refine wpAnyH_take (i := 18) (oi := ?_) (v := ?_) ?_ ?_ ?_ ?_ ?_ ?_ (by assumption) ?_
            rotate_left 2
            · simp only [List.getElem?_toArray, List.getElem?_cons_zero, List.getElem?_cons_succ]
              rfl
            · kernel_rfl
            · kernel_rfl
            · kernel_rfl
            · exact fun _ _ _ h => h
            · refine Or.inl ⟨by rfl, ?_⟩
              intro w hSw
              (try dsimp only at hSw)
              go_simp
              all_goals with_reducible rfl
            simp only [Act.put, List.setIfInBounds_toArray, List.set_cons_zero, List.set_cons_succ]
            refine wpAnyH_ready (rs := [15]) (by kernel_rfl) (by simp) ?_
            refine AllReadyH.cons (o := ?_) ?_ (fun KK hKK => ?_) AllReadyH.nil
            rotate_left
            · simp only [List.getElem?_toArray, List.getElem?_cons_zero, List.getElem?_cons_succ]
              rfl
            go_simp
            go_at_call 14; refine (next_any b L' p _ ((by assumption : Both w b br wr.heap.size L' now p _)).1.1 OKL.out r3 r4).mono ?_; rintro e w' ⟨rfl, hbq⟩
            try go_wp2_with fail
            refine hKK.out _ _ ?_ (fun hHeld5 => ?_)
            · (try dsimp only)
              (first | assumption | (exact HB1) | (exact Both.below (W := w) (b := b) (br := br) (ba := wr.heap.size) (L := L') (now := now) (p := p) (by assumption) (by assumption)))
            clear hKK KK
            try simp only [Act.put, List.setIfInBounds_toArray, List.set_cons_zero, List.set_cons_succ]
            refine wpAnyH_ready (rs := [19]) (by kernel_rfl) (by simp) ?_
            refine AllReadyH.cons (o := ?_) ?_ (fun KK hKK => ?_) AllReadyH.nil
            rotate_left
            · simp only [List.getElem?_toArray, List.getElem?_cons_zero, List.getElem?_cons_succ]
              rfl
            go_simp
            go_at_call 31; refine (rnext_any br L' p _ ((by assumption : Both w b br wr.heap.size L' now p _)).2.2.2.2.1 OKL.out r3 r4).mono ?_; rintro e w' ⟨rfl, rfl⟩
            try go_wp2_with fail
            refine hKK.out _ _ ?_ (fun hHeld6 => ?_)
            · (try dsimp only)
              (first | assumption | (exact HB1) | (exact Both.below (W := w) (b := b) (br := br) (ba := wr.heap.size) (L := L') (now := now) (p := p) (by assumption) (by assumption)))
            clear hKK KK
            try simp only [Act.put, List.setIfInBounds_toArray, List.set_cons_zero, List.set_cons_succ]
            refine wpAnyH_take (i := 20) (oi := ?_) (v := ?_) ?_ ?_ ?_ ?_ ?_ ?_ (by assumption) ?_
            rotate_left 2
            · simp only [List.getElem?_toArray, List.getElem?_cons_zero, List.getElem?_cons_succ]
              rfl
            · kernel_rfl
            · kernel_rfl
            · kernel_rfl
            · exact fun _ _ _ h => h
            · refine Or.inl ⟨by rfl, ?_⟩
              intro w hSw
              (try dsimp only at hSw)
              go_simp
              all_goals with_reducible rfl
            simp only [Act.put, List.setIfInBounds_toArray, List.set_cons_zero, List.set_cons_succ]
            refine wpAnyH_take (i := 21) (oi := ?_) (v := ?_) ?_ ?_ ?_ ?_ ?_ ?_ (by assumption) ?_
            rotate_left 2
            · simp only [List.getElem?_toArray, List.getElem?_cons_zero, List.getElem?_cons_succ]
              rfl
            · kernel_rfl
            · kernel_rfl
            · kernel_rfl
            · exact fun _ _ _ h => h
            · refine Or.inl ⟨by rfl, ?_⟩
              intro w hSw
              (try dsimp only at hSw)
              go_simp
              all_goals with_reducible rfl
            simp only [Act.put, List.setIfInBounds_toArray, List.set_cons_zero, List.set_cons_succ]
            refine wpAnyH_take (i := 22) (oi := ?_) (v := ?_) ?_ ?_ ?_ ?_ ?_ ?_ (by assumption) ?_
            rotate_left 2
            · simp only [List.getElem?_toArray, List.getElem?_cons_zero, List.getElem?_cons_succ]
              rfl
            · kernel_rfl
            · kernel_rfl
            · kernel_rfl
            · exact fun _ _ _ h => h
            · refine Or.inl ⟨by rfl, ?_⟩
              intro w hSw
              (try dsimp only at hSw)
              go_simp
              all_goals with_reducible rfl
            simp only [Act.put, List.setIfInBounds_toArray, List.set_cons_zero, List.set_cons_succ]
            refine wpAnyH_take (i := 23) (oi := ?_) (v := ?_) ?_ ?_ ?_ ?_ ?_ ?_ (by assumption) ?_
            rotate_left 2
            · simp only [List.getElem?_toArray, List.getElem?_cons_zero, List.getElem?_cons_succ]
              rfl
            · kernel_rfl
            · kernel_rfl
            · kernel_rfl
            · exact fun _ _ _ h => h
            · refine Or.inl ⟨by rfl, ?_⟩
              intro w hSw
              (try dsimp only at hSw)
              go_simp
              all_goals with_reducible rfl
            simp only [Act.put, List.setIfInBounds_toArray, List.set_cons_zero, List.set_cons_succ]
            refine wpAnyH_take (i := 25) (oi := ?_) (v := ?_) ?_ ?_ ?_ ?_ ?_ ?_ (by assumption) ?_
            rotate_left 2
            · simp only [List.getElem?_toArray, List.getElem?_cons_zero, List.getElem?_cons_succ]
              rfl
            · kernel_rfl
            · kernel_rfl
            · kernel_rfl
            · exact fun _ _ _ h => h
            · refine Or.inl ⟨by rfl, ?_⟩
              intro w hSw
              (try dsimp only at hSw)
              go_simp
              all_goals with_reducible rfl
            simp only [Act.put, List.setIfInBounds_toArray, List.set_cons_zero, List.set_cons_succ]
            refine wpAnyH_ready (rs := [24]) (by kernel_rfl) (by simp) ?_
            refine AllReadyH.cons (o := ?_) ?_ (fun KK hKK => ?_) AllReadyH.nil
            rotate_left
            · simp only [List.getElem?_toArray, List.getElem?_cons_zero, List.getElem?_cons_succ]
              rfl
            go_simp
            go_at_call 18; refine (keepAt_any b L' _ ((by assumption : Both w b br wr.heap.size L' now p _)).1.1 OKL.out).mono ?_; rintro e w' ⟨rfl, hbq⟩; rw [HKK.out]
            try go_wp2_with fail
            refine hKK.out _ _ ?_ (fun hHeld7 => ?_)
            · (try dsimp only)
              (first | assumption | (exact HB1) | (exact Both.below (W := w) (b := b) (br := br) (ba := wr.heap.size) (L := L') (now := now) (p := p) (by assumption) (by assumption)))
            clear hKK KK
            try simp only [Act.put, List.setIfInBounds_toArray, List.set_cons_zero, List.set_cons_succ]
            refine wpAnyH_take (i := 26) (oi := ?_) (v := ?_) ?_ ?_ ?_ ?_ ?_ ?_ (by assumption) ?_
            rotate_left 2
            · simp only [List.getElem?_toArray, List.getElem?_cons_zero, List.getElem?_cons_succ]
              rfl
            · kernel_rfl
            · kernel_rfl
            · kernel_rfl
            · exact fun _ _ _ h => h
            · refine Or.inl ⟨by rfl, ?_⟩
              intro w hSw
              (try dsimp only at hSw)
              go_simp
              all_goals with_reducible rfl
            simp only [Act.put, List.setIfInBounds_toArray, List.set_cons_zero, List.set_cons_succ]
            refine wpAnyH_take (i := 27) (oi := ?_) (v := ?_) ?_ ?_ ?_ ?_ ?_ ?_ (by assumption) ?_
            rotate_left 2
            · simp only [List.getElem?_toArray, List.getElem?_cons_zero, List.getElem?_cons_succ]
              rfl
            · kernel_rfl
            · kernel_rfl
            · kernel_rfl
            · exact fun _ _ _ h => h
            · refine Or.inl ⟨by rfl, ?_⟩
              intro w hSw
              (try dsimp only at hSw)
              go_simp
              all_goals with_reducible rfl
            simp only [Act.put, List.setIfInBounds_toArray, List.set_cons_zero, List.set_cons_succ]
            refine wpAnyH_take (i := 28) (oi := ?_) (v := ?_) ?_ ?_ ?_ ?_ ?_ ?_ (by assumption) ?_
            rotate_left 2
            · simp only [List.getElem?_toArray, List.getElem?_cons_zero, List.getElem?_cons_succ]
              rfl
            · kernel_rfl
            · kernel_rfl
            · kernel_rfl
            · exact fun _ _ _ h => h
            · refine Or.inl ⟨by rfl, ?_⟩
              intro w hSw
              (try dsimp only at hSw)
              go_simp
              all_goals with_reducible rfl
            simp only [Act.put, List.setIfInBounds_toArray, List.set_cons_zero, List.set_cons_succ]
            refine wpAnyH_take (i := 29) (oi := ?_) (v := ?_) ?_ ?_ ?_ ?_ ?_ ?_ (by assumption) ?_
            rotate_left 2
            · simp only [List.getElem?_toArray, List.getElem?_cons_zero, List.getElem?_cons_succ]
              rfl
            · kernel_rfl
            · kernel_rfl
            · kernel_rfl
            · exact fun _ _ _ h => h
            · refine Or.inl ⟨by rfl, ?_⟩
              intro w hSw
              (try dsimp only at hSw)
              go_simp
              all_goals with_reducible rfl
            simp only [Act.put, List.setIfInBounds_toArray, List.set_cons_zero, List.set_cons_succ]
            refine wpAnyH_take (i := 30) (oi := ?_) (v := ?_) ?_ ?_ ?_ ?_ ?_ ?_ (by assumption) ?_
            rotate_left 2
            · simp only [List.getElem?_toArray, List.getElem?_cons_zero, List.getElem?_cons_succ]
              rfl
            · kernel_rfl
            · kernel_rfl
            · kernel_rfl
            · exact fun _ _ _ h => h
            · refine Or.inl ⟨by rfl, ?_⟩
              intro w hSw
              (try dsimp only at hSw)
              go_simp
              all_goals with_reducible rfl
            simp only [Act.put, List.setIfInBounds_toArray, List.set_cons_zero, List.set_cons_succ]
            refine wpAnyH_take (i := 31) (oi := ?_) (v := ?_) ?_ ?_ ?_ ?_ ?_ ?_ (by assumption) ?_
            rotate_left 2
            · simp only [List.getElem?_toArray, List.getElem?_cons_zero, List.getElem?_cons_succ]
              rfl
            · kernel_rfl
            · kernel_rfl
            · kernel_rfl
            · exact fun _ _ _ h => h
            · refine Or.inl ⟨by rfl, ?_⟩
              intro w hSw
              (try dsimp only at hSw)
              go_simp
              all_goals with_reducible rfl
            simp only [Act.put, List.setIfInBounds_toArray, List.set_cons_zero, List.set_cons_succ]
            refine wpAnyH_take (i := 33) (oi := ?_) (v := ?_) ?_ ?_ ?_ ?_ ?_ ?_ (by assumption) ?_
            rotate_left 2
            · simp only [List.getElem?_toArray, List.getElem?_cons_zero, List.getElem?_cons_succ]
              rfl
            · kernel_rfl
            · kernel_rfl
            · kernel_rfl
            · exact fun _ _ _ h => h
            · refine Or.inl ⟨by rfl, ?_⟩
              intro w hSw
              (try dsimp only at hSw)
              go_simp
              all_goals with_reducible rfl
            simp only [Act.put, List.setIfInBounds_toArray, List.set_cons_zero, List.set_cons_succ]
            refine wpAnyH_take (i := 34) (oi := ?_) (v := ?_) ?_ ?_ ?_ ?_ ?_ ?_ (by assumption) ?_
            rotate_left 2
            · simp only [List.getElem?_toArray, List.getElem?_cons_zero, List.getElem?_cons_succ]
              rfl
            · kernel_rfl
            · kernel_rfl
            · kernel_rfl
            · exact fun _ _ _ h => h
            · refine Or.inl ⟨by rfl, ?_⟩
              intro w hSw
              (try dsimp only at hSw)
              go_simp
              all_goals with_reducible rfl
            simp only [Act.put, List.setIfInBounds_toArray, List.set_cons_zero, List.set_cons_succ]
            refine wpAnyH_ready (rs := [32]) (by kernel_rfl) (by simp) ?_
            refine AllReadyH.cons (o := ?_) ?_ (fun KK hKK => ?_) AllReadyH.nil
            rotate_left
            · simp only [List.getElem?_toArray, List.getElem?_cons_zero, List.getElem?_cons_succ]
              rfl
            go_simp
            go_at_call 19; refine (keep_any b L' now _ ((by assumption : Both w b br wr.heap.size L' now p _)).1.1 OKL.out r1 r2).mono ?_; rintro e w' ⟨rfl, hbq⟩; rw [hks.out]
            try go_wp2_with fail
            refine hKK.out _ _ ?_ (fun hHeld8 => ?_)
            · (try dsimp only)
              (first | assumption | (exact HB1) | (exact Both.below (W := w) (b := b) (br := br) (ba := wr.heap.size) (L := L') (now := now) (p := p) (by assumption) (by assumption)))
            clear hKK KK
            try simp only [Act.put, List.setIfInBounds_toArray, List.set_cons_zero, List.set_cons_succ]
            refine wpAnyH_take (i := 35) (oi := ?_) (v := ?_) ?_ ?_ ?_ ?_ ?_ ?_ (by assumption) ?_
            rotate_left 2
            · simp only [List.getElem?_toArray, List.getElem?_cons_zero, List.getElem?_cons_succ]
              rfl
            · kernel_rfl
            · kernel_rfl
            · kernel_rfl
            · exact fun _ _ _ h => h
            · refine Or.inl ⟨by rfl, ?_⟩
              intro w hSw
              (try dsimp only at hSw)
              go_simp
              all_goals with_reducible rfl
            simp only [Act.put, List.setIfInBounds_toArray, List.set_cons_zero, List.set_cons_succ]
            refine wpAnyH_take (i := 36) (oi := ?_) (v := undef) ?_ ?_ ?_ ?_ ?_ ?_ (by assumption) ?_
            rotate_left 1
            · simp only [List.getElem?_toArray, List.getElem?_cons_zero, List.getElem?_cons_succ]
              rfl
            · kernel_rfl
            · kernel_rfl
            · kernel_rfl
            · exact fun _ _ _ h => h
            · exact Or.inr ⟨by rfl, rfl⟩
            simp only [Act.put, List.setIfInBounds_toArray, List.set_cons_zero, List.set_cons_succ]
            refine wpAnyH_take (i := 37) (oi := ?_) (v := undef) ?_ ?_ ?_ ?_ ?_ ?_ (by assumption) ?_
            rotate_left 1
            · simp only [List.getElem?_toArray, List.getElem?_cons_zero, List.getElem?_cons_succ]
              rfl
            · kernel_rfl
            · kernel_rfl
            · kernel_rfl
            · exact fun _ _ _ h => h
            · exact Or.inr ⟨by rfl, rfl⟩
            simp only [Act.put, List.setIfInBounds_toArray, List.set_cons_zero, List.set_cons_succ]
            refine wpAnyH_take (i := 38) (oi := ?_) (v := undef) ?_ ?_ ?_ ?_ ?_ ?_ (by assumption) ?_
            rotate_left 1
            · simp only [List.getElem?_toArray, List.getElem?_cons_zero, List.getElem?_cons_succ]
              rfl
            · kernel_rfl
            · kernel_rfl
            · kernel_rfl
            · exact fun _ _ _ h => h
            · exact Or.inr ⟨by rfl, rfl⟩
            simp only [Act.put, List.setIfInBounds_toArray, List.set_cons_zero, List.set_cons_succ]
            refine wpAnyH_take (i := 39) (oi := ?_) (v := undef) ?_ ?_ ?_ ?_ ?_ ?_ (by assumption) ?_
            rotate_left 1
            · simp only [List.getElem?_toArray, List.getElem?_cons_zero, List.getElem?_cons_succ]
              rfl
            · kernel_rfl
            · kernel_rfl
            · kernel_rfl
            · exact fun _ _ _ h => h
            · exact Or.inr ⟨by rfl, rfl⟩
            simp only [Act.put, List.setIfInBounds_toArray, List.set_cons_zero, List.set_cons_succ]
            refine wpAnyH_take (i := 40) (oi := ?_) (v := ?_) ?_ ?_ ?_ ?_ ?_ ?_ (by assumption) ?_
            rotate_left 2
            · simp only [List.getElem?_toArray, List.getElem?_cons_zero, List.getElem?_cons_succ]
              rfl
            · kernel_rfl
            · kernel_rfl
            · kernel_rfl
            · exact fun _ _ _ h => h
            · refine Or.inl ⟨by rfl, ?_⟩
              intro w hSw
              (try dsimp only at hSw)
              go_simp
              all_goals with_reducible rfl
            simp only [Act.put, List.setIfInBounds_toArray, List.set_cons_zero, List.set_cons_succ]
            refine wpAnyH_take (i := 41) (oi := ?_) (v := ?_) ?_ ?_ ?_ ?_ ?_ ?_ (by assumption) ?_
            rotate_left 2
            · simp only [List.getElem?_toArray, List.getElem?_cons_zero, List.getElem?_cons_succ]
              rfl
            · kernel_rfl
            · kernel_rfl
            · kernel_rfl
            · exact fun _ _ _ h => h
            · refine Or.inl ⟨by rfl, ?_⟩
              intro w hSw
              (try dsimp only at hSw)
              go_simp
              all_goals with_reducible rfl
            simp only [Act.put, List.setIfInBounds_toArray, List.set_cons_zero, List.set_cons_succ]
            refine wpAnyH_take (i := 42) (oi := ?_) (v := ?_) ?_ ?_ ?_ ?_ ?_ ?_ (by assumption) ?_
            rotate_left 2
            · simp only [List.getElem?_toArray, List.getElem?_cons_zero, List.getElem?_cons_succ]
              rfl
            · kernel_rfl
            · kernel_rfl
            · kernel_rfl
            · exact fun _ _ _ h => h
            · refine Or.inl ⟨by rfl, ?_⟩
              intro w hSw
              (try dsimp only at hSw)
              go_simp
              all_goals with_reducible rfl
            simp only [Act.put, List.setIfInBounds_toArray, List.set_cons_zero, List.set_cons_succ]
            refine wpAnyH_done (by kernel_rfl) ?_ _
            have HB6 : Both w b br wr.heap.size L' now p _ := hHeld8
            try clear HB HB1
            try go_wp2_with fail
            go_meet
            exact ⟨rfl, HB6⟩
        · have hkb : (K != 18446744073709551615) = true := by simp [hkn]
          have hks : Hid (Lf.keeps L' now = decide (K ≤ now)) := by unfold Hid Lf.keeps; rw [HKK.out]; simp [Lf.never, hkn]
          clear hkn
          as_aux_lemma =>
            go_wp2
            go_region_held3 (fun w' => OwnL w b L' w' ∧ w'.cell? ⟨br, 0, none⟩ = some (.int .i64 L'.state) ∧ w'.cell? ⟨wr.heap.size, 1, none⟩ = some (.int .u64 now) ∧ w'.cell? ⟨wr.heap.size, 2, none⟩ = some (.int .u64 p) ∧ RefAt w' br L' ∧ wr.heap.size < w'.heap.size)
              (first | assumption | (exact HB1) | (exact Both.below (W := w) (b := b) (br := br) (ba := wr.heap.size) (L := L') (now := now) (p := p) (by assumption) (by assumption)))
              (first
                | (go_at_call 15; refine (o_state w _ b L' ((by assumption : Both w b br wr.heap.size L' now p _)).1).mono ?_; rintro e w' ⟨rfl, rfl⟩)
                | (go_at_call 14; refine (next_any b L' p _ ((by assumption : Both w b br wr.heap.size L' now p _)).1.1 OKL.out r3 r4).mono ?_; rintro e w' ⟨rfl, hbq⟩)
                | (go_at_call 31; refine (rnext_any br L' p _ ((by assumption : Both w b br wr.heap.size L' now p _)).2.2.2.2.1 OKL.out r3 r4).mono ?_; rintro e w' ⟨rfl, rfl⟩)
                | (go_at_call 18; refine (keepAt_any b L' _ ((by assumption : Both w b br wr.heap.size L' now p _)).1.1 OKL.out).mono ?_; rintro e w' ⟨rfl, hbq⟩; rw [HKK.out])
                | (go_at_call 19; refine (keep_any b L' now _ ((by assumption : Both w b br wr.heap.size L' now p _)).1.1 OKL.out r1 r2).mono ?_; rintro e w' ⟨rfl, hbq⟩; rw [hks.out]))
            all_goals
              have HB6 : Both w b br wr.heap.size L' now p w' := by assumption
              clear HB HB1
              try go_wp2_with fail
              go_meet
              exact ⟨rfl, HB6⟩
    · obtain rfl : k = n3 := by omega
      clear hlt
      go_wp2
      go_ret
      exact ⟨rfl, HO.below⟩

set_option maxRecDepth 100000 in
theorem lifeActs_walk (a0 a1 a2 : Int) (A3 : Option Addr) (n3 c3 : Nat) (l3 : List Act) (w : World) (w0 : (Lit.int .u64 a0).wf = true) (w1 : (Lit.int .u64 a1).wf = true) (w2 : (Lit.int .u64 a2).wf = true) (w3 : Acts w A3 n3 l3) (x3 : n3 ≤ c3 ∧ c3 ≤ maxLen) :
    Calls Try.prog 9 #[.int .u64 a0, .int .u64 a1, .int .u64 a2, .slice A3 n3 c3] w fun e w' => e = .returned (.bool true) ∧ Below w.heap.size w w' := by
  replace w0 := bounds_u64 w0
  replace w1 := bounds_u64 w1
  replace w2 := bounds_u64 w2
  by_cases hsm : n3 ≤ 100
  · exact lifeActs_small a0 a1 a2 A3 n3 c3 l3 w w0.1 w0.2 w1.1 w1.2 w2.1 w2.2 w3 hsm
  · have hbig : 100 < (n3 : Int) := by omega
    have hq : decide (100 < (n3 : Int)) = true := by simp; omega
    clear hsm
    clear w0 w1 w2 w3
    go_enter Try.func9, Try.ntmps9
    go_wp2_with fail
    refine (alive_true _).mono ?_
    rintro e w1 ⟨rfl, hb1⟩
    have HA := Lib.hid hb1
    clear hb1
    go_wp2
    go_ret
    exact ⟨rfl, HA.out⟩

end Go.Proofs.Ytckmnjeibikeeaa
