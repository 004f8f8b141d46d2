/- Layer 17's outflow, walked: run. -/
import Derived.Test.YtdloeakmoaoalaaRows
import Derived.Test.YtdloeakmoaoalaaAid
import Derived.Test.YtdloeakmoaoalaaPlainOf
import Derived.Test.YtdloeakmoaoalaaOfW
import Derived.Test.YtdloeakmoaoalaaOfX
import Derived.Test.YtdloeakmoaoalaaOfA
import Derived.Test.YtdloeakmoaoalaaOfC
import Derived.WalkKit
import Derived.OwnWalk
import Derived.Laws.Rows
import Derived.Laws.Tables
import Derived.WalkSpells
import Derived.WalkLawsBesides
import Derived.BigQuiet
import Derived.Handy
import Derived.Lib.Hide
import Derived.IntWalk
import Derived.WalkMore
import Derived.ScopeJumps
namespace Go.Proofs.Ytdloeakmoaoalaa
open Go.RowKit
set_option linter.unusedVariables false
set_option linter.unusedSimpArgs false

/-- What run tells. -/
def runV (l : List Nat) (c many : Nat) : Value × Value × Value :=
  if Of.fst c l < l.length then (.int .i64 (Of.fst c l : Nat), .int .i64 ((Of.fst c l + Of.runs c (l.drop (Of.fst c l)) many : Nat) : Int), .bool true) else (.int .i64 0, .int .i64 0, .bool false)
theorem runs_step {c : Nat} {l : List Nat} {many j : Nat} (hj : j ≤ Of.runs c l many) : j < Of.runs c l many ↔ j < l.length ∧ j < many ∧ l.getD j 0 = c := by
  have h1 := Of.runs_le c l many
  constructor
  · intro h; exact ⟨by omega, by omega, Of.runs_in c l many j h⟩
  · rintro ⟨a, b, d⟩
    rcases Nat.lt_or_ge j (Of.runs c l many) with h | h
    · exact h
    · have : j = Of.runs c l many := by omega
      subst this
      exact absurd d (Of.runs_end c l many b a)
def intOf' : Value → Int | .int _ q => q | _ => 0

set_option maxRecDepth 1000000 in
set_option maxHeartbeats 2000000 in
theorem run_any (a gb gs cs top many : Nat) (x : Of.B) (w : World) (h : Bf w a gb gs x) (hok : Of.Ok x) (ht : top ≤ x.s.length) (hc : cs ≤ 3) (hm : many ≤ 9223372036854775807) :
    Calls Try.prog 49 #[.pointer (some ⟨a, 0, none⟩), .int .u8 (cs : Int), .int .i64 (top : Int), .int .i64 (many : Int)] w fun e w' =>
      e = .returned (.tuple #[(runV (x.s.take top) cs many).1, (runV (x.s.take top) cs many).2.1, (runV (x.s.take top) cs many).2.2]) ∧ w = w' := by
  obtain ⟨vb, vs, hO, hb, hs, hsep⟩ := h
  obtain ⟨base, c, rfl, hlc, hcm, _, hcell⟩ := hs.form
  have f1 : w.cell? ⟨a, 1, none⟩ = some (.slice base x.s.length c) := by rw [hO.cell]; rfl
  have hsl : x.s.length ≤ 2000 := by have := hok.len; have := hok.cap; omega
  have HI := Lib.hid (idx_any gs top c cs base x.s w hs ht (by omega) (fun y hy => by have := hok.st y hy; omega))
  have hlen : (x.s.take top).length = top := by rw [List.length_take]; omega
  have hfl := Of.fst_le cs (x.s.take top)
  rw [hlen] at hfl
  have HX : Hid (idx cs (x.s.take top) = if Of.fst cs (x.s.take top) < top then (Of.fst cs (x.s.take top) : Int) else -1) := by unfold Hid idx; rw [hlen]
  have HR : Hid (runV (x.s.take top) cs many = if Of.fst cs (x.s.take top) < top then (.int .i64 (Of.fst cs (x.s.take top) : Nat), .int .i64 ((Of.fst cs (x.s.take top) + Of.runs cs ((x.s.take top).drop (Of.fst cs (x.s.take top))) many : Nat) : Int), .bool true) else (.int .i64 0, .int .i64 0, .bool false)) := by unfold Hid runV; rw [hlen]
  obtain ⟨R, hRd⟩ : ∃ R, Of.runs cs ((x.s.take top).drop (Of.fst cs (x.s.take top))) many = R := ⟨_, rfl⟩
  have hstep : ∀ j, j ≤ R → (j < R ↔ Of.fst cs (x.s.take top) + j < top ∧ j < many ∧ x.s.getD (Of.fst cs (x.s.take top) + j) 0 = cs) := fun j hj => by
    subst hRd
    rw [runs_step hj, List.length_drop, hlen, List.getD_eq_getElem?_getD, List.getElem?_drop, List.getElem?_take, List.getD_eq_getElem?_getD]
    constructor
    · rintro ⟨h1, h2, h3⟩
      rw [if_pos (by omega)] at h3
      exact ⟨by omega, h2, h3⟩
    · rintro ⟨h1, h2, h3⟩
      rw [if_pos (by omega)]
      exact ⟨by omega, h2, h3⟩
  rw [hRd] at HR
  have hst : ∀ i, x.s.getD i 0 ≤ 3 := fun i => by
    rw [List.getD_eq_getElem?_getD]
    cases hg : x.s[i]? with
    | none => simp
    | some y => simpa using hok.st y (List.mem_of_getElem? hg)
  clear hO hb hs hsep
  obtain ⟨sg, hsg⟩ : ∃ sg : Nat → Nat, ∀ i, x.s.getD i 0 = sg i := ⟨fun i => x.s.getD i 0, fun _ => rfl⟩
  simp only [hsg] at hcell hstep hst
  generalize Of.fst cs (x.s.take top) = p at *
  generalize idx cs (x.s.take top) = q at *
  generalize runV (x.s.take top) cs many = V at *
  generalize x.s.length = m at *
  have HC : Hid (∀ i, i < m → base = some ⟨gs, 0, none⟩ ∧ w.cell? ⟨gs, i, none⟩ = some (.int .u8 (sg i : Int))) := hcell
  have HS : Hid (∀ t, p ≤ t → t ≤ p + R → (t < p + R ↔ t < top ∧ t - p < many ∧ sg t = cs)) := fun t h1 h2 => by
    have := hstep (t - p) (by omega)
    rw [show p + (t - p) = t by omega] at this
    rw [← this]
    omega
  clear hcell hstep hlen hok hRd
  go_enter Try.func49, Try.ntmps49
  go_wp2
  refine wp_scope_jumps 0 (fun a' w' => w' = w ∧ q = (p : Int) ∧ p < top ∧ ∃ (t : Nat) (u24 u25 u26 u27 u28 u29 u30 u31 u32 u33 u34 u35 u36 u37 u38 u39 u40 u41 u42 u43 u44 u45 u46 : Value), p ≤ t ∧ t ≤ p + R ∧ a' = { tmps := #[Value.pointer (some ⟨a, 0, none⟩), .int .u8 (cs : Int), .int .i64 (top : Int), .int .i64 (many : Int), undef, undef, undef, undef, .int .i64 0, .int .i64 0, .bool false, .int .i64 (p : Int), .int .i64 (t : Int), .pointer (some ⟨a, 0, none⟩), .pointer (some ⟨a, 0, none⟩), .pointer (some ⟨a, 1, none⟩), .slice base m c, .int .i64 (top : Int), .slice base top c, .int .u8 (cs : Int), .int .i64 (p : Int), .int .i64 (p : Int), .int .i64 (p : Int), .bool (decide ((p : Int) < 0)), u24, u25, u26, u27, u28, u29, u30, u31, u32, u33, u34, u35, u36, u37, u38, u39, u40, u41, u42, u43, u44, u45, u46, undef, undef], defers := [] }) (fun a' _ => top - (intOf' (a'.tmps.getD 12 undef)).toNat) rfl ?_ ?_
  · go_wp2_with fail
    refine HI.out.mono ?_
    rintro e w1 ⟨rfl, rfl⟩
    by_cases hp : p < top
    · have hq : q = (p : Int) := by rw [HX.out, if_pos hp]
      subst hq
      rw [if_pos hp] at HR
      go_wp2
      go_step3
      have hpt : p ≤ p := Nat.le_refl _
      have hj : p ≤ p + R := by omega
      by_cases hjR : p < p + R
      · obtain ⟨h1, h2, h3⟩ := (HS.out p hpt hj).1 hjR
        obtain ⟨hbs, hc1⟩ := HC.out p (by omega)
        subst hbs
        rw [h3] at hc1
        have e1 : 0 < (many : Int) := by omega
        have HE := Lib.hid hjR
        clear hjR hj h2
        go_wp2
        go_step3
        have hjR := HE.out
        exact ⟨rfl, ⟨rfl, rfl, hp, p + 1, _, _, _, _, _, _, _, _, _, _, _, _, _, _, _, _, _, _, _, _, _, _, _, by omega, by omega, rfl⟩⟩
      · obtain rfl : R = 0 := by omega
        rw [Nat.add_zero] at HR
        have HNO := Lib.hid (fun h => hjR ((HS.out p hpt hj).2 h))
        clear hjR hj
        by_cases h1 : p < top
        · obtain ⟨hbs, hc1⟩ := HC.out p (by omega)
          subst hbs
          by_cases e1 : 0 < (many : Int)
          · have h3 : sg p ≠ cs := fun e => HNO.out ⟨h1, by omega, e⟩
            have h4 := hst p
            go_wp2
            simp only [Exit.jump]
            go_ret3
            rw [HR.out]
            exact ⟨rfl, rfl⟩
          · skip
            go_wp2
            simp only [Exit.jump]
            go_ret3
            rw [HR.out]
            exact ⟨rfl, rfl⟩
        · exact absurd hp h1
    · obtain rfl : q = -1 := by rw [HX.out, if_neg hp]
      rw [if_neg hp] at HR
      go_wp2
      simp only [Exit.jump]
      go_ret3
      rw [HR.out]
      exact ⟨rfl, rfl⟩
  · rintro a' w' ⟨rfl, hq, hp, t, u24, u25, u26, u27, u28, u29, u30, u31, u32, u33, u34, u35, u36, u37, u38, u39, u40, u41, u42, u43, u44, u45, u46, hpt, hj, rfl⟩
    rw [if_pos hp] at HR
    by_cases hjR : t < p + R
    · obtain ⟨h1, h2, h3⟩ := (HS.out t hpt hj).1 hjR
      obtain ⟨hbs, hc1⟩ := HC.out t (by omega)
      subst hbs
      rw [h3] at hc1
      have e1 : (t : Int) - (p : Int) < (many : Int) := by omega
      have HE := Lib.hid hjR
      clear hjR hj h2
      go_wp2
      go_step3
      have hjR := HE.out
      refine ⟨rfl, ⟨rfl, hq, hp, t + 1, _, _, _, _, _, _, _, _, _, _, _, _, _, _, _, _, _, _, _, _, _, _, _, by omega, by omega, rfl⟩, ?_⟩
      simp [intOf']
      omega
    · have htR : t = p + R := by omega
      rw [← htR] at HR
      have HNO := Lib.hid (fun h => hjR ((HS.out t hpt hj).2 h))
      clear hjR hj htR
      by_cases h1 : t < top
      · obtain ⟨hbs, hc1⟩ := HC.out t (by omega)
        subst hbs
        by_cases e1 : (t : Int) - (p : Int) < (many : Int)
        · have h3 : sg t ≠ cs := fun e => HNO.out ⟨h1, by omega, e⟩
          have h4 := hst t
          go_wp2
          simp only [Exit.jump]
          go_ret3
          rw [HR.out]
          exact ⟨rfl, rfl⟩
        · skip
          go_wp2
          simp only [Exit.jump]
          go_ret3
          rw [HR.out]
          exact ⟨rfl, rfl⟩
      · skip
        go_wp2
        simp only [Exit.jump]
        go_ret3
        rw [HR.out]
        exact ⟨rfl, rfl⟩
end Go.Proofs.Ytdloeakmoaoalaa
