/- Layer 15: few, walked. -/
import Derived.Test.YtlldomgfjmkcdaaRows
import Derived.Test.YtlldomgfjmkcdaaAid
import Derived.Test.YtlldomgfjmkcdaaLgW
import Derived.Test.YtlldomgfjmkcdaaLgO
import Derived.Test.YtlldomgfjmkcdaaLgZ
import Derived.WalkLawsBesides
namespace Go.Proofs.Ytlldomgfjmkcdaa
open Go Go.RowKit
set_option linter.unusedVariables false
set_option linter.unusedSimpArgs false

def FewF (f : Frm) : Prop := f.data.length ≤ 100 ∧ f.rngs.length ≤ 20
def FewA (a : Act15) : Prop := a.rngs.length ≤ 20 ∧ a.frs.length ≤ 5 ∧ ∀ f ∈ a.frs, FewF f
def Few (l : List Act15) : Prop := l.length ≤ 120 ∧ ∀ a ∈ l, FewA a
def FewP (l : List Act15) (w : World) (e : Ending) (w' : World) : Prop := ∃ b, e = .returned (.bool b) ∧ (b = true → Few l) ∧ w = w'
theorem mem_take_getD {α : Type} [Inhabited α] {l : List α} {k : Nat} {P : α → Prop} (h : ∀ a ∈ l.take k, P a) (hk : k < l.length) (h1 : P (l.getD k default)) : ∀ a ∈ l.take (k + 1), P a := fun a ha => by
  rw [List.take_succ_eq_append_getElem hk] at ha
  rcases List.mem_append.1 ha with h2 | h2
  · exact h a h2
  · simp only [List.mem_singleton] at h2
    rw [List.getD_eq_getElem?_getD, List.getElem?_eq_getElem hk] at h1
    rw [h2]; exact h1
theorem getD_mem {α : Type} [Inhabited α] {l : List α} {k : Nat} (hk : k < l.length) : l.getD k default ∈ l := by
  rw [List.getD_eq_getElem?_getD, List.getElem?_eq_getElem hk]; exact List.getElem_mem _

set_option maxRecDepth 100000 in
set_option maxHeartbeats 4000000 in
theorem few_any (A : Option Addr) (n c : Nat) (l : List Act15) (w : World) (hl : Acts15 w A n l) (hc : n ≤ c ∧ c ≤ maxLen) :
    Calls Try.prog 8 #[.slice A n c] w (FewP l w) := by
  obtain ⟨hln, hok, hcell⟩ := hl
  have hcm := hc.2
  unfold maxLen at hcm
  have HL := Lib.hid hln
  have HO := Lib.hid hok
  have HC := Lib.hid hcell
  clear hln hok hcell
  by_cases h120 : 120 < n
  · have h1 : (120 : Int) < (n : Int) := by omega
    go_enter Try.func8, Try.ntmps8
    go_wp2
    go_ret
    exact ⟨false, rfl, by simp, rfl⟩
  · have h1 : ¬ (120 : Int) < (n : Int) := by omega
    go_enter Try.func8, Try.ntmps8
    go_wp2
    go_loop [3, 4] (fun i _ => ∃ k : Nat, k ≤ n ∧ i = .int .i64 (k : Int) ∧ ∀ a ∈ l.take k, FewA a) (fun i _ => n - (intOf i).toNat)
    case atStart => exact ⟨0, Nat.zero_le _, rfl, by simp⟩
    case round =>
      obtain ⟨k, hk, rfl, hf⟩ := hrel
      have HF := Lib.hid hf
      clear hf
      by_cases hlt : k < n
      · have hki : (k : Int) < (n : Int) := by omega
        have hkl : k < l.length := by rw [HL.out]; exact hlt
        have hA := HO.out _ (getD_mem hkl)
        obtain ⟨B, off, rfl, hB, hcl⟩ := HC.out (by omega)
        have hcl := hcl k hlt
        have HN : Hid (FewA (l.getD k default) → ∀ a ∈ l.take (k + 1), FewA a) := fun h => mem_take_getD HF.out hkl h
        generalize l.getD k default = a at *
        obtain ⟨kind, num, tm, sz, ask, fA, fn, fc, frs, rA, rn, rc, rngs, d⟩ := a
        have f5 : w.cell? ⟨B, off + k * 8 + 1 + 4, none⟩ = some (.slice fA fn fc) := hcl 5 _ rfl
        have f6 : w.cell? ⟨B, off + k * 8 + 6, none⟩ = some (.slice rA rn rc) := hcl 6 _ rfl
        have hfl : frs.length = fn := hA.fl
        have hrl : rngs.length = rn := hA.rl
        have hfr := hA.fr
        dsimp only at hfr
        have HFL := Lib.hid hfl
        have HRL := Lib.hid hrl
        have HFR := Lib.hid hfr
        have HFO : Hid (∀ f ∈ frs, FOk w f) := hA.fok
        clear hcl hA hfl hrl hfr
        by_cases c1 : 20 < rn
        · have d1 : decide ((20 : Int) < (rn : Int)) = true := by simp; omega
          have d1' : decide (20 < rn) = true := by simp; omega
          go_wp2
          go_ret
          exact ⟨false, rfl, by simp, rfl⟩
        · have d1 : decide ((20 : Int) < (rn : Int)) = false := by simp; omega
          have d1' : decide (20 < rn) = false := by simp; omega
          by_cases c2 : 5 < fn
          · have d2 : decide ((5 : Int) < (fn : Int)) = true := by simp; omega
            have d2' : decide (5 < fn) = true := by simp; omega
            go_wp2
            go_ret
            exact ⟨false, rfl, by simp, rfl⟩
          · have d2 : decide ((5 : Int) < (fn : Int)) = false := by simp; omega
            have d2' : decide (5 < fn) = false := by simp; omega
            go_wp2
            go_loop [4] (fun i => ∃ q : Nat, q ≤ fn ∧ i = .int .i64 (q : Int) ∧ ∀ f ∈ frs.take q, FewF f) (fun i => fn - (intOf i).toNat)
            case atStart => exact ⟨0, Nat.zero_le _, rfl, by simp⟩
            case round =>
              obtain ⟨q, hq, rfl, hg⟩ := hrel
              have HG := Lib.hid hg
              clear hg
              by_cases hlt2 : q < fn
              · have hqi : (q : Int) < (fn : Int) := by omega
                have hql : q < frs.length := by rw [HFL.out]; exact hlt2
                have hF := HFO.out _ (getD_mem hql)
                obtain ⟨fb, fo, rfl, hfb, hcf⟩ := HFR.out (by omega)
                have hcf := hcf q hlt2
                have HN2 : Hid (FewF (frs.getD q default) → ∀ f ∈ frs.take (q + 1), FewF f) := fun h => mem_take_getD HG.out hql h
                generalize frs.getD q default = f at *
                obtain ⟨fk, fid, fa, fb', fcode, flag, dA, dn, dc, rA2, rn2, rc2, data, rngs2, tok⟩ := f
                have g6 : w.cell? ⟨fb, fo + q * 24 + 6, none⟩ = some (.slice dA dn dc) := hcf 6 _ rfl
                have g7 : w.cell? ⟨fb, fo + q * 24 + 7, none⟩ = some (.slice rA2 rn2 rc2) := hcf 7 _ rfl
                have HDL : Hid (data.length = dn) := hF.dl
                have HRL2 : Hid (rngs2.length = rn2) := hF.rl
                clear hcf hF
                by_cases c3 : 100 < dn
                · have d3 : decide ((100 : Int) < (dn : Int)) = true := by simp; omega
                  have d3' : decide (100 < dn) = true := by simp; omega
                  go_wp2
                  go_ret
                  exact ⟨false, rfl, by simp, rfl⟩
                · have d3 : decide ((100 : Int) < (dn : Int)) = false := by simp; omega
                  have d3' : decide (100 < dn) = false := by simp; omega
                  by_cases c4 : 20 < rn2
                  · have d4 : decide ((20 : Int) < (rn2 : Int)) = true := by simp; omega
                    have d4' : decide (20 < rn2) = true := by simp; omega
                    go_wp2
                    go_ret
                    exact ⟨false, rfl, by simp, rfl⟩
                  · have d4 : decide ((20 : Int) < (rn2 : Int)) = false := by simp; omega
                    have d4' : decide (20 < rn2) = false := by simp; omega
                    go_wp2
                    go_round
                    case rel => exact ⟨q + 1, by omega, by go_num, HN2.out ⟨by show data.length ≤ 100; rw [HDL.out]; omega, by show rngs2.length ≤ 20; rw [HRL2.out]; omega⟩⟩
                    case measure => simp [intOf]; omega
              · obtain rfl : q = fn := by omega
                have HFA : Hid (FewA ⟨kind, num, tm, sz, ask, fA, q, fc, frs, rA, rn, rc, rngs, d⟩) := ⟨by show rngs.length ≤ 20; rw [HRL.out]; omega, by show frs.length ≤ 5; rw [HFL.out]; omega, fun f hf => HG.out f (by rw [List.take_of_length_le (by rw [HFL.out]; exact Nat.le_refl _)]; exact hf)⟩
                go_wp2
                go_round
                case rel => exact ⟨k + 1, by omega, by go_num, HN.out HFA.out⟩
                case measure => simp [intOf]; omega
      · obtain rfl : k = n := by omega
        have HFI : Hid (Few l) := ⟨by rw [HL.out]; omega, fun a ha => HF.out a (by rw [List.take_of_length_le (by rw [HL.out]; exact Nat.le_refl _)]; exact ha)⟩
        go_wp2
        go_ret
        exact ⟨true, rfl, fun _ => HFI.out, rfl⟩
end Go.Proofs.Ytlldomgfjmkcdaa
