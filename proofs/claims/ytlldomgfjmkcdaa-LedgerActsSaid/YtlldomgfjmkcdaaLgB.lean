/- Layer 15's ledger, walked: Flight. -/
import Derived.Test.YtlldomgfjmkcdaaRows
import Derived.Test.YtlldomgfjmkcdaaAid
import Derived.Test.YtlldomgfjmkcdaaPlainFl
import Derived.Test.YtlldomgfjmkcdaaLgW
import Derived.Test.YtlldomgfjmkcdaaLgA
import Derived.Laws.ComplexArith
namespace Go.Proofs.Ytlldomgfjmkcdaa
open Go Go.RowKit
set_option linter.unusedVariables false
set_option linter.unusedSimpArgs false

theorem ownS_cells {w : World} {base n i : Nat} {v : Value} {l : List PS} (h : w.ownsRow base 32 5 v n (flatS l)) (hi : i < l.length) :
    ∃ g c, v = .slice (some ⟨g, 0, none⟩) n c ∧ base ≤ g ∧ g < w.heap.size ∧ w.cell? ⟨g, i * 5, none⟩ = some (.int .i64 ((l.getD i default).num : Int)) ∧ w.cell? ⟨g, i * 5 + 1, none⟩ = some (.int .u64 ((l.getD i default).tm : Int)) ∧
      w.cell? ⟨g, i * 5 + 2, none⟩ = some (.int .i64 ((l.getD i default).sz : Int)) ∧ w.cell? ⟨g, i * 5 + 3, none⟩ = some (.bool (l.getD i default).ask) ∧ w.cell? ⟨g, i * 5 + 4, none⟩ = some (.slice (l.getD i default).fa (l.getD i default).fn (l.getD i default).fc) := by
  obtain ⟨A, c, rfl, hl, _, _, hR, hA⟩ := ownS_rb h
  obtain ⟨b, o, rfl, hb, hc⟩ := hR (by omega)
  rcases hA with e | ⟨g, e, hg⟩
  · cases e
  · cases e
    refine ⟨_, c, rfl, hg, hb, ?_, ?_, ?_, ?_, ?_⟩
    · have := hc i hi 0 _ rfl; rwa [Nat.zero_add] at this
    · have := hc i hi 1 _ rfl; rwa [Nat.zero_add] at this
    · have := hc i hi 2 _ rfl; rwa [Nat.zero_add] at this
    · have := hc i hi 3 _ rfl; rwa [Nat.zero_add] at this
    · have := hc i hi 4 _ rfl; rwa [Nat.zero_add] at this
/-- How many ask, and their bytes. -/
def cnt : List PS → Nat
  | [] => 0
  | p :: t => (if p.ask then 1 else 0) + cnt t
def sms : List PS → Nat
  | [] => 0
  | p :: t => (if p.ask then p.sz else 0) + sms t
theorem cnt_app (a b : List PS) : cnt (a ++ b) = cnt a + cnt b := by
  induction a with
  | nil => simp [cnt]
  | cons p t ih => simp [cnt, ih]; omega
theorem sms_app (a b : List PS) : sms (a ++ b) = sms a + sms b := by
  induction a with
  | nil => simp [sms]
  | cons p t ih => simp [sms, ih]; omega
theorem cnt_le (l : List PS) : cnt l ≤ l.length := by
  induction l with
  | nil => simp [cnt]
  | cons p t ih => simp only [cnt, List.length_cons]; split <;> omega
theorem sms_le (l : List PS) (h : ∀ p ∈ l, p.sz ≤ 1200) : sms l ≤ 1200 * l.length := by
  induction l with
  | nil => simp [sms]
  | cons p t ih =>
    have := ih fun q hq => h q (List.mem_cons_of_mem _ hq)
    have := h p (List.mem_cons_self ..)
    simp only [sms, List.length_cons]; split <;> omega
theorem take_next (l : List PS) (k : Nat) (hk : k < l.length) : l.take (k + 1) = l.take k ++ [l.getD k default] := by
  rw [List.take_succ_eq_append_getElem hk, List.getD_eq_getElem?_getD, List.getElem?_eq_getElem hk]; rfl
theorem cadd (a b d : Nat) (h1 : a ≤ 100000) (h2 : b ≤ 1000000000) (h3 : d ≤ 100000) (t : TypeId) (w : World) : (binOp .add t (.complex .f64 (Fl.F a) (Fl.F b)) (.complex .f64 4607182418800017408 (Fl.F d))).run Try.prog w = .ok (.complex .f64 (Fl.F (a + 1)) (Fl.F (b + d))) w := by
  refine run_complex_sum w .add (.inl rfl) t .f64 _ _ _ _ _ _ ?_
  have e1 : (4607182418800017408 : Nat) = Fl.F 1 := by decide
  unfold cSumBits
  rw [e1, Fl.add_F a 1 (by omega), Fl.add_F b d (by omega)]
  rfl
theorem conv_f (n : Nat) (w : World) : (convert 3 44 (.int .i64 (n : Int))).run Try.prog w = .ok (.float .f64 (Fl.F n)) w := by
  rw [← Fl.floatOf_F]
  simp [convert, run_underlying Try.underlying3, run_underlying Try.underlying44, Conv.intToFloat, floatOfInt]

set_option maxHeartbeats 2000000 in
theorem flight_any (a base : Nat) (v : Value) (x : LS) (w : World) (h : StV w base a v x) (hn : x.l.length ≤ 1000) (hs : ∀ p ∈ x.l, p.sz ≤ 1200) :
    Calls Try.prog 14 #[.pointer (some ⟨a, 0, none⟩)] w fun e w' => e = .returned (.complex .f64 (Fl.F (cnt x.l)) (Fl.F (sms x.l))) ∧ Below w.heap.size w w' := by
  have HC := Lib.hid (list_any a base v x w h hn)
  have HS := Lib.hid hs
  clear h hs
  obtain ⟨l, hl⟩ : ∃ l, x.l = l := ⟨_, rfl⟩
  rw [hl] at HC HS hn ⊢
  clear hl
  obtain ⟨n, hln⟩ : ∃ n, l.length = n := ⟨_, rfl⟩
  rw [hln] at HC hn
  have HLN := Lib.hid hln
  clear hln
  go_enter Try.func14, Try.ntmps14
  go_wp2_with fail
  refine HC.out.mono ?_
  rintro e w1 ⟨v1, rfl, ho, hb⟩
  obtain ⟨A, c, rfl, _, _, _, _, _⟩ := ownS_rb ho
  have HO := Lib.hid ho
  have HB := Lib.hid hb
  clear ho hb
  go_wp2
  go_loopw [3, 5, 9] (fun s _ i wr => ∃ k : Nat, k ≤ n ∧ i = .int .i64 (k : Int) ∧ s = .complex .f64 (Fl.F (cnt (l.take k))) (Fl.F (sms (l.take k))) ∧ Below w1.heap.size w1 wr) (fun _ _ i _ => n - (intOf i).toNat)
  case atStart => exact ⟨0, by omega, rfl, by rfl, Below.refl _ _⟩
  case round =>
    obtain ⟨k, hk, rfl, rfl, hbr⟩ := hrel
    have HBR := Lib.hid hbr
    by_cases hlt : k < n
    · have hki : (k : Int) < (n : Int) := by omega
      have hkl : k < l.length := by rw [HLN.out]; exact hlt
      obtain ⟨g, c', e, _, hg, f0, f1, f2, f3, f4⟩ := ownS_cells (ownS_kept HO.out hbr) hkl
      cases e
      have hn2 := take_next l k hkl
      have hmem : l.getD k default ∈ l := by rw [List.getD_eq_getElem?_getD, List.getElem?_eq_getElem hkl]; exact List.getElem_mem _
      have hsz := HS.out _ hmem
      have hc1 : cnt (l.take (k + 1)) = cnt (l.take k) + (if (l.getD k default).ask then 1 else 0) := by rw [hn2, cnt_app]; simp [cnt]
      have hs1 : sms (l.take (k + 1)) = sms (l.take k) + (if (l.getD k default).ask then (l.getD k default).sz else 0) := by rw [hn2, sms_app]; simp [sms]
      have hcb := cnt_le (l.take k)
      have hsb := sms_le (l.take k) (fun p hp => HS.out p (List.mem_of_mem_take hp))
      rw [List.length_take] at hcb hsb
      have hBA : Below w1.heap.size w1 (wr.alloc (.cells #[.int .i64 ((l.getD k default).num : Int), .int .u64 ((l.getD k default).tm : Int), .int .i64 ((l.getD k default).sz : Int), .bool (l.getD k default).ask, .slice (l.getD k default).fa (l.getD k default).fn (l.getD k default).fc] 32)) := hbr.alloc hbr.size _
      have HBA := Lib.hid hBA
      generalize l.getD k default = p at *
      clear hbr hmem hBA hn2
      obtain ⟨num, tm, sz, ask, fa, fn, fc⟩ := p
      dsimp only at f0 f1 f2 f3 f4 hc1 hs1 hsz HBA
      generalize cnt (l.take k) = ca at *
      generalize sms (l.take k) = sa at *
      have hcv := fun w => conv_f sz w
      have hcs := fun t w => cadd ca sa sz (by omega) (by omega) (by omega) t w
      cases ask with
      | true =>
        rw [if_pos rfl] at hc1 hs1
        have HC1 := Lib.hid hc1
        have HS1 := Lib.hid hs1
        clear hc1 hs1 hcb hsb
        go_wp2
        go_roundw
        case rel => exact ⟨k + 1, by omega, by go_num, by rw [HC1.out, HS1.out], HBA.out⟩
        case measure => simp [intOf]; omega
      | false =>
        rw [if_neg (by simp)] at hc1 hs1
        have HC1 := Lib.hid hc1
        have HS1 := Lib.hid hs1
        clear hc1 hs1 hcb hsb
        go_wp2
        go_roundw
        case rel => exact ⟨k + 1, by omega, by go_num, by rw [HC1.out, HS1.out]; rfl, HBA.out⟩
        case measure => simp [intOf]; omega
    · obtain rfl : k = n := by omega
      have ht : l.take k = l := List.take_of_length_le (by rw [HLN.out]; exact Nat.le_refl _)
      rw [ht]
      clear hbr ht
      go_wp2
      go_ret
      exact ⟨rfl, HB.out.trans (HBR.out.mono HB.out.size)⟩
end Go.Proofs.Ytlldomgfjmkcdaa
