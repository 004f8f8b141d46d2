/- Layer 15's document, walked: the ledger; Due, Flight, Last, In. -/
import Derived.Test.YtlldomgfjmkcdaaRows
import Derived.Test.YtlldomgfjmkcdaaAid
import Derived.Test.YtlldomgfjmkcdaaLgW
import Derived.Test.YtlldomgfjmkcdaaLgB
import Derived.Test.YtlldomgfjmkcdaaLgC
import Derived.Test.YtlldomgfjmkcdaaLgD
import Derived.Test.YtlldomgfjmkcdaaLgN
import Derived.Test.YtlldomgfjmkcdaaLgO
import Derived.Test.YtlldomgfjmkcdaaLgQ
import Derived.Test.YtlldomgfjmkcdaaLgS
import Derived.BigQuiet
import Derived.Deep.QuietTactic
import Derived.Lib.Hide
namespace Go.Proofs.Ytlldomgfjmkcdaa
open Go Go.RowKit Rm
set_option linter.unusedVariables false
set_option linter.unusedSimpArgs false

/-- The document's ledger at a block. -/
structure DS (w : World) (D : Nat) (v : Value) (y : List PS) (nx ak : Nat) : Prop where
  obj : Obj w D 59 #[v, .int .i64 (nx : Int), .int .i64 (ak : Int)]
  own : w.ownsRow (D + 1) 32 5 v y.length (flatS y)
theorem DS.kept {w w' : World} {D nx ak : Nat} {v : Value} {y : List PS} (h : DS w D v y nx ak) (hb : Below w.heap.size w w') : DS w' D v y nx ak := ⟨h.obj.kept hb, ownS_kept h.own hb⟩
theorem getD_memS {l : List PS} {k : Nat} (h : k < l.length) : l.getD k default ∈ l := by rw [List.getD_eq_getElem?_getD, List.getElem?_eq_getElem h]; exact List.getElem_mem _

set_option maxHeartbeats 2000000 in
theorem rdue_any (D d nx ak : Nat) (v : Value) (l : List PS) (w : World) (h : DS w D v l nx ak) (hn : l.length ≤ 1000) (hd : d ≤ 18446744073709551615) (ht : ∀ p ∈ l, p.tm ≤ 18446744073709551615 ∧ p.num ≤ 1000000) :
    Calls Try.prog 25 #[.pointer (some ⟨D, 0, none⟩), .int .u64 (d : Int)] w fun e w' => e = .returned (.int .u64 ((dueL l ak d : Nat) : Int)) ∧ ∃ q, w' = w.drewN q := by
  have HS := Lib.hid ht
  have HD := Lib.hid hd
  obtain ⟨n, hln⟩ : ∃ n, l.length = n := ⟨_, rfl⟩
  obtain ⟨A, c, rfl, _, _, _, _, _⟩ := ownS_rb h.own
  have HO := Lib.hid h.own
  have d0 : w.cell? ⟨D, 0, none⟩ = some (.slice A l.length c) := by rw [h.obj.cell]; rfl
  have d2 : w.cell? ⟨D, 2, none⟩ = some (.int .i64 (ak : Int)) := by rw [h.obj.cell]; rfl
  rw [hln] at d0 HO hn
  have HLN := Lib.hid hln
  clear h ht hd hln
  go_enter Try.func25, Try.ntmps25
  go_wp2
  go_loopw [5, 6, 7] (fun t i _ wr => ∃ k q : Nat, k ≤ n ∧ i = .int .i64 (k : Int) ∧ t = .int .u64 ((dueL (l.take k) ak d : Nat) : Int) ∧ wr = w.drewN q) (fun _ i _ _ => n - (intOf i).toNat)
  case atStart => exact ⟨0, 0, by omega, rfl, by rfl, rfl⟩
  case round =>
    obtain ⟨k, q, hk, rfl, rfl, rfl⟩ := hrel
    by_cases hlt : k < n
    · have hki : (k : Int) < (n : Int) := by omega
      have hkl : k < l.length := by rw [HLN.out]; exact hlt
      obtain ⟨g, c', e, _, hg, f0, f1, f2, f3, f4⟩ := ownS_cells HO.out hkl
      cases e
      have hsz := HS.out _ (getD_memS hkl)
      have hc1 : dueL (l.take (k + 1)) ak d = dueS ak d (dueL (l.take k) ak d) (l.getD k default) := by unfold dueL; rw [take_next l k hkl, List.foldl_append]; rfl
      generalize l.getD k default = p at *
      obtain ⟨num, tm, sz, ask, fa', fn, fc⟩ := p
      dsimp only at f0 f1 f2 f3 f4 hsz
      unfold dueS at hc1
      dsimp only at hc1
      generalize dueL (l.take k) ak d = t at *
      have HT := Lib.hid (fun w => rtadd_any tm d w hsz.1 HD.out)
      have htl := tadd_le tm d
      generalize tadd tm d = s at *
      have hnm := hsz.2
      have e1 : IntKind.i64.wrap ((num : Int) + 1) = (num : Int) + 1 := by rw [IntKind.wrap_i64]; omega
      clear hg hsz
      go_wp2_with (go_at_call 38; refine (HT.out _).mono ?_; rintro e w3 ⟨rfl, rfl⟩)
      by_cases hlo : num + 1 < ak
      · rw [if_pos hlo] at hc1
        have hloi : (num : Int) + 1 < (ak : Int) := by omega
        have hlod : decide ((num : Int) + 1 < (ak : Int)) = true := decide_eq_true hloi
        by_cases hst : s < t
        · have hsti : (s : Int) < (t : Int) := by omega
          have HC1 : Hid (dueL (l.take (k + 1)) ak d = s) := by unfold Hid; rw [hc1]; omega
          clear hc1
          go_quiet (fail)
          go_wp2
          go_roundw
          case rel => exact ⟨k + 1, _, by omega, by go_num, by rw [HC1.out], rfl⟩
          case measure => simp [intOf]; omega
        · have hsti : ¬ (s : Int) < (t : Int) := by omega
          have HC1 : Hid (dueL (l.take (k + 1)) ak d = t) := by unfold Hid; rw [hc1]; omega
          clear hc1
          go_quiet (fail)
          go_wp2
          go_roundw
          case rel => exact ⟨k + 1, _, by omega, by go_num, by rw [HC1.out], rfl⟩
          case measure => simp [intOf]; omega
      · rw [if_neg hlo] at hc1
        have hloi : ¬ (num : Int) + 1 < (ak : Int) := by omega
        have hlod : decide ((num : Int) + 1 < (ak : Int)) = false := decide_eq_false hloi
        have HC1 : Hid (dueL (l.take (k + 1)) ak d = t) := hc1
        clear hc1
        go_quiet (fail)
        go_wp2
        go_roundw
        case rel => exact ⟨k + 1, _, by omega, by go_num, by rw [HC1.out], rfl⟩
        case measure => simp [intOf]; omega
    · obtain rfl : k = n := by omega
      have HX : Hid (l.take k = l) := List.take_of_length_le (by rw [HLN.out]; exact Nat.le_refl _)
      go_wp2
      go_ret
      exact ⟨by rw [HX.out]; rfl, _, rfl⟩

set_option maxHeartbeats 2000000 in
theorem rflight_any (D nx ak : Nat) (v : Value) (l : List PS) (w : World) (h : DS w D v l nx ak) (hn : l.length ≤ 1000) (hs : ∀ p ∈ l, p.sz ≤ 1200) :
    Calls Try.prog 23 #[.pointer (some ⟨D, 0, none⟩)] w fun e w' => e = .returned (.tuple #[.int .i64 ((cnt l : Nat) : Int), .int .i64 ((sms l : Nat) : Int)]) ∧ w = w' := by
  have HS := Lib.hid hs
  obtain ⟨n, hln⟩ : ∃ n, l.length = n := ⟨_, rfl⟩
  obtain ⟨A, c, rfl, _, _, _, _, _⟩ := ownS_rb h.own
  have HO := Lib.hid h.own
  have d0 : w.cell? ⟨D, 0, none⟩ = some (.slice A l.length c) := by rw [h.obj.cell]; rfl
  rw [hln] at d0 HO hn
  have HLN := Lib.hid hln
  clear h hs hln
  go_enter Try.func23, Try.ntmps23
  go_wp2
  go_loop [4, 5, 6] (fun s t i => ∃ k : Nat, k ≤ n ∧ i = .int .i64 (k : Int) ∧ s = .int .i64 ((cnt (l.take k) : Nat) : Int) ∧ t = .int .i64 ((sms (l.take k) : Nat) : Int)) (fun _ _ i => n - (intOf i).toNat)
  case atStart => exact ⟨0, by omega, rfl, by rfl, by rfl⟩
  case round =>
    obtain ⟨k, hk, rfl, rfl, rfl⟩ := hrel
    by_cases hlt : k < n
    · have hki : (k : Int) < (n : Int) := by omega
      have hkl : k < l.length := by rw [HLN.out]; exact hlt
      obtain ⟨g, c', e, _, hg, f0, f1, f2, f3, f4⟩ := ownS_cells HO.out hkl
      cases e
      have hn2 := take_next l k hkl
      have hsz := HS.out _ (getD_memS hkl)
      have hc1 : cnt (l.take (k + 1)) = cnt (l.take k) + (if (l.getD k default).ask then 1 else 0) := by rw [hn2, cnt_app]; simp [cnt]
      have hs1 : sms (l.take (k + 1)) = sms (l.take k) + (if (l.getD k default).ask then (l.getD k default).sz else 0) := by rw [hn2, sms_app]; simp [sms]
      have hcb := cnt_le (l.take k)
      have hsb := sms_le (l.take k) (fun p hp => HS.out p (List.mem_of_mem_take hp))
      rw [List.length_take] at hcb hsb
      generalize l.getD k default = p at *
      obtain ⟨num, tm, sz, ask, fa, fn, fc⟩ := p
      dsimp only at f0 f1 f2 f3 f4 hc1 hs1 hsz
      generalize cnt (l.take k) = ca at *
      generalize sms (l.take k) = sa at *
      clear hn2 hg
      cases ask with
      | true =>
        rw [if_pos rfl] at hc1 hs1
        have HC1 := Lib.hid hc1
        have HS1 := Lib.hid hs1
        have e1 : IntKind.i64.wrap ((ca : Int) + 1) = (ca : Int) + 1 := by rw [IntKind.wrap_i64]; omega
        have e2 : IntKind.i64.wrap ((sa : Int) + (sz : Int)) = (sa : Int) + (sz : Int) := by rw [IntKind.wrap_i64]; omega
        clear hc1 hs1 hcb hsb
        go_wp2
        go_round
        case rel => exact ⟨k + 1, by omega, by go_num, by rw [HC1.out]; rfl, by rw [HS1.out]; rfl⟩
        case measure => simp [intOf]; omega
      | false =>
        rw [if_neg (by simp)] at hc1 hs1
        have HC1 := Lib.hid hc1
        have HS1 := Lib.hid hs1
        clear hc1 hs1 hcb hsb
        go_wp2
        go_round
        case rel => exact ⟨k + 1, by omega, by go_num, by rw [HC1.out]; rfl, by rw [HS1.out]; rfl⟩
        case measure => simp [intOf]; omega
    · obtain rfl : k = n := by omega
      have HX : Hid (l.take k = l) := List.take_of_length_le (by rw [HLN.out]; exact Nat.le_refl _)
      go_wp2
      go_ret2
      exact ⟨by rw [HX.out]; rfl, rfl⟩

set_option maxHeartbeats 2000000 in
theorem rlast_any (D nx ak : Nat) (v : Value) (l : List PS) (w : World) (h : DS w D v l nx ak) (hn : l.length ≤ 1000) :
    Calls Try.prog 24 #[.pointer (some ⟨D, 0, none⟩)] w fun e w' => e = .returned (.tuple #[.int .u64 (((lastL l).1 : Nat) : Int), .bool (lastL l).2]) ∧ w = w' := by
  obtain ⟨n, hln⟩ : ∃ n, l.length = n := ⟨_, rfl⟩
  obtain ⟨A, c, rfl, _, _, _, _, _⟩ := ownS_rb h.own
  have HO := Lib.hid h.own
  have d0 : w.cell? ⟨D, 0, none⟩ = some (.slice A l.length c) := by rw [h.obj.cell]; rfl
  rw [hln] at d0 HO hn
  have HLN := Lib.hid hln
  clear h hln
  go_enter Try.func24, Try.ntmps24
  go_wp2
  go_loop [4, 5, 6] (fun s t i => ∃ k : Nat, k ≤ n ∧ i = .int .i64 (k : Int) ∧ s = .int .u64 (((lastL (l.take k)).1 : Nat) : Int) ∧ t = .bool (lastL (l.take k)).2) (fun _ _ i => n - (intOf i).toNat)
  case atStart => exact ⟨0, by omega, rfl, by rfl, by rfl⟩
  case round =>
    obtain ⟨k, hk, rfl, rfl, rfl⟩ := hrel
    by_cases hlt : k < n
    · have hki : (k : Int) < (n : Int) := by omega
      have hkl : k < l.length := by rw [HLN.out]; exact hlt
      obtain ⟨g, c', e, _, hg, f0, f1, f2, f3, f4⟩ := ownS_cells HO.out hkl
      cases e
      have hc1 : lastL (l.take (k + 1)) = lastS (lastL (l.take k)) (l.getD k default) := by unfold lastL; rw [take_next l k hkl, List.foldl_append]; rfl
      generalize l.getD k default = p at *
      obtain ⟨num, tm, sz, ask, fa, fn, fc⟩ := p
      dsimp only at f0 f1 f2 f3 f4
      unfold lastS at hc1
      dsimp only at hc1
      generalize lastL (l.take k) = r at *
      clear hg
      cases ask with
      | true =>
        rw [if_pos rfl] at hc1
        have HC1 := Lib.hid hc1
        clear hc1
        go_wp2
        go_round
        case rel => exact ⟨k + 1, by omega, by go_num, by rw [HC1.out], by rw [HC1.out]⟩
        case measure => simp [intOf]; omega
      | false =>
        rw [if_neg (by simp)] at hc1
        have HC1 := Lib.hid hc1
        clear hc1
        go_wp2
        go_round
        case rel => exact ⟨k + 1, by omega, by go_num, by rw [HC1.out], by rw [HC1.out]⟩
        case measure => simp [intOf]; omega
    · obtain rfl : k = n := by omega
      have HX : Hid (l.take k = l) := List.take_of_length_le (by rw [HLN.out]; exact Nat.le_refl _)
      go_wp2
      go_ret2
      exact ⟨by rw [HX.out]; rfl, rfl⟩

set_option maxHeartbeats 1000000 in
theorem rin_any (num : Nat) (A : Option Addr) (n c : Nat) (l : List (Nat × Nat)) (w : World) (hnum : num ≤ 1000000) (hl : l.length = n) (hn : n ≤ 1000000) (hR : RbR w A l) (hb : ∀ r ∈ l, r.1 ≤ 18446744073709551615 ∧ r.2 ≤ 18446744073709551615) :
    Calls Try.prog 36 #[.slice A n c, .int .u64 (num : Int)] w fun e w' => e = .returned (.bool (l.any (inR num))) ∧ w = w' := by
  have HL := Lib.hid hl
  have HR := Lib.hid hR
  clear hl hR hb
  go_enter Try.func36, Try.ntmps36
  go_wp2
  go_loop [5] (fun i => ∃ k : Nat, k ≤ n ∧ i = .int .i64 (k : Int) ∧ (l.take k).any (inR num) = false) (fun i => n - (intOf i).toNat)
  case atStart => exact ⟨0, by omega, rfl, by rfl⟩
  case round =>
    obtain ⟨k, hk, rfl, ha⟩ := hrel
    have HA := Lib.hid ha
    clear ha
    by_cases hlt : k < n
    · have hki : (k : Int) < (n : Int) := by omega
      have hkl : k < l.length := by rw [HL.out]; exact hlt
      obtain ⟨b, o, rfl, hb, hc⟩ := HR.out (by omega)
      obtain ⟨f0, f1⟩ := hc k hkl
      have htk : l.take (k + 1) = l.take k ++ [l.getD k (0, 0)] := by
        rw [List.take_succ_eq_append_getElem hkl, List.getD_eq_getElem?_getD, List.getElem?_eq_getElem hkl]; rfl
      have hmm : l.getD k (0, 0) ∈ l := by rw [List.getD_eq_getElem?_getD, List.getElem?_eq_getElem hkl]; exact List.getElem_mem _
      have HY : Hid (inR num (l.getD k (0, 0)) = true → l.any (inR num) = true) := fun h => List.any_eq_true.2 ⟨_, hmm, h⟩
      have HN : Hid (inR num (l.getD k (0, 0)) = false → (l.take (k + 1)).any (inR num) = false) := fun h => by rw [htk, List.any_append, HA.out, List.any_cons, h]; rfl
      clear hc htk hmm hb
      generalize l.getD k (0, 0) = r at *
      obtain ⟨lo, hi⟩ := r
      dsimp only at f0 f1
      by_cases h1 : lo ≤ num
      · have h1i : decide ((lo : Int) ≤ (num : Int)) = true := decide_eq_true (by omega)
        have h1n : decide (lo ≤ num) = true := decide_eq_true h1
        by_cases h2 : num ≤ hi
        · have h2i : decide ((num : Int) ≤ (hi : Int)) = true := decide_eq_true (by omega)
          have h2n : decide (num ≤ hi) = true := decide_eq_true h2
          have HX := Lib.hid (HY.out (by unfold inR; simp [h1, h2]))
          clear HY HN
          go_wp2
          go_ret
          exact ⟨by rw [HX.out]; rfl, rfl⟩
        · have h2i : decide ((num : Int) ≤ (hi : Int)) = false := decide_eq_false (by omega)
          have h2n : decide (num ≤ hi) = false := decide_eq_false h2
          have HX := Lib.hid (HN.out (by unfold inR; simp [h2]))
          clear HY HN
          go_wp2
          go_round
          case rel => exact ⟨k + 1, by omega, by go_num, HX.out⟩
          case measure => simp [intOf]; omega
      · have h1i : decide ((lo : Int) ≤ (num : Int)) = false := decide_eq_false (by omega)
        have h1n : decide (lo ≤ num) = false := decide_eq_false h1
        have HX := Lib.hid (HN.out (by unfold inR; simp [h1]))
        clear HY HN
        go_wp2
        go_round
        case rel => exact ⟨k + 1, by omega, by go_num, HX.out⟩
        case measure => simp [intOf]; omega
    · obtain rfl : k = n := by omega
      have HX : Hid (l.any (inR num) = false) := by have := HA.out; rwa [List.take_of_length_le (by rw [HL.out]; exact Nat.le_refl _)] at this
      go_wp2
      go_ret
      exact ⟨by rw [HX.out]; rfl, rfl⟩
end Go.Proofs.Ytlldomgfjmkcdaa
