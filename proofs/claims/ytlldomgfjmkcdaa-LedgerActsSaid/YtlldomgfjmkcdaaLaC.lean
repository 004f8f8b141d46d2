/- Layer 15: lists of packets that are the same, for the document. -/
import Derived.Test.YtlldomgfjmkcdaaRows
import Derived.Test.YtlldomgfjmkcdaaAid
import Derived.Test.YtlldomgfjmkcdaaLgW
import Derived.Test.YtlldomgfjmkcdaaLgD
import Derived.Test.YtlldomgfjmkcdaaLgO
import Derived.Test.YtlldomgfjmkcdaaLgU
import Derived.Test.YtlldomgfjmkcdaaLgZ
import Derived.Test.YtlldomgfjmkcdaaLgF2
import Derived.Test.YtlldomgfjmkcdaaLaA
import Derived.Test.YtlldomgfjmkcdaaLaB
import Derived.Test.YtlldomgfjmkcdaaTk
import Derived.BigQuiet
import Derived.Deep.QuietTactic
import Derived.Deep.RegionHeld3
import Derived.Deep.WholeRow
import Derived.Deep.MidRow
import Derived.Lib.Hide
namespace Go.Proofs.Ytlldomgfjmkcdaa
open Go Go.RowKit
set_option linter.unusedVariables false
set_option linter.unusedSimpArgs false

/-- Frames as they came in. -/
structure FF (w : World) (l : List Frm) : Prop where
  few : l.length ≤ 5
  ok : ∀ f ∈ l, FOk w f ∧ FewF f
theorem FF.below {w w' : World} {l : List Frm} (h : FF w l) (hb : Below w.heap.size w w') : FF w' l := ⟨h.few, fun f hf => ⟨((h.ok f hf).1).beloww hb, (h.ok f hf).2⟩⟩
/-- A packet with its key and its frames. -/
structure PF (w : World) (p : PS) (k : Key × List Frm) : Prop where
  key : key p = k.1
  fr : Fsl w p.fa p.fn k.2
theorem PF.below {w w' : World} {p : PS} {k : Key × List Frm} (h : PF w p k) (hb : Below w.heap.size w w') : PF w' p k := ⟨h.key, h.fr.below hb⟩
/-- Packets that have these keys and frames. -/
def PL (w : World) : List PS → List (Key × List Frm) → Prop
  | [], [] => True
  | p :: t, k :: ks => PF w p k ∧ PL w t ks
  | _, _ => False
theorem PL.len {w : World} : ∀ {l : List PS} {ks : List (Key × List Frm)}, PL w l ks → l.length = ks.length
  | [], [], _ => rfl
  | p :: t, k :: ks, h => by simp [PL.len h.2]
  | [], _ :: _, h => h.elim
  | _ :: _, [], h => h.elim
theorem PL.mono {w w' : World} (hm : ∀ p k, PF w p k → PF w' p k) : ∀ {l : List PS} {ks : List (Key × List Frm)}, PL w l ks → PL w' l ks
  | [], [], _ => trivial
  | p :: t, k :: ks, h => ⟨hm _ _ h.1, PL.mono hm h.2⟩
  | [], _ :: _, h => h.elim
  | _ :: _, [], h => h.elim
theorem PL.below {w w' : World} {l : List PS} {ks : List (Key × List Frm)} (h : PL w l ks) (hb : Below w.heap.size w w') : PL w' l ks := h.mono fun _ _ h => h.below hb
theorem PL.get {w : World} : ∀ {l : List PS} {ks : List (Key × List Frm)}, PL w l ks → ∀ i, i < l.length → PF w (l.getD i default) (ks.getD i default)
  | [], [], _, i, hi => by simp at hi
  | p :: t, k :: ks, h, 0, _ => h.1
  | p :: t, k :: ks, h, i + 1, hi => PL.get h.2 i (by simpa using hi)
  | [], _ :: _, h, _, _ => h.elim
  | _ :: _, [], h, _, _ => h.elim
theorem PL.app {w : World} : ∀ {l m : List PS} {ks js : List (Key × List Frm)}, PL w l ks → PL w m js → PL w (l ++ m) (ks ++ js)
  | [], _, [], _, _, h => h
  | p :: t, _, k :: ks, _, h, h' => ⟨h.1, PL.app h.2 h'⟩
  | [], _, _ :: _, _, h, _ => h.elim
  | _ :: _, _, [], _, h, _ => h.elim
theorem PL.filter {w : World} (f : Key → Bool) : ∀ {l : List PS} {ks : List (Key × List Frm)}, PL w l ks → PL w (l.filter fun p => f (Go.Proofs.Ytlldomgfjmkcdaa.key p)) (ks.filter fun k => f k.1)
  | [], [], _ => trivial
  | p :: t, k :: ks, h => by
    have hk := h.1.key
    have ih := PL.filter f h.2
    rw [List.filter_cons, List.filter_cons]
    by_cases hf : f k.1 = true
    · rw [if_pos hf, if_pos (by rw [hk]; exact hf)]; exact ⟨h.1, ih⟩
    · rw [if_neg hf, if_neg (by rw [hk]; exact hf)]; exact ih
  | [], _ :: _, h => h.elim
  | _ :: _, [], h => h.elim
theorem PL.keys {w : World} : ∀ {l : List PS} {ks : List (Key × List Frm)}, PL w l ks → l.map Go.Proofs.Ytlldomgfjmkcdaa.key = ks.map Prod.fst
  | [], [], _ => rfl
  | p :: t, k :: ks, h => by rw [List.map_cons, List.map_cons, h.1.key, PL.keys h.2]
  | [], _ :: _, h => h.elim
  | _ :: _, [], h => h.elim

set_option maxRecDepth 100000 in
set_option maxHeartbeats 4000000 in
theorem same15_any (A B : Option Addr) (n c d : Nat) (l m : List PS) (ks : List (Key × List Frm)) (w : World) (hn : ks.length = n) (hA : RbS w A l) (hB : RbS w B m) (hl : PL w l ks) (hm : PL w m ks) (hf : ∀ k ∈ ks, FF w k.2) (hlt : n ≤ 1000) :
    Calls Try.prog 21 #[.slice A n c, .slice B n d] w fun e w' => e = .returned (.bool true) ∧ Below w.heap.size w w' := by
  have hll := hl.len
  have hml := hm.len
  have HA := Lib.hid hA
  have HB := Lib.hid hB
  have HL := Lib.hid hl
  have HM := Lib.hid hm
  have HF := Lib.hid hf
  have HLL : Hid (l.length = n) := hll.trans hn
  have HML : Hid (m.length = n) := hml.trans hn
  have HN := Lib.hid hn
  clear hA hB hl hm hf hll hml hn
  go_enter Try.func21, Try.ntmps21
  go_wp2
  go_loopw [5] (fun i wr => ∃ k : Nat, k ≤ n ∧ i = .int .i64 k ∧ Below w.heap.size w wr) (fun i _ => n - (intOf i).toNat)
  case atStart => exact ⟨0, by omega, rfl, Below.refl _ _⟩
  case round =>
    obtain ⟨k, hk, rfl, hb⟩ := hrel
    have HBL := Lib.hid hb
    clear hb
    by_cases hlt : k < n
    · obtain ⟨b, o, rfl, hb, hc⟩ := (HA.out.below HBL.out) (by rw [HLL.out]; omega)
      obtain ⟨b', o', rfl, hb', hc'⟩ := (HB.out.below HBL.out) (by rw [HML.out]; omega)
      have HC := Lib.hid (hc k (by rw [HLL.out]; exact hlt))
      have HC' := Lib.hid (hc' k (by rw [HML.out]; exact hlt))
      have h1 := (HL.out.below HBL.out).get k (by rw [HLL.out]; exact hlt)
      have h2 := (HM.out.below HBL.out).get k (by rw [HML.out]; exact hlt)
      have h3 := (HF.out _ (getD_mem (l := ks) (k := k) (by rw [HN.out]; exact hlt))).below HBL.out
      have HBD : Hid (Below wr.heap.size wr wr.drew) := (Below.refl _ wr).drew
      generalize ks.getD k default = kf at *
      generalize l.getD k default = p at *
      generalize m.getD k default = q at *
      obtain ⟨num, tm, sz, ask, fa, fn, fc⟩ := p
      obtain ⟨num', tm', sz', ask', fa', fn', fc'⟩ := q
      obtain ⟨kk, frs⟩ := kf
      obtain rfl := h1.key
      have h2k := h2.key
      simp only [key, Key.mk.injEq] at h2k
      obtain ⟨rfl, rfl, rfl, rfl⟩ := h2k
      have hfn : fn = fn' := h1.fr.len.symm.trans h2.fr.len
      subst hfn
      have hfl : fn ≤ 5 := by have := h3.few; rw [h1.fr.len] at this; exact this
      have HS := Lib.hid (list03_any fa fa' fn fc fc' frs wr.drew (h1.fr.below HBD.out) (h2.fr.below HBD.out) (h3.below HBD.out).ok hfl)
      have HBb := Lib.hid hb
      have HBb' := Lib.hid hb'
      have hki : (k : Int) < (n : Int) := by omega
      have HCC : Hid (∀ W, Below wr.heap.size wr W → ((W.cell? ⟨b, o + k * 5, none⟩ = some (.int .i64 (num' : Int)) ∧ W.cell? ⟨b, o + k * 5 + 1, none⟩ = some (.int .u64 (tm' : Int)) ∧ W.cell? ⟨b, o + k * 5 + 2, none⟩ = some (.int .i64 (sz' : Int)) ∧ W.cell? ⟨b, o + k * 5 + 3, none⟩ = some (.bool ask') ∧ W.cell? ⟨b, o + k * 5 + 4, none⟩ = some (.slice fa fn fc)) ∧ (W.cell? ⟨b', o' + k * 5, none⟩ = some (.int .i64 (num' : Int)) ∧ W.cell? ⟨b', o' + k * 5 + 1, none⟩ = some (.int .u64 (tm' : Int)) ∧ W.cell? ⟨b', o' + k * 5 + 2, none⟩ = some (.int .i64 (sz' : Int)) ∧ W.cell? ⟨b', o' + k * 5 + 3, none⟩ = some (.bool ask') ∧ W.cell? ⟨b', o' + k * 5 + 4, none⟩ = some (.slice fa' fn fc')))) := fun W hW => by
        have q1 : ∀ j v, (pc ⟨num', tm', sz', ask', fa, fn, fc⟩)[j]? = some v → W.cell? ⟨b, o + k * 5 + j, none⟩ = some v := fun j v hv => by
          rw [Nat.add_assoc]; exact (World.cell?_of_block (a := ⟨b, o + (k * 5 + j), none⟩) (hW.block b HBb.out)).trans (HC.out j v hv)
        have q2 : ∀ j v, (pc ⟨num', tm', sz', ask', fa', fn, fc'⟩)[j]? = some v → W.cell? ⟨b', o' + k * 5 + j, none⟩ = some v := fun j v hv => by
          rw [Nat.add_assoc]; exact (World.cell?_of_block (a := ⟨b', o' + (k * 5 + j), none⟩) (hW.block b' HBb'.out)).trans (HC'.out j v hv)
        exact ⟨⟨q1 0 _ rfl, q1 1 _ rfl, q1 2 _ rfl, q1 3 _ rfl, q1 4 _ rfl⟩, q2 0 _ rfl, q2 1 _ rfl, q2 2 _ rfl, q2 3 _ rfl, q2 4 _ rfl⟩
      clear hc hc' h1 h2 h3 hb hb' hfl
      go_wp2
      refine wp_region_held_drew (S := (fun W => (W.cell? ⟨b, o + k * 5, none⟩ = some (.int .i64 (num' : Int)) ∧ W.cell? ⟨b, o + k * 5 + 1, none⟩ = some (.int .u64 (tm' : Int)) ∧ W.cell? ⟨b, o + k * 5 + 2, none⟩ = some (.int .i64 (sz' : Int)) ∧ W.cell? ⟨b, o + k * 5 + 3, none⟩ = some (.bool ask') ∧ W.cell? ⟨b, o + k * 5 + 4, none⟩ = some (.slice fa fn fc)) ∧ (W.cell? ⟨b', o' + k * 5, none⟩ = some (.int .i64 (num' : Int)) ∧ W.cell? ⟨b', o' + k * 5 + 1, none⟩ = some (.int .u64 (tm' : Int)) ∧ W.cell? ⟨b', o' + k * 5 + 2, none⟩ = some (.int .i64 (sz' : Int)) ∧ W.cell? ⟨b', o' + k * 5 + 3, none⟩ = some (.bool ask') ∧ W.cell? ⟨b', o' + k * 5 + 4, none⟩ = some (.slice fa' fn fc')))) (by kernel_rfl) (HCC.out _ HBD.out) (fun hHeld => ?_)
      refine tkH 0 ?_
      refine tkH 1 ?_
      refine tkH 2 ?_
      refine tkH 3 ?_
      refine tkH 4 ?_
      refine tkH 5 ?_
      refine tkH 6 ?_
      refine tkH 7 ?_
      refine tkH 8 ?_
      refine tkH 9 ?_
      refine tkH 10 ?_
      refine tkH 11 ?_
      refine tkH 12 ?_
      refine tkH 13 ?_
      refine tkH 14 ?_
      refine tkH 15 ?_
      refine tkH 16 ?_
      refine tkH 17 ?_
      refine tkH 18 ?_
      refine tkH 19 ?_
      refine tkH 20 ?_
      refine tkH 21 ?_
      refine tkH 22 ?_
      refine tkH 23 ?_
      refine tkH 24 ?_
      refine tkH 25 ?_
      refine tkH 26 ?_
      refine tkH 27 ?_
      refine tkH 28 ?_
      refine tkH 29 ?_
      refine tkH 30 ?_
      refine tkH 31 ?_
      refine tkH 32 ?_
      refine tkH 33 ?_
      refine tkH 34 ?_
      refine tkH 35 ?_
      refine tkH 36 ?_
      refine tkH 37 ?_
      refine tkH 38 ?_
      refine tkH 39 ?_
      refine tkH 40 ?_
      refine tkH 41 ?_
      refine tkH 42 ?_
      refine tkH 43 ?_
      refine tkH 44 ?_
      refine tkH 45 ?_
      refine tkH 46 ?_
      refine tkH 47 ?_
      refine tkH 48 ?_
      refine tkH 49 ?_
      refine tkH 50 ?_
      refine tkH 51 ?_
      refine tkH 52 ?_
      refine tkH 53 ?_
      refine tkH 54 ?_
      refine tkH 55 ?_
      refine tkH 56 ?_
      refine tkH 57 ?_
      refine tkH 58 ?_
      refine tkH 59 ?_
      refine tkH 60 ?_
      refine onH 61 (fun KK hKK => ?_)
      go_simp
      refine HS.out.mono ?_
      rintro e w4 ⟨rfl, hb4⟩
      have HB4 := Lib.hid (HBD.out.trans (hb4.mono HBD.out.size))
      clear hb4
      try go_wp2_with fail
      refine hKK.out _ _ ?_ (fun hh => ?_)
      · (try dsimp only)
        exact HCC.out _ HB4.out
      clear hKK KK
      try simp only [Act.put, List.setIfInBounds_toArray, List.set_cons_zero, List.set_cons_succ]
      refine tkH 62 ?_
      refine tkH 63 ?_
      refine wpAnyH_done (by kernel_rfl) ?_ _
      go_wp2
      go_roundw
      case rel => exact ⟨k + 1, by omega, by go_num, HBL.out.trans (HB4.out.mono HBL.out.size)⟩
      case measure => simp [intOf]; omega
    · obtain rfl : k = n := by omega
      go_wp2
      go_ret
      exact ⟨rfl, HBL.out⟩
end Go.Proofs.Ytlldomgfjmkcdaa
