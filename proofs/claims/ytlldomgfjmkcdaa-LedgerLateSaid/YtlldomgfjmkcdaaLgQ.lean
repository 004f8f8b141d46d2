/- Layer 15's ledger, walked: Ack. -/
import Derived.Test.YtlldomgfjmkcdaaRows
import Derived.Test.YtlldomgfjmkcdaaAid
import Derived.Test.YtlldomgfjmkcdaaHeldT
import Derived.Test.YtlldomgfjmkcdaaLgW
import Derived.Test.YtlldomgfjmkcdaaLgA
import Derived.Test.YtlldomgfjmkcdaaLgB
import Derived.Test.YtlldomgfjmkcdaaLgC
import Derived.Test.YtlldomgfjmkcdaaLgD
import Derived.Test.YtlldomgfjmkcdaaLgE
import Derived.Test.YtlldomgfjmkcdaaLgJ
import Derived.Test.YtlldomgfjmkcdaaLgN
import Derived.Test.YtlldomgfjmkcdaaLgO
import Derived.Test.YtlldomgfjmkcdaaLgP
import Derived.Test.YtlldomgfjmkcdaaLgM
import Derived.Deep.QuietTactic
import Derived.BigQuiet
namespace Go.Proofs.Ytlldomgfjmkcdaa
open Go Go.RowKit
set_option linter.unusedVariables false
set_option linter.unusedSimpArgs false

/-- Is a range beyond what was sent? -/
def badR (nx : Nat) (r : Nat × Nat) : Bool := decide (r.1 ≤ r.2) && decide (nx ≤ r.2)
/-- The number behind the greatest one that was acked. -/
def ackM (ak : Nat) (l : List PS) : Nat := l.foldl (fun m p => max m (p.num + 1)) ak
theorem ackM_le (l : List PS) : ∀ ak b, ak ≤ b → (∀ p ∈ l, p.num + 1 ≤ b) → ackM ak l ≤ b := by
  induction l with
  | nil => exact fun _ _ h _ => h
  | cons p t ih => exact fun ak b h hp => ih _ b (Nat.max_le.2 ⟨h, hp p (by simp)⟩) (fun q hq => hp q (by simp [hq]))
def inRs (l : List (Nat × Nat)) (p : PS) : Bool := l.any (inR p.num)
/-- Behind Ack. -/
structure AckR (w w' : World) (base a : Nat) (v : Value) (x : LS) (l : List (Nat × Nat)) (gv : Value) : Prop where
  gone : w'.ownsRow w.heap.size 32 5 gv (x.l.filter (inRs l)).length (flatS (x.l.filter (inRs l)))
  ex : ∃ v', StV w' base a v' ⟨x.l.filter (fun p => !inRs l p), x.next, ackM x.acked (x.l.filter (inRs l))⟩ ∧ Fresh w v v'
  upd : UpdO a v.ownBlock w w'
def AckP (w : World) (base a : Nat) (v : Value) (x : LS) (l : List (Nat × Nat)) (e : Ending) (w' : World) : Prop :=
  if l.any (badR x.next) = true then e = .returned (.tuple #[.slice none 0 0, .int .i64 3]) ∧ Below w.heap.size w w' else ∃ gv, e = .returned (.tuple #[gv, .int .i64 0]) ∧ AckR w w' base a v x l gv
theorem AckP.bad {w w' : World} {base a : Nat} {v : Value} {x : LS} {l : List (Nat × Nat)} (h : l.any (badR x.next) = true) (hb : Below w.heap.size w w') : AckP w base a v x l (.returned (.tuple #[.slice none 0 0, .int .i64 3])) w' := by
  unfold AckP; rw [if_pos h]; exact ⟨rfl, hb⟩
theorem AckP.ok {w w' : World} {base a : Nat} {v : Value} {x : LS} {l : List (Nat × Nat)} {gv : Value} (h : l.any (badR x.next) = false) (hR : AckR w w' base a v x l gv) : AckP w base a v x l (.returned (.tuple #[gv, .int .i64 0])) w' := by
  unfold AckP; rw [if_neg (by rw [h]; simp)]; exact ⟨_, rfl, hR⟩
/-- Between the rounds of the second loop. -/
structure AckI (w w2 : World) (base a : Nat) (v' : Value) (x : LS) (gone : List PS) (k : Nat) (wr : World) : Prop where
  obj : Obj wr a 27 #[v', .int .i64 (x.next : Int), .int .i64 ((ackM x.acked (gone.take k) : Nat) : Int)]
  upd : Upd a w2 wr
theorem ackM_next (ak : Nat) (l : List PS) (k : Nat) (h : k < l.length) : ackM ak (l.take (k + 1)) = max (ackM ak (l.take k)) ((l.getD k default).num + 1) := by
  unfold ackM; rw [take_next l k h, List.foldl_append]; rfl
theorem ack_close {w w1 w2 wr : World} {base a : Nat} {v gv : Value} {x : LS} {l : List (Nat × Nat)} (h2 : PartR w1 w2 base a v x (inRs l) gv) (hb : Below w.heap.size w w1) (hv : ∀ g, v.ownBlock = some g → base ≤ g) (hab : a < w.heap.size)
    (v' : Value) (hst : StV w2 base a v' ⟨x.l.filter (fun p => !inRs l p), x.next, x.acked⟩) (hfr : Fresh w1 v v') (hi : AckI w w2 base a v' x (x.l.filter (inRs l)) (x.l.filter (inRs l)).length wr) : AckR w wr base a v x l gv := by
  have hobj := hi.obj
  rw [List.take_of_length_le (Nat.le_refl _)] at hobj
  have hg := h2.gone
  have halt := hst.lt
  refine ⟨own_base (own_updG hg hi.upd (fun e => by have := (hg.lt a e).1; have := hb.size; omega)) hb.size, ⟨v', ⟨hobj, own_updG hst.own hi.upd (fun e => by have := (hst.own.lt a e).1; omega), hst.lt, Nat.le_trans hst.le hi.upd.size⟩, Fresh.mono hfr hb.size⟩, UpdO.below hb ?_⟩
  have u := h2.upd
  exact ⟨hi.upd.os.trans u.os, hi.upd.tape.trans u.tape, hi.upd.output.trans u.output, Nat.le_trans u.size hi.upd.size, fun k k1 k2 k3 => (hi.upd.block k (Nat.lt_of_lt_of_le k1 u.size) k2).trans (u.block k k1 k2 k3)⟩

set_option maxRecDepth 100000 in
set_option maxHeartbeats 4000000 in
theorem ack_any (a base : Nat) (v : Value) (x : LS) (A : Option Addr) (n c : Nat) (l : List (Nat × Nat)) (w : World) (h : StV w base a v x) (hn : x.l.length ≤ 1000) (hak : x.acked ≤ 1000000) (hnx : x.next ≤ 1000000) (hp : ∀ p ∈ x.l, p.num + 1 ≤ 1000000) (hl : l.length = n) (hln : n ≤ 1000000) (hR : RbR w A l) (hne : ∀ g b o, 0 < l.length → v.ownBlock = some g → A = some ⟨b, o, none⟩ → b ≠ g) (hb : ∀ r ∈ l, r.1 ≤ 18446744073709551615 ∧ r.2 ≤ 18446744073709551615) :
    Calls Try.prog 10 #[.pointer (some ⟨a, 0, none⟩), .slice A n c] w (AckP w base a v x l) := by
  have eg : ∀ args w, (callFunc 28 args).run Try.prog w = .ok (.enter 28 args) w := enters_of Try.func28 (by kernel_rfl) rfl
  obtain ⟨S, hS⟩ : ∃ S, w.heap.size = S := ⟨_, rfl⟩
  obtain ⟨W1, hW1⟩ : ∃ W1, w.alloc (.cells #[.slice A n c] 33) = W1 := ⟨_, rfl⟩
  have hb1 : Below w.heap.size w W1 := hW1 ▸ (Below.refl _ w).alloc (Nat.le_refl _) _
  have o1 : Obj W1 S 33 #[.slice A n c] := hW1 ▸ hS ▸ Obj.new w _ _
  have h1 := h.kept hb1
  have hR1 := hR.below hb1
  have s0 : W1.cell? ⟨S, 0, none⟩ = some (.slice A n c) := by rw [o1.cell]; rfl
  have HL1 : Hid (∀ wr, Below W1.heap.size W1 wr → Below w.heap.size w wr ∧ StV wr base a v x ∧ RbR wr A l ∧ wr.cell? ⟨S, 0, none⟩ = some (.slice A n c) ∧ wr.cell? ⟨a, 1, none⟩ = some (.int .i64 (x.next : Int)) ∧ a < wr.heap.size) := fun wr hbr =>
    ⟨hb1.trans (hbr.mono hb1.size), h1.kept hbr, hR1.below hbr, by rw [(o1.kept hbr).cell]; rfl, by rw [(h1.kept hbr).obj.cell]; rfl, (h1.kept hbr).obj.lt⟩
  have HPT : Hid (∀ wr, Below W1.heap.size W1 wr → Calls Try.prog 27 #[.pointer (some ⟨a, 0, none⟩), .func (.func 28) #[] #[.pointer (some ⟨S, 0, none⟩)]] wr fun e w' => ∃ gv, e = .returned gv ∧ PartR wr w' base a v x (inRs l) gv) := fun wr hbr => by
    have hs := h1.kept hbr
    have os := o1.kept hbr
    refine part_any a base 28 #[.pointer (some ⟨S, 0, none⟩)] (inRs l) v x wr eg hs hn (fun p hpm gR hg V e1 e2 e3 e4 => ?_)
    have hgR := h.own.lt gR hg
    have tr : ∀ (b : Nat) (T : TypeId) (cs : Array Value), Obj wr b T cs → b ≠ gR → Obj V b T cs := fun b T cs ho hne => (e1 b ho.lt hne).trans ho
    have hRb : RbR V A l := fun hpos => by
      obtain ⟨b', o', e, k1, k2⟩ := (hR1.below hbr) hpos
      have hg1 := e1 b' k1 (hne gR b' o' hpos hg e)
      exact ⟨b', o', e, Nat.lt_of_lt_of_le k1 e4, fun i hi => ⟨(World.cell?_of_block (a := ⟨b', o' + i * 2, none⟩) hg1).trans (k2 i hi).1, (World.cell?_of_block (a := ⟨b', o' + i * 2 + 1, none⟩) hg1).trans (k2 i hi).2⟩⟩
    exact ack1_any S p A n c l V (by rw [(tr _ _ _ os (by omega)).cell]; rfl) (by have := hp p hpm; omega) hl hln hRb hb
  have HV : Hid (∀ g, v.ownBlock = some g → base ≤ g) := fun g e => (h.own.lt g e).1
  have HHP := Lib.hid hp
  have HB := Lib.hid hb
  have HLN := Lib.hid hl
  have hal := h.obj.lt
  have HB1 := Lib.hid hb1
  have hS1 : W1.heap.size = S + 1 := by rw [← hW1, ← hS]; simp
  have HS := Lib.hid hS
  have HS1 := Lib.hid hS1
  obtain ⟨nx, hnxe⟩ : ∃ nx, x.next = nx := ⟨_, rfl⟩
  have HNX := Lib.hid hnxe
  rw [hnxe] at HL1 hnx
  clear h h1 hR hR1 hb hl hp eg o1 hb1 hS1 hnxe hne
  go_enter Try.func10, Try.ntmps10
  go_wp2

  go_loopw [7, 15] (fun _ i wr => ∃ k : Nat, k ≤ n ∧ i = .int .i64 (k : Int) ∧ (l.take k).any (badR nx) = false ∧ Below W1.heap.size W1 wr) (fun _ i _ => n - (intOf i).toNat)
  case atStart => exact ⟨0, by omega, rfl, rfl, Below.refl _ _⟩
  case round =>
    obtain ⟨k, hk, rfl, hf, hbr⟩ := hrel
    have HF := Lib.hid hf
    have HBR := Lib.hid hbr
    by_cases hlt : k < n
    · have hki : (k : Int) < (n : Int) := by omega
      have hkl : k < l.length := by rw [HLN.out]; exact hlt
      obtain ⟨q1, q2, q3, q4, q5, q6⟩ := HL1.out wr hbr
      obtain ⟨g, o, rfl, hg, hcell⟩ := q3 (by omega)
      obtain ⟨f0, f1⟩ := hcell k hkl
      have hmem : l.getD k (0, 0) ∈ l := by rw [List.getD_eq_getElem?_getD, List.getElem?_eq_getElem hkl]; exact List.getElem_mem _
      have hbd := HB.out _ hmem
      have htk : l.take (k + 1) = l.take k ++ [l.getD k (0, 0)] := by rw [List.take_succ_eq_append_getElem hkl, List.getD_eq_getElem?_getD, List.getElem?_eq_getElem hkl]; rfl
      have hany : ∀ h : badR nx (l.getD k (0, 0)) = true, l.any (badR nx) = true := fun h => List.any_eq_true.2 ⟨_, hmem, h⟩
      generalize l.getD k (0, 0) = r at *
      obtain ⟨lo, hi⟩ := r
      dsimp only at f0 f1 hbd
      have HTK := Lib.hid htk
      have HAN := Lib.hid hany
      have Q1 := Lib.hid q1
      have hba : Below W1.heap.size W1 (wr.alloc (.cells #[.int .u64 (lo : Int), .int .u64 (hi : Int)] 49)) := hbr.alloc hbr.size _
      have HBA := Lib.hid hba
      obtain ⟨z, hz⟩ : ∃ z, wr.heap.size = z := ⟨_, rfl⟩
      have e0 : IntKind.u64.wrap (nx : Int) = (nx : Int) := by rw [IntKind.wrap_u64]; omega
      clear hmem htk hany hcell hf hbr q1 q2 q3 hba hz
      by_cases c1 : nx ≤ lo
      all_goals by_cases c2 : lo ≤ hi
      all_goals by_cases c3 : nx ≤ hi
      · have d1 : decide ((nx : Int) ≤ (lo : Int)) = true := by simp; omega
        have D1 : decide (nx ≤ lo) = true := by simp; omega
        have d2 : decide ((lo : Int) ≤ (hi : Int)) = true := by simp; omega
        have D2 : decide (lo ≤ hi) = true := by simp; omega
        have d3 : decide ((nx : Int) ≤ (hi : Int)) = true := by simp; omega
        have D3 : decide (nx ≤ hi) = true := by simp; omega
        have HQ : Hid (badR nx (lo, hi) = true) := by unfold Hid badR; simp [c1, c2, c3]
        clear c1 c2 c3
        go_wp2
        go_quiet (fail)
        go_wp2
        go_ret2
        exact AckP.bad (by rw [HNX.out]; exact HAN.out HQ.out) (HB1.out.trans ((below_drewN HBA.out _).mono HB1.out.size))
      · exfalso; omega
      · have d1 : decide ((nx : Int) ≤ (lo : Int)) = true := by simp; omega
        have D1 : decide (nx ≤ lo) = true := by simp; omega
        have d2 : decide ((lo : Int) ≤ (hi : Int)) = false := by simp; omega
        have D2 : decide (lo ≤ hi) = false := by simp; omega
        have d3 : decide ((nx : Int) ≤ (hi : Int)) = true := by simp; omega
        have D3 : decide (nx ≤ hi) = true := by simp; omega
        have HQ : Hid (badR nx (lo, hi) = false) := by unfold Hid badR; simp [c1, c2, c3]
        clear c1 c2 c3
        go_wp2
        go_quiet (fail)
        go_wp2
        go_roundw
        case rel => exact ⟨k + 1, by omega, by go_num, by rw [HTK.out, List.any_append, HF.out]; simp [HQ.out], below_drewN HBA.out _⟩
        case measure => simp [intOf]; omega
      · have d1 : decide ((nx : Int) ≤ (lo : Int)) = true := by simp; omega
        have D1 : decide (nx ≤ lo) = true := by simp; omega
        have d2 : decide ((lo : Int) ≤ (hi : Int)) = false := by simp; omega
        have D2 : decide (lo ≤ hi) = false := by simp; omega
        have d3 : decide ((nx : Int) ≤ (hi : Int)) = false := by simp; omega
        have D3 : decide (nx ≤ hi) = false := by simp; omega
        have HQ : Hid (badR nx (lo, hi) = false) := by unfold Hid badR; simp [c1, c2, c3]
        clear c1 c2 c3
        go_wp2
        go_quiet (fail)
        go_wp2
        go_roundw
        case rel => exact ⟨k + 1, by omega, by go_num, by rw [HTK.out, List.any_append, HF.out]; simp [HQ.out], below_drewN HBA.out _⟩
        case measure => simp [intOf]; omega
      · have d1 : decide ((nx : Int) ≤ (lo : Int)) = false := by simp; omega
        have D1 : decide (nx ≤ lo) = false := by simp; omega
        have d2 : decide ((lo : Int) ≤ (hi : Int)) = true := by simp; omega
        have D2 : decide (lo ≤ hi) = true := by simp; omega
        have d3 : decide ((nx : Int) ≤ (hi : Int)) = true := by simp; omega
        have D3 : decide (nx ≤ hi) = true := by simp; omega
        have HQ : Hid (badR nx (lo, hi) = true) := by unfold Hid badR; simp [c1, c2, c3]
        clear c1 c2 c3
        go_wp2
        go_quiet (fail)
        go_wp2
        go_ret2
        exact AckP.bad (by rw [HNX.out]; exact HAN.out HQ.out) (HB1.out.trans ((below_drewN HBA.out _).mono HB1.out.size))
      · have d1 : decide ((nx : Int) ≤ (lo : Int)) = false := by simp; omega
        have D1 : decide (nx ≤ lo) = false := by simp; omega
        have d2 : decide ((lo : Int) ≤ (hi : Int)) = true := by simp; omega
        have D2 : decide (lo ≤ hi) = true := by simp; omega
        have d3 : decide ((nx : Int) ≤ (hi : Int)) = false := by simp; omega
        have D3 : decide (nx ≤ hi) = false := by simp; omega
        have HQ : Hid (badR nx (lo, hi) = false) := by unfold Hid badR; simp [c1, c2, c3]
        clear c1 c2 c3
        go_wp2
        go_quiet (fail)
        go_wp2
        go_roundw
        case rel => exact ⟨k + 1, by omega, by go_num, by rw [HTK.out, List.any_append, HF.out]; simp [HQ.out], below_drewN HBA.out _⟩
        case measure => simp [intOf]; omega
      · have d1 : decide ((nx : Int) ≤ (lo : Int)) = false := by simp; omega
        have D1 : decide (nx ≤ lo) = false := by simp; omega
        have d2 : decide ((lo : Int) ≤ (hi : Int)) = false := by simp; omega
        have D2 : decide (lo ≤ hi) = false := by simp; omega
        have d3 : decide ((nx : Int) ≤ (hi : Int)) = true := by simp; omega
        have D3 : decide (nx ≤ hi) = true := by simp; omega
        have HQ : Hid (badR nx (lo, hi) = false) := by unfold Hid badR; simp [c1, c2, c3]
        clear c1 c2 c3
        go_wp2
        go_quiet (fail)
        go_wp2
        go_roundw
        case rel => exact ⟨k + 1, by omega, by go_num, by rw [HTK.out, List.any_append, HF.out]; simp [HQ.out], below_drewN HBA.out _⟩
        case measure => simp [intOf]; omega
      · have d1 : decide ((nx : Int) ≤ (lo : Int)) = false := by simp; omega
        have D1 : decide (nx ≤ lo) = false := by simp; omega
        have d2 : decide ((lo : Int) ≤ (hi : Int)) = false := by simp; omega
        have D2 : decide (lo ≤ hi) = false := by simp; omega
        have d3 : decide ((nx : Int) ≤ (hi : Int)) = false := by simp; omega
        have D3 : decide (nx ≤ hi) = false := by simp; omega
        have HQ : Hid (badR nx (lo, hi) = false) := by unfold Hid badR; simp [c1, c2, c3]
        clear c1 c2 c3
        go_wp2
        go_quiet (fail)
        go_wp2
        go_roundw
        case rel => exact ⟨k + 1, by omega, by go_num, by rw [HTK.out, List.any_append, HF.out]; simp [HQ.out], below_drewN HBA.out _⟩
        case measure => simp [intOf]; omega
    · obtain rfl : k = n := by omega
      have ht : l.take k = l := List.take_of_length_le (by rw [HLN.out]; exact Nat.le_refl _)
      rw [ht] at HF
      have HPT2 := Lib.hid (HPT.out wr HBR.out)
      have HBW := Lib.hid (HB1.out.trans (HBR.out.mono HB1.out.size))
      have HLA := Lib.hid hal
      have HLE := Lib.hid (Nat.lt_of_lt_of_le hal HBW.out.size)
      clear hf hbr ht HPT HL1 HBR
      obtain ⟨wo, rfl⟩ : ∃ wo : World, wo = wr := ⟨_, rfl⟩
      go_wp2_with fail
      refine HPT2.out.mono ?_
      rintro e w2 ⟨gv, rfl, hP⟩
      obtain ⟨v', hst, hfr⟩ := hP.ex
      obtain ⟨Ag, cg, rfl, _, _, _, _, _⟩ := ownS_rb hP.gone
      have HP := Lib.hid hP
      have HST := Lib.hid hst
      have HFR := Lib.hid hfr
      obtain ⟨gone, hgone⟩ : ∃ gone, x.l.filter (inRs l) = gone := ⟨_, rfl⟩
      have hgo := hP.gone
      rw [hgone] at hgo ⊢
      obtain ⟨ng, hng⟩ : ∃ ng, gone.length = ng := ⟨_, rfl⟩
      rw [hng] at hgo ⊢
      have HGO := Lib.hid hgo
      have HGN := Lib.hid hgone
      have HNG := Lib.hid hng
      have HI0 : Hid (AckI w w2 base a v' x gone 0 w2) := ⟨hst.obj, Upd.refl _ _⟩
      have HGM : Hid (∀ p ∈ gone, p.num + 1 ≤ 1000000) := fun p hp => HHP.out p (by rw [← hgone] at hp; exact (List.mem_filter.1 hp).1)
      have hngb : ng ≤ 1000 := by have := List.length_filter_le (inRs l) x.l; rw [hgone, hng] at this; omega
      clear hP hst hfr hgone hng hgo
      go_wp2
      go_loopw [10, 57] (fun _ i wr3 => ∃ j : Nat, j ≤ ng ∧ i = .int .i64 (j : Int) ∧ AckI w w2 base a v' x gone j wr3) (fun _ i _ => ng - (intOf i).toNat)
      case atStart => exact ⟨0, by omega, rfl, HI0.out⟩
      case round =>
        obtain ⟨j, hj, rfl, hI⟩ := hrel
        have HI := Lib.hid hI
        by_cases hlt2 : j < ng
        · have hji : (j : Int) < (ng : Int) := by omega
          have hjl : j < gone.length := by rw [HNG.out]; exact hlt2
          have hmem : gone.getD j default ∈ gone := by rw [List.getD_eq_getElem?_getD, List.getElem?_eq_getElem hjl]; exact List.getElem_mem _
          have hnum := HGM.out _ hmem
          have hm1 := ackM_next x.acked gone j hjl
          have hml : ackM x.acked (gone.take j) ≤ 1000000 := ackM_le _ _ _ hak (fun p hp => HGM.out p (List.mem_of_mem_take hp))
          have hle := HLE.out
          obtain ⟨g, c', e, hbg, hg, f0, f1, f2, f3, f4⟩ := ownS_cells (own_updG HGO.out hI.upd (fun e => by have := (HGO.out.lt a e).1; omega)) hjl
          cases e
          generalize gone.getD j default = p at *
          obtain ⟨num, tm, sz, ask, fa, fn, fc⟩ := p
          dsimp only at f0 f1 f2 f3 f4 hnum hm1
          have hobj := hI.obj
          generalize ackM x.acked (gone.take j) = m at *
          obtain ⟨z, hz⟩ : ∃ z, wr.heap.size = z := ⟨_, rfl⟩
          obtain ⟨W5, hW5⟩ : ∃ W5, wr.alloc (.cells #[.int .i64 (num : Int), .int .u64 (tm : Int), .int .i64 (sz : Int), .bool ask, .slice fa fn fc] 32) = W5 := ⟨_, rfl⟩
          have o5 : Obj W5 z 32 #[.int .i64 (num : Int), .int .u64 (tm : Int), .int .i64 (sz : Int), .bool ask, .slice fa fn fc] := hW5 ▸ hz ▸ Obj.new wr _ _
          have oa5 : Obj W5 a 27 #[v', .int .i64 (x.next : Int), .int .i64 (m : Int)] := hW5 ▸ hobj.alloc _
          have u5 : Upd a w2 W5 := hW5 ▸ hI.upd.alloc _
          have g0 : W5.drew.cell? ⟨a, 2, none⟩ = some (.int .i64 (m : Int)) := by rw [oa5.drew.cell]; rfl
          have g1 : W5.drew.cell? ⟨z, 0, none⟩ = some (.int .i64 (num : Int)) := by rw [o5.drew.cell]; rfl
          have zf := oa5.drew.free 2
          have hmx : (if (m : Int) < (num : Int) + 1 then (num : Int) + 1 else (m : Int)) = ((max m (num + 1) : Nat) : Int) := by split <;> omega
          have HFIN : Hid (AckI w w2 base a v' x gone (j + 1) (W5.setCell ⟨a, 2, none⟩ (.int .i64 (if (m : Int) < (num : Int) + 1 then (num : Int) + 1 else (m : Int)))).drew) := by
            rw [hmx]
            refine ⟨?_, (u5.set 2 _).drew⟩
            rw [hm1]; exact (oa5.set 2 _).drew
          clear hmem hI HI hm1 hobj o5 oa5 u5 hmx
          go_wp2
          refine wp_region_T 11 (fun wq => wq.cell? ⟨a, 2, none⟩ = some (.int .i64 (m : Int)) ∧ wq.cell? ⟨z, 0, none⟩ = some (.int .i64 (num : Int))) (by kernel_rfl) ⟨g0, g1⟩ (fun hHeld => ?_)
          refine wpAnyT_take (i := 0) (oi := ?_) (v := ?_) ?_ ?_ ?_ ?_ ?_ ?_ ?_ (by assumption) ?_
          rotate_left 2
          · simp only [List.getElem?_toArray, List.getElem?_cons_zero, List.getElem?_cons_succ]
            rfl
          · kernel_rfl
          · kernel_rfl
          · kernel_rfl
          · kernel_rfl
          · exact fun _ _ _ h => h
          · refine Or.inl ⟨by rfl, ?_⟩
            intro w hSw
            (try dsimp only at hSw)
            go_simp
            all_goals with_reducible rfl
          simp only [Act.put, List.setIfInBounds_toArray, List.set_cons_zero, List.set_cons_succ]
          refine wpAnyT_take (i := 1) (oi := ?_) (v := ?_) ?_ ?_ ?_ ?_ ?_ ?_ ?_ (by assumption) ?_
          rotate_left 2
          · simp only [List.getElem?_toArray, List.getElem?_cons_zero, List.getElem?_cons_succ]
            rfl
          · kernel_rfl
          · kernel_rfl
          · kernel_rfl
          · kernel_rfl
          · exact fun _ _ _ h => h
          · refine Or.inl ⟨by rfl, ?_⟩
            intro w hSw
            (try dsimp only at hSw)
            go_simp
            all_goals with_reducible rfl
          simp only [Act.put, List.setIfInBounds_toArray, List.set_cons_zero, List.set_cons_succ]
          refine wpAnyT_take (i := 2) (oi := ?_) (v := ?_) ?_ ?_ ?_ ?_ ?_ ?_ ?_ (by assumption) ?_
          rotate_left 2
          · simp only [List.getElem?_toArray, List.getElem?_cons_zero, List.getElem?_cons_succ]
            rfl
          · kernel_rfl
          · kernel_rfl
          · kernel_rfl
          · kernel_rfl
          · exact fun _ _ _ h => h
          · refine Or.inl ⟨by rfl, ?_⟩
            intro w hSw
            (try dsimp only at hSw)
            go_simp
            all_goals with_reducible rfl
          simp only [Act.put, List.setIfInBounds_toArray, List.set_cons_zero, List.set_cons_succ]
          refine wpAnyT_take (i := 3) (oi := ?_) (v := ?_) ?_ ?_ ?_ ?_ ?_ ?_ ?_ (by assumption) ?_
          rotate_left 2
          · simp only [List.getElem?_toArray, List.getElem?_cons_zero, List.getElem?_cons_succ]
            rfl
          · kernel_rfl
          · kernel_rfl
          · kernel_rfl
          · kernel_rfl
          · exact fun _ _ _ h => h
          · refine Or.inl ⟨by rfl, ?_⟩
            intro w hSw
            (try dsimp only at hSw)
            go_simp
            all_goals with_reducible rfl
          simp only [Act.put, List.setIfInBounds_toArray, List.set_cons_zero, List.set_cons_succ]
          refine wpAnyT_take (i := 4) (oi := ?_) (v := ?_) ?_ ?_ ?_ ?_ ?_ ?_ ?_ (by assumption) ?_
          rotate_left 2
          · simp only [List.getElem?_toArray, List.getElem?_cons_zero, List.getElem?_cons_succ]
            rfl
          · kernel_rfl
          · kernel_rfl
          · kernel_rfl
          · kernel_rfl
          · exact fun _ _ _ h => h
          · refine Or.inl ⟨by rfl, ?_⟩
            intro w' hSw
            obtain ⟨d0, d1⟩ := hSw
            go_simp
            all_goals with_reducible rfl
          simp only [Act.put, List.setIfInBounds_toArray, List.set_cons_zero, List.set_cons_succ]
          refine wpAnyT_take (i := 5) (oi := ?_) (v := ?_) ?_ ?_ ?_ ?_ ?_ ?_ ?_ (by assumption) ?_
          rotate_left 2
          · simp only [List.getElem?_toArray, List.getElem?_cons_zero, List.getElem?_cons_succ]
            rfl
          · kernel_rfl
          · kernel_rfl
          · kernel_rfl
          · kernel_rfl
          · exact fun _ _ _ h => h
          · refine Or.inl ⟨by rfl, ?_⟩
            intro w hSw
            (try dsimp only at hSw)
            go_simp
            all_goals with_reducible rfl
          simp only [Act.put, List.setIfInBounds_toArray, List.set_cons_zero, List.set_cons_succ]
          refine wpAnyT_take (i := 6) (oi := ?_) (v := ?_) ?_ ?_ ?_ ?_ ?_ ?_ ?_ (by assumption) ?_
          rotate_left 2
          · simp only [List.getElem?_toArray, List.getElem?_cons_zero, List.getElem?_cons_succ]
            rfl
          · kernel_rfl
          · kernel_rfl
          · kernel_rfl
          · kernel_rfl
          · exact fun _ _ _ h => h
          · refine Or.inl ⟨by rfl, ?_⟩
            intro w' hSw
            obtain ⟨d0, d1⟩ := hSw
            go_simp
            all_goals with_reducible rfl
          simp only [Act.put, List.setIfInBounds_toArray, List.set_cons_zero, List.set_cons_succ]
          refine wpAnyT_take (i := 7) (oi := ?_) (v := ?_) ?_ ?_ ?_ ?_ ?_ ?_ ?_ (by assumption) ?_
          rotate_left 2
          · simp only [List.getElem?_toArray, List.getElem?_cons_zero, List.getElem?_cons_succ]
            rfl
          · kernel_rfl
          · kernel_rfl
          · kernel_rfl
          · kernel_rfl
          · exact fun _ _ _ h => h
          · refine Or.inl ⟨by rfl, ?_⟩
            intro w hSw
            (try dsimp only at hSw)
            go_simp
            all_goals with_reducible rfl
          simp only [Act.put, List.setIfInBounds_toArray, List.set_cons_zero, List.set_cons_succ]
          refine wpAnyT_take (i := 8) (oi := ?_) (v := ?_) ?_ ?_ ?_ ?_ ?_ ?_ ?_ (by assumption) ?_
          rotate_left 2
          · simp only [List.getElem?_toArray, List.getElem?_cons_zero, List.getElem?_cons_succ]
            rfl
          · kernel_rfl
          · kernel_rfl
          · kernel_rfl
          · kernel_rfl
          · exact fun _ _ _ h => h
          · refine Or.inl ⟨by rfl, ?_⟩
            intro w hSw
            (try dsimp only at hSw)
            go_simp
            all_goals with_reducible rfl
          simp only [Act.put, List.setIfInBounds_toArray, List.set_cons_zero, List.set_cons_succ]
          refine wpAnyT_one (i := 9) (o := ?_) (by kernel_rfl) ?_ (fun KK hKK => ?_)
          rotate_left
          · simp only [List.getElem?_toArray, List.getElem?_cons_zero, List.getElem?_cons_succ]
            rfl
          go_simp
          refine hKK.out _ _ ?_ (fun hh9 => ?_)
          · (try dsimp only)
            exact ⟨g0, g1⟩
          clear hKK KK
          try simp only [Act.put, List.setIfInBounds_toArray, List.set_cons_zero, List.set_cons_succ]
          refine wpAnyT_one (i := 10) (o := ?_) (by kernel_rfl) ?_ (fun KK hKK => ?_)
          rotate_left
          · simp only [List.getElem?_toArray, List.getElem?_cons_zero, List.getElem?_cons_succ]
            rfl
          go_simp
          refine hKK.out _ _ ?_ (fun hh10 => ?_)
          · (try dsimp only)
            exact ⟨g0, g1⟩
          clear hKK KK
          try simp only [Act.put, List.setIfInBounds_toArray, List.set_cons_zero, List.set_cons_succ]
          refine wpAnyT_last (o := ?_) (by kernel_rfl) ?_ (fun KK hKK => ?_)
          rotate_left
          · simp only [List.getElem?_toArray, List.getElem?_cons_zero, List.getElem?_cons_succ]
            rfl
          go_simp
          refine hKK.out _ _ ?_
          clear hKK KK
          try simp only [Act.put, List.setIfInBounds_toArray, List.set_cons_zero, List.set_cons_succ]
          refine wpAnyT_done (by kernel_rfl) ?_ _
          go_wp2
          go_roundw
          case rel => exact ⟨j + 1, by omega, by go_num, HFIN.out⟩
          case measure => simp [intOf]; omega
        · obtain rfl : j = ng := by omega
          have hI2 := hI
          rw [← HNG.out, ← HGN.out] at hI2
          have hfi := ack_close HP.out HBW.out HV.out HLA.out v' HST.out HFR.out hI2
          rw [show (x.l.filter (inRs l)).length = j by rw [HGN.out, HNG.out]] at hfi
          have HFI := Lib.hid hfi
          clear hI2 hfi
          have HFB := Lib.hid (AckP.ok (w := w) (w' := wr) (base := base) (a := a) (v := v)  (by rw [HNX.out]; exact HF.out) HFI.out)
          clear hI
          go_wp2
          go_ret2
          exact HFB.out
end Go.Proofs.Ytlldomgfjmkcdaa
