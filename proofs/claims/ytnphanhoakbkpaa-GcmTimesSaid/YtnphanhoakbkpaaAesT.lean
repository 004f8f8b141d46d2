/- Layer 8's stream, walked. -/
import Derived.Test.YtnphanhoakbkpaaRows
import Derived.Test.YtnphanhoakbkpaaAid
import Derived.Test.YtnphanhoakbkpaaPlainAe
import Derived.Test.YtnphanhoakbkpaaPlainAe2
import Derived.Test.YtnphanhoakbkpaaHeldT
import Derived.Test.YtnphanhoakbkpaaAesB
import Derived.Test.YtnphanhoakbkpaaAesBox
import Derived.Test.YtnphanhoakbkpaaAesW
import Derived.Test.YtnphanhoakbkpaaAesE
import Derived.Test.YtnphanhoakbkpaaAesK
import Derived.Test.YtnphanhoakbkpaaAesS
import Derived.WalkKit
import Derived.Laws.BitsAllLaws
import Derived.Laws.Rows
import Derived.Laws.Tables
import Derived.Laws.AppendOwn
import Derived.Lib.SliceRun
import Derived.WalkSpells
import Derived.WalkLawsBesides
import Derived.Deep.QuietTactic
import Derived.BigQuiet
import Derived.Handy
import Derived.Lib.Hide
import Derived.StillTailTactics
import Derived.Deep.RegionHeld3
import Derived.Deep.WholeRow
import Derived.IntWalk
import Derived.Deep.Cut
namespace Go.Proofs.Ytnphanhoakbkpaa
open Go.RowKit
set_option linter.unusedVariables false
set_option linter.unusedSimpArgs false

/-- A row whose first cells are bytes. -/
def rowT (l : List Nat) (tail : List Value) : Array Value := (l.map u8v ++ tail).toArray
theorem Obj.getT {w : World} {b : Nat} {t : TypeId} {l : List Nat} {tail : List Value} (h : Obj w b t (rowT l tail)) (i : Nat) (hi : i < l.length) : w.cell? ⟨b, i, none⟩ = some (.int .u8 ((l.getD i 0 : Nat) : Int)) := by
  rw [h.cell i]
  simp [rowT, List.getElem?_append_left, hi, List.getD_eq_getElem?_getD, u8v]
theorem Obj.setT {w : World} {b : Nat} {t : TypeId} {l : List Nat} {tail : List Value} (h : Obj w b t (rowT l tail)) (i v : Nat) (hi : i < l.length) : Obj (w.setCell ⟨b, i, none⟩ (.int .u8 ((v : Nat) : Int))) b t (rowT (l.set i v) tail) := by
  have := h.set i (.int .u8 ((v : Nat) : Int))
  refine this.as ?_
  apply Array.ext'
  rw [Array.toList_setIfInBounds]
  show ((l.map u8v ++ tail).set i (u8v v)) = (l.set i v).map u8v ++ tail
  rw [List.set_append_left _ _ (by simpa using hi), List.map_set]
/-- Out of a slice of the call's own: its block. -/
theorem own_row {w : World} {base n : Nat} {v : Value} {l : List Nat} (h : w.ownsRow base 5 1 v n (l.map u8v)) (hn : 0 < n) : ∃ g cap tail, v = .slice (some ⟨g, 0, none⟩) n cap ∧ base ≤ g ∧ n ≤ cap ∧ Obj w g 5 (rowT l tail) ∧ cap ≤ maxLen ∧ n + tail.length = cap := by
  obtain ⟨h1, h2⟩ := h
  rcases h2 with ⟨rfl, rfl⟩ | ⟨g, cap, cur, rfl, hb, hg, hnc, hc, hs, ht⟩
  · omega
  · refine ⟨g, cap, cur.toList.drop n, rfl, hb, hnc, ?_, hc, by simp; omega⟩
    have e : cur = rowT l (cur.toList.drop n) := by
      apply Array.ext'
      unfold rowT
      rw [← ht, Nat.mul_one, List.take_append_drop]
    exact hg.trans (by rw [← e])
theorem row_own {w : World} {base n : Nat} {l : List Nat} {g cap : Nat} {tail : List Value} (hl : l.length = n) (hb : base ≤ g) (h : Obj w g 5 (rowT l tail)) (hc : cap ≤ maxLen) (ht : n + tail.length = cap) :
    w.ownsRow base 5 1 (.slice (some ⟨g, 0, none⟩) n cap) n (l.map u8v) :=
  ⟨by simp [hl], .inr ⟨g, cap, _, rfl, hb, h, by omega, hc, by simp [rowT]; omega, by simp [rowT]; rw [List.take_left' (by simp [hl])]⟩⟩

theorem own_base {w : World} {base base' n : Nat} {v : Value} {xs : List Value} (h : w.ownsRow base' 5 1 v n xs) (hb : base ≤ base') : w.ownsRow base 5 1 v n xs := by
  obtain ⟨h1, h2⟩ := h
  refine ⟨h1, ?_⟩
  rcases h2 with h2 | ⟨g, cap, cur, e, hg, r⟩
  · exact .inl h2
  · exact .inr ⟨g, cap, cur, e, Nat.le_trans hb hg, r⟩
theorem slice12 (g : Nat) (w : World) :
    (Instr.sliceAt 22 (.pointer (some ⟨g, 0, none⟩)) (some (.int .i64 12)) none none).run Try.prog w = .ok (.slice (some ⟨g, 12, none⟩) 4 4) w := slice16l g 12 (by decide) w

/-- So many places of a text are enciphered at the head of a round. -/
def upd (n i : Nat) : Nat := min n (16 * ((i + 15) / 16))
def strm (w first text : List Nat) (d : Nat) : List Nat := Ae.upto (fun k => text.getD k 0 ^^^ Ae.pad w first k) text d

set_option maxRecDepth 100000 in
set_option maxHeartbeats 1000000 in
theorem stream_any (key first : List Nat) (A : Option Addr) (c : Nat) (text : List Nat) (w : World) (hk : key.length = 16) (hf : first.length = 16) (qk : Ae.bytes key) (qf : Ae.bytes first) (ht : Rd w A text) (qt : Ae.bytes text) (hm : text.length ≤ 1000000) :
    Calls Try.prog 30 #[.agg (cellsN key), .agg (cellsN first), .slice A text.length c] w fun e w' => ∃ v, e = .returned v ∧ w'.ownsRow w.heap.size 5 1 v text.length ((Ae.stream (Ae.sched key) first text).map u8v) ∧ Below w.heap.size w w' := by
  have HK := Lib.hid hk
  have HT := Lib.hid ht
  have HM := Lib.hid hm
  obtain ⟨S, hS⟩ : ∃ S, Ae.sched key = S := ⟨_, rfl⟩
  have HSK := Lib.hid hS
  have hz := (zero_of_info zero176).1
  have HIK := Lib.hid (size16 hk)
  have HLC : Hid (∀ i, (Ae.ctr first i).length = 16) := fun i => (Ae.ctr_len first i).trans hf
  have HLS : Hid (S.length = 176) := by rw [← hS]; exact Ae.sched_len key
  have HIS := Lib.hid (size176 HLS.out)
  have HSZ : Hid ((cellsN z176).size = (cellsN S).size) := by unfold Hid; rw [cellsN_size, cellsN_size, z176_len, HLS.out]
  have qs : Ae.bytes S := by rw [← hS]; exact Ae.sched_bytes qk
  have HQ : Hid (∀ i, Ae.bytes (Ae.ctr first i)) := fun i => Ae.ctr_bytes qf i
  have HSD : Hid (Ae.stream (Ae.sched key) first text = (List.range text.length).map (fun k => text.getD k 0 ^^^ Ae.pad S first k)) := by unfold Hid; rw [hS]; rfl
  have HPD : Hid (∀ k, Ae.pad S first k = (Ae.enc S (Ae.ctr first (k / 16))).getD (k % 16) 0) := fun k => rfl
  have HCN : Hid (∀ i, Ae.ctr first (i + 1) = Ae.next (Ae.ctr first i)) := fun i => rfl
  rw [HSD.out]
  clear hS hf hk ht
  have O0 : Obj ((w.alloc (.cells (cellsN key) 22)).alloc (.cells (cellsN first) 22)) w.heap.size 22 (cellsN key) := (Obj.new w _ _).alloc _
  have O1 : Obj ((w.alloc (.cells (cellsN key) 22)).alloc (.cells (cellsN first) 22)) (w.heap.size + 1) 22 (cellsN first) := new2 w _ _ _
  have L0 : Below w.heap.size w ((w.alloc (.cells (cellsN key) 22)).alloc (.cells (cellsN first) 22)) := ((Below.refl _ w).alloc (Nat.le_refl _) _).alloc (by simp) _
  have P0 := Lib.hid O0
  have P1 := Lib.hid O1
  have PL := Lib.hid L0
  clear O0 O1 L0
  go_enter Try.func30, Try.ntmps30
  go_wp2_with (refine wpList_load_row rfl 22 (.tmp 3) rfl _ rfl _ _ _ _ P0.out Try.underlying22 rfl HIK.out ?_)
  refine (keys_any key _ HK.out qk).mono ?_
  rintro e w1 ⟨rfl, hb1⟩
  rw [HSK.out]
  have O1 := P1.out.kept hb1
  have L1 := PL.out.trans (hb1.mono PL.out.size)
  have ON := Lib.hid (Obj.new w1 67 (cellsN z176))
  clear P0 P1 PL hb1
  go_wp2_with (refine wpList_store_row rfl 67 (.tmp 7) (.tmp 13) rfl _ _ rfl rfl _ _ ON.out HIS.out HSZ.out (one_cellsN _) ?_)
  have U2 := (Upd.refl w1.heap.size (w1.alloc (.cells (cellsN z176) 67))).row (cellsN S)
  have hw1 := O1.lt
  have O2 := (O1.alloc (.cells (cellsN z176) 67)).upd U2 (by omega)
  have K2 := ON.out.row (cellsN S)
  have L2 := Upd.below (L1.alloc L1.size (.cells (cellsN z176) 67)) L1.size U2
  have hs2 : ((w1.alloc (.cells (cellsN z176) 67)).setRow w1.heap.size (cellsN S)).heap.size = w1.heap.size + 1 := by simp
  have HT2 := Rd.below HT.out L2
  clear ON U2 O1 L1 hz
  refine (clone_any A c text _ HT2 HM.out).mono ?_
  rintro e w3 ⟨v, rfl, hv, hb3⟩
  have O3 := O2.kept hb3
  have K3 := K2.kept hb3
  have L3 := L2.trans (hb3.mono L2.size)
  rw [hs2] at hv
  clear HT2 HT hb3 O2 K2 L2
  obtain ⟨n, hn⟩ : ∃ n, text.length = n := ⟨_, rfl⟩
  have HN := Lib.hid hn
  rw [hn] at hv hm
  rw [hn]
  clear hn hs2
  generalize w1.heap.size = kb at *
  rcases Nat.eq_zero_or_pos n with h0 | hpos
  · obtain ⟨A', c', rfl, hlt', hnc', _⟩ := own_rd hv
    have hv2 := own_base hv (show w.heap.size ≤ kb + 1 by omega)
    have htx : text = [] := by rcases text with _ | ⟨x, r⟩; rfl; rw [h0] at hlt'; simp at hlt'
    have HV := Lib.hid hv2
    have HTX := Lib.hid htx
    subst h0
    clear hv hv2 htx hlt' hnc'
    have P3 := Lib.hid L3
    clear O3 K3 L3
    go_wp2
    go_loopw [18] (fun i wr => i = .int .i64 0 ∧ wr = w3) (fun i _ => 0)
    case atStart => exact ⟨rfl, rfl⟩
    case round =>
      obtain ⟨rfl, rfl⟩ := hrel
      go_wp2
      go_ret
      refine ⟨_, rfl, ?_, P3.out⟩
      have := HV.out
      rw [HTX.out] at this ⊢
      exact this
  · obtain ⟨g, cap, tail, rfl, hg, hnc, HG, hcap, htl⟩ := own_row hv hpos
    clear hv
    have hg1 : w.heap.size + 1 < g := by omega
    have hg2 : kb < g := by omega
    have hk1 : w.heap.size + 1 < kb := hw1
    have HCAP := Lib.hid (And.intro hcap htl)
    clear hg hw1 hcap htl
    have HST0 := Lib.hid (show strm S first text (upd n 0) = text from by unfold strm upd; rw [show min n (16 * ((0 + 15) / 16)) = 0 by omega]; exact Ae.upto_zero _ _)
    go_wp2
    go_loopw [18] (fun i wr => ∃ k : Nat, k ≤ n ∧ i = .int .i64 k ∧ Obj wr (w.heap.size + 1) 22 (cellsN (Ae.ctr first ((k - 1) / 16))) ∧ Obj wr kb 67 (cellsN S) ∧ Obj wr g 5 (rowT (strm S first text (upd n k)) tail) ∧ Below w.heap.size w wr) (fun i _ => n - (intOf i).toNat)
    case atStart => exact ⟨0, by omega, rfl, O3, K3, (by rw [HST0.out]; exact HG), L3⟩
    case round =>
      clear O3 K3 HG L3
      obtain ⟨k, hk, rfl, HF1, HK1, HG1, HL1⟩ := hrel
      by_cases hlt : k < n
      · by_cases h16 : k % 16 = 0
        · have hmi : ((k : Int) % 16 == 0) = true := by rw [show (k : Int) % 16 = 0 by omega]; rfl
          by_cases h0 : 0 < k
          · have h0i : (0 : Int) < (k : Int) := by omega
            have hsl := fun w' => slice12 (w.heap.size + 1) w'
            have HNX := Lib.hid (show Ae.next (Ae.ctr first ((k - 1) / 16)) = Ae.ctr first (k / 16) by rw [← HCN.out, show (k - 1) / 16 + 1 = k / 16 by omega])
            go_wp2_with fail
            refine (next_any (w.heap.size + 1) _ _ HF1 (HLC.out _) (HQ.out _)).mono ?_
            rintro e w4 ⟨rfl, hf4, u4⟩
            rw [HNX.out] at hf4
            have HK4 := HK1.upd u4 (by omega)
            have HG4 := HG1.upd u4 (by omega)
            have HL4 := Upd.below HL1 (by omega) u4
            clear HF1 HK1 HG1 HL1 hsl u4
            have HF1 := hf4
            have HK1 := HK4
            have HG1 := HG4
            have HL1 := HL4
            clear hf4 HK4 HG4 HL4
            have qc := HQ.out (k / 16)
            have HLc := Lib.hid (HLC.out (k / 16))
            have HIc := Lib.hid (size16 (HLC.out (k / 16)))
            have HLE := Lib.hid (Ae.enc_len S (Ae.ctr first (k / 16)))
            have HIE := Lib.hid (size16 HLE.out)
            have qE := Ae.enc_bytes qc qs
            have HPE : Hid (∀ m, m / 16 = k / 16 → Ae.pad S first m = (Ae.enc S (Ae.ctr first (k / 16))).getD (m % 16) 0) := fun m hm => by rw [HPD.out, hm]
            have HSE : Hid ((#[.int .u8 0, .int .u8 0, .int .u8 0, .int .u8 0, .int .u8 0, .int .u8 0, .int .u8 0, .int .u8 0, .int .u8 0, .int .u8 0, .int .u8 0, .int .u8 0, .int .u8 0, .int .u8 0, .int .u8 0, .int .u8 0] : Array Value).size = (cellsN (Ae.enc S (Ae.ctr first (k / 16)))).size) := by unfold Hid; rw [cellsN_size, HLE.out]; rfl
            go_wp2_with (first
              | (refine wpList_load_row rfl 67 (.tmp 7) rfl _ rfl _ _ _ _ HK1 Try.underlying67 rfl HIS.out ?_)
              | (refine wpList_load_row rfl 22 (.tmp 4) rfl _ rfl _ _ _ _ HF1 Try.underlying22 rfl HIc.out ?_))
            refine (enciphered_any S (Ae.ctr first (k / 16)) _ HLS.out HLc.out qs qc).mono ?_
            rintro e w5 ⟨rfl, hb5⟩
            have HF5 := HF1.kept hb5
            have HK5 := HK1.kept hb5
            have HG5 := HG1.kept hb5
            have HL5 := HL1.trans (hb5.mono HL1.size)
            have ON : Obj (w5.alloc (.cells #[.int .u8 0, .int .u8 0, .int .u8 0, .int .u8 0, .int .u8 0, .int .u8 0, .int .u8 0, .int .u8 0, .int .u8 0, .int .u8 0, .int .u8 0, .int .u8 0, .int .u8 0, .int .u8 0, .int .u8 0, .int .u8 0] 22)) w5.heap.size 22 #[.int .u8 0, .int .u8 0, .int .u8 0, .int .u8 0, .int .u8 0, .int .u8 0, .int .u8 0, .int .u8 0, .int .u8 0, .int .u8 0, .int .u8 0, .int .u8 0, .int .u8 0, .int .u8 0, .int .u8 0, .int .u8 0] := Obj.new w5 _ _
            have HON := Lib.hid ON
            have B5 : Below w5.heap.size w5 (w5.alloc (.cells #[.int .u8 0, .int .u8 0, .int .u8 0, .int .u8 0, .int .u8 0, .int .u8 0, .int .u8 0, .int .u8 0, .int .u8 0, .int .u8 0, .int .u8 0, .int .u8 0, .int .u8 0, .int .u8 0, .int .u8 0, .int .u8 0] 22)) := (Below.refl _ _).alloc (Nat.le_refl _) _
            have HF6 := HF5.kept B5
            have HK6 := HK5.kept B5
            have HG6 := HG5.kept B5
            have HL6 := HL5.trans (B5.mono HL5.size)
            have l1 := HF5.lt
            have l2 := HK5.lt
            have l3 : g < w5.heap.size := HG5.lt
            clear HF5 HK5 HG5 HL5 hb5 HF1 HK1 HG1 HL1 B5 ON
            generalize Ae.enc S (Ae.ctr first (k / 16)) = E at *
            go_wp2_with (refine wpList_store_row rfl 22 (.tmp 10) (.tmp 35) rfl _ _ rfl rfl _ _ HON.out HIE.out HSE.out (one_cellsN _) ?_)
            have U7 := (Upd.refl w5.heap.size (w5.alloc (.cells #[.int .u8 0, .int .u8 0, .int .u8 0, .int .u8 0, .int .u8 0, .int .u8 0, .int .u8 0, .int .u8 0, .int .u8 0, .int .u8 0, .int .u8 0, .int .u8 0, .int .u8 0, .int .u8 0, .int .u8 0, .int .u8 0] 22))).row (cellsN E)
            have HF7 := HF6.upd U7 (by omega)
            have HK7 := HK6.upd U7 (by omega)
            have HG7 := HG6.upd U7 (by omega)
            have HE7 := HON.out.row (cellsN E)
            have HL7 := Upd.below HL6 (by omega) U7
            clear HF6 HK6 HG6 HL6 U7 HON
            generalize w5.heap.size = bb at *
            obtain ⟨M, hM⟩ : ∃ M, min (k + 16) n = M := ⟨_, rfl⟩
            have hmin : (if (n : Int) < (k : Int) + 16 then (n : Int) else (k : Int) + 16) = (M : Int) := by split <;> omega
            have hk16 : (k : Int) + 16 ≤ 9000000 := by omega
            have hup0 : upd n k = k := by unfold upd; omega
            have hup1 : upd n (k + 1) = M := by unfold upd; omega
            have HU0 := Lib.hid hup0
            have HU1 := Lib.hid hup1
            have hkM : k < M := by omega
            have hMn : M ≤ n := by omega
            have hM16 : M ≤ k + 16 := by omega
            clear hM hup0 hup1
            have H16 := Lib.hid h16
            clear h16
            go_loopw [11] (fun i wr => ∃ m : Nat, k ≤ m ∧ m ≤ M ∧ i = .int .i64 m ∧ Obj wr (w.heap.size + 1) 22 (cellsN (Ae.ctr first (k / 16))) ∧ Obj wr kb 67 (cellsN S) ∧ Obj wr bb 22 (cellsN E) ∧ Obj wr g 5 (rowT (strm S first text m) tail) ∧ Below w.heap.size w wr) (fun i _ => M - (intOf i).toNat)
            case atStart => exact ⟨k, Nat.le_refl _, by omega, rfl, HF7, HK7, HE7, (by rw [HU0.out] at HG7; exact HG7), HL7⟩
            case round =>
              clear HF7 HK7 HG7 HL7 HE7
              obtain ⟨m, hm1, hm2, rfl, HF, HK, HE, HG, HL⟩ := hrel
              by_cases hmM : m < M
              · have hlt2 : (m : Int) < (M : Int) := by omega
                obtain ⟨p, hp⟩ : ∃ p, m - k = p := ⟨_, rfl⟩
                have g1 : IntKind.i64.wrap ((m : Int) - (k : Int)) = (p : Int) := by rw [IntWalk.i64_in _ (by omega)]; omega
                have gp : (p : Int) < 16 := by omega
                have gm : (m : Int) < (n : Int) := by omega
                have fx : wr.cell? ⟨g, m, none⟩ = some (.int .u8 ((text.getD m 0 : Nat) : Int)) := by
                  rw [HG.getT m (by unfold strm; rw [Ae.upto_len, HN.out]; omega)]
                  unfold strm
                  rw [Ae.upto_get _ _ _ _ (by rw [HN.out]; omega), if_neg (by omega)]
                have fy : wr.cell? ⟨bb, p, none⟩ = some (.int .u8 ((E.getD p 0 : Nat) : Int)) := HE.getN p (by rw [HLE.out]; omega)
                have z0 := HG.free m
                have hx := Ae.bytes_get qt m
                have hy := Ae.bytes_get qE p
                have HS2 : Hid ((strm S first text m).set m (text.getD m 0 ^^^ E.getD p 0) = strm S first text (m + 1)) := by
                  have := Ae.upto_set (fun k => text.getD k 0 ^^^ Ae.pad S first k) text m (by rw [HN.out]; omega)
                  rw [HPE.out m (by have := H16.out; omega), show m % 16 = p by have := H16.out; omega] at this
                  exact this
                have HLM : Hid (m < (strm S first text m).length) := by unfold Hid strm; rw [Ae.upto_len, HN.out]; omega
                clear hp
                generalize text.getD m 0 = x at *
                generalize E.getD p 0 = y at *
                have HXY := Lib.hid (u8_xor_nat x y hx hy)
                go_wp2
                refine wp_region_still_tail 11 (by kernel_rfl) (by kernel_rfl) ?_
                simp only [List.take_succ_cons, List.take_zero, List.drop_succ_cons, List.drop_zero]
                change wpStill _ _ (World.drew _) (fun a' => wpList _ _ _ _ a' (World.drew _)) _ _
                iterate 11 still_step
                refine wpStill_nil ?_
                clear g1 hmin
                go_wp2
                go_roundw
                case rel =>
                  rw [HXY.out]
                  exact ⟨m + 1, by omega, by omega, by go_num, (HF.far (by simp; omega) _).drew, (HK.far (by simp; omega) _).drew, (HE.far (by simp; omega) _).drew, ((HG.setT _ _ HLM.out).drew).as (by rw [HS2.out]), (HL.setCell (by simp; omega) _).drew⟩
                case measure => simp [intOf]; omega
              · obtain rfl : m = M := by omega
                rw [← HU1.out] at HG
                clear hmM
                go_wp2
                go_roundw
                case rel => exact ⟨k + 1, by omega, by go_num, (by rw [show (k + 1 - 1) / 16 = k / 16 by omega]; exact HF), HK, HG, HL⟩
                case measure => simp [intOf]; omega
          · rw [show (k - 1) / 16 = k / 16 by omega] at HF1
            have hd0 : decide ((0 : Int) < (k : Int)) = false := by simp; omega
            have hd1 : decide (0 < k) = false := by simp; omega
            clear h0
            go_upto_region 9 with fail
            have qc := HQ.out (k / 16)
            have HLc := Lib.hid (HLC.out (k / 16))
            have HIc := Lib.hid (size16 (HLC.out (k / 16)))
            have HLE := Lib.hid (Ae.enc_len S (Ae.ctr first (k / 16)))
            have HIE := Lib.hid (size16 HLE.out)
            have qE := Ae.enc_bytes qc qs
            have HPE : Hid (∀ m, m / 16 = k / 16 → Ae.pad S first m = (Ae.enc S (Ae.ctr first (k / 16))).getD (m % 16) 0) := fun m hm => by rw [HPD.out, hm]
            have HSE : Hid ((#[.int .u8 0, .int .u8 0, .int .u8 0, .int .u8 0, .int .u8 0, .int .u8 0, .int .u8 0, .int .u8 0, .int .u8 0, .int .u8 0, .int .u8 0, .int .u8 0, .int .u8 0, .int .u8 0, .int .u8 0, .int .u8 0] : Array Value).size = (cellsN (Ae.enc S (Ae.ctr first (k / 16)))).size) := by unfold Hid; rw [cellsN_size, HLE.out]; rfl
            go_wp2_with (first
              | (refine wpList_load_row rfl 67 (.tmp 7) rfl _ rfl _ _ _ _ HK1 Try.underlying67 rfl HIS.out ?_)
              | (refine wpList_load_row rfl 22 (.tmp 4) rfl _ rfl _ _ _ _ HF1 Try.underlying22 rfl HIc.out ?_))
            refine (enciphered_any S (Ae.ctr first (k / 16)) _ HLS.out HLc.out qs qc).mono ?_
            rintro e w5 ⟨rfl, hb5⟩
            have HF5 := HF1.kept hb5
            have HK5 := HK1.kept hb5
            have HG5 := HG1.kept hb5
            have HL5 := HL1.trans (hb5.mono HL1.size)
            have ON : Obj (w5.alloc (.cells #[.int .u8 0, .int .u8 0, .int .u8 0, .int .u8 0, .int .u8 0, .int .u8 0, .int .u8 0, .int .u8 0, .int .u8 0, .int .u8 0, .int .u8 0, .int .u8 0, .int .u8 0, .int .u8 0, .int .u8 0, .int .u8 0] 22)) w5.heap.size 22 #[.int .u8 0, .int .u8 0, .int .u8 0, .int .u8 0, .int .u8 0, .int .u8 0, .int .u8 0, .int .u8 0, .int .u8 0, .int .u8 0, .int .u8 0, .int .u8 0, .int .u8 0, .int .u8 0, .int .u8 0, .int .u8 0] := Obj.new w5 _ _
            have HON := Lib.hid ON
            have B5 : Below w5.heap.size w5 (w5.alloc (.cells #[.int .u8 0, .int .u8 0, .int .u8 0, .int .u8 0, .int .u8 0, .int .u8 0, .int .u8 0, .int .u8 0, .int .u8 0, .int .u8 0, .int .u8 0, .int .u8 0, .int .u8 0, .int .u8 0, .int .u8 0, .int .u8 0] 22)) := (Below.refl _ _).alloc (Nat.le_refl _) _
            have HF6 := HF5.kept B5
            have HK6 := HK5.kept B5
            have HG6 := HG5.kept B5
            have HL6 := HL5.trans (B5.mono HL5.size)
            have l1 := HF5.lt
            have l2 := HK5.lt
            have l3 : g < w5.heap.size := HG5.lt
            clear HF5 HK5 HG5 HL5 hb5 HF1 HK1 HG1 HL1 B5 ON
            generalize Ae.enc S (Ae.ctr first (k / 16)) = E at *
            go_wp2_with (refine wpList_store_row rfl 22 (.tmp 10) (.tmp 35) rfl _ _ rfl rfl _ _ HON.out HIE.out HSE.out (one_cellsN _) ?_)
            have U7 := (Upd.refl w5.heap.size (w5.alloc (.cells #[.int .u8 0, .int .u8 0, .int .u8 0, .int .u8 0, .int .u8 0, .int .u8 0, .int .u8 0, .int .u8 0, .int .u8 0, .int .u8 0, .int .u8 0, .int .u8 0, .int .u8 0, .int .u8 0, .int .u8 0, .int .u8 0] 22))).row (cellsN E)
            have HF7 := HF6.upd U7 (by omega)
            have HK7 := HK6.upd U7 (by omega)
            have HG7 := HG6.upd U7 (by omega)
            have HE7 := HON.out.row (cellsN E)
            have HL7 := Upd.below HL6 (by omega) U7
            clear HF6 HK6 HG6 HL6 U7 HON
            generalize w5.heap.size = bb at *
            obtain ⟨M, hM⟩ : ∃ M, min (k + 16) n = M := ⟨_, rfl⟩
            have hmin : (if (n : Int) < (k : Int) + 16 then (n : Int) else (k : Int) + 16) = (M : Int) := by split <;> omega
            have hk16 : (k : Int) + 16 ≤ 9000000 := by omega
            have hup0 : upd n k = k := by unfold upd; omega
            have hup1 : upd n (k + 1) = M := by unfold upd; omega
            have HU0 := Lib.hid hup0
            have HU1 := Lib.hid hup1
            have hkM : k < M := by omega
            have hMn : M ≤ n := by omega
            have hM16 : M ≤ k + 16 := by omega
            clear hM hup0 hup1
            have H16 := Lib.hid h16
            clear h16
            go_loopw [11] (fun i wr => ∃ m : Nat, k ≤ m ∧ m ≤ M ∧ i = .int .i64 m ∧ Obj wr (w.heap.size + 1) 22 (cellsN (Ae.ctr first (k / 16))) ∧ Obj wr kb 67 (cellsN S) ∧ Obj wr bb 22 (cellsN E) ∧ Obj wr g 5 (rowT (strm S first text m) tail) ∧ Below w.heap.size w wr) (fun i _ => M - (intOf i).toNat)
            case atStart => exact ⟨k, Nat.le_refl _, by omega, rfl, HF7, HK7, HE7, (by rw [HU0.out] at HG7; exact HG7), HL7⟩
            case round =>
              clear HF7 HK7 HG7 HL7 HE7
              obtain ⟨m, hm1, hm2, rfl, HF, HK, HE, HG, HL⟩ := hrel
              by_cases hmM : m < M
              · have hlt2 : (m : Int) < (M : Int) := by omega
                obtain ⟨p, hp⟩ : ∃ p, m - k = p := ⟨_, rfl⟩
                have g1 : IntKind.i64.wrap ((m : Int) - (k : Int)) = (p : Int) := by rw [IntWalk.i64_in _ (by omega)]; omega
                have gp : (p : Int) < 16 := by omega
                have gm : (m : Int) < (n : Int) := by omega
                have fx : wr.cell? ⟨g, m, none⟩ = some (.int .u8 ((text.getD m 0 : Nat) : Int)) := by
                  rw [HG.getT m (by unfold strm; rw [Ae.upto_len, HN.out]; omega)]
                  unfold strm
                  rw [Ae.upto_get _ _ _ _ (by rw [HN.out]; omega), if_neg (by omega)]
                have fy : wr.cell? ⟨bb, p, none⟩ = some (.int .u8 ((E.getD p 0 : Nat) : Int)) := HE.getN p (by rw [HLE.out]; omega)
                have z0 := HG.free m
                have hx := Ae.bytes_get qt m
                have hy := Ae.bytes_get qE p
                have HS2 : Hid ((strm S first text m).set m (text.getD m 0 ^^^ E.getD p 0) = strm S first text (m + 1)) := by
                  have := Ae.upto_set (fun k => text.getD k 0 ^^^ Ae.pad S first k) text m (by rw [HN.out]; omega)
                  rw [HPE.out m (by have := H16.out; omega), show m % 16 = p by have := H16.out; omega] at this
                  exact this
                have HLM : Hid (m < (strm S first text m).length) := by unfold Hid strm; rw [Ae.upto_len, HN.out]; omega
                clear hp
                generalize text.getD m 0 = x at *
                generalize E.getD p 0 = y at *
                have HXY := Lib.hid (u8_xor_nat x y hx hy)
                go_wp2
                refine wp_region_still_tail 11 (by kernel_rfl) (by kernel_rfl) ?_
                simp only [List.take_succ_cons, List.take_zero, List.drop_succ_cons, List.drop_zero]
                change wpStill _ _ (World.drew _) (fun a' => wpList _ _ _ _ a' (World.drew _)) _ _
                iterate 11 still_step
                refine wpStill_nil ?_
                clear g1 hmin
                go_wp2
                go_roundw
                case rel =>
                  rw [HXY.out]
                  exact ⟨m + 1, by omega, by omega, by go_num, (HF.far (by simp; omega) _).drew, (HK.far (by simp; omega) _).drew, (HE.far (by simp; omega) _).drew, ((HG.setT _ _ HLM.out).drew).as (by rw [HS2.out]), (HL.setCell (by simp; omega) _).drew⟩
                case measure => simp [intOf]; omega
              · obtain rfl : m = M := by omega
                rw [← HU1.out] at HG
                clear hmM
                go_wp2
                go_roundw
                case rel => exact ⟨k + 1, by omega, by go_num, (by rw [show (k + 1 - 1) / 16 = k / 16 by omega]; exact HF), HK, HG, HL⟩
                case measure => simp [intOf]; omega
        · have hmi : ((k : Int) % 16 == 0) = false := by
            have : (k : Int) % 16 ≠ 0 := by omega
            simp [this]
          have HU := Lib.hid (show upd n k = upd n (k + 1) by unfold upd; omega)
          have HC := Lib.hid (show (k - 1) / 16 = (k + 1 - 1) / 16 by omega)
          rw [HU.out] at HG1
          rw [HC.out] at HF1
          clear h16
          go_wp2
          go_roundw
          case rel => exact ⟨k + 1, by omega, by go_num, HF1, HK1, HG1, HL1⟩
          case measure => simp [intOf]; omega
      · obtain rfl : k = n := by omega
        have HFE := Lib.hid (show strm S first text (upd k k) = (List.range text.length).map (fun k => text.getD k 0 ^^^ Ae.pad S first k) by
          unfold strm; rw [show upd k k = k by unfold upd; omega]; exact Ae.upto_full _ _ _ (by rw [HN.out]; omega))
        rw [HFE.out] at HG1
        go_wp2
        go_ret
        rw [← HN.out]
        exact ⟨_, rfl, row_own (by simp) (by omega) HG1 HCAP.out.1 (by rw [HN.out]; exact HCAP.out.2), HL1⟩

end Go.Proofs.Ytnphanhoakbkpaa
