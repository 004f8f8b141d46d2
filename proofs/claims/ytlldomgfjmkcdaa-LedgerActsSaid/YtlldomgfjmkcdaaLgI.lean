/- Layer 15's ledger, walked: slices.DeleteFunc. -/
import Derived.Test.YtlldomgfjmkcdaaRows
import Derived.Test.YtlldomgfjmkcdaaAid
import Derived.Test.YtlldomgfjmkcdaaLgW
import Derived.Test.YtlldomgfjmkcdaaLgB
import Derived.Test.YtlldomgfjmkcdaaLgD
import Derived.Test.YtlldomgfjmkcdaaLgE
import Derived.Test.YtlldomgfjmkcdaaLgF
import Derived.Test.YtlldomgfjmkcdaaLgG
import Derived.Test.YtlldomgfjmkcdaaLgH
import Derived.Shelf.Abstract
namespace Go.Proofs.Ytlldomgfjmkcdaa
open Go Go.RowKit
set_option linter.unusedVariables false
set_option linter.unusedSimpArgs false

theorem zeroS (w : World) : (zeroValue 32).run Try.prog w = .ok (.agg #[.int .i64 0, .int .u64 0, .int .i64 0, .bool false, .slice none 0 0]) w := by kernel_rfl

theorem upd_setRow (w : World) (g : Nat) (cs : Array Value) : Upd g w (w.setRow g cs) := ⟨rfl, rfl, rfl, by simp [World.setRow], fun k _ hne => setRow_other w g k cs hne⟩

set_option maxRecDepth 100000 in
set_option maxHeartbeats 4000000 in
theorem delete_any (wp : World) (D gR bx bg gid : Nat) (cap : Array Value) (Pd : PS → Bool) (l : List PS) (n c : Nat) (rest : List Value) (gv : Value) (W : World) (eg : ∀ args w, (callFunc gid args).run Try.prog w = .ok (.enter gid args) w)
    (h : PJ wp D gR bx bg (.func (.func gid) #[] cap) [] gv W) (hl : l.length = n) (hn : n ≤ 1000) (hc : n ≤ c ∧ c ≤ maxLen) (hO : Obj W gR 32 (flatS l ++ rest).toArray) (hrest : rest.length = (c - n) * 5) (ha : ∀ p ∈ l, Asks wp D gR bg gid cap Pd p) :
    Calls Try.prog 39 #[.slice (some ⟨gR, 0, none⟩) n c, .func (.func 40) #[] #[.pointer (some ⟨bx, 0, none⟩), .pointer (some ⟨bg, 0, none⟩)]] W fun e W' =>
      ∃ m gv' rest', e = .returned (.slice (some ⟨gR, 0, none⟩) m c) ∧ (l.filter (fun p => !Pd p)).length = m ∧ rest'.length = (c - m) * 5 ∧ Obj W' gR 32 (flatS (l.filter (fun p => !Pd p)) ++ rest').toArray ∧ PJ wp D gR bx bg (.func (.func gid) #[] cap) (l.filter Pd) gv' W' := by
  have ep : ∀ args w, (callFunc 40 args).run Try.prog w = .ok (.enter 40 args) w := enters_of Try.func40 (by kernel_rfl) rfl
  have HIX := Lib.hid (index_any wp D gR bx bg gid cap Pd l n c gv W eg h hl hn (rowC_of hO) ha)
  have HO := Lib.hid hO
  have HRS := Lib.hid hrest
  have HA := Lib.hid ha
  have HEG := Lib.hid eg
  have HLN := Lib.hid hl
  have hci : n ≤ c ∧ c ≤ 9223372036854775807 := ⟨hc.1, by have := hc.2; simp only [maxLen] at this; omega⟩
  clear h hO hrest ha eg hl hc
  go_enter Try.func39, Try.ntmps39
  go_wp2_with fail
  refine HIX.out.mono ?_
  rintro e W1 ⟨k, gv1, hf, hrow, hcase⟩
  have HF := Lib.hid hf
  have HO1 : Hid (Obj W1 gR 32 (flatS l ++ rest).toArray) := hrow.trans HO.out
  clear hf hrow HIX
  rcases hcase with ⟨hk, rfl, hJ⟩ | ⟨hk, rfl, hp, hJ⟩
  · subst hk
    have hnf := none_filter HLN.out HF.out
    have HNF := Lib.hid hnf
    have HJ := Lib.hid hJ
    clear hnf hJ
    go_wp2
    go_ret
    exact ⟨k, gv1, rest, rfl, by rw [HNF.out.1]; exact HLN.out, HRS.out, by rw [HNF.out.1]; exact HO1.out, by rw [HNF.out.2]; exact HJ.out⟩
  · have hst := DJ.start HLN.out hk HF.out hp
    have HST := Lib.hid hst
    have HJ := Lib.hid hJ
    have hkn : ¬ (k : Int) = -1 := by omega
    clear hst hJ hp
    go_wp2
    rw [show ((k : Int) == -1) = false from beq_false_of_ne hkn]
    go_loopw [5, 6, 7] (fun s5 s6 _ wr => ∃ (i j : Nat) (X : List PS) (gv' : Value), j ≤ n ∧ s5 = .int .i64 (i : Int) ∧ s6 = .int .i64 (j : Int) ∧ DJ l Pd n i j X ∧ Obj wr gR 32 (flatS X ++ rest).toArray ∧ PJ wp D gR bx bg (.func (.func gid) #[] cap) ((l.take j).filter Pd) gv' wr) (fun _ s6 _ _ => n - (intOf s6).toNat)
    case atStart => exact ⟨k, k + 1, l, gv1, by omega, rfl, by go_num, HST.out.1, HO1.out, by rw [HST.out.2]; exact HJ.out⟩
    case round =>
      clear HST HJ HO1 HO hkn
      obtain ⟨i, j, X, gv', hj, rfl, rfl, hD, hO, hJ⟩ := hrel
      have HD := Lib.hid hD
      have HO := Lib.hid hO
      have HJ := Lib.hid hJ
      have hil := hD.il
      clear hD hO hJ
      by_cases hlt : j < n
      · have hji : (j : Int) < (n : Int) := by omega
        have hjl : j < l.length := by rw [HLN.out]; exact hlt
        have hget := HD.out.get hlt HLN.out
        obtain ⟨f0, f1, f2, f3, f4⟩ := (rowC_of HO.out) j (by rw [HD.out.len]; exact hlt)
        rw [hget] at f0 f1 f2 f3 f4
        have hmem : l.getD j default ∈ l := by rw [List.getD_eq_getElem?_getD, List.getElem?_eq_getElem hjl]; exact List.getElem_mem _
        have hasks := HA.out _ hmem
        have hsk := fun h => HD.out.skip hlt HLN.out h
        have hpt := fun h => HD.out.put hlt HLN.out h
        have hfl : (l.take (j + 1)).filter Pd = if Pd (l.getD j default) then (l.take j).filter Pd ++ [l.getD j default] else (l.take j).filter Pd := by
          rw [take_next l j hjl, List.filter_append]
          cases hq : Pd (l.getD j default) <;> simp [hq, -List.getD_eq_getElem?_getD]
        have hgl : ((l.take j).filter Pd).length ≤ 1000 := by
          have := List.length_filter_le Pd (l.take j)
          rw [List.length_take] at this; omega
        have HFL := Lib.hid hfl
        have HSK := Lib.hid hsk
        have HPT := Lib.hid hpt
        clear hget hmem hfl hsk hpt hjl
        generalize l.getD j default = p at *
        obtain ⟨num, tm, sz, ask, fa, fn, fc⟩ := p
        dsimp only at f0 f1 f2 f3 f4
        obtain ⟨b7, hb7⟩ : ∃ b7, wr.heap.size = b7 := ⟨_, rfl⟩
        obtain ⟨V1, hV1⟩ : ∃ V1, wr.alloc (.cells #[.int .i64 (num : Int), .int .u64 (tm : Int), .int .i64 (sz : Int), .bool ask, .slice fa fn fc] 32) = V1 := ⟨_, rfl⟩
        have hb1 : Below wr.heap.size wr V1 := hV1 ▸ (Below.refl _ wr).alloc (Nat.le_refl _) _
        have ob : Obj V1 b7 32 #[.int .i64 (num : Int), .int .u64 (tm : Int), .int .i64 (sz : Int), .bool ask, .slice fa fn fc] := hV1 ▸ hb7 ▸ Obj.new wr _ _
        have HJ1 := Lib.hid (HJ.out.kept hb1)
        have HO1 := Lib.hid (HO.out.kept hb1)
        have hne7 : ∀ q, gv'.ownBlock = some q → q < b7 := fun q e => hb7 ▸ (HJ.out.own.lt q e).2
        have hbg7 : bg < b7 := by have := HJ.out.lt.2.1; have := HJ.out.le; omega
        have s0 : V1.cell? ⟨b7, 0, none⟩ = some (.int .i64 (num : Int)) := by rw [ob.cell]; rfl
        have s1 : V1.cell? ⟨b7, 1, none⟩ = some (.int .u64 (tm : Int)) := by rw [ob.cell]; rfl
        have s2 : V1.cell? ⟨b7, 2, none⟩ = some (.int .i64 (sz : Int)) := by rw [ob.cell]; rfl
        have s3 : V1.cell? ⟨b7, 3, none⟩ = some (.bool ask) := by rw [ob.cell]; rfl
        have s4 : V1.cell? ⟨b7, 4, none⟩ = some (.slice fa fn fc) := by rw [ob.cell]; rfl
        have HP := Lib.hid (part1_any wp D gR bx bg gid cap Pd ⟨num, tm, sz, ask, fa, fn, fc⟩ _ gv' V1 HEG.out HJ1.out hasks hgl)
        have HOB := Lib.hid ob
        have HN7 := Lib.hid hne7
        clear hasks hgl hb1 ob hne7
        dsimp only at HP
        cases hq : Pd ⟨num, tm, sz, ask, fa, fn, fc⟩ with
        | true =>
          rw [hq] at HP HFL
          have HQ := Lib.hid hq
          clear hq
          go_wp2_with fail
          refine HP.out.mono ?_
          rintro e W2 ⟨rfl, gv2, h2, hu, hf2⟩
          have HN2 : Hid (Obj W2 gR 32 (flatS X ++ rest).toArray) := (HJ1.out.row hu).trans HO1.out
          have HJ2 := Lib.hid h2
          clear h2 hu hf2
          go_wp2
          go_roundw
          case rel => exact ⟨i, j + 1, X, gv2, by omega, rfl, by go_num, HSK.out HQ.out, HN2.out, by rw [HFL.out]; exact HJ2.out⟩
          case measure => simp [intOf]; omega
        | false =>
          rw [hq] at HP HFL
          have HQ := Lib.hid hq
          clear hq
          go_wp2_with fail
          refine HP.out.mono ?_
          rintro e W2 ⟨rfl, gv2, h2, hu, hf2⟩
          have HN2 : Hid (Obj W2 gR 32 (flatS X ++ rest).toArray) := (HJ1.out.row hu).trans HO1.out
          have ob2 : Obj W2 b7 32 #[.int .i64 (num : Int), .int .u64 (tm : Int), .int .i64 (sz : Int), .bool ask, .slice fa fn fc] := (hu.block b7 HOB.out.lt (by omega) (fun e => by have := HN7.out b7 e.symm; omega)).trans HOB.out
          have r0 : W2.cell? ⟨b7, 0, none⟩ = some (.int .i64 (num : Int)) := by rw [ob2.cell]; rfl
          have r1 : W2.cell? ⟨b7, 1, none⟩ = some (.int .u64 (tm : Int)) := by rw [ob2.cell]; rfl
          have r2 : W2.cell? ⟨b7, 2, none⟩ = some (.int .i64 (sz : Int)) := by rw [ob2.cell]; rfl
          have r3 : W2.cell? ⟨b7, 3, none⟩ = some (.bool ask) := by rw [ob2.cell]; rfl
          have r4 : W2.cell? ⟨b7, 4, none⟩ = some (.slice fa fn fc) := by rw [ob2.cell]; rfl
          have HJ2 := Lib.hid h2
          have hxl := HD.out.len
          have hfit : i * 5 + 5 ≤ (flatS X ++ rest).toArray.size := by have := flatS_length X; simp; omega
          have HFIT := Lib.hid hfit
          have hii : (i : Int) < (n : Int) := by omega
          have hA := pc_set X rest i ⟨num, tm, sz, ask, fa, fn, fc⟩ (by omega)
          have HA2 := Lib.hid hA
          clear h2 hu hf2 ob2 hfit hA
          go_wp2_with (refine wpList_store_mid rfl 32 (.tmp 33) (.tmp 32) rfl gR (i * 5) #[.int .i64 (num : Int), .int .u64 (tm : Int), .int .i64 (sz : Int), .bool ask, .slice fa fn fc] rfl rfl 32 _ HN2.out infoS5 HFIT.out (flatS_one [⟨num, tm, sz, ask, fa, fn, fc⟩]) ?_)
          go_roundw
          case rel => exact ⟨i + 1, j + 1, X.set i ⟨num, tm, sz, ask, fa, fn, fc⟩, gv2, by omega, by go_num, by go_num, HPT.out HQ.out, (setRow_heap W2 gR _ _ _ (0, 0) HN2.out).trans (by rw [← HA2.out]; simp [pc]), by rw [HFL.out]; exact HJ2.out.updR (upd_setRow _ _ _)⟩
          case measure => simp [intOf]; omega
      · obtain rfl : j = n := by omega
        have htk : l.take j = l := List.take_of_length_le (by rw [HLN.out]; exact Nat.le_refl _)
        have hie := HD.out.ie
        have hi0 := HD.out.i0
        have hxl := HD.out.len
        rw [htk] at hie hi0 HJ
        have hfit : i * 5 + (j - i) * 5 ≤ (flatS X ++ rest).toArray.size := by have := flatS_length X; simp; omega
        obtain ⟨Z, hZ, hrun⟩ := run_clear_rowk wr 25 32 0 _ Try.underlying25 zeroS (by simp [Value.cells]; exact ⟨rfl, rfl, rfl, rfl, rfl⟩) gR (i * 5) (j - i) (c - i) 32 _ HO.out hfit (by omega)
        have hZ5 : Z.length = (j - i) * 5 := hZ
        have hrow : ((flatS X ++ rest).toArray.toList.take (i * 5) ++ Z ++ (flatS X ++ rest).toArray.toList.drop (i * 5 + Z.length)).toArray = (flatS (X.take i) ++ (Z ++ rest)).toArray := by
          have hfl := flatS_length X
          show ((flatS X ++ rest).take (i * 5) ++ Z ++ (flatS X ++ rest).drop (i * 5 + Z.length)).toArray = _
          rw [List.take_append_of_le_length (by omega), flatS_take X i (by omega), hZ5, List.drop_append, List.drop_of_length_le (by omega), List.nil_append, show i * 5 + (j - i) * 5 - (flatS X).length = 0 by omega, List.drop_zero, List.append_assoc]
        rw [hrow] at hrun
        have HRUN := Lib.hid hrun
        have HFI : Hid ((l.filter (fun p => !Pd p)).length = i ∧ (Z ++ rest).length = (c - i) * 5 ∧ Obj (wr.setRow gR (flatS (X.take i) ++ (Z ++ rest)).toArray) gR 32 (flatS (l.filter (fun p => !Pd p)) ++ (Z ++ rest)).toArray ∧ PJ wp D gR bx bg (.func (.func gid) #[] cap) (l.filter Pd) gv' (wr.setRow gR (flatS (X.take i) ++ (Z ++ rest)).toArray)) :=
          ⟨hie, by rw [List.length_append, hZ5, HRS.out]; omega, by rw [hi0]; exact setRow_heap wr gR _ _ _ (0, 0) HO.out, HJ.out.updR (upd_setRow _ _ _)⟩
        have c1 : ¬ c = i := by omega
        have c2 : (i : Int) ≤ (j : Int) := by omega
        have c3 : (i : Int) ≤ (c : Int) := by omega
        have c4 : i ≤ j := by omega
        clear hZ hZ5 hrow hrun hfit hi0 hie htk hxl HRS
        go_wp2_with (refine wpList_clear_run wr rfl (.tmp 38) _ rfl _ rfl HRUN.out ?_)
        go_ret
        exact ⟨i, gv', Z ++ rest, rfl, HFI.out.1, HFI.out.2.1, HFI.out.2.2.1, HFI.out.2.2.2⟩
end Go.Proofs.Ytlldomgfjmkcdaa
