/- Layer 16's laws, walked: ReasmPrefix. -/
import Derived.Test.YtghfgekmdcangaaRows
import Derived.Test.YtghfgekmdcangaaAid
import Derived.Test.YtghfgekmdcangaaOpen
import Derived.Test.YtghfgekmdcangaaPlainRs
import Derived.Test.YtghfgekmdcangaaPlainRs2
import Derived.Test.YtghfgekmdcangaaPlainRs3
import Derived.Test.YtghfgekmdcangaaRsW
import Derived.Test.YtghfgekmdcangaaRsA
import Derived.Test.YtghfgekmdcangaaRsD
import Derived.Test.YtghfgekmdcangaaRsG
import Derived.Test.YtghfgekmdcangaaRsH
import Derived.Test.YtghfgekmdcangaaRsK
import Derived.Test.YtghfgekmdcangaaRsL
import Derived.WalkKit
import Derived.OwnWalk
import Derived.Laws.Rows
import Derived.Laws.Tables
import Derived.WalkSpells
import Derived.WalkLawsBesides
import Derived.BigQuiet
import Derived.Handy
import Derived.Lib.Hide
import Derived.IntWalk
import Derived.OpenShut
import Derived.Deep.WholeRow
import Derived.Deep.DeepCutAuto
namespace Go.Proofs.Ytghfgekmdcangaa.Rm
open Go.RowKit Go.Maps
open Go.ChangeShapes Go.WideShapes Go.Deep
set_option linter.unusedVariables false
set_option linter.unusedSimpArgs false

theorem Rb.shift {w : World} {A : Option Addr} {t : List Nat} (h : Rb w A t) (k : Nat) : Rb w (Option.map (fun x => Addr.add x k) A) (t.drop k) := by
  cases A with
  | none =>
    exact fun hp => by
      simp at hp
      obtain ⟨_, _, e, _⟩ := h (by omega)
      cases e
  | some ad =>
    exact fun hp => by
      simp at hp
      obtain ⟨b, o, e, _⟩ := h (by omega)
      cases e
      rw [Option.map_some, add_mid]
      exact (h.drop k) (by simpa using hp)
/-- A piece that came in. -/
structure Pc16 where
  a : Nat
  n : Nat
instance : Inhabited Pc16 := ⟨⟨0, 0⟩⟩
def Pcs16 (w : World) (A : Option Addr) (n : Nat) (l : List Pc16) : Prop :=
  l.length = n ∧ (∀ j, j < n → (l.getD j default).a < 256 ∧ (l.getD j default).n < 256) ∧ (0 < n → ∃ B off, A = some ⟨B, off, none⟩ ∧ B < w.heap.size ∧ ∀ j, j < n → w.cell? ⟨B, off + j * 2, none⟩ = some (.int .u8 ((l.getD j default).a : Int)) ∧ w.cell? ⟨B, off + j * 2 + 1, none⟩ = some (.int .u8 ((l.getD j default).n : Int)))
theorem pcs16_open {H : Type} {enc : TypeId × Value → H} {w : World} {base : Nat} {spare : Nat → Bool} {held : Bool} {fuel n c : Nat} {A : Option Addr} {x : DataW H × List MemPlace}
    (h : DataW.trod enc Try.prog w base spare held fuel 23 [.slice A n c] = some x) : ∃ l, Pcs16 w A n l ∧ n ≤ c ∧ c ≤ maxLen := by
  obtain ⟨hl, hm, hc⟩ := rows_open Try.underlying23 Try.underlying29 (by kernel_rfl) (by kernel_rfl) (by decide) h
  by_cases hn : n = 0
  · subst hn
    exact ⟨[], ⟨rfl, fun j hj => absurd hj (by omega), fun h => absurd h (by omega)⟩, hl, hm⟩
  · obtain ⟨B, off, rfl, hb, hc⟩ := hc (by omega)
    obtain ⟨l, hll, hr⟩ := list_of (α := Pc16) (fun i a => (a.a < 256 ∧ a.n < 256) ∧ w.cell? ⟨B, off + i * 2, none⟩ = some (.int .u8 (a.a : Int)) ∧ w.cell? ⟨B, off + i * 2 + 1, none⟩ = some (.int .u8 (a.n : Int))) n (by
      intro i hi
      obtain ⟨v0, y0, m0, h0, t0⟩ := hc i 0 _ hi rfl
      obtain ⟨v1, y1, m1, h1, t1⟩ := hc i 1 _ hi rfl
      obtain ⟨k0, e0, _, wk⟩ := DataW.trod_int Try.underlying5 t0
      obtain ⟨k1, e1, _, wn⟩ := DataW.trod_int Try.underlying5 t1
      simp only [List.cons.injEq, and_true] at e0 e1
      subst e0 e1
      have b0 := bounds_u8 wk
      have b1 := bounds_u8 wn
      obtain ⟨m, rfl⟩ := Int.eq_ofNat_of_zero_le b1.1
      obtain ⟨m', rfl⟩ := Int.eq_ofNat_of_zero_le b0.1
      exact ⟨⟨m', m⟩, ⟨by show m' < 256; omega, by show m < 256; omega⟩, h0, h1⟩)
    exact ⟨l, ⟨hll, fun j hj => (hr j hj).1, fun _ => ⟨B, off, rfl, hb, fun j hj => (hr j hj).2⟩⟩, hl, hm⟩

/-- Marks, as cells. -/
def cellsM (o : List Bool) : Array Value := (o.map Value.bool).toArray
def z200 : List Bool := List.replicate 200 false
theorem zero200 : (Try.prog.info? 27).map (fun i => (i.zero, i.size)) = some (some (.agg (cellsM z200)), 200) := by kernel_rfl
theorem getM {w : World} {g : Nat} {o : List Bool} (h : Obj w g 27 (cellsM o)) (i : Nat) (hi : i < o.length) : w.cell? ⟨g, i, none⟩ = some (.bool (o.getD i false)) := by
  rw [h.cell]
  simp [cellsM, List.getD_eq_getElem?_getD, hi]
theorem setM {w : World} {g : Nat} {o : List Bool} (h : Obj w g 27 (cellsM o)) (i : Nat) (v : Bool) : Obj (w.setCell ⟨g, i, none⟩ (.bool v)) g 27 (cellsM (o.set i v)) := by
  refine (h.set i _).as ?_
  unfold cellsM
  apply Array.ext
  · simp
  · intro j h1 h2
    simp only [List.size_toArray, List.length_map, List.length_set, Array.size_set, Array.size_setIfInBounds] at h1 h2
    by_cases e : j = i
    · subst e; simp
    · simp [Array.getElem_setIfInBounds, List.getElem_set, e, Ne.symm e]
/-- A buffer, marks and what was read. -/
structure PfW (W : World) (a mb H B : Nat) (v : Value) (t : List Nat) (x : Rs.S) (h : List Bool) (g : List Nat) (w : World) : Prop where
  o : OwnW W a mb x B v g w
  m : Obj w H 27 (cellsM h)
  hw : W.heap.size ≤ H
  hb : H < B
  na : H ≠ a
  nm : H ≠ mb
  p : Rs.Pf t x h g
section
variable {W w w' : World} {a mb H B : Nat} {v : Value} {t : List Nat} {x y : Rs.S} {h h' : List Bool} {g : List Nat}
theorem PfW.upd (q : PfW W a mb H B v t x h g w) (hs : OwnS W a mb y w') (hu : Upd2 a mb w w') : OwnW W a mb y B v g w' ∧ Obj w' H 27 (cellsM h) :=
  ⟨q.o.upd hs hu, (hu.block H q.m.lt q.na q.nm).trans q.m⟩
/-- A mark is set. -/
theorem PfW.mark {z : List Bool} (o : OwnW W a mb x B v g w) (m : Obj w H 27 (cellsM z)) (hw : W.heap.size ≤ H) (hb : H < B) (na : H ≠ a) (nm : H ≠ mb) (i : Nat) :
    OwnW W a mb x B v g (w.setCell ⟨H, i, none⟩ (.bool true)) ∧ Obj (w.setCell ⟨H, i, none⟩ (.bool true)) H 27 (cellsM (z.set i true)) := by
  have hu : Upd H w (w.setCell ⟨H, i, none⟩ (.bool true)) := (Upd.refl H w).set _ _
  refine ⟨⟨⟨o.s.la, o.s.lm, ⟨o.s.bs.1.upd hu (Ne.symm na), o.s.bs.2.upd hu (Ne.symm nm)⟩, o.s.ok, ?_⟩, ⟨o.row.1, ?_⟩, o.la, o.lm, o.lw, Nat.le_trans o.lb hu.size⟩, setM m i true⟩
  · exact ⟨hu.os.trans o.s.below.os, hu.tape.trans o.s.below.tape, hu.output.trans o.s.below.output, Nat.le_trans o.s.below.size hu.size, fun k hk => (hu.block k (Nat.lt_of_lt_of_le hk o.s.below.size) (by omega)).trans (o.s.below.block k hk)⟩
  · rcases o.row.2 with h0 | ⟨g', cap, cur, e, h1, h2, h3⟩
    · exact Or.inl h0
    · exact Or.inr ⟨g', cap, cur, e, h1, (hu.block g' (Array.getElem?_eq_some_iff.1 h2).1 (by omega)).trans h2, h3⟩
end
set_option maxRecDepth 100000 in
set_option maxHeartbeats 16000000 in
theorem reasmPrefix_walk (A0 : Option Addr) (n0 c0 : Nat) (z0 : List Int) (A1 : Option Addr) (n1 c1 : Nat) (l : List Pc16) (A2 : Option Addr) (n2 c2 : Nat) (z2 : List Int) (w : World)
    (w0 : Ints .u8 w A0 n0 z0) (x0 : n0 ≤ c0 ∧ c0 ≤ maxLen) (w1 : Pcs16 w A1 n1 l) (x1 : n1 ≤ c1 ∧ c1 ≤ maxLen) (w2 : Ints .u8 w A2 n2 z2) (x2 : n2 ≤ c2 ∧ c2 ≤ maxLen) :
    Calls Try.prog 3 #[.slice A0 n0 c0, .slice A1 n1 c1, .slice A2 n2 c2] w fun e w' => e = .returned (.bool true) ∧ Below w.heap.size w w' := by
  obtain ⟨t, htn, htb, htr⟩ := Ints_rb w0
  obtain ⟨rd2, hrn, hrb, hrr⟩ := Ints_rb w2
  have HAL := Lib.hid (fun wr => alive_any wr)
  have hc0 : n0 ≤ c0 ∧ c0 ≤ 9223372036854775807 := ⟨x0.1, by have := x0.2; simp only [maxLen] at this; omega⟩
  have hc1 : n1 ≤ c1 ∧ c1 ≤ 9223372036854775807 := ⟨x1.1, by have := x1.2; simp only [maxLen] at this; omega⟩
  have hc2 : n2 ≤ c2 ∧ c2 ≤ 9223372036854775807 := ⟨x2.1, by have := x2.2; simp only [maxLen] at this; omega⟩
  have hcm := x0.2
  clear w0 w2 x0 x1 x2
  by_cases h200 : 200 < n0
  · have hd : decide ((200 : Int) < (n0 : Int)) = true := by simp; omega
    clear htn htb htr hrn hrb hrr w1 hcm
    go_enter Try.func3, Try.ntmps3
    go_wp2_with fail
    refine (HAL.out _).mono ?_
    rintro e wA ⟨rfl, hL⟩
    have HL := Lib.hid hL
    clear hL
    go_wp2
    go_ret
    exact ⟨rfl, HL.out⟩
  have hd : decide ((200 : Int) < (n0 : Int)) = false := by simp; omega
  by_cases h60 : 60 < n1
  · have hd1 : decide ((60 : Int) < (n1 : Int)) = true := by simp; omega
    clear htn htb htr hrn hrb hrr w1 hcm
    go_enter Try.func3, Try.ntmps3
    go_wp2_with fail
    refine (HAL.out _).mono ?_
    rintro e wA ⟨rfl, hL⟩
    have HL := Lib.hid hL
    clear hL
    go_wp2
    go_ret
    exact ⟨rfl, HL.out⟩
  have hd1 : decide ((60 : Int) < (n1 : Int)) = false := by simp; omega
  have hn0 : n0 ≤ 200 := by omega
  have hn1 : n1 ≤ 60 := by omega
  have HPC : Hid (∀ wr j, j < n1 → Below w.heap.size w wr → ∃ B off, A1 = some ⟨B, off, none⟩ ∧ ∃ pa pn, pa < 256 ∧ pn < 256 ∧ wr.cell? ⟨B, off + j * 2, none⟩ = some (.int .u8 ((pa : Nat) : Int)) ∧ wr.cell? ⟨B, off + j * 2 + 1, none⟩ = some (.int .u8 ((pn : Nat) : Int))) := fun wr j hj hb => by
    obtain ⟨B, off, e, hB, hc⟩ := w1.2.2 (by omega)
    have h1 := w1.2.1 j hj
    have h2 := hc j hj
    exact ⟨B, off, e, _, _, h1.1, h1.2, (hb.cell (p := ⟨B, _, none⟩) hB).trans h2.1, (hb.cell (p := ⟨B, _, none⟩) hB).trans h2.2⟩
  have HRD : Hid (∀ wr j, j < n2 → Below w.heap.size w wr → ∃ B off, A2 = some ⟨B, off, none⟩ ∧ ∃ r, r < 256 ∧ wr.cell? ⟨B, off + j, none⟩ = some (.int .u8 ((r : Nat) : Int))) := fun wr j hj hb => by
    obtain ⟨B, off, e, hB, hc⟩ := hrr (by omega)
    refine ⟨B, off, e, rd2.getD j 0, ?_, (hb.cell (p := ⟨B, _, none⟩) hB).trans (hc j (by omega))⟩
    rw [List.getD_eq_getElem?_getD, List.getElem?_eq_getElem (by omega)]
    exact hrb _ (List.getElem_mem _)
  have HTN := Lib.hid htn
  have HTB := Lib.hid htb
  have HTR := Lib.hid (fun wr (h : Below w.heap.size w wr) => htr.below h)
  have HCM := Lib.hid hcm
  have hz := (zero_of_info zero200).1
  have HST := Lib.hid (Rs.Pf.start t (by omega))
  clear htn htb htr hrn hrb hrr w1 hcm h200 h60
  go_enter Try.func3, Try.ntmps3
  go_wp2_with fail
  refine (HAL.out _).mono ?_
  rintro e wA ⟨rfl, hL⟩
  have HL := Lib.hid hL
  clear hL
  go_wp2_with fail
  refine (OwnS.new 200 (by omega) HL.out).mono ?_
  rintro e wB ⟨a, rfl, -, mb, -, hB, -⟩
  have H0 : Hid (∃ B, PfW w a mb wB.heap.size B (.slice none 0 0) t (Rs.new 200) z200 [] (wB.alloc (.cells (cellsM z200) 27))) := by
    have h1 := hB.kept ((Below.refl _ wB).alloc (Nat.le_refl _) (.cells (cellsM z200) 27))
    have h2 := OwnW.nil h1
    have h3 := hB.bs.lt
    have h4 := hB.below.size
    exact ⟨_, h2, Obj.new wB _ _, h4, by simp, by omega, by omega, HST.out⟩
  clear hB HL
  go_wp2
  clear hz
  generalize wB.heap.size = hb at *
  obtain ⟨B, hP0⟩ := H0.out
  have HP0 := Lib.hid hP0
  clear hP0 H0 HST
  go_loopw [8, 10] (fun u8 i wr => ∃ (j : Nat) (x : Rs.S) (h : List Bool) (g : List Nat), j ≤ n1 ∧ i = .int .i64 j ∧ PfW w a mb hb B u8 t x h g wr) (fun _ i _ => n1 - (intOf i).toNat)
  case atStart => exact ⟨0, _, _, _, Nat.zero_le _, rfl, HP0.out⟩
  case round =>
    clear HP0
    obtain ⟨j, x, h, g, hj, rfl, hP⟩ := hrel
    have HP := Lib.hid hP
    by_cases hlt : j < n1
    · have hji : (j : Int) < (n1 : Int) := by omega
      obtain ⟨Bp, off, rfl, pa, pn, hpa, hpn, g0, g1⟩ := HPC.out wr j hlt hP.o.s.below
      clear hP
      obtain ⟨k, hk⟩ : ∃ k, pa % (n0 + 1) = k := ⟨_, rfl⟩
      have hkn : k ≤ n0 := by have := Nat.mod_lt pa (show 0 < n0 + 1 by omega); omega
      have hq1 : ((pa : Int)).tmod ((n0 : Int) + 1) = (k : Int) := by
        rw [← hk, Int.tmod_eq_emod_of_nonneg (by omega)]; simp
      have hq2 : ((pa : Int)) % ((n0 : Int) + 1) = (k : Int) := by rw [← hk]; simp
      have hwk : IntKind.u64.wrap (k : Int) = (k : Int) := by rw [IntKind.wrap_u64]; omega
      obtain ⟨s, hs⟩ : ∃ s, k + pn = s := ⟨_, rfl⟩
      have hsum : IntKind.i64.wrap ((k : Int) + (pn : Int)) = (s : Int) := by rw [IntKind.wrap_i64]; omega
      have hks : k ≤ s := by omega
      obtain ⟨e, he⟩ : ∃ e, min s n0 = e := ⟨_, rfl⟩
      have hke : k ≤ e := by omega
      have hen : e ≤ n0 := by omega
      clear hk
      go_upto_if 53 with fail
      go_cut [12] (fun v wx => v = .int .i64 e ∧ wx = wr)
      case first =>
        clear hs
        by_cases hsn : n0 < s
        · have hd3 : decide (n0 < s) = true := by simpa using hsn
          have hd3' : decide ((n0 : Int) < (s : Int)) = true := by simp; omega
          obtain rfl : e = n0 := by omega
          clear he
          go_wp2_with fail
          go_meet
          exact ⟨rfl, rfl⟩
        · have hd3 : decide (n0 < s) = false := by simpa using hsn
          have hd3' : decide ((n0 : Int) < (s : Int)) = false := by simp; omega
          obtain rfl : e = s := by omega
          clear he
          go_wp2_with fail
          go_meet
          exact ⟨rfl, rfl⟩
      case rest =>
        obtain ⟨rfl, rfl⟩ := hcut
        have hkc : k ≤ c0 := by omega
        have hen2 : e ≤ c0 := by omega
        have hwe : e ≤ 200 := by omega
        obtain ⟨lb, hlb⟩ : ∃ lb : Bool, lb = decide (e = n0) := ⟨_, rfl⟩
        have HPP := Lib.hid (HP.out.p.put HTB.out k e hke (by rw [HTN.out]; exact hen) lb (by rw [HTN.out]; exact hlb))
        have hpl := Rs.piece_len t k e hke (by rw [HTN.out]; exact hen)
        have HPUT : Hid (∀ A c, Rb wc A (Rs.piece t k e) → (e - k ≤ c ∧ c ≤ maxLen) → Calls Try.prog 10 #[.pointer (some ⟨a, 0, none⟩), .int .u64 (k : Int), .slice A (e - k) c, .bool lb] wc fun e' w' => e' = .returned (.int .i64 ((0 : Nat) : Int)) ∧ OwnS w a mb (Rs.put x k (Rs.piece t k e) lb) w' ∧ Upd2 a mb wc w') := fun A c hA hc =>
          HP.out.o.s.putN k (e - k) c 0 A (Rs.piece t k e) lb hpl hA (fun c hc => HTB.out c (List.mem_of_mem_drop (List.mem_of_mem_take hc))) (by omega) hc (by omega) HPP.out.1
        have HSH : Hid (Rb wc (Option.map (fun x => Addr.add x k) A0) (Rs.piece t k e)) := ((HTR.out wc HP.out.o.s.below).shift k).take (e - k)
        obtain ⟨y, hy⟩ : ∃ y, Rs.put x k (Rs.piece t k e) lb = y := ⟨_, rfl⟩
        rw [hy] at HPUT HPP
        clear hq1 hq2 hsum hks hs he hy g0 g1
        by_cases hck : k < c0
        · have hck0 : 0 < c0 - k := by omega
          have hb1 : (e == n0) = lb := by rw [hlb]; rfl
          have hb2 : ((e : Int) == (n0 : Int)) = lb := by rw [hlb, Bool.eq_iff_iff]; simp; omega
          have HPX := Lib.hid (HPUT.out _ _ HSH.out (show e - k ≤ c0 - k ∧ c0 - k ≤ maxLen by have := HCM.out; omega))
          clear hlb hpl HPUT HSH
          go_wp2_with fail
          refine HPX.out.mono ?_
          rintro e1 w2 ⟨rfl, hS2, hu2⟩
          clear hb1 hb2 HPX
          have HO := Lib.hid (HP.out.upd hS2 hu2)
          have HF : Hid (w.heap.size ≤ hb ∧ hb < B ∧ hb ≠ a ∧ hb ≠ mb ∧ h.length = 200) := ⟨HP.out.hw, HP.out.hb, HP.out.na, HP.out.nm, HP.out.p.hl⟩
          have HPF := Lib.hid HPP.out.2
          clear hS2 hu2 HP HPP
          go_wp2
          go_loopw [13] (fun kv wr => ∃ q : Nat, k ≤ q ∧ q ≤ e ∧ kv = .int .i64 q ∧ OwnW w a mb y B u8 g wr ∧ Obj wr hb 27 (cellsM (Rs.mark h k q))) (fun kv _ => e - (intOf kv).toNat)
          case atStart => exact ⟨k, Nat.le_refl _, hke, rfl, HO.out.1, by rw [Rs.mark_none]; exact HO.out.2⟩
          case round =>
            clear HO
            obtain ⟨q, hkq, hqe, rfl, hOW, hOB⟩ := hrel
            by_cases hqlt : q < e
            · have hqz : (q : Int) < (e : Int) := by omega
              have hq200 : (q : Int) < 200 := by omega
              have hcq := getM hOB q (by rw [Rs.mark_len, HF.out.2.2.2.2]; omega)
              have hzq := hOB.free q
              have HM := Lib.hid (PfW.mark hOW hOB HF.out.1 HF.out.2.1 HF.out.2.2.1 HF.out.2.2.2.1 q)
              have HMS := Lib.hid (Rs.mark_set h k q hkq (by rw [HF.out.2.2.2.2]; omega))
              clear hOW hOB
              go_wp2
              go_roundw
              case rel => exact ⟨q + 1, by omega, by omega, by go_num, HM.out.1, by rw [← HMS.out]; exact HM.out.2⟩
              case measure => simp [intOf]; omega
            · obtain rfl : e = q := by omega
              have HPW : Hid (PfW w a mb hb B u8 t y (Rs.mark h k e) g wr) := ⟨hOW, hOB, HF.out.1, HF.out.2.1, HF.out.2.2.1, HF.out.2.2.2.1, HPF.out⟩
              clear hOW hOB hqlt
              by_cases hj2 : j < n2
              · have hj2z : (j : Int) < (n2 : Int) := by omega
                obtain ⟨Br, ofr, rfl, r, hr, gr⟩ := HRD.out wr j hj2 HPW.out.o.s.below
                go_wp2_with fail
                refine (HPW.out.o.s.read r).mono ?_
                rintro e1 w3 ⟨Ax, cx, rfl, hcx1, hcx2, hrx, -, hS3, hu3⟩
                have HQ := Lib.hid (HPW.out.upd hS3 hu3)
                have HP3 := Lib.hid (HPF.out.read (r : Int))
                have hmr : Rs.many y (r : Int) ≤ 200 := by have h1 := Rs.many_le y r; have h2 := HPF.out.ok.ready_le; have h3 := HPF.out.ok.held; have h4 := HPF.out.win; omega
                have hbl := Rs.bytes_len y (Rs.many y (r : Int))
                have HGL : Hid (g.length ≤ 200) := by unfold Hid; rw [HPF.out.glen]; have := HPF.out.rd; have := HPF.out.len; omega
                obtain ⟨z, hz⟩ : ∃ z, (Rs.read y (r : Int)).2 = z := ⟨_, rfl⟩
                rw [hz] at HQ HP3
                obtain ⟨X, hX⟩ : ∃ X, Rs.bytes y (Rs.many y (r : Int)) = X := ⟨_, rfl⟩
                rw [hX] at HP3 hrx hbl
                obtain ⟨mr, hmr'⟩ : ∃ mr, Rs.many y (r : Int) = mr := ⟨_, rfl⟩
                rw [hmr'] at hmr hbl hcx1 ⊢
                have HBL := Lib.hid hbl
                have HRX := Lib.hid hrx
                clear hz hX hmr' hbl hrx hS3 hu3 HPW HPF gr
                go_wp2_with (at_builtin; refine wpList_appX rfl _ _ rfl B _ _ g rfl HQ.out.1.row _ mr _ X rfl HBL.out HRX.out (by have := HGL.out; omega) HQ.out.1.lb ?_; intro v3 w4 hown3 hgrow3; have hM3 : OwnW w a mb z B v3 (g ++ X) w4 := OwnW.grown (X := X) HQ.out.1 (by rw [HBL.out]; exact hown3) hgrow3; have hO3 : Obj w4 hb 27 (cellsM (Rs.mark h k e)) := (hgrow3.block hb HQ.out.2.lt (fun e' => by have := (HQ.out.1.row.lt _ e'.symm).1; have := HF.out.2.1; omega)).trans HQ.out.2; have HM3 := Lib.hid hM3; have HO3 := Lib.hid hO3; clear hM3 hO3 hown3 hgrow3)
                refine (HM3.out.s.held).mono ?_
                rintro e1 w5 ⟨rfl, rfl⟩
                have hct : decide (200 < z.cnt) = false := by have h1 := HP3.out.ok.held; have h2 := HP3.out.win; simp; omega
                have hct' : decide ((200 : Int) < ((z.cnt : Nat) : Int)) = false := by have h1 := HP3.out.ok.held; have h2 := HP3.out.win; simp; omega
                generalize hzc : z.cnt = zc at hct hct' ⊢
                clear hzc
                go_wp2
                go_roundw
                case rel => exact ⟨j + 1, z, Rs.mark h k e, g ++ X, by omega, by go_num, ⟨HM3.out, HO3.out, HF.out.1, HF.out.2.1, HF.out.2.2.1, HF.out.2.2.2.1, HP3.out⟩⟩
                case measure => simp [intOf]; omega
              · have hj2z : ¬ (j : Int) < (n2 : Int) := by omega
                go_wp2_with fail
                refine (HPW.out.o.s.held).mono ?_
                rintro e1 w5 ⟨rfl, rfl⟩
                have hct : decide (200 < y.cnt) = false := by have h1 := HPF.out.ok.held; have h2 := HPF.out.win; simp; omega
                have hct' : decide ((200 : Int) < ((y.cnt : Nat) : Int)) = false := by have h1 := HPF.out.ok.held; have h2 := HPF.out.win; simp; omega
                generalize hzc : y.cnt = zc at hct hct' ⊢
                clear hzc HPF
                go_wp2
                go_roundw
                case rel => exact ⟨j + 1, y, Rs.mark h k e, g, by omega, by go_num, HPW.out⟩
                case measure => simp [intOf]; omega
        · obtain rfl : e = k := by omega
          obtain rfl : n0 = e := by omega
          obtain rfl : c0 = n0 := by omega
          have HPX : Hid (Calls Try.prog 10 #[.pointer (some ⟨a, 0, none⟩), .int .u64 (c0 : Int), .slice A0 0 0, .bool true] wc fun e' w' => e' = .returned (.int .i64 ((0 : Nat) : Int)) ∧ OwnS w a mb y w' ∧ Upd2 a mb wc w') := by
            have hl : lb = true := by rw [hlb]; simp
            have := HPUT.out A0 0 (fun hp => by rw [hpl] at hp; omega) ⟨by omega, by omega⟩
            rw [hl, Nat.sub_self] at this
            exact this
          clear hlb hpl HPUT HSH
          go_wp2_with fail
          refine HPX.out.mono ?_
          rintro e1 w2 ⟨rfl, hS2, hu2⟩
          clear HPX
          have HO := Lib.hid (HP.out.upd hS2 hu2)
          have HF : Hid (w.heap.size ≤ hb ∧ hb < B ∧ hb ≠ a ∧ hb ≠ mb ∧ h.length = 200) := ⟨HP.out.hw, HP.out.hb, HP.out.na, HP.out.nm, HP.out.p.hl⟩
          have HPF := Lib.hid HPP.out.2
          clear hS2 hu2 HP HPP
          go_wp2
          go_loopw [13] (fun kv wr => ∃ q : Nat, c0 ≤ q ∧ q ≤ c0 ∧ kv = .int .i64 q ∧ OwnW w a mb y B u8 g wr ∧ Obj wr hb 27 (cellsM (Rs.mark h c0 q))) (fun kv _ => c0 - (intOf kv).toNat)
          case atStart => exact ⟨c0, Nat.le_refl _, hke, rfl, HO.out.1, by rw [Rs.mark_none]; exact HO.out.2⟩
          case round =>
            clear HO
            obtain ⟨q, hkq, hqe, rfl, hOW, hOB⟩ := hrel
            by_cases hqlt : q < c0
            · omega
            · obtain rfl : c0 = q := by omega
              have HPW : Hid (PfW w a mb hb B u8 t y (Rs.mark h c0 c0) g wr) := ⟨hOW, hOB, HF.out.1, HF.out.2.1, HF.out.2.2.1, HF.out.2.2.2.1, HPF.out⟩
              clear hOW hOB hqlt
              by_cases hj2 : j < n2
              · have hj2z : (j : Int) < (n2 : Int) := by omega
                obtain ⟨Br, ofr, rfl, r, hr, gr⟩ := HRD.out wr j hj2 HPW.out.o.s.below
                go_wp2_with fail
                refine (HPW.out.o.s.read r).mono ?_
                rintro e1 w3 ⟨Ax, cx, rfl, hcx1, hcx2, hrx, -, hS3, hu3⟩
                have HQ := Lib.hid (HPW.out.upd hS3 hu3)
                have HP3 := Lib.hid (HPF.out.read (r : Int))
                have hmr : Rs.many y (r : Int) ≤ 200 := by have h1 := Rs.many_le y r; have h2 := HPF.out.ok.ready_le; have h3 := HPF.out.ok.held; have h4 := HPF.out.win; omega
                have hbl := Rs.bytes_len y (Rs.many y (r : Int))
                have HGL : Hid (g.length ≤ 200) := by unfold Hid; rw [HPF.out.glen]; have := HPF.out.rd; have := HPF.out.len; omega
                obtain ⟨z, hz⟩ : ∃ z, (Rs.read y (r : Int)).2 = z := ⟨_, rfl⟩
                rw [hz] at HQ HP3
                obtain ⟨X, hX⟩ : ∃ X, Rs.bytes y (Rs.many y (r : Int)) = X := ⟨_, rfl⟩
                rw [hX] at HP3 hrx hbl
                obtain ⟨mr, hmr'⟩ : ∃ mr, Rs.many y (r : Int) = mr := ⟨_, rfl⟩
                rw [hmr'] at hmr hbl hcx1 ⊢
                have HBL := Lib.hid hbl
                have HRX := Lib.hid hrx
                clear hz hX hmr' hbl hrx hS3 hu3 HPW HPF gr
                go_wp2_with (at_builtin; refine wpList_appX rfl _ _ rfl B _ _ g rfl HQ.out.1.row _ mr _ X rfl HBL.out HRX.out (by have := HGL.out; omega) HQ.out.1.lb ?_; intro v3 w4 hown3 hgrow3; have hM3 : OwnW w a mb z B v3 (g ++ X) w4 := OwnW.grown (X := X) HQ.out.1 (by rw [HBL.out]; exact hown3) hgrow3; have hO3 : Obj w4 hb 27 (cellsM (Rs.mark h c0 c0)) := (hgrow3.block hb HQ.out.2.lt (fun e' => by have := (HQ.out.1.row.lt _ e'.symm).1; have := HF.out.2.1; omega)).trans HQ.out.2; have HM3 := Lib.hid hM3; have HO3 := Lib.hid hO3; clear hM3 hO3 hown3 hgrow3)
                refine (HM3.out.s.held).mono ?_
                rintro e1 w5 ⟨rfl, rfl⟩
                have hct : decide (200 < z.cnt) = false := by have h1 := HP3.out.ok.held; have h2 := HP3.out.win; simp; omega
                have hct' : decide ((200 : Int) < ((z.cnt : Nat) : Int)) = false := by have h1 := HP3.out.ok.held; have h2 := HP3.out.win; simp; omega
                generalize hzc : z.cnt = zc at hct hct' ⊢
                clear hzc
                go_wp2
                go_roundw
                case rel => exact ⟨j + 1, z, Rs.mark h c0 c0, g ++ X, by omega, by go_num, ⟨HM3.out, HO3.out, HF.out.1, HF.out.2.1, HF.out.2.2.1, HF.out.2.2.2.1, HP3.out⟩⟩
                case measure => simp [intOf]; omega
              · have hj2z : ¬ (j : Int) < (n2 : Int) := by omega
                go_wp2_with fail
                refine (HPW.out.o.s.held).mono ?_
                rintro e1 w5 ⟨rfl, rfl⟩
                have hct : decide (200 < y.cnt) = false := by have h1 := HPF.out.ok.held; have h2 := HPF.out.win; simp; omega
                have hct' : decide ((200 : Int) < ((y.cnt : Nat) : Int)) = false := by have h1 := HPF.out.ok.held; have h2 := HPF.out.win; simp; omega
                generalize hzc : y.cnt = zc at hct hct' ⊢
                clear hzc HPF
                go_wp2
                go_roundw
                case rel => exact ⟨j + 1, y, Rs.mark h c0 c0, g, by omega, by go_num, HPW.out⟩
                case measure => simp [intOf]; omega
    · obtain rfl : n1 = j := by omega
      clear hlt hj
      go_wp2_with fail
      have HP2 := Lib.hid hP
      clear hP HP
      refine (HP2.out.o.s.read 1000).mono ?_
      rintro e1 w3 ⟨Ax, cx, rfl, hcx1, hcx2, hrx, -, hS3, hu3⟩
      have HQ := Lib.hid (HP2.out.upd hS3 hu3)
      obtain ⟨N, m1, m2, m3, m4, m5, m6⟩ := HP2.out.p.fin
      rw [m1] at hrx hcx1 ⊢
      have hbl := Rs.bytes_len x (Rs.ready x)
      obtain ⟨X, hX⟩ : ∃ X, Rs.bytes x (Rs.ready x) = X := ⟨_, rfl⟩
      rw [hX] at hrx hbl m2
      have hmr : Rs.ready x ≤ 200 := by have h2 := HP2.out.p.ok.ready_le; have h3 := HP2.out.p.ok.held; have h4 := HP2.out.p.win; omega
      obtain ⟨mr, hmr'⟩ : ∃ mr, Rs.ready x = mr := ⟨_, rfl⟩
      rw [hmr'] at hmr hbl hcx1 ⊢
      obtain ⟨z, hz⟩ : ∃ z, (Rs.read x 1000).2 = z := ⟨_, rfl⟩
      rw [hz] at HQ m6
      have HGL : Hid (g.length ≤ 200) := by unfold Hid; rw [HP2.out.p.glen]; have := HP2.out.p.rd; have := HP2.out.p.len; omega
      have HF : Hid (w.heap.size ≤ hb ∧ hb < B ∧ hb ≠ a ∧ hb ≠ mb ∧ h.length = 200) := ⟨HP2.out.hw, HP2.out.hb, HP2.out.na, HP2.out.nm, HP2.out.p.hl⟩
      have HBL := Lib.hid hbl
      have HRX := Lib.hid hrx
      have M2 := Lib.hid m2
      have M4 := Lib.hid m4
      have M5 := Lib.hid m5
      have M6 := Lib.hid m6
      rw [HTN.out] at m3 M5
      clear hX hmr' hbl hrx hS3 hu3 HP2 hz m1 m2 m4 m5 m6
      go_wp2_with (at_builtin; refine wpList_appX rfl _ _ rfl B _ _ g rfl HQ.out.1.row _ mr _ X rfl HBL.out HRX.out (by have := HGL.out; omega) HQ.out.1.lb ?_; intro v3 w4 hown3 hgrow3; have hM3 : OwnW w a mb z B v3 (g ++ X) w4 := OwnW.grown (X := X) HQ.out.1 (by rw [HBL.out]; exact hown3) hgrow3; have hO3 : Obj w4 hb 27 (cellsM h) := (hgrow3.block hb HQ.out.2.lt (fun e' => by have := (HQ.out.1.row.lt _ e'.symm).1; have := HF.out.2.1; omega)).trans HQ.out.2; obtain ⟨Av, cv, hv3, hl3, hm3, hr3, -⟩ := hM3.form; rw [M2.out] at hv3 hl3 hr3; have hNl : (t.take N).length = N := (by rw [List.length_take, HTN.out]; omega); rw [hNl] at hv3 hl3; subst hv3; have HR3 := Lib.hid hr3; have HM3 := Lib.hid hM3; have HO3 := Lib.hid hO3; have HNL := Lib.hid hNl; clear hM3 hO3 hown3 hgrow3 hr3 hNl)
      go_loopw [14] (fun nv wx => ∃ q : Nat, q ≤ N ∧ nv = .int .i64 q ∧ wx = w4) (fun nv _ => N - (intOf nv).toNat)
      case atStart => exact ⟨0, Nat.zero_le _, rfl, rfl⟩
      case round =>
        obtain ⟨q, hq, rfl, rfl⟩ := hrel
        by_cases hqN : q < N
        · have hqn : (q : Int) < (n0 : Int) := by omega
          have hqn' : decide (q < n0) = true := by simp; omega
          have hq200 : (q : Int) < 200 := by omega
          have hcq : wr.cell? ⟨hb, q, none⟩ = some (.bool true) := by
            rw [getM HO3.out q (by rw [HF.out.2.2.2.2]; omega), M4.out q hqN]
          go_wp2
          go_roundw
          case rel => exact ⟨q + 1, by omega, by go_num, by first | rfl | trivial⟩
          case measure => simp [intOf]; omega
        · obtain rfl : N = q := by omega
          by_cases hNn : N < n0
          · have hqn : (N : Int) < (n0 : Int) := by omega
            have hqn' : decide (N < n0) = true := by simp; omega
            have hq200 : (N : Int) < 200 := by omega
            have hNc : N ≤ c0 := by omega
            have hcq : wr.cell? ⟨hb, N, none⟩ = some (.bool false) := by
              rw [getM HO3.out N (by rw [HF.out.2.2.2.2]; omega), M5.out hNn]
            go_wp2_with fail
            refine (HAL.out _).mono ?_
            rintro e1 w5 ⟨rfl, hL⟩
            have HZ := Lib.hid (HM3.out.kept hL)
            have HR4 := Lib.hid (HR3.out.below hL)
            clear hL
            go_wp2_with fail
            refine (same_true _ _ _ _ N (t.take N) _ HNL.out HR4.out ((HTR.out _ HZ.out.s.below).take N) (by omega)).mono ?_
            rintro e1 w6 ⟨rfl, q6, rfl⟩
            have HZ2 := Lib.hid (HZ.out.drewN q6)
            go_wp2_with fail
            refine (HZ2.out.s.ready).mono ?_
            rintro e1 w7 ⟨rfl, hS7, -⟩
            rw [M6.out]
            have HL7 := Lib.hid hS7.below
            clear hS7
            go_wp2
            go_ret
            exact ⟨rfl, HL7.out⟩
          · have hqn : ¬ (N : Int) < (n0 : Int) := by omega
            have hqn' : decide (N < n0) = false := by simp; omega
            have hNc : N ≤ c0 := by omega
            go_wp2_with fail
            refine (HAL.out _).mono ?_
            rintro e1 w5 ⟨rfl, hL⟩
            have HZ := Lib.hid (HM3.out.kept hL)
            have HR4 := Lib.hid (HR3.out.below hL)
            clear hL
            go_wp2_with fail
            refine (same_true _ _ _ _ N (t.take N) _ HNL.out HR4.out ((HTR.out _ HZ.out.s.below).take N) (by omega)).mono ?_
            rintro e1 w6 ⟨rfl, q6, rfl⟩
            have HZ2 := Lib.hid (HZ.out.drewN q6)
            go_wp2_with fail
            refine (HZ2.out.s.ready).mono ?_
            rintro e1 w7 ⟨rfl, hS7, -⟩
            rw [M6.out]
            have HL7 := Lib.hid hS7.below
            clear hS7
            go_wp2
            go_ret
            exact ⟨rfl, HL7.out⟩
end Go.Proofs.Ytghfgekmdcangaa.Rm
