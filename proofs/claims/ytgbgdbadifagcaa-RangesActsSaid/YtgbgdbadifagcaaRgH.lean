/- Layer 13's document, walked: Forget. -/
import Derived.Test.YtgbgdbadifagcaaRows
import Derived.Test.YtgbgdbadifagcaaAid
import Derived.Test.YtgbgdbadifagcaaPlainRg
import Derived.Test.YtgbgdbadifagcaaPlainRg2
import Derived.Test.YtgbgdbadifagcaaPlainRg3
import Derived.Test.YtgbgdbadifagcaaPlainRg4
import Derived.Test.YtgbgdbadifagcaaRgW
import Derived.Test.YtgbgdbadifagcaaRgX
import Derived.Test.YtgbgdbadifagcaaRgI
import Derived.Test.YtgbgdbadifagcaaRgJ
import Derived.Test.YtgbgdbadifagcaaRgF
import Derived.Test.YtgbgdbadifagcaaRgA
import Derived.Test.YtgbgdbadifagcaaRgB
import Derived.Test.YtgbgdbadifagcaaRgL
import Derived.Test.YtgbgdbadifagcaaRgD
import Derived.Test.YtgbgdbadifagcaaRgE
import Derived.WalkKit
import Derived.OwnWalk
import Derived.Laws.Rows
import Derived.Laws.Tables
import Derived.Laws.AppendOwn
import Derived.Laws.OwnMore
import Derived.WalkSpells
import Derived.WalkLawsBesides
import Derived.BigQuiet
import Derived.Handy
import Derived.StillTailTactics
import Derived.Lib.Hide
import Derived.IntWalk
namespace Go.Proofs.Ytgbgdbadifagcaa
open Go.RowKit Go.Shelf Go.Lib Go.Sort
set_option linter.unusedVariables false
set_option linter.unusedSimpArgs false

theorem infoU : (Try.prog.info? 26).map (fun i => (i.zero, i.size, i.bytes)) = some (some (.int .u64 0), 1, 8) := by kernel_rfl
/-- One number, appended to a row of the call's own. -/
theorem wpList_appU {ops : Array Oper} {rest : List Oper} {o : Oper} {a : Act} {w : World} {Q : Exit → Act → World → Prop} (hgd : o.guard = none) (s x : Operand)
    (ho : o.op = .call { callee := .builtin .append, args := #[s, x], argTypes := #[33, 33] })
    (base : Nat) (v : Value) (O : List Nat) (hs : a.eval s = v) (hown : w.ownsRow base 26 1 v O.length (O.map u64v)) (r : Nat) (vb : Nat) (hx : a.eval x = .slice (some ⟨vb, 0, none⟩) 1 1)
    (hV : Obj w vb 26 #[u64v r]) (hm : O.length ≤ 100000) (hbase : base ≤ w.heap.size)
    (h : ∀ v' w', w'.ownsRow base 26 1 v' (O ++ [r]).length ((O ++ [r]).map u64v) → w.grownBy w' v.ownBlock → wpList Try.prog ops Q rest (a.put o.dst v') w') : wpList Try.prog ops Q (o :: rest) a w := by
  obtain ⟨i0, hi, hz0, hz1, hz2⟩ := info_parts infoU
  refine wpList_append_own w hgd s x 33 ho base 26 i0 (.int .u64 0) 1 8 Try.underlying33 hi hz0 hz1 hz2 rfl (by decide) v O.length (O.map u64v) hs hown ⟨vb, 0, none⟩ 1 1 [u64v r] hx rfl (fun j u hj => by rw [add_zero_lit, hV.cell]; simpa using hj) (fun u hu => by rw [List.mem_singleton] at hu; rw [hu]; rfl) (by simp only [maxLen]; omega) (by omega) hbase (fun v' w' h1 h2 _ => ?_)
  refine h v' w' ?_ h2
  rw [List.map_append]
  simpa using h1
theorem own_base {w : World} {b b' : Nat} {e : TypeId} {size n : Nat} {v : Value} {xs : List Value} (h : w.ownsRow b e size v n xs) (hb : b' ≤ b) : w.ownsRow b' e size v n xs := by
  refine ⟨h.1, ?_⟩
  rcases h.2 with h' | ⟨g, cap, cur, h1, h2, h3⟩
  · exact Or.inl h'
  · exact Or.inr ⟨g, cap, cur, h1, Nat.le_trans hb h2, h3⟩
/-- A store into another block. -/
theorem own_set {w : World} {b : Nat} {e : TypeId} {size n a : Nat} {v : Value} {xs : List Value} (h : w.ownsRow b e size v n xs) (ha : a < b) (i : Nat) (u : Value) : (w.setCell ⟨a, i, none⟩ u).ownsRow b e size v n xs := by
  refine h.kept (row := some a) ⟨rfl, rfl, rfl, by simp [World.setCell], fun k _ hk => heap_setCell_other w ⟨a, i, none⟩ k u (fun e => hk (by rw [e]))⟩ ?_
  cases hv : v.ownBlock with
  | none => exact Or.inl rfl
  | some k =>
    right
    have := (h.lt k hv).1
    intro he
    simp at he; omega
def keepL (m : Nat) (L : List Nat) (j : Nat) : List Nat := (L.take j).filter fun x => decide (m < x)
theorem keepL_zero (m : Nat) (L : List Nat) : keepL m L 0 = [] := by simp [keepL]
theorem take_next {α : Type} (L : List α) (d : α) (j : Nat) (h : j < L.length) : L.take (j + 1) = L.take j ++ [L.getD j d] := by
  rw [List.take_succ_eq_append_getElem h]
  simp [List.getD_eq_getElem?_getD, h]
theorem keepL_next (m : Nat) (L : List Nat) (j : Nat) (h : j < L.length) : keepL m L (j + 1) = if m < L.getD j 0 then keepL m L j ++ [L.getD j 0] else keepL m L j := by
  unfold keepL
  rw [take_next L 0 j h, List.filter_append]
  by_cases hc : m < L.getD j 0
  · rw [if_pos hc, List.filter_cons_of_pos (by simpa using hc)]; rfl
  · rw [if_neg hc, List.filter_cons_of_neg (by simpa using hc)]; simp
theorem keepL_len (m : Nat) (L : List Nat) (j : Nat) : (keepL m L j).length ≤ L.length :=
  Nat.le_trans (List.length_filter_le _ _) (by rw [List.length_take]; omega)
def cntL (m : Nat) (l : List Rg.R) (j : Nat) : Nat := (l.take j).countP fun r => decide (r.2 ≤ m)
theorem cntL_next (m : Nat) (l : List Rg.R) (j : Nat) (h : j < l.length) : cntL m l (j + 1) = if (l.getD j (0, 0)).2 ≤ m then cntL m l j + 1 else cntL m l j := by
  unfold cntL
  rw [take_next l (0, 0) j h, List.countP_append]
  by_cases hc : (l.getD j (0, 0)).2 ≤ m
  · rw [if_pos hc, List.countP_cons_of_pos (by simpa using hc)]; rfl
  · rw [if_neg hc, List.countP_cons_of_neg (by simpa using hc)]; simp
theorem cntL_le (m : Nat) (l : List Rg.R) (j : Nat) : cntL m l j ≤ l.length := Nat.le_trans List.countP_le_length (by rw [List.length_take]; omega)

set_option maxHeartbeats 4000000 in
theorem refForget_any (N M a n : Nat) (s : Rg.S) (w : World) (hM : M ≤ 1000) (hN : N ≤ w.heap.size) (h : DocAt N M w a s) :
    Calls Try.prog 16 #[.pointer (some ⟨a, 0, none⟩), .int .u64 (n : Int)] w fun e w' => e = .returned (.int .i64 ((Rg.forget n s).1 : Nat)) ∧ (∃ v', DocV N M w' a (Rg.forget n s).2 v' ∧ ∀ k, v'.ownBlock = some k → w.heap.size ≤ k) ∧ Upd a w w' := by
  have HRG := Lib.hid (refRanges_any N M a s w hM h)
  obtain ⟨hNa, L, v, hlM, hO, hR, hT⟩ := h
  obtain ⟨g, base, c, rfl, _, hcm, hc⟩ := own_u64 hR
  obtain ⟨m, hm⟩ : ∃ m, min n 4611686018427387903 = m := ⟨_, rfl⟩
  have HCNT : Hid ((Rg.forget n s).1 = cntL m s.l s.l.length) := by
    unfold Hid cntL; rw [List.take_length, Rg.forget_count, ← hm]; rfl
  have HTIE : Hid (Rg.Tie (Rg.forget n s).2 (keepL m L L.length)) := by
    have := Rg.tie_cut hT n
    unfold Hid keepL; rw [List.take_length, ← hm]; exact this
  have HLOW : Hid ((Rg.forget n s).2.old = max s.old (m + 1)) := by unfold Hid; rw [← hm]; rfl
  have hal := hO.lt
  have HF : Hid (∀ W, Below w.heap.size w W → W.cell? ⟨a, 0, none⟩ = some (.slice base L.length c) ∧ W.cell? ⟨a, 1, none⟩ = some (.int .u64 (s.old : Int)) ∧ Obj W a 35 #[.slice base L.length c, u64v s.old]) := fun W hb => by
    refine ⟨?_, ?_, hO.kept hb⟩
    · rw [hb.cell (p := ⟨a, 0, none⟩) hal, hO.cell]; rfl
    · rw [hb.cell (p := ⟨a, 1, none⟩) hal, hO.cell]; rfl
  have HC : Hid (∀ W, Below w.heap.size w W → ∀ i, i < L.length → base = some ⟨g, 0, none⟩ ∧ W.cell? ⟨g, i, none⟩ = some (.int .u64 ((L.getD i 0 : Nat) : Int))) := fun W hb i hi => by
    obtain ⟨e1, e2⟩ := hc i hi
    exact ⟨e1, (hb.cell (p := ⟨g, i, none⟩) (block_lt_of_cell e2)).trans e2⟩
  have hsl : s.l.length ≤ 17 := hT.ok.len
  have hold := hT.ok.oldle
  have hold' : s.old ≤ 4611686018427387904 := hold
  have hl1000 : L.length ≤ 1000 := by omega
  have HLM : Hid (L.length ≤ M) := hlM
  have HKL := Lib.hid (keepL_len m L)
  have HKN := Lib.hid (keepL_next m L)
  have HCN := Lib.hid (cntL_next m s.l)
  have HCL := Lib.hid (cntL_le m s.l)
  have hm1 : m ≤ 4611686018427387903 := by omega
  have hwm : IntKind.u64.wrap ((m : Int) + 1) = (m : Int) + 1 := by rw [IntKind.wrap_u64]; omega
  have HNN : Hid (N ≤ w.heap.size ∧ N ≤ a ∧ a < w.heap.size) := ⟨hN, hNa, hal⟩
  clear hO hR hc hT hcm hlM hold
  generalize (Rg.forget n s).1 = RC at *
  generalize (Rg.forget n s).2 = RS at *
  generalize hml : L.length = ml at *
  have HML := Lib.hid hml
  clear hml
  go_enter Try.func16, Try.ntmps16
  by_cases htop : 4611686018427387903 < n
  · obtain rfl : m = 4611686018427387903 := by omega
    have hd : decide ((4611686018427387903 : Int) < (n : Int)) = true := by rw [decide_eq_true_eq]; omega
    go_wp2_with fail
    obtain ⟨m, hmz⟩ : ∃ m : Nat, m = 4611686018427387903 := ⟨_, rfl⟩
    have hmi : (4611686018427387903 : Int) = (m : Int) := by omega
    rw [hmi]
    rw [← hmz] at HCNT HTIE HLOW HKL HKN HCN HCL hm1 hm
    have hwm : IntKind.u64.wrap ((m : Int) + 1) = (m : Int) + 1 := by rw [IntKind.wrap_u64]; omega
    clear hmi hd htop hm
    have hm1 : m ≤ 4611686018427387903 := by omega
    clear hmz
    refine HRG.out.mono ?_
    rintro e w1 ⟨v6, g6, rfl, hr6, -, hb1⟩
    obtain ⟨base6, c6, rfl, _, _⟩ := hr6.nilOr
    have HR6 : Hid (∀ j, j < s.l.length → base6 = some ⟨g6, 0, none⟩ ∧ w1.cell? ⟨g6, j * 2 + 1, none⟩ = some (.int .u64 ((s.l.getD j (0, 0)).2 : Int))) := fun j hj => by
      obtain ⟨c', e1, e2, e3⟩ := hr6.cells hj
      simp only [Value.slice.injEq] at e1
      exact ⟨e1.1, e3⟩
    have HB1 := Lib.hid hb1
    clear hr6 hb1
    generalize hsl' : s.l.length = q at *
    have HQ := Lib.hid hsl'
    clear hsl'
    go_wp2
    go_loopw [5, 7] (fun k i wr => ∃ j : Nat, j ≤ q ∧ i = .int .i64 j ∧ k = .int .i64 (cntL m s.l j : Nat) ∧ w1 = wr) (fun k i _ => q - (intOf i).toNat)
    case atStart => exact ⟨0, Nat.zero_le _, rfl, by simp [cntL], rfl⟩
    case round =>
      obtain ⟨j, hj, rfl, rfl, rfl⟩ := hrel
      by_cases hjq : j < q
      · obtain ⟨rfl, e1⟩ := HR6.out j hjq
        have hnext := HCN.out j hjq
        have hcl := HCL.out j
        have hjz : (j : Int) < (q : Int) := by omega
        have HNX := Lib.hid hnext
        generalize hy : (s.l.getD j (0, 0)).2 = y at *
        have HY := Lib.hid hy
        clear hy hnext
        generalize cntL m s.l j = k at *
        by_cases hym : y ≤ m
        · have hd : decide (y ≤ m) = true := by simpa using hym
          go_wp2
          go_roundw
          case rel => exact ⟨j + 1, by omega, by go_num, by rw [HNX.out, if_pos hym]; go_num, by trivial⟩
          case measure => simp [intOf]; omega
        · have hd : decide (y ≤ m) = false := by simpa using hym
          go_wp2
          go_roundw
          case rel => exact ⟨j + 1, by omega, by go_num, by rw [HNX.out, if_neg hym], by trivial⟩
          case measure => simp [intOf]; omega
      · obtain rfl : q = j := by omega
        rw [← HCNT.out]
        have hrc : RC ≤ 17 := by have := HCL.out q; rw [← HCNT.out] at this; omega
        clear hjq hj
        have f0 := (HF.out w1 HB1.out).1
        go_wp2
        clear f0
        go_loopw [8, 9] (fun o i w2 => ∃ j : Nat, j ≤ ml ∧ i = .int .i64 j ∧ w2.ownsRow w1.heap.size 26 1 o (keepL m L j).length ((keepL m L j).map u64v) ∧ Below w1.heap.size w1 w2) (fun o i _ => ml - (intOf i).toNat)
        case atStart =>
          refine ⟨0, Nat.zero_le _, rfl, ?_, Below.refl _ _⟩
          rw [keepL_zero]; exact World.ownsRow_nil _ _ _ _
        case round =>
          obtain ⟨j, hj, rfl, hown, hL⟩ := hrel
          have hbw : Below w.heap.size w wr := HB1.out.trans (hL.mono HB1.out.size)
          have HBW := Lib.hid hbw
          have HO := Lib.hid hown
          have HL := Lib.hid hL
          obtain ⟨f0, f1, f2⟩ := HF.out wr hbw
          by_cases hjm : j < ml
          · obtain ⟨rfl, e1⟩ := HC.out wr hbw j hjm
            have HNX := Lib.hid (HKN.out j hjm)
            have hkl := HKL.out j
            have hjz : (j : Int) < (ml : Int) := by omega
            generalize hx : L.getD j 0 = x at *
            clear hx hown hL hbw f1 f2
            generalize hK : keepL m L j = K at *
            clear hK
            by_cases hmx : m < x
            · have hd : decide (m < x) = true := by simpa using hmx
              have HVA : Hid (Obj (wr.alloc (.cells #[.int .u64 (x : Int)] 26)) wr.heap.size 26 #[u64v x]) := Obj.new wr _ _
              have HOA := Lib.hid (HO.out.alloc (.cells #[.int .u64 (x : Int)] 26))
              have HL1 : Hid (K.length ≤ 100000) := by unfold Hid; omega
              have HSZ : Hid (w1.heap.size ≤ (wr.alloc (.cells #[.int .u64 (x : Int)] 26)).heap.size) := by
                have := HL.out.size; unfold Hid; simp; omega
              go_wp2_with (at_builtin; refine wpList_appU rfl _ _ rfl w1.heap.size _ K rfl HOA.out x wr.heap.size rfl HVA.out HL1.out HSZ.out ?_)
              intro v' w' hown' hgr'
              have HOW := Lib.hid hown'
              have HBE : Hid (Below w1.heap.size w1 w') := Below.own (HL.out.alloc HL.out.size _) HOA.out HSZ.out hgr'
              clear hown' hgr'
              go_wp2
              go_roundw
              case rel => exact ⟨j + 1, by omega, by go_num, by rw [HNX.out, if_pos hmx, List.length_append, List.map_append]; exact HOW.out, HBE.out⟩
              case measure => simp [intOf]; omega
            · have hd : decide (m < x) = false := by simpa using hmx
              go_wp2
              go_roundw
              case rel => exact ⟨j + 1, by omega, by go_num, by rw [HNX.out, if_neg hmx]; exact HO.out, HL.out⟩
              case measure => simp [intOf]; omega
          · obtain rfl : ml = j := by omega
            obtain ⟨g8, base8, c8, rfl, _, _, _⟩ := own_u64 hown
            have HOB := Lib.hid f2
            have z0 := f2.free 0
            have z1 := f2.free 1
            have HKM := Lib.hid (HKL.out ml)
            clear hown hL hbw f2 hjm hj
            have HA1 : Hid (a < w1.heap.size ∧ N ≤ w1.heap.size) := ⟨Nat.lt_of_lt_of_le HNN.out.2.2 HB1.out.size, Nat.le_trans HNN.out.1 HB1.out.size⟩
            have HLE : Hid ((keepL m L ml).length ≤ M) := Nat.le_trans HKM.out HLM.out
            have HTI := Lib.hid HTIE.out
            generalize hKK : keepL m L ml = KK at *
            clear hKK
            generalize hlk : KK.length = lk at *
            have HLK := Lib.hid hlk
            clear hlk
            by_cases hlow : s.old ≤ m
            · have hd : decide (s.old ≤ m) = true := by simpa using hlow
              have HLO : Hid (RS.old = m + 1) := by unfold Hid; rw [HLOW.out]; omega
              go_wp2
              go_ret
              refine ⟨rfl, ⟨.slice base8 lk c8, ⟨HNN.out.2.1, KK, by rw [HLK.out]; exact HLE.out, ?_, ?_, HTI.out⟩, fun k hk => Nat.le_trans HB1.out.size (HO.out.lt k hk).1⟩, ?_⟩
              · exact ((HOB.out.set 0 (.slice base8 lk c8)).set 1 (.int .u64 ((m : Int) + 1))).as (by rw [HLO.out]; rfl)
              · rw [HLK.out]; exact own_base (own_set (own_set HO.out HA1.out.1 0 _) HA1.out.1 1 _) HA1.out.2
              · exact ((Upd.of_below HBW.out a).set 0 _).set 1 _
            · have hd : decide (s.old ≤ m) = false := by simpa using hlow
              have HLO : Hid (RS.old = s.old) := by unfold Hid; rw [HLOW.out]; omega
              go_wp2
              go_ret
              refine ⟨rfl, ⟨.slice base8 lk c8, ⟨HNN.out.2.1, KK, by rw [HLK.out]; exact HLE.out, ?_, ?_, HTI.out⟩, fun k hk => Nat.le_trans HB1.out.size (HO.out.lt k hk).1⟩, ?_⟩
              · exact (HOB.out.set 0 (.slice base8 lk c8)).as (by rw [HLO.out]; rfl)
              · rw [HLK.out]; exact own_base (own_set HO.out HA1.out.1 0 _) HA1.out.2
              · exact (Upd.of_below HBW.out a).set 0 _
  · obtain rfl : m = n := by omega
    have hd : decide ((4611686018427387903 : Int) < (m : Int)) = false := by rw [decide_eq_false_iff_not]; omega
    clear htop hm
    go_wp2_with fail
    refine HRG.out.mono ?_
    rintro e w1 ⟨v6, g6, rfl, hr6, -, hb1⟩
    obtain ⟨base6, c6, rfl, _, _⟩ := hr6.nilOr
    have HR6 : Hid (∀ j, j < s.l.length → base6 = some ⟨g6, 0, none⟩ ∧ w1.cell? ⟨g6, j * 2 + 1, none⟩ = some (.int .u64 ((s.l.getD j (0, 0)).2 : Int))) := fun j hj => by
      obtain ⟨c', e1, e2, e3⟩ := hr6.cells hj
      simp only [Value.slice.injEq] at e1
      exact ⟨e1.1, e3⟩
    have HB1 := Lib.hid hb1
    clear hr6 hb1
    generalize hsl' : s.l.length = q at *
    have HQ := Lib.hid hsl'
    clear hsl'
    go_wp2
    go_loopw [5, 7] (fun k i wr => ∃ j : Nat, j ≤ q ∧ i = .int .i64 j ∧ k = .int .i64 (cntL m s.l j : Nat) ∧ w1 = wr) (fun k i _ => q - (intOf i).toNat)
    case atStart => exact ⟨0, Nat.zero_le _, rfl, by simp [cntL], rfl⟩
    case round =>
      obtain ⟨j, hj, rfl, rfl, rfl⟩ := hrel
      by_cases hjq : j < q
      · obtain ⟨rfl, e1⟩ := HR6.out j hjq
        have hnext := HCN.out j hjq
        have hcl := HCL.out j
        have hjz : (j : Int) < (q : Int) := by omega
        have HNX := Lib.hid hnext
        generalize hy : (s.l.getD j (0, 0)).2 = y at *
        have HY := Lib.hid hy
        clear hy hnext
        generalize cntL m s.l j = k at *
        by_cases hym : y ≤ m
        · have hd : decide (y ≤ m) = true := by simpa using hym
          go_wp2
          go_roundw
          case rel => exact ⟨j + 1, by omega, by go_num, by rw [HNX.out, if_pos hym]; go_num, by trivial⟩
          case measure => simp [intOf]; omega
        · have hd : decide (y ≤ m) = false := by simpa using hym
          go_wp2
          go_roundw
          case rel => exact ⟨j + 1, by omega, by go_num, by rw [HNX.out, if_neg hym], by trivial⟩
          case measure => simp [intOf]; omega
      · obtain rfl : q = j := by omega
        rw [← HCNT.out]
        have hrc : RC ≤ 17 := by have := HCL.out q; rw [← HCNT.out] at this; omega
        clear hjq hj
        have f0 := (HF.out w1 HB1.out).1
        go_wp2
        clear f0
        go_loopw [8, 9] (fun o i w2 => ∃ j : Nat, j ≤ ml ∧ i = .int .i64 j ∧ w2.ownsRow w1.heap.size 26 1 o (keepL m L j).length ((keepL m L j).map u64v) ∧ Below w1.heap.size w1 w2) (fun o i _ => ml - (intOf i).toNat)
        case atStart =>
          refine ⟨0, Nat.zero_le _, rfl, ?_, Below.refl _ _⟩
          rw [keepL_zero]; exact World.ownsRow_nil _ _ _ _
        case round =>
          obtain ⟨j, hj, rfl, hown, hL⟩ := hrel
          have hbw : Below w.heap.size w wr := HB1.out.trans (hL.mono HB1.out.size)
          have HBW := Lib.hid hbw
          have HO := Lib.hid hown
          have HL := Lib.hid hL
          obtain ⟨f0, f1, f2⟩ := HF.out wr hbw
          by_cases hjm : j < ml
          · obtain ⟨rfl, e1⟩ := HC.out wr hbw j hjm
            have HNX := Lib.hid (HKN.out j hjm)
            have hkl := HKL.out j
            have hjz : (j : Int) < (ml : Int) := by omega
            generalize hx : L.getD j 0 = x at *
            clear hx hown hL hbw f1 f2
            generalize hK : keepL m L j = K at *
            clear hK
            by_cases hmx : m < x
            · have hd : decide (m < x) = true := by simpa using hmx
              have HVA : Hid (Obj (wr.alloc (.cells #[.int .u64 (x : Int)] 26)) wr.heap.size 26 #[u64v x]) := Obj.new wr _ _
              have HOA := Lib.hid (HO.out.alloc (.cells #[.int .u64 (x : Int)] 26))
              have HL1 : Hid (K.length ≤ 100000) := by unfold Hid; omega
              have HSZ : Hid (w1.heap.size ≤ (wr.alloc (.cells #[.int .u64 (x : Int)] 26)).heap.size) := by
                have := HL.out.size; unfold Hid; simp; omega
              go_wp2_with (at_builtin; refine wpList_appU rfl _ _ rfl w1.heap.size _ K rfl HOA.out x wr.heap.size rfl HVA.out HL1.out HSZ.out ?_)
              intro v' w' hown' hgr'
              have HOW := Lib.hid hown'
              have HBE : Hid (Below w1.heap.size w1 w') := Below.own (HL.out.alloc HL.out.size _) HOA.out HSZ.out hgr'
              clear hown' hgr'
              go_wp2
              go_roundw
              case rel => exact ⟨j + 1, by omega, by go_num, by rw [HNX.out, if_pos hmx, List.length_append, List.map_append]; exact HOW.out, HBE.out⟩
              case measure => simp [intOf]; omega
            · have hd : decide (m < x) = false := by simpa using hmx
              go_wp2
              go_roundw
              case rel => exact ⟨j + 1, by omega, by go_num, by rw [HNX.out, if_neg hmx]; exact HO.out, HL.out⟩
              case measure => simp [intOf]; omega
          · obtain rfl : ml = j := by omega
            obtain ⟨g8, base8, c8, rfl, _, _, _⟩ := own_u64 hown
            have HOB := Lib.hid f2
            have z0 := f2.free 0
            have z1 := f2.free 1
            have HKM := Lib.hid (HKL.out ml)
            clear hown hL hbw f2 hjm hj
            have HA1 : Hid (a < w1.heap.size ∧ N ≤ w1.heap.size) := ⟨Nat.lt_of_lt_of_le HNN.out.2.2 HB1.out.size, Nat.le_trans HNN.out.1 HB1.out.size⟩
            have HLE : Hid ((keepL m L ml).length ≤ M) := Nat.le_trans HKM.out HLM.out
            have HTI := Lib.hid HTIE.out
            generalize hKK : keepL m L ml = KK at *
            clear hKK
            generalize hlk : KK.length = lk at *
            have HLK := Lib.hid hlk
            clear hlk
            by_cases hlow : s.old ≤ m
            · have hd : decide (s.old ≤ m) = true := by simpa using hlow
              have HLO : Hid (RS.old = m + 1) := by unfold Hid; rw [HLOW.out]; omega
              go_wp2
              go_ret
              refine ⟨rfl, ⟨.slice base8 lk c8, ⟨HNN.out.2.1, KK, by rw [HLK.out]; exact HLE.out, ?_, ?_, HTI.out⟩, fun k hk => Nat.le_trans HB1.out.size (HO.out.lt k hk).1⟩, ?_⟩
              · exact ((HOB.out.set 0 (.slice base8 lk c8)).set 1 (.int .u64 ((m : Int) + 1))).as (by rw [HLO.out]; rfl)
              · rw [HLK.out]; exact own_base (own_set (own_set HO.out HA1.out.1 0 _) HA1.out.1 1 _) HA1.out.2
              · exact ((Upd.of_below HBW.out a).set 0 _).set 1 _
            · have hd : decide (s.old ≤ m) = false := by simpa using hlow
              have HLO : Hid (RS.old = s.old) := by unfold Hid; rw [HLOW.out]; omega
              go_wp2
              go_ret
              refine ⟨rfl, ⟨.slice base8 lk c8, ⟨HNN.out.2.1, KK, by rw [HLK.out]; exact HLE.out, ?_, ?_, HTI.out⟩, fun k hk => Nat.le_trans HB1.out.size (HO.out.lt k hk).1⟩, ?_⟩
              · exact (HOB.out.set 0 (.slice base8 lk c8)).as (by rw [HLO.out]; rfl)
              · rw [HLK.out]; exact own_base (own_set HO.out HA1.out.1 0 _) HA1.out.2
              · exact (Upd.of_below HBW.out a).set 0 _
end Go.Proofs.Ytgbgdbadifagcaa
