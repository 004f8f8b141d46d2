/- Layer 8: a block enciphered, the counter, a text copied and compared, walked. -/
import Derived.Test.YtnphanhoakbkpaaRows
import Derived.Test.YtnphanhoakbkpaaAid
import Derived.Test.YtnphanhoakbkpaaPlainAe
import Derived.Test.YtnphanhoakbkpaaPlainAe2
import Derived.Test.YtnphanhoakbkpaaHeldT
import Derived.Test.YtnphanhoakbkpaaAesB
import Derived.Test.YtnphanhoakbkpaaAesBox
import Derived.Test.YtnphanhoakbkpaaAesW
import Derived.Test.YtnphanhoakbkpaaAesE
import Derived.Test.YtnphanhoakbkpaaAesK
import Derived.WalkKit
import Derived.Laws.BitsAllLaws
import Derived.Laws.Rows
import Derived.Laws.Tables
import Derived.Laws.AppendOwn
import Derived.Lib.SliceRun
import Derived.WalkSpells
import Derived.WalkLawsBesides
import Derived.Deep.QuietTactic
import Derived.BigQuiet
import Derived.Handy
import Derived.Lib.Hide
import Derived.StillTailTactics
import Derived.Deep.RegionHeld3
import Derived.Deep.WholeRow
import Derived.IntWalk
namespace Go.Proofs.Ytnphanhoakbkpaa
open Go.RowKit
set_option linter.unusedVariables false
set_option linter.unusedSimpArgs false

set_option maxHeartbeats 1000000 in
theorem encipher_any (key b : List Nat) (w : World) (hk : key.length = 16) (hb : b.length = 16) (qk : Ae.bytes key) (qb : Ae.bytes b) :
    Calls Try.prog 35 #[.agg (cellsN key), .agg (cellsN b)] w fun e w' => e = .returned (.agg (cellsN (Ae.enc (Ae.sched key) b))) ∧ Below w.heap.size w w' := by
  have HB := Lib.hid hb
  have HK := Lib.hid hk
  clear hb hk
  have O0 : Obj (((w.alloc (.cells (cellsN key) 22)).alloc (.cells (cellsN b) 22)).alloc (.cells #[.int .u8 0, .int .u8 0, .int .u8 0, .int .u8 0, .int .u8 0, .int .u8 0, .int .u8 0, .int .u8 0, .int .u8 0, .int .u8 0, .int .u8 0, .int .u8 0, .int .u8 0, .int .u8 0, .int .u8 0, .int .u8 0] 22)) w.heap.size 22 (cellsN key) := ((Obj.new w _ _).alloc _).alloc _
  have O1 : Obj (((w.alloc (.cells (cellsN key) 22)).alloc (.cells (cellsN b) 22)).alloc (.cells #[.int .u8 0, .int .u8 0, .int .u8 0, .int .u8 0, .int .u8 0, .int .u8 0, .int .u8 0, .int .u8 0, .int .u8 0, .int .u8 0, .int .u8 0, .int .u8 0, .int .u8 0, .int .u8 0, .int .u8 0, .int .u8 0] 22)) (w.heap.size + 1) 22 (cellsN b) := (new2 w _ _ _).alloc _
  have O2 : Obj (((w.alloc (.cells (cellsN key) 22)).alloc (.cells (cellsN b) 22)).alloc (.cells #[.int .u8 0, .int .u8 0, .int .u8 0, .int .u8 0, .int .u8 0, .int .u8 0, .int .u8 0, .int .u8 0, .int .u8 0, .int .u8 0, .int .u8 0, .int .u8 0, .int .u8 0, .int .u8 0, .int .u8 0, .int .u8 0] 22)) (w.heap.size + 1 + 1) 22 (cellsN (List.replicate 16 0)) := new3 w _ _ _ _
  have L0 : Below w.heap.size w (((w.alloc (.cells (cellsN key) 22)).alloc (.cells (cellsN b) 22)).alloc (.cells #[.int .u8 0, .int .u8 0, .int .u8 0, .int .u8 0, .int .u8 0, .int .u8 0, .int .u8 0, .int .u8 0, .int .u8 0, .int .u8 0, .int .u8 0, .int .u8 0, .int .u8 0, .int .u8 0, .int .u8 0, .int .u8 0] 22)) := (((Below.refl _ w).alloc (Nat.le_refl _) _).alloc (by simp) _).alloc (by simp; omega) _
  have HIK := Lib.hid (size16 HK.out)
  have HIB := Lib.hid (size16 HB.out)
  have HI1 := Lib.hid (size16 (Ae.enc_len (Ae.sched key) b))
  have HSZ : Hid ((cellsN (List.replicate 16 0)).size = (cellsN (Ae.enc (Ae.sched key) b)).size) := by unfold Hid; rw [cellsN_size, cellsN_size, Ae.enc_len]; simp
  have qs := Ae.sched_bytes qk
  go_enter Try.func35, Try.ntmps35
  go_wp2
  generalize hW : (((w.alloc (.cells (cellsN key) 22)).alloc (.cells (cellsN b) 22)).alloc (.cells #[.int .u8 0, .int .u8 0, .int .u8 0, .int .u8 0, .int .u8 0, .int .u8 0, .int .u8 0, .int .u8 0, .int .u8 0, .int .u8 0, .int .u8 0, .int .u8 0, .int .u8 0, .int .u8 0, .int .u8 0, .int .u8 0] 22)) = W at *
  clear hW
  refine wp_region_held_drew (S := (fun w' => Obj w' (w.heap.size + 1) 22 (cellsN b))) (by kernel_rfl) O1.drew (fun hHeld => ?_)
  refine wpAnyH_take (i := 2) (oi := ?_) (v := ?_) ?_ ?_ ?_ ?_ ?_ ?_ (by assumption) ?_
  rotate_left 2
  · simp only [List.getElem?_toArray, List.getElem?_cons_zero, List.getElem?_cons_succ]
    rfl
  · kernel_rfl
  · kernel_rfl
  · kernel_rfl
  · exact fun _ _ _ h => h
  · refine yieldsIf_load_row (g := (w.heap.size + 1)) (t := 22) (cs := cellsN b) (ty := 22) (x := (.tmp 3)) ?_ ?_ ?_ ?_ Try.underlying22 rfl HIB.out
    · rfl
    · rfl
    · rfl
    · exact fun w hSw => hSw
  simp only [Act.put, List.setIfInBounds_toArray, List.set_cons_zero, List.set_cons_succ]
  refine wpAnyH_ready (rs := [0]) (by kernel_rfl) (by simp) ?_
  refine AllReadyH.cons (o := ?_) ?_ (fun KK hKK => ?_) AllReadyH.nil
  rotate_left
  · simp only [List.getElem?_toArray, List.getElem?_cons_zero, List.getElem?_cons_succ]
    rfl
  rw [if_pos (by rfl)]
  refine wp_load_row 22 (.tmp 2) rfl _ rfl _ _ _ _ O0.drew Try.underlying22 rfl HIK.out ?_
  refine hKK.out _ _ ?_ (fun h1 => ?_)
  · (try dsimp only)
    assumption
  clear hKK KK
  try simp only [Act.put, List.setIfInBounds_toArray, List.set_cons_zero, List.set_cons_succ]
  refine wpAnyH_ready (rs := [1]) (by kernel_rfl) (by simp) ?_
  refine AllReadyH.cons (o := ?_) ?_ (fun KK hKK => ?_) AllReadyH.nil
  rotate_left
  · simp only [List.getElem?_toArray, List.getElem?_cons_zero, List.getElem?_cons_succ]
    rfl
  go_simp
  go_at_call 36; refine (keys_any key _ HK.out qk).mono ?_; rintro e w3 ⟨rfl, hb3⟩; have HS3 : Obj w3 (w.heap.size + 1) 22 (cellsN b) := O1.drew.kept hb3
  try go_wp2_with fail
  refine hKK.out _ _ ?_ (fun h2 => ?_)
  · (try dsimp only)
    assumption
  clear hKK KK
  try simp only [Act.put, List.setIfInBounds_toArray, List.set_cons_zero, List.set_cons_succ]
  refine wpAnyH_ready (rs := [3]) (by kernel_rfl) (by simp) ?_
  refine AllReadyH.cons (o := ?_) ?_ (fun KK hKK => ?_) AllReadyH.nil
  rotate_left
  · simp only [List.getElem?_toArray, List.getElem?_cons_zero, List.getElem?_cons_succ]
    rfl
  go_simp
  go_at_call 39; refine (enciphered_any (Ae.sched key) b _ (Ae.sched_len key) HB.out qs qb).mono ?_; rintro e w5 ⟨rfl, hb5⟩; have HS5 : Obj w5 (w.heap.size + 1) 22 (cellsN b) := HS3.kept hb5; have HZ5 := (O2.drew.kept hb3).kept hb5; have HL5 := (L0.drew.trans (hb3.mono L0.drew.size)); have HL6 := HL5.trans (hb5.mono HL5.size)
  try go_wp2_with fail
  refine hKK.out _ _ ?_ (fun h4 => ?_)
  · (try dsimp only)
    assumption
  clear hKK KK
  try simp only [Act.put, List.setIfInBounds_toArray, List.set_cons_zero, List.set_cons_succ]
  refine wpAnyH_ready (rs := [4]) (by kernel_rfl) (by simp) ?_
  refine AllReadyH.cons (o := ?_) ?_ (fun KK hKK => ?_) AllReadyH.nil
  rotate_left
  · simp only [List.getElem?_toArray, List.getElem?_cons_zero, List.getElem?_cons_succ]
    rfl
  rw [if_pos (by rfl)]
  refine wp_store_row 22 (.tmp 4) (.tmp 8) rfl _ _ rfl rfl _ _ HZ5 HI1.out HSZ.out (one_cellsN _) ?_
  refine hKK.out _ _ ?_ (fun h5 => ?_)
  · (try dsimp only)
    exact Obj.upd HS5 ((Upd.refl _ _).row _) (by omega)
  clear hKK KK
  try simp only [Act.put, List.setIfInBounds_toArray, List.set_cons_zero, List.set_cons_succ]
  refine wpAnyH_done (by kernel_rfl) ?_ _
  go_wp2
  exact bodyPost_ret (v := .agg (cellsN (Ae.enc (Ae.sched key) b))) (results_cell_row rfl _ _ _ _ _ _ _ rfl (HZ5.row _) Try.underlying22 rfl HI1.out) rfl ⟨rfl, Upd.below HL6 (by omega) ((Upd.refl _ _).row _)⟩

set_option maxHeartbeats 1000000 in
theorem next_any (g : Nat) (l : List Nat) (w : World) (h : Obj w g 22 (cellsN l)) (hl : l.length = 16) (ql : Ae.bytes l) :
    Calls Try.prog 38 #[.slice (some ⟨g, 12, none⟩) 4 4] w fun e w' => e = .returned (.tuple #[]) ∧ Obj w' g 22 (cellsN (Ae.next l)) ∧ Upd g w w' := by
  have HN := Lib.hid (show Ae.next l = Ae.nextL l 4 from rfl)
  have H0 := Lib.hid h
  have HL := Lib.hid hl
  clear h hl
  go_enter Try.func38, Try.ntmps38
  go_wp2
  go_loopw [2] (fun i wr => ∃ (n : Nat) (b : List Nat), n ≤ 4 ∧ i = .int .i64 ((n : Int) - 1) ∧ Hid (Ae.nextL b n = Ae.next l) ∧ Hid (b.length = 16) ∧ Ae.bytes b ∧ Obj wr g 22 (cellsN b) ∧ Upd g w wr) (fun i _ => (intOf i + 1).toNat)
  case atStart => exact ⟨4, l, by omega, rfl, HN.out.symm, HL.out, ql, H0.out, Upd.refl _ _⟩
  case round =>
    clear H0
    obtain ⟨n, b, hn, rfl, HE, HB, qb, HO, HU⟩ := hrel
    by_cases h0 : n = 0
    · subst h0
      have HF := Lib.hid (show b = Ae.next l from HE.out)
      clear hn
      go_wp2
      go_returns
      rw [← HF.out]
      exact ⟨rfl, HO, HU⟩
    · obtain ⟨m, rfl⟩ : ∃ m, n = m + 1 := ⟨n - 1, by omega⟩
      have hc : ((m + 1 : Nat) : Int) - 1 = (m : Int) := by omega
      rw [hc]
      clear hc h0
      have f0 : wr.cell? ⟨g, 12 + m, none⟩ = some (.int .u8 ((b.getD (12 + m) 0 : Nat) : Int)) := HO.getN _ (by rw [HB.out]; omega)
      have z0 := HO.free (12 + m)
      have hx := Ae.bytes_get qb (12 + m)
      have hm4 : (m : Int) < 4 := by omega
      have HS : Hid (Ae.nextL b (m + 1) = if (b.getD (12 + m) 0 + 1) % 256 = 0 then Ae.nextL (b.set (12 + m) ((b.getD (12 + m) 0 + 1) % 256)) m else b.set (12 + m) ((b.getD (12 + m) 0 + 1) % 256)) := by
        unfold Hid; rw [Ae.nextL]; rw [show 11 + (m + 1) = 12 + m by omega]
      generalize b.getD (12 + m) 0 = x at *
      have hv : ((x : Int) + 1) % 256 = (((x + 1) % 256 : Nat) : Int) := by omega
      have HV := Lib.hid hv
      have hq := Nat.mod_lt (x + 1) (show 0 < 256 by decide)
      clear hv
      by_cases hz : (x + 1) % 256 = 0
      · have ht : ((((x : Int) + 1) % 256) != 0) = false := by rw [HV.out, hz]; rfl
        have HS2 := Lib.hid (HS.out.trans (if_pos hz))
        clear HS hz
        go_wp2
        go_roundw
        case rel =>
          rw [HV.out]
          exact ⟨m, b.set (12 + m) ((x + 1) % 256), by omega, rfl, HS2.out.symm.trans HE.out, by show (b.set _ _).length = 16; rw [List.length_set]; exact HB.out, Ae.bytes_set qb _ _ hq, HO.setN _ _, HU.set _ _⟩
        case measure => simp [intOf]
      · have ht : ((((x : Int) + 1) % 256) != 0) = true := by rw [HV.out]; simp; omega
        have HS2 := Lib.hid ((HS.out.trans (if_neg hz)).symm.trans HE.out)
        clear HS hz
        go_wp2
        go_returns
        rw [HV.out, ← HS2.out]
        exact ⟨rfl, HO.setN _ _, HU.set _ _⟩

/-- A slice value that reads as these bytes. -/
def Rd (w : World) (A : Option Addr) (l : List Nat) : Prop :=
  0 < l.length → ∃ b off, A = some ⟨b, off, none⟩ ∧ b < w.heap.size ∧ ∀ j, j < l.length → w.cell? ⟨b, off + j, none⟩ = some (.int .u8 ((l.getD j 0 : Nat) : Int))
theorem Rd.below {w w' : World} {A : Option Addr} {l : List Nat} (h : Rd w A l) (hb : Below w.heap.size w w') : Rd w' A l := fun hp => by
  obtain ⟨b, off, rfl, hlt, hc⟩ := h hp
  exact ⟨b, off, rfl, Nat.lt_of_lt_of_le hlt hb.size, fun j hj => (hb.cell (p := ⟨b, off + j, none⟩) hlt).trans (hc j hj)⟩
theorem Rd.drewN {w : World} {A : Option Addr} {l : List Nat} (h : Rd w A l) (n : Nat) : Rd (w.drewN n) A l := h
/-- What came in, as numbers of Nat. -/
theorem Ints.rd {w : World} {A : Option Addr} {n : Nat} {z : List Int} (h : Ints .u8 w A n z) : ∃ l : List Nat, l.length = n ∧ Ae.bytes l ∧ Rd w A l := by
  obtain ⟨h1, h2, h3⟩ := h
  refine ⟨z.map Int.toNat, by simp [h1], fun c hc => ?_, fun hp => ?_⟩
  · obtain ⟨x, hx, rfl⟩ := List.mem_map.1 hc
    have := bounds_u8 (h2 x hx); omega
  · simp at hp
    obtain ⟨b, off, rfl, hlt, hc⟩ := h3 (by omega)
    refine ⟨b, off, rfl, hlt, fun j hj => ?_⟩
    simp [h1] at hj
    have hz : j < z.length := by omega
    rw [hc j hj]
    have hb := bounds_u8 (h2 z[j] (List.getElem_mem hz))
    simp [List.getD_eq_getElem?_getD, hz]
    omega
theorem own_rd {w : World} {base n : Nat} {v : Value} {l : List Nat} (h : w.ownsRow base 5 1 v n (l.map u8v)) : ∃ A c, v = .slice A n c ∧ l.length = n ∧ n ≤ c ∧ Rd w A l := by
  obtain ⟨h1, h2⟩ := h
  simp at h1
  rcases h2 with ⟨rfl, rfl⟩ | ⟨g, cap, cur, rfl, hb, hg, hn, hc, hs, ht⟩
  · exact ⟨none, 0, rfl, h1, Nat.le_refl _, fun hp => by omega⟩
  · refine ⟨_, cap, rfl, h1, hn, fun hp => ⟨g, 0, rfl, ?_, fun j hj => ?_⟩⟩
    · rcases Nat.lt_or_ge g w.heap.size with h | h
      · exact h
      · rw [Array.getElem?_eq_none h] at hg; cases hg
    · rw [Nat.zero_add, cell_of_row w g j cur _ _ hg]
      have hj2 : j < n := by omega
      have h3 : (cur.toList.take (n * 1))[j]? = cur[j]? := by rw [List.getElem?_take]; simp [hj2]
      rw [← h3, ht, List.getElem?_map, List.getElem?_eq_getElem hj]
      simp [u8v, List.getD_eq_getElem?_getD, hj]

theorem info8 : (Try.prog.info? 5).map (fun i => (i.zero, i.size, i.bytes)) = some (some (.int .u8 0), 1, 1) := by kernel_rfl
/-- Bytes that are appended to a slice of the call's own. -/
theorem wpList_app8 {ops : Array Oper} {rest : List Oper} {o : Oper} {a : Act} {w : World} {Q : Exit → Act → World → Prop} (hgd : o.guard = none) (s x : Operand)
    (ho : o.op = .call { callee := .builtin .append, args := #[s, x], argTypes := #[23, 23] })
    (base : Nat) (v : Value) (n : Nat) (xs : List Value) (hs : a.eval s = v) (hown : w.ownsRow base 5 1 v n xs)
    (ad : Addr) (m c : Nat) (l : List Nat) (hx : a.eval x = .slice (some ad) m c) (hl : l.length = m) (hR : Rd w (some ad) l) (hm : n + m ≤ 100000000) (hbase : base ≤ w.heap.size)
    (h : ∀ v' w', w'.ownsRow base 5 1 v' (n + m) (xs ++ l.map u8v) → w.grownBy w' v.ownBlock → wpList Try.prog ops Q rest (a.put o.dst v') w') : wpList Try.prog ops Q (o :: rest) a w := by
  obtain ⟨i0, hi, hz0, hz1, hz2⟩ := info_parts info8
  refine wpList_append_own w hgd s x 23 ho base 5 i0 (.int .u8 0) 1 1 Try.underlying23 hi hz0 hz1 hz2 rfl (by decide) v n xs hs hown ad m c (l.map u8v) hx (by simp [hl]) ?_ ?_ ?_ ?_ hbase (fun v' w' h1 h2 _ => h v' w' h1 h2)
  · intro j u hu
    rw [List.getElem?_map, Option.map_eq_some_iff] at hu
    obtain ⟨y, hy, rfl⟩ := hu
    have hj := (List.getElem?_eq_some_iff.1 hy).1
    obtain ⟨b, o, e, hlt, hc⟩ := hR (by omega)
    obtain rfl : ad = ⟨b, o, none⟩ := by cases e; rfl
    rw [Addr.add_mid, hc j hj]
    simp [u8v, List.getD_eq_getElem?_getD, hy]
  · intro u hu
    obtain ⟨x, _, rfl⟩ := List.mem_map.1 hu
    rfl
  · unfold maxLen; omega
  · omega

set_option maxHeartbeats 1000000 in
theorem clone_any (A : Option Addr) (c : Nat) (l : List Nat) (w : World) (h : Rd w A l) (hm : l.length ≤ 1000000) :
    Calls Try.prog 37 #[.slice A l.length c] w fun e w' => ∃ v, e = .returned v ∧ w'.ownsRow w.heap.size 5 1 v l.length (l.map u8v) ∧ Below w.heap.size w w' := by
  have hq := fun w' a n c => Lib.run_eql_slice_nil (P := Try.prog) w' 23 5 a n c 0 0 Try.underlying23
  rcases A with _ | a
  · have h0 : l = [] := by
      rcases l with _ | ⟨x, r⟩
      · rfl
      · obtain ⟨_, _, e, _⟩ := h (by simp); cases e
    subst h0
    go_enter Try.func37, Try.ntmps37
    go_wp2
    go_ret
    exact ⟨_, rfl, World.ownsRow_nil _ _ _ _, Below.refl _ _⟩
  · have HR := Lib.hid (Rd.below h ((Below.refl _ w).alloc (Nat.le_refl _) (.cells #[] 5)))
    have HM := Lib.hid (show 0 + l.length ≤ 100000000 by omega)
    have HOW := Lib.hid (World.ownsRow_made (base := w.heap.size) (e := 5) (size := 1) w #[] 0 (Nat.le_refl _) (Nat.zero_le _) rfl)
    have HBS : Hid (w.heap.size ≤ (w.alloc (.cells #[] 5)).heap.size) := by unfold Hid; simp
    clear h hm
    go_enter Try.func37, Try.ntmps37
    go_wp2_with (at_builtin; refine wpList_app8 rfl _ _ rfl w.heap.size _ _ _ rfl HOW.out a l.length c l rfl rfl HR.out HM.out HBS.out ?_; intro v' w1 hown1 hgrow1)
    go_ret
    rw [Nat.zero_add, List.nil_append] at hown1
    exact ⟨_, rfl, hown1, Below.grown ((Below.refl _ w).alloc (Nat.le_refl _) _) hgrow1 HBS.out (fun k hk => by cases hk; exact Nat.le_refl _)⟩

set_option maxHeartbeats 1000000 in
theorem same_true (A B : Option Addr) (c d : Nat) (l : List Nat) (w : World) (hA : Rd w A l) (hB : Rd w B l) (hm : l.length ≤ 1000000) :
    Calls Try.prog 16 #[.slice A l.length c, .slice B l.length d] w fun e w' => e = .returned (.bool true) ∧ ∃ q, w' = w.drewN q := by
  obtain ⟨n, hn⟩ : ∃ n, l.length = n := ⟨_, rfl⟩
  rw [hn]
  have HN := Lib.hid hn
  have hm' : n ≤ 1000000 := by omega
  have HA := Lib.hid hA
  have HB := Lib.hid hB
  clear hn hm hA hB
  go_enter Try.func16, Try.ntmps16
  go_wp2
  go_loopw [5] (fun i wr => ∃ k q : Nat, k ≤ n ∧ i = .int .i64 k ∧ wr = w.drewN q) (fun i _ => n - (intOf i).toNat)
  case atStart => exact ⟨0, 0, by omega, rfl, rfl⟩
  case round =>
    obtain ⟨k, q, hk, rfl, rfl⟩ := hrel
    by_cases hlt : k < n
    · obtain ⟨b, o, rfl, hb, hc⟩ := HA.out (by rw [HN.out]; omega)
      obtain ⟨b', o', rfl, hb', hc'⟩ := HB.out (by rw [HN.out]; omega)
      have f0 := hc k (by rw [HN.out]; exact hlt)
      have f1 := hc' k (by rw [HN.out]; exact hlt)
      have hki : (k : Int) < (n : Int) := by omega
      clear hc hc' hb hb'
      generalize l.getD k 0 = x at *
      go_wp2
      go_quiet (fail)
      go_wp2
      go_roundw
      case rel => exact ⟨k + 1, _, by omega, by go_num, rfl⟩
      case measure => simp [intOf]; omega
    · obtain rfl : k = n := by omega
      go_wp2
      go_ret
      exact ⟨rfl, _, rfl⟩

end Go.Proofs.Ytnphanhoakbkpaa
