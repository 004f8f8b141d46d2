/- Layer 17's outflow: acts that come in, few, Same; a buffer beside a text and marks. -/
import Derived.Test.YtdloeakmoaoalaaRows
import Derived.Test.YtdloeakmoaoalaaAid
import Derived.Test.YtdloeakmoaoalaaOpen
import Derived.Test.YtdloeakmoaoalaaPlainOf
import Derived.Test.YtdloeakmoaoalaaPlainOf2
import Derived.Test.YtdloeakmoaoalaaPlainOf3
import Derived.Test.YtdloeakmoaoalaaPlainOf4
import Derived.Test.YtdloeakmoaoalaaOfW
import Derived.Test.YtdloeakmoaoalaaOfX
import Derived.Test.YtdloeakmoaoalaaOfA
import Derived.Test.YtdloeakmoaoalaaOfB
import Derived.Test.YtdloeakmoaoalaaOfE
import Derived.Test.YtdloeakmoaoalaaOfM
import Derived.Test.YtdloeakmoaoalaaOfN
import Derived.Test.YtdloeakmoaoalaaOfP
import Derived.Test.YtdloeakmoaoalaaOfQ
import Derived.Test.YtdloeakmoaoalaaOfR
import Derived.WalkKit
import Derived.OwnWalk
import Derived.Laws.Rows
import Derived.Laws.Tables
import Derived.Deep.AppendSrc
import Derived.WalkSpells
import Derived.WalkLawsBesides
import Derived.BigQuiet
import Derived.Handy
import Derived.Lib.Walk
import Derived.Lib.Hide
import Derived.IntWalk
import Derived.OpenShut
import Derived.Deep.QuietTactic
namespace Go.Proofs.Ytdloeakmoaoalaa
open Go.RowKit
open Go.ChangeShapes Go.WideShapes Go.Deep
set_option linter.unusedVariables false
set_option linter.unusedSimpArgs false

/-- An act that came in. -/
structure Act17 where
  kind : Int
  n : Int
  off : Nat
  data : List Nat
  A : Option Addr
  c : Nat
  e : Bool
instance : Inhabited Act17 := ⟨⟨0, 0, 0, [], none, 0, false⟩⟩
structure ActAt (w : World) (B off : Nat) (x : Act17) : Prop where
  k : w.cell? ⟨B, off, none⟩ = some (.int .i64 x.kind)
  n : w.cell? ⟨B, off + 1, none⟩ = some (.int .i64 x.n)
  o : w.cell? ⟨B, off + 2, none⟩ = some (.int .u64 (x.off : Int))
  d : w.cell? ⟨B, off + 3, none⟩ = some (.slice x.A x.data.length x.c)
  e : w.cell? ⟨B, off + 4, none⟩ = some (.bool x.e)
structure ActOk (w : World) (x : Act17) : Prop where
  n0 : -9223372036854775808 ≤ x.n
  n1 : x.n ≤ 9223372036854775807
  off : x.off < 18446744073709551616
  d : Rb w x.A x.data
  c : x.data.length ≤ x.c ∧ x.c ≤ maxLen
def Acts17 (w : World) (A : Option Addr) (n : Nat) (l : List Act17) : Prop :=
  l.length = n ∧ (∀ j, j < n → ActOk w (l.getD j default)) ∧ (0 < n → ∃ B off, A = some ⟨B, off, none⟩ ∧ B < w.heap.size ∧ ∀ j, j < n → ActAt w B (off + j * 5) (l.getD j default))
theorem bytes_open {H : Type} {enc : TypeId × Value → H} {w : World} {base : Nat} {held : Bool} {fuel : Nat} {v : Value} {x : DataW H × List MemPlace}
    (h : DataW.trod enc Try.prog w base (fun _ => true) held fuel 28 [v] = some x) : ∃ (l : List Nat) (A : Option Addr) (c : Nat), v = .slice A l.length c ∧ Rb w A l ∧ l.length ≤ c ∧ c ≤ maxLen := by
  rcases open_ints Try.underlying28 Try.underlying5 (by kernel_rfl) h with ⟨hcs, _⟩ | ⟨x, l, c, zs, hcs, _, hl, hm, hz, _, hcell, hwz⟩
  · simp only [List.cons.injEq, and_true] at hcs
    subst hcs
    exact ⟨[], none, 0, rfl, fun h => absurd h (by simp), Nat.le_refl _, Nat.zero_le _⟩
  · simp only [List.cons.injEq, and_true] at hcs
    subst hcs
    have hI : Ints .u8 w (some x) l (zs.take l) := Ints.of_row hl (by simpa using hz) hcell hwz
    obtain ⟨t, ht, _, hR⟩ : ∃ t : List Nat, t.length = l ∧ (∀ x ∈ t, x < 256) ∧ Rb w (some x) t := by
      obtain ⟨h1, h2, h3⟩ := hI
      refine ⟨(zs.take l).map Int.toNat, by rw [List.length_map]; exact h1, fun c hc => ?_, fun hp => ?_⟩
      · obtain ⟨x, hx, rfl⟩ := List.mem_map.1 hc
        have := bounds_u8 (h2 x hx); omega
      · rw [List.length_map, h1] at hp
        obtain ⟨b, off, e, hlt, hc⟩ := h3 hp
        refine ⟨b, off, e, hlt, fun j hj => ?_⟩
        rw [List.length_map, h1] at hj
        have hzl : j < (zs.take l).length := by rw [h1]; exact hj
        rw [hc j hj]
        have hb := bounds_u8 (h2 (zs.take l)[j] (List.getElem_mem hzl))
        unfold b8
        rw [List.getD_eq_getElem?_getD, List.getD_eq_getElem?_getD, List.getElem?_map, List.getElem?_eq_getElem hzl]
        simp only [Option.getD_some, Option.map_some]
        congr 2
        omega
    exact ⟨t, some x, c, by rw [ht], hR, by rw [ht]; exact hl, hm⟩
theorem acts17_open {H : Type} {enc : TypeId × Value → H} {w : World} {base : Nat} {held : Bool} {fuel n c : Nat} {A : Option Addr} {x : DataW H × List MemPlace}
    (h : DataW.trod enc Try.prog w base (fun _ => true) held fuel 23 [.slice A n c] = some x) : ∃ l, Acts17 w A n l ∧ n ≤ c ∧ c ≤ maxLen := by
  obtain ⟨hl, hm, hc⟩ := rows_open Try.underlying23 Try.underlying42 (by kernel_rfl) (by kernel_rfl) (by decide) h
  by_cases hn : n = 0
  · subst hn
    exact ⟨[], ⟨rfl, fun j hj => absurd hj (by omega), fun h => absurd h (by omega)⟩, hl, hm⟩
  · obtain ⟨B, off, rfl, hb, hc⟩ := hc (by omega)
    obtain ⟨l, hll, hr⟩ := list_of (α := Act17) (fun i a => ActOk w a ∧ ActAt w B (off + i * 5) a) n (by
      intro i hi
      obtain ⟨v0, y0, m0, h0, t0⟩ := hc i 0 _ hi rfl
      obtain ⟨v1, y1, m1, h1, t1⟩ := hc i 1 _ hi rfl
      obtain ⟨v2, y2, m2, h2, t2⟩ := hc i 2 _ hi rfl
      obtain ⟨v3, y3, m3, h3, t3⟩ := hc i 3 _ hi rfl
      obtain ⟨v4, y4, m4, h4, t4⟩ := hc i 4 _ hi rfl
      obtain ⟨k0, e0, _, wk⟩ := DataW.trod_int Try.underlying3 t0
      obtain ⟨k1, e1, _, w1⟩ := DataW.trod_int Try.underlying3 t1
      obtain ⟨k2, e2, _, w2⟩ := DataW.trod_int Try.underlying22 t2
      obtain ⟨d, A3, c3, rfl, hd, hc3, hm3⟩ := bytes_open t3
      obtain ⟨b, e4, _⟩ := DataW.trod_bool Try.underlying4 t4
      simp only [List.cons.injEq, and_true] at e0 e1 e2 e4
      subst e0 e1 e2 e4
      have b1 := bounds_i64 w1
      have b2 := bounds_u64 w2
      obtain ⟨m, rfl⟩ := Int.eq_ofNat_of_zero_le b2.1
      exact ⟨⟨k0, k1, m, d, A3, c3, b⟩, ⟨b1.1, b1.2, by show m < 18446744073709551616; omega, hd, hc3, hm3⟩, h0, h1, h2, h3, h4⟩)
    exact ⟨l, ⟨hll, fun j hj => (hr j hj).1, fun _ => ⟨B, off, rfl, hb, fun j hj => (hr j hj).2⟩⟩, hl, hm⟩

theorem Acts17.at {w w' : World} {A : Option Addr} {n : Nat} {l : List Act17} (h : Acts17 w A n l) (hb : Below w.heap.size w w') {j : Nat} (hj : j < n) : ∃ B off, A = some ⟨B, off, none⟩ ∧ ActAt w' B (off + j * 5) (l.getD j default) := by
  obtain ⟨B, off, e, hB, hc⟩ := h.2.2 (by omega)
  have hh := hc j hj
  have k := fun o => hb.cell (p := ⟨B, o, none⟩) hB
  exact ⟨B, off, e, (k _).trans hh.k, (k _).trans hh.n, (k _).trans hh.o, (k _).trans hh.d, (k _).trans hh.e⟩

set_option maxHeartbeats 1000000 in
theorem same_true (A B : Option Addr) (c d : Nat) (l : List Nat) (w : World) (hA : Rb w A l) (hB : Rb w B l) (hm : l.length ≤ 1000000) :
    Calls Try.prog 25 #[.slice A l.length c, .slice B l.length d] w fun e w' => e = .returned (.bool true) ∧ ∃ q, w' = w.drewN q := by
  obtain ⟨n, hn⟩ : ∃ n, l.length = n := ⟨_, rfl⟩
  rw [hn]
  have HN := Lib.hid hn
  have hm' : n ≤ 1000000 := by omega
  have HA := Lib.hid hA
  have HB := Lib.hid hB
  clear hn hm hA hB
  go_enter Try.func25, Try.ntmps25
  go_wp2
  go_loopw [5] (fun i wr => ∃ k q : Nat, k ≤ n ∧ i = .int .i64 k ∧ wr = w.drewN q) (fun i _ => n - (intOf i).toNat)
  case atStart => exact ⟨0, 0, by omega, rfl, rfl⟩
  case round =>
    obtain ⟨k, q, hk, rfl, rfl⟩ := hrel
    by_cases hlt : k < n
    · obtain ⟨b, o, rfl, hb, hc⟩ := HA.out (by rw [HN.out]; omega)
      obtain ⟨b', o', rfl, hb', hc'⟩ := HB.out (by rw [HN.out]; omega)
      have f0 : w.cell? ⟨b, o + k, none⟩ = some (.int .u8 ((l.getD k 0 : Nat) : Int)) := hc k (by rw [HN.out]; exact hlt)
      have f1 : w.cell? ⟨b', o' + k, none⟩ = some (.int .u8 ((l.getD k 0 : Nat) : Int)) := hc' k (by rw [HN.out]; exact hlt)
      have hki : (k : Int) < (n : Int) := by omega
      clear hc hc' hb hb'
      generalize l.getD k 0 = x at *
      go_wp2
      go_quiet (fail)
      go_wp2
      go_roundw
      case rel => exact ⟨k + 1, _, by omega, by go_num, rfl⟩
      case measure => simp [intOf]; omega
    · obtain rfl : k = n := by omega
      go_wp2
      go_ret
      exact ⟨rfl, _, rfl⟩

/-- few: what it says. -/
def fewB (n : Nat) (l : List Act17) : Bool := decide (n ≤ 60) && (List.range n).all fun j => decide ((l.getD j default).data.length ≤ 1200)
theorem few_any (A : Option Addr) (n c : Nat) (l : List Act17) (w0 w : World) (h : Acts17 w0 A n l) (hc : n ≤ c ∧ c ≤ maxLen) (hb : Below w0.heap.size w0 w) :
    Calls Try.prog 9 #[.slice A n c] w fun e w' => e = .returned (.bool (fewB n l)) ∧ w = w' := by
  have hci : n ≤ c ∧ c ≤ 9223372036854775807 := ⟨hc.1, by have := hc.2; simp only [maxLen] at this; omega⟩
  by_cases h60 : 60 < n
  · have hd : decide ((60 : Int) < (n : Int)) = true := by simp; omega
    have HF : Hid (fewB n l = false) := by unfold Hid fewB; rw [decide_eq_false (by omega)]; rfl
    clear h hc hb
    go_enter Try.func9, Try.ntmps9
    go_wp2
    go_ret
    rw [HF.out]
    exact ⟨rfl, rfl⟩
  · have hd : decide ((60 : Int) < (n : Int)) = false := by simp; omega
    have hn : n ≤ 60 := by omega
    have HF : Hid (∀ j, j < n → ¬ (l.getD j default).data.length ≤ 1200 → fewB n l = false) := fun j hj hx => by
      unfold fewB
      rw [Bool.and_eq_false_iff]
      refine Or.inr ?_
      rw [List.all_eq_false]
      exact ⟨j, List.mem_range.2 hj, by simpa using hx⟩
    have HT : Hid ((∀ j, j < n → (l.getD j default).data.length ≤ 1200) → fewB n l = true) := fun hh => by
      unfold fewB
      rw [decide_eq_true hn, Bool.true_and, List.all_eq_true]
      intro j hj
      exact decide_eq_true (hh j (List.mem_range.1 hj))
    have HA : Hid (∀ j, j < n → ∃ B off, A = some ⟨B, off, none⟩ ∧ w.cell? ⟨B, off + j * 5 + 3, none⟩ = some (.slice (l.getD j default).A (l.getD j default).data.length (l.getD j default).c)) := fun j hj => by
      obtain ⟨B, off, e, hh⟩ := h.at hb hj
      exact ⟨B, off, e, hh.d⟩
    clear h hc hb h60
    go_enter Try.func9, Try.ntmps9
    go_wp2
    go_loopw [3] (fun i wr => ∃ k : Nat, k ≤ n ∧ i = .int .i64 k ∧ wr = w ∧ Hid (∀ j, j < k → (l.getD j default).data.length ≤ 1200)) (fun i _ => n - (intOf i).toNat)
    case atStart => exact ⟨0, by omega, rfl, rfl, fun j hj => absurd hj (Nat.not_lt_zero _)⟩
    case round =>
      obtain ⟨k, hk, rfl, rfl, hall⟩ := hrel
      by_cases hlt : k < n
      · obtain ⟨B, off, rfl, f3⟩ := HA.out k hlt
        have hki : (k : Int) < (n : Int) := by omega
        have HX : Hid (∀ m, (l.getD k default).data.length = m → m ≤ 1200 → ∀ j, j < k + 1 → (l.getD j default).data.length ≤ 1200) := fun m e hm j hj => by
          by_cases hjk : j = k
          · subst hjk; omega
          · exact hall.out j (by omega)
        have HY : Hid (∀ m, (l.getD k default).data.length = m → ¬ m ≤ 1200 → fewB n l = false) := fun m e hm => HF.out k hlt (by omega)
        obtain ⟨m, hm⟩ : ∃ m, (l.getD k default).data.length = m := ⟨_, rfl⟩
        rw [hm] at f3
        have HX2 := Lib.hid (HX.out m hm)
        have HY2 := Lib.hid (HY.out m hm)
        clear HX HY hm hall
        generalize (l.getD k default).A = aA at *
        generalize (l.getD k default).c = aC at *
        by_cases hs : m ≤ 1200
        · have hsz : decide ((1200 : Int) < (m : Int)) = false := by simp; omega
          go_wp2
          go_roundw
          case rel => exact ⟨k + 1, by omega, by go_num, by first | trivial | rfl, HX2.out hs⟩
          case measure => simp [intOf]; omega
        · have hsz : decide ((1200 : Int) < (m : Int)) = true := by simp; omega
          go_wp2
          go_ret
          rw [HY2.out hs]
          exact ⟨rfl, rfl⟩
      · obtain rfl : k = n := by omega
        have HTT : Hid (fewB k l = true) := HT.out hall.out
        clear hall HT HF HA
        go_wp2
        go_ret
        rw [HTT.out]
        exact ⟨rfl, rfl⟩
end Go.Proofs.Ytdloeakmoaoalaa
