/- RangesActs, walked. -/
import Derived.Test.YtgbgdbadifagcaaRows
import Derived.Test.YtgbgdbadifagcaaAid
import Derived.Test.YtgbgdbadifagcaaOpen
import Derived.Test.YtgbgdbadifagcaaPlainRg
import Derived.Test.YtgbgdbadifagcaaPlainRg2
import Derived.Test.YtgbgdbadifagcaaPlainRg3
import Derived.Test.YtgbgdbadifagcaaPlainRg4
import Derived.Test.YtgbgdbadifagcaaRgW
import Derived.Test.YtgbgdbadifagcaaRgX
import Derived.Test.YtgbgdbadifagcaaRgI
import Derived.Test.YtgbgdbadifagcaaRgJ
import Derived.Test.YtgbgdbadifagcaaRgF
import Derived.Test.YtgbgdbadifagcaaRgA
import Derived.Test.YtgbgdbadifagcaaRgB
import Derived.Test.YtgbgdbadifagcaaRgL
import Derived.Test.YtgbgdbadifagcaaRgL2
import Derived.Test.YtgbgdbadifagcaaRgS
import Derived.Test.YtgbgdbadifagcaaRgD
import Derived.Test.YtgbgdbadifagcaaRgE
import Derived.Test.YtgbgdbadifagcaaRgH
import Derived.Test.YtgbgdbadifagcaaRgK
import Derived.WalkKit
import Derived.OwnWalk
import Derived.Laws.Rows
import Derived.Laws.Tables
import Derived.WalkSpells
import Derived.WalkLawsBesides
import Derived.BigQuiet
import Derived.Handy
import Derived.StillTailTactics
import Derived.Deep.RegionHeld3
import Derived.Lib.Hide
import Derived.IntWalk
namespace Go.Proofs.Ytgbgdbadifagcaa
open Go.RowKit Go.Shelf Go.Lib
open Go.ChangeShapes Go.WideShapes Go.Deep
set_option linter.unusedVariables false
set_option linter.unusedSimpArgs false

structure Act13 where
  kind : Int
  n : Nat
instance : Inhabited Act13 := ⟨⟨0, 0⟩⟩
def Acts13 (w : World) (A : Option Addr) (n : Nat) (l : List Act13) : Prop :=
  l.length = n ∧ (∀ j, j < n → (l.getD j default).n < 18446744073709551616) ∧ (0 < n → ∃ B off, A = some ⟨B, off, none⟩ ∧ B < w.heap.size ∧ ∀ j, j < n → w.cell? ⟨B, off + j * 2, none⟩ = some (.int .i64 (l.getD j default).kind) ∧ w.cell? ⟨B, off + j * 2 + 1, none⟩ = some (.int .u64 ((l.getD j default).n : Int)))
theorem acts13_open {H : Type} {enc : TypeId × Value → H} {w : World} {base : Nat} {spare : Nat → Bool} {held : Bool} {fuel n c : Nat} {A : Option Addr} {x : DataW H × List MemPlace}
    (h : DataW.trod enc Try.prog w base spare held fuel 22 [.slice A n c] = some x) : ∃ l, Acts13 w A n l ∧ n ≤ c ∧ c ≤ maxLen := by
  obtain ⟨hl, hm, hc⟩ := rows_open Try.underlying22 Try.underlying37 (by kernel_rfl) (by kernel_rfl) (by decide) h
  by_cases hn : n = 0
  · subst hn
    exact ⟨[], ⟨rfl, fun j hj => absurd hj (by omega), fun h => absurd h (by omega)⟩, hl, hm⟩
  · obtain ⟨B, off, rfl, hb, hc⟩ := hc (by omega)
    obtain ⟨l, hll, hr⟩ := list_of (α := Act13) (fun i a => a.n < 18446744073709551616 ∧ w.cell? ⟨B, off + i * 2, none⟩ = some (.int .i64 a.kind) ∧ w.cell? ⟨B, off + i * 2 + 1, none⟩ = some (.int .u64 (a.n : Int))) n (by
      intro i hi
      obtain ⟨v0, y0, m0, h0, t0⟩ := hc i 0 _ hi rfl
      obtain ⟨v1, y1, m1, h1, t1⟩ := hc i 1 _ hi rfl
      obtain ⟨k0, e0, _, wk⟩ := DataW.trod_int Try.underlying3 t0
      obtain ⟨k1, e1, _, wn⟩ := DataW.trod_int Try.underlying26 t1
      simp only [List.cons.injEq, and_true] at e0 e1
      subst e0 e1
      have b1 := bounds_u64 wn
      obtain ⟨m, rfl⟩ := Int.eq_ofNat_of_zero_le b1.1
      exact ⟨⟨k0, m⟩, by show m < 18446744073709551616; omega, h0, h1⟩)
    exact ⟨l, ⟨hll, fun j hj => (hr j hj).1, fun _ => ⟨B, off, rfl, hb, fun j hj => (hr j hj).2⟩⟩, hl, hm⟩

/-- The two sets beside each other. -/
def Two (w0 : World) (A g D M : Nat) (s : Rg.S) (w : World) : Prop :=
  SetAt w0.heap.size w A g s ∧ (∃ v, DocV w0.heap.size M w D s v ∧ ∀ k, v.ownBlock = some k → k ≠ g ∧ k ≠ A) ∧ D ≠ A ∧ D ≠ g ∧ Below w0.heap.size w0 w

theorem DocV.to {N M a : Nat} {s : Rg.S} {w w' : World} {v : Value} (h : DocV N M w a s v) (hs : w.heap.size ≤ w'.heap.size) (hos : w'.os = w.os) (ht : w'.tape = w.tape) (hop : w'.output = w.output) (ha : w'.heap[a]? = w.heap[a]?) (hv : ∀ k, v.ownBlock = some k → w'.heap[k]? = w.heap[k]?) : DocV N M w' a s v := by
  obtain ⟨h1, L, h2, h3, h4, h5⟩ := h
  refine ⟨h1, L, h2, ha.trans h3, ⟨h4.1, ?_⟩, h5⟩
  rcases h4.2 with h | ⟨g, cap, cur, e, hb, hg, h⟩
  · exact Or.inl h
  · subst e
    exact Or.inr ⟨g, cap, cur, rfl, hb, (hv g rfl).trans hg, h⟩
theorem DocV.upd2 {N M a b c : Nat} {s : Rg.S} {w w' : World} {v : Value} (h : DocV N M w a s v) (hu : Upd2 b c w w') (h1 : a ≠ b) (h2 : a ≠ c) (hv : ∀ k, v.ownBlock = some k → k ≠ c ∧ k ≠ b) : DocV N M w' a s v := by
  obtain ⟨q1, L, q2, q3, q4, q5⟩ := id h
  exact h.to hu.size hu.os hu.tape hu.output (hu.block a q3.lt h1 h2) fun k hk => hu.block k (q4.lt k hk).2 (hv k hk).2 (hv k hk).1
theorem DocV.lt {N M a : Nat} {s : Rg.S} {w : World} {v : Value} (h : DocV N M w a s v) : a < w.heap.size ∧ ∀ k, v.ownBlock = some k → k < w.heap.size := by
  obtain ⟨q1, L, q2, q3, q4, q5⟩ := h
  exact ⟨q3.lt, fun k hk => (q4.lt k hk).2⟩
theorem DocV.more {N M M' a : Nat} {s : Rg.S} {w : World} {v : Value} (h : DocV N M w a s v) (hM : M ≤ M') : DocV N M' w a s v := by
  obtain ⟨q1, L, q2, q3⟩ := h
  exact ⟨q1, L, by omega, q3⟩
theorem Two.kept {w0 w w' : World} {A g D M : Nat} {s : Rg.S} (h : Two w0 A g D M s w) (hb : Below w.heap.size w w') : Two w0 A g D M s w' := by
  obtain ⟨h1, ⟨v, h2, h3⟩, h4, h5, h6⟩ := h
  exact ⟨h1.kept hb, ⟨v, h2.kept hb, h3⟩, h4, h5, h6.trans (hb.mono h6.size)⟩
theorem Two.low {w0 w : World} {A g D M : Nat} {s : Rg.S} (h : Two w0 A g D M s w) : w.cell? ⟨D, 1, none⟩ = some (.int .u64 (s.old : Int)) := by
  obtain ⟨_, ⟨v, h2, _⟩, _⟩ := h
  obtain ⟨q1, L, q2, q3, q4, q5⟩ := h2
  rw [q3.cell]; rfl
theorem Two.doc {w0 w : World} {A g D M : Nat} {s : Rg.S} (h : Two w0 A g D M s w) : DocAt w0.heap.size M w D s := by
  obtain ⟨_, ⟨v, h2, _⟩, _⟩ := h
  exact h2.at
/-- The program's set was turned, the document's is yet to be. -/
def Half (w0 : World) (A g D M : Nat) (s s' : Rg.S) (w : World) : Prop :=
  SetAt w0.heap.size w A g s' ∧ (∃ v, DocV w0.heap.size M w D s v ∧ ∀ k, v.ownBlock = some k → k ≠ g ∧ k ≠ A) ∧ D ≠ A ∧ D ≠ g ∧ Below w0.heap.size w0 w
theorem two_add {w0 w : World} {A g D M : Nat} {s : Rg.S} (h : Two w0 A g D M s w) (n : Nat) :
    Calls Try.prog 9 #[.pointer (some ⟨A, 0, none⟩), .int .u64 (n : Int)] w fun e w' => e = .returned (.bool (Rg.add n s).1) ∧ ∃ g', Half w0 A g' D M s (Rg.add n s).2 w' := by
  obtain ⟨h1, ⟨v, h2, h3⟩, h4, h5, h6⟩ := h
  refine (sadd_any _ A g n s w h1).mono ?_
  rintro e w' ⟨rfl, g', k1, k2, k3, k4⟩
  have hl := h2.lt
  refine ⟨rfl, g', k1, ⟨v, h2.upd2 k3 h4 h5 h3, fun k hk => ⟨?_, (h3 k hk).2⟩⟩, h4, ?_, h6.trans k4⟩
  · have := (h3 k hk).1
    have := hl.2 k hk
    rcases k2 with e | e <;> omega
  · have := hl.1
    rcases k2 with e | e <;> omega
theorem two_forget {w0 w : World} {A g D M : Nat} {s : Rg.S} (h : Two w0 A g D M s w) (n : Nat) :
    Calls Try.prog 14 #[.pointer (some ⟨A, 0, none⟩), .int .u64 (n : Int)] w fun e w' => e = .returned (.int .i64 ((Rg.forget n s).1 : Nat)) ∧ ∃ g', Half w0 A g' D M s (Rg.forget n s).2 w' := by
  obtain ⟨h1, ⟨v, h2, h3⟩, h4, h5, h6⟩ := h
  refine (sforget_any _ A g n s w h1).mono ?_
  rintro e w' ⟨rfl, k1, k3, k4⟩
  exact ⟨rfl, g, k1, ⟨v, h2.upd2 k3 h4 h5 h3, h3⟩, h4, h5, h6.trans k4⟩
theorem half_close {w0 w w' : World} {A g D M M' : Nat} {s s' : Rg.S} {v' v : Value} (h : Half w0 A g D M s s' w) (hv : DocV w0.heap.size M w D s v) (h3 : ∀ k, v.ownBlock = some k → k ≠ g ∧ k ≠ A) (hv' : DocV w0.heap.size M' w' D s' v') (hn : v' = v ∨ ∀ k, v'.ownBlock = some k → w.heap.size ≤ k) (hu : Upd D w w') : Two w0 A g D M' s' w' := by
  obtain ⟨h1, _, h4, h5, h6⟩ := h
  have hA := h1.lt
  have hg := h1.2.2.1
  refine ⟨h1.upd2 (Upd2.left hu D) (fun e => h4 e.symm) (fun e => h4 e.symm) (fun e => h5 e.symm) (fun e => h5 e.symm), ⟨v', hv', fun k hk => ?_⟩, h4, h5, ?_⟩
  · rcases hn with rfl | hn
    · exact h3 k hk
    · have := hn k hk; constructor <;> omega
  · exact Upd.below h6 (hv.1) hu
theorem half_add {w0 w : World} {A g D M : Nat} {s : Rg.S} (n : Nat) (hok : Rg.Ok s) (h : Half w0 A g D M s (Rg.add n s).2 w) (hM : M + 1 ≤ 1000) :
    Calls Try.prog 15 #[.pointer (some ⟨D, 0, none⟩), .int .u64 (n : Int)] w fun e w' => e = .returned (.bool (Rg.add n s).1) ∧ Two w0 A g D (M + 1) (Rg.add n s).2 w' := by
  obtain ⟨h1, ⟨v, h2, h3⟩, h4, h5, h6⟩ := id h
  refine (refAdd_any _ M D n s w hM h6.size hok v h2).mono ?_
  rintro e w' ⟨rfl, ⟨v', k1, k2⟩, k3⟩
  exact ⟨rfl, half_close h h2 h3 k1 k2 k3⟩
theorem half_forget {w0 w : World} {A g D M : Nat} {s : Rg.S} (n : Nat) (h : Half w0 A g D M s (Rg.forget n s).2 w) (hM : M + 1 ≤ 1000) :
    Calls Try.prog 16 #[.pointer (some ⟨D, 0, none⟩), .int .u64 (n : Int)] w fun e w' => e = .returned (.int .i64 ((Rg.forget n s).1 : Nat)) ∧ Two w0 A g D (M + 1) (Rg.forget n s).2 w' := by
  obtain ⟨h1, ⟨v, h2, h3⟩, h4, h5, h6⟩ := id h
  refine (refForget_any _ M D n s w (by omega) h6.size h2.at).mono ?_
  rintro e w' ⟨rfl, ⟨v', k1, k2⟩, k3⟩
  exact ⟨rfl, half_close h h2 h3 (k1.more (Nat.le_succ M)) (Or.inr k2) k3⟩

theorem nil_add (w : World) : Calls Try.prog 9 #[.pointer none, .int .u64 1] w fun e w' => e = .returned (.bool false) ∧ w = w' := by
  go_enter Try.func9, Try.ntmps9
  go_wp2
  go_ret
  exact ⟨rfl, rfl⟩
theorem nil_has (w : World) : Calls Try.prog 10 #[.pointer none, .int .u64 1] w fun e w' => e = .returned (.bool false) ∧ w = w' := by
  go_enter Try.func10, Try.ntmps10
  go_wp2
  go_ret
  exact ⟨rfl, rfl⟩
theorem nil_old (w : World) : Calls Try.prog 11 #[.pointer none, .int .u64 1] w fun e w' => e = .returned (.bool false) ∧ w = w' := by
  go_enter Try.func11, Try.ntmps11
  go_wp2
  go_ret
  exact ⟨rfl, rfl⟩
theorem nil_ranges (w : World) : Calls Try.prog 12 #[.pointer none] w fun e w' => e = .returned (.slice none 0 0) ∧ w = w' := by
  go_enter Try.func12, Try.ntmps12
  go_wp2
  go_ret
  exact ⟨rfl, rfl⟩
theorem nil_largest (w : World) : Calls Try.prog 13 #[.pointer none] w fun e w' => e = .returned (.int .i64 (-1)) ∧ w = w' := by
  go_enter Try.func13, Try.ntmps13
  go_wp2
  go_ret
  exact ⟨rfl, rfl⟩
theorem nil_forget (w : World) : Calls Try.prog 14 #[.pointer none, .int .u64 1] w fun e w' => e = .returned (.int .i64 0) ∧ Below w.heap.size w w' := by
  go_enter Try.func14, Try.ntmps14
  go_wp2
  go_ret
  exact ⟨rfl, ((Below.refl _ w).alloc (Nat.le_refl _) _).alloc (by simp) _⟩

set_option maxHeartbeats 8000000 in
theorem rangesActs_walk (A0 : Option Addr) (n0 c0 : Nat) (l : List Act13) (w : World) (w0 : Acts13 w A0 n0 l) (x0 : n0 ≤ c0 ∧ c0 ≤ maxLen) :
    Calls Try.prog 3 #[.slice A0 n0 c0] w fun e w' => e = .returned (.bool true) ∧ Below w.heap.size w w' := by
  have HN := Lib.hid w0
  have HAL := Lib.hid (alive_true w)
  clear w0 x0
  by_cases h150 : 150 < n0
  · have hd : decide ((150 : Int) < (n0 : Int)) = true := by simp; omega
    go_enter Try.func3, Try.ntmps3
    go_wp2_with fail
    refine HAL.out.mono ?_
    rintro e w1 ⟨rfl, hb1⟩
    have HB := Lib.hid hb1
    clear hb1
    go_wp2
    go_ret
    exact ⟨rfl, HB.out⟩
  have hd : decide ((150 : Int) < (n0 : Int)) = false := by simp; omega
  have hn0 : n0 ≤ 150 := by omega
  go_enter Try.func3, Try.ntmps3
  go_wp2_with fail
  refine HAL.out.mono ?_
  rintro e w1 ⟨rfl, hb1⟩
  have HB1 := Lib.hid hb1
  clear hb1 HAL
  go_wp2_with fail
  refine (nil_add _).mono ?_
  rintro e wn ⟨rfl, rfl⟩
  go_wp2_with fail
  refine (nil_has _).mono ?_
  rintro e wn ⟨rfl, rfl⟩
  go_wp2_with fail
  refine (nil_old _).mono ?_
  rintro e wn ⟨rfl, rfl⟩
  go_wp2_with fail
  refine (nil_ranges _).mono ?_
  rintro e wn ⟨rfl, rfl⟩
  go_wp2_with fail
  refine (nil_largest _).mono ?_
  rintro e wn ⟨rfl, rfl⟩
  go_wp2_with fail
  refine (nil_forget _).mono ?_
  rintro e w2 ⟨rfl, hb2⟩
  have h2a : Below w.heap.size w w2 := HB1.out.trans (hb2.mono HB1.out.size)
  have hz3 : (w2.alloc (.cells #[.slice none 0 0, .int .u64 0] 32)).heap.size = w2.heap.size + 1 := by simp
  have T0 : Hid (Two w w2.heap.size w2.heap.size (w2.heap.size + 1) 0 ⟨[], 0⟩ ((w2.alloc (.cells #[.slice none 0 0, .int .u64 0] 32)).alloc (.cells #[.slice none 0 0, .int .u64 0] 35))) := by
    have hs := (SetAt.new w2 w.heap.size h2a.size).alloc (.cells #[.slice none 0 0, .int .u64 0] 35)
    have hd := Obj.new (w2.alloc (.cells #[.slice none 0 0, .int .u64 0] 32)) 35 #[.slice none 0 0, .int .u64 0]
    rw [hz3] at hd
    have hw1 := h2a.size
    refine ⟨hs, ⟨.slice none 0 0, ⟨by omega, [], Nat.le_refl _, hd, World.ownsRow_nil _ _ _ _, Rg.ok_nil.kk, List.Pairwise.nil, fun x => ⟨fun h => absurd h (Rg.mem_nil x), fun h => by cases h⟩⟩, fun k hk => by simp [Value.ownBlock] at hk⟩, by omega, by omega, ?_⟩
    exact (h2a.alloc h2a.size _).alloc (by rw [hz3]; omega) _
  clear h2a hz3 hb2
  go_wp2
  generalize w2.heap.size = A at *
  go_loopw [6] (fun i wr => ∃ (j : Nat) (s : Rg.S) (g : Nat), j ≤ n0 ∧ i = .int .i64 j ∧ Two w A g (A + 1) j s wr) (fun i _ => n0 - (intOf i).toNat)
  case atStart => exact ⟨0, ⟨[], 0⟩, A, Nat.zero_le _, rfl, T0.out⟩
  case round =>
    clear T0
    obtain ⟨j, s, g, hj, rfl, hT⟩ := hrel
    by_cases hlt : j < n0
    · obtain ⟨B, off, rfl, hBl, hcell⟩ := HN.out.2.2 (by omega)
      have f0 : wr.cell? ⟨B, off + j * 2, none⟩ = some (.int .i64 (l.getD j default).kind) := (hT.2.2.2.2.cell (p := ⟨B, off + j * 2, none⟩) hBl).trans (hcell j hlt).1
      have f1 : wr.cell? ⟨B, off + j * 2 + 1, none⟩ = some (.int .u64 ((l.getD j default).n : Int)) := (hT.2.2.2.2.cell (p := ⟨B, off + j * 2 + 1, none⟩) hBl).trans (hcell j hlt).2
      have HT := Lib.hid hT
      have hok : Rg.Ok s := hT.1.ok
      have HOK := Lib.hid hok
      have hjz : (j : Int) < (n0 : Int) := by omega
      clear hBl hcell hT hok
      generalize (l.getD j default).kind = kd at *
      generalize (l.getD j default).n = n at *
      by_cases hk0 : kd = 0
      · subst hk0
        go_wp2_with fail
        refine (two_add HT.out n).mono ?_
        rintro e w2 ⟨rfl, g', hh⟩
        have HH := Lib.hid hh
        clear hh f0 f1
        go_wp2_with fail
        refine (half_add n HOK.out HH.out (by omega)).mono ?_
        rintro e w3 ⟨rfl, ht⟩
        generalize (Rg.add n s).2 = s3 at *
        generalize (Rg.add n s).1 = r3 at *
        clear HT HH HOK
        have HT := Lib.hid ht
        clear ht
        go_wp2
        refine wp_region_held_drew (S := (Two w A g' (A + 1) (j + 1) s3)) (by kernel_rfl) (HT.out.kept (below_drewN (Below.refl _ _) 1)) (fun hHeld => ?_)
        refine wpAnyH_take (i := 0) (oi := ?_) (v := ?_) ?_ ?_ ?_ ?_ ?_ ?_ (by assumption) ?_
        rotate_left 2
        · simp only [List.getElem?_toArray, List.getElem?_cons_zero, List.getElem?_cons_succ]
          rfl
        · kernel_rfl
        · kernel_rfl
        · kernel_rfl
        · exact fun _ _ _ h => h
        · refine Or.inl ⟨by rfl, ?_⟩
          intro w hSw
          (try dsimp only at hSw)
          go_simp
          all_goals with_reducible rfl
        simp only [Act.put, List.setIfInBounds_toArray, List.set_cons_zero, List.set_cons_succ]
        refine wpAnyH_take (i := 1) (oi := ?_) (v := ?_) ?_ ?_ ?_ ?_ ?_ ?_ (by assumption) ?_
        rotate_left 2
        · simp only [List.getElem?_toArray, List.getElem?_cons_zero, List.getElem?_cons_succ]
          rfl
        · kernel_rfl
        · kernel_rfl
        · kernel_rfl
        · exact fun _ _ _ h => h
        · refine Or.inl ⟨by rfl, ?_⟩
          intro w hSw
          (try dsimp only at hSw)
          go_simp
          all_goals with_reducible rfl
        simp only [Act.put, List.setIfInBounds_toArray, List.set_cons_zero, List.set_cons_succ]
        refine wpAnyH_take (i := 2) (oi := ?_) (v := ?_) ?_ ?_ ?_ ?_ ?_ ?_ (by assumption) ?_
        rotate_left 2
        · simp only [List.getElem?_toArray, List.getElem?_cons_zero, List.getElem?_cons_succ]
          rfl
        · kernel_rfl
        · kernel_rfl
        · kernel_rfl
        · exact fun _ _ _ h => h
        · refine Or.inl ⟨by rfl, ?_⟩
          intro w hSw
          (try dsimp only at hSw)
          go_simp
          all_goals with_reducible rfl
        simp only [Act.put, List.setIfInBounds_toArray, List.set_cons_zero, List.set_cons_succ]
        refine wpAnyH_take (i := 3) (oi := ?_) (v := ?_) ?_ ?_ ?_ ?_ ?_ ?_ (by assumption) ?_
        rotate_left 2
        · simp only [List.getElem?_toArray, List.getElem?_cons_zero, List.getElem?_cons_succ]
          rfl
        · kernel_rfl
        · kernel_rfl
        · kernel_rfl
        · exact fun _ _ _ h => h
        · refine Or.inl ⟨by rfl, ?_⟩
          intro w hSw
          (try dsimp only at hSw)
          go_simp
          all_goals with_reducible rfl
        simp only [Act.put, List.setIfInBounds_toArray, List.set_cons_zero, List.set_cons_succ]
        refine wpAnyH_take (i := 5) (oi := ?_) (v := ?_) ?_ ?_ ?_ ?_ ?_ ?_ (by assumption) ?_
        rotate_left 2
        · simp only [List.getElem?_toArray, List.getElem?_cons_zero, List.getElem?_cons_succ]
          rfl
        · kernel_rfl
        · kernel_rfl
        · kernel_rfl
        · exact fun _ _ _ h => h
        · refine Or.inl ⟨by rfl, ?_⟩
          intro w hSw
          (try dsimp only at hSw)
          go_simp
          all_goals with_reducible rfl
        simp only [Act.put, List.setIfInBounds_toArray, List.set_cons_zero, List.set_cons_succ]
        refine wpAnyH_ready (rs := [4]) (by kernel_rfl) (by simp) ?_
        refine AllReadyH.cons (o := ?_) ?_ (fun KK hKK => ?_) AllReadyH.nil
        rotate_left
        · simp only [List.getElem?_toArray, List.getElem?_cons_zero, List.getElem?_cons_succ]
          rfl
        go_simp
        refine (shas_any _ A g' n s3 _ hHeld.1).mono ?_; rintro e wa ⟨rfl, -, hq⟩
        try go_wp2_with fail
        refine hKK.out _ _ ?_ (fun ha => ?_)
        · (try dsimp only)
          exact Two.kept hHeld hq
        clear hKK KK
        try simp only [Act.put, List.setIfInBounds_toArray, List.set_cons_zero, List.set_cons_succ]
        refine wpAnyH_ready (rs := [6]) (by kernel_rfl) (by simp) ?_
        refine AllReadyH.cons (o := ?_) ?_ (fun KK hKK => ?_) AllReadyH.nil
        rotate_left
        · simp only [List.getElem?_toArray, List.getElem?_cons_zero, List.getElem?_cons_succ]
          rfl
        go_simp
        refine (refHas_any _ _ (A + 1) n s3 _ ha.doc).mono ?_; rintro e wb ⟨rfl, rfl⟩
        try go_wp2_with fail
        refine hKK.out _ _ ?_ (fun hb => ?_)
        · (try dsimp only)
          exact ha
        clear hKK KK
        try simp only [Act.put, List.setIfInBounds_toArray, List.set_cons_zero, List.set_cons_succ]
        refine wpAnyH_take (i := 7) (oi := ?_) (v := ?_) ?_ ?_ ?_ ?_ ?_ ?_ (by assumption) ?_
        rotate_left 2
        · simp only [List.getElem?_toArray, List.getElem?_cons_zero, List.getElem?_cons_succ]
          rfl
        · kernel_rfl
        · kernel_rfl
        · kernel_rfl
        · exact fun _ _ _ h => h
        · refine Or.inl ⟨by rfl, ?_⟩
          intro w hSw
          (try dsimp only at hSw)
          go_simp
          all_goals with_reducible rfl
        simp only [Act.put, List.setIfInBounds_toArray, List.set_cons_zero, List.set_cons_succ]
        refine wpAnyH_take (i := 8) (oi := ?_) (v := ?_) ?_ ?_ ?_ ?_ ?_ ?_ (by assumption) ?_
        rotate_left 2
        · simp only [List.getElem?_toArray, List.getElem?_cons_zero, List.getElem?_cons_succ]
          rfl
        · kernel_rfl
        · kernel_rfl
        · kernel_rfl
        · exact fun _ _ _ h => h
        · refine Or.inl ⟨by rfl, ?_⟩
          intro w hSw
          (try dsimp only at hSw)
          go_simp
          all_goals with_reducible rfl
        simp only [Act.put, List.setIfInBounds_toArray, List.set_cons_zero, List.set_cons_succ]
        refine wpAnyH_take (i := 9) (oi := ?_) (v := ?_) ?_ ?_ ?_ ?_ ?_ ?_ (by assumption) ?_
        rotate_left 2
        · simp only [List.getElem?_toArray, List.getElem?_cons_zero, List.getElem?_cons_succ]
          rfl
        · kernel_rfl
        · kernel_rfl
        · kernel_rfl
        · exact fun _ _ _ h => h
        · refine Or.inl ⟨by rfl, ?_⟩
          intro w hSw
          (try dsimp only at hSw)
          go_simp
          all_goals with_reducible rfl
        simp only [Act.put, List.setIfInBounds_toArray, List.set_cons_zero, List.set_cons_succ]
        refine wpAnyH_take (i := 10) (oi := ?_) (v := ?_) ?_ ?_ ?_ ?_ ?_ ?_ (by assumption) ?_
        rotate_left 2
        · simp only [List.getElem?_toArray, List.getElem?_cons_zero, List.getElem?_cons_succ]
          rfl
        · kernel_rfl
        · kernel_rfl
        · kernel_rfl
        · exact fun _ _ _ h => h
        · refine Or.inl ⟨by rfl, ?_⟩
          intro w hSw
          (try dsimp only at hSw)
          go_simp
          all_goals with_reducible rfl
        simp only [Act.put, List.setIfInBounds_toArray, List.set_cons_zero, List.set_cons_succ]
        refine wpAnyH_take (i := 12) (oi := ?_) (v := ?_) ?_ ?_ ?_ ?_ ?_ ?_ (by assumption) ?_
        rotate_left 2
        · simp only [List.getElem?_toArray, List.getElem?_cons_zero, List.getElem?_cons_succ]
          rfl
        · kernel_rfl
        · kernel_rfl
        · kernel_rfl
        · exact fun _ _ _ h => h
        · refine Or.inl ⟨by rfl, ?_⟩
          intro w hSw
          (try dsimp only at hSw)
          go_simp
          all_goals with_reducible rfl
        simp only [Act.put, List.setIfInBounds_toArray, List.set_cons_zero, List.set_cons_succ]
        refine wpAnyH_take (i := 13) (oi := ?_) (v := ?_) ?_ ?_ ?_ ?_ ?_ ?_ (by assumption) ?_
        rotate_left 2
        · simp only [List.getElem?_toArray, List.getElem?_cons_zero, List.getElem?_cons_succ]
          rfl
        · kernel_rfl
        · kernel_rfl
        · kernel_rfl
        · exact fun _ _ _ h => h
        · refine Or.inl ⟨by rfl, ?_⟩
          intro w hSw
          (try dsimp only at hSw)
          go_simp
          all_goals with_reducible rfl
        simp only [Act.put, List.setIfInBounds_toArray, List.set_cons_zero, List.set_cons_succ]
        refine wpAnyH_take (i := 14) (oi := ?_) (v := ?_) ?_ ?_ ?_ ?_ ?_ ?_ (by assumption) ?_
        rotate_left 2
        · simp only [List.getElem?_toArray, List.getElem?_cons_zero, List.getElem?_cons_succ]
          rfl
        · kernel_rfl
        · kernel_rfl
        · kernel_rfl
        · exact fun _ _ _ h => h
        · refine Or.inl ⟨by rfl, ?_⟩
          intro w' hSw
          have q := hSw.low
          go_simp
          all_goals with_reducible rfl
        simp only [Act.put, List.setIfInBounds_toArray, List.set_cons_zero, List.set_cons_succ]
        refine wpAnyH_take (i := 15) (oi := ?_) (v := ?_) ?_ ?_ ?_ ?_ ?_ ?_ (by assumption) ?_
        rotate_left 2
        · simp only [List.getElem?_toArray, List.getElem?_cons_zero, List.getElem?_cons_succ]
          rfl
        · kernel_rfl
        · kernel_rfl
        · kernel_rfl
        · exact fun _ _ _ h => h
        · refine Or.inl ⟨by rfl, ?_⟩
          intro w hSw
          (try dsimp only at hSw)
          go_simp
          all_goals with_reducible rfl
        simp only [Act.put, List.setIfInBounds_toArray, List.set_cons_zero, List.set_cons_succ]
        refine wpAnyH_ready (rs := [11]) (by kernel_rfl) (by simp) ?_
        refine AllReadyH.cons (o := ?_) ?_ (fun KK hKK => ?_) AllReadyH.nil
        rotate_left
        · simp only [List.getElem?_toArray, List.getElem?_cons_zero, List.getElem?_cons_succ]
          rfl
        go_simp
        refine (sold_any _ A g' n s3 _ hb.1).mono ?_; rintro e wc ⟨rfl, rfl⟩
        try go_wp2_with fail
        refine hKK.out _ _ ?_ (fun hc => ?_)
        · (try dsimp only)
          exact hb
        clear hKK KK
        try simp only [Act.put, List.setIfInBounds_toArray, List.set_cons_zero, List.set_cons_succ]
        refine wpAnyH_take (i := 16) (oi := ?_) (v := ?_) ?_ ?_ ?_ ?_ ?_ ?_ (by assumption) ?_
        rotate_left 2
        · simp only [List.getElem?_toArray, List.getElem?_cons_zero, List.getElem?_cons_succ]
          rfl
        · kernel_rfl
        · kernel_rfl
        · kernel_rfl
        · exact fun _ _ _ h => h
        · refine Or.inl ⟨by rfl, ?_⟩
          intro w hSw
          (try dsimp only at hSw)
          go_simp
          all_goals with_reducible rfl
        simp only [Act.put, List.setIfInBounds_toArray, List.set_cons_zero, List.set_cons_succ]
        refine wpAnyH_take (i := 17) (oi := ?_) (v := ?_) ?_ ?_ ?_ ?_ ?_ ?_ (by assumption) ?_
        rotate_left 2
        · simp only [List.getElem?_toArray, List.getElem?_cons_zero, List.getElem?_cons_succ]
          rfl
        · kernel_rfl
        · kernel_rfl
        · kernel_rfl
        · exact fun _ _ _ h => h
        · refine Or.inl ⟨by rfl, ?_⟩
          intro w hSw
          (try dsimp only at hSw)
          go_simp
          all_goals with_reducible rfl
        simp only [Act.put, List.setIfInBounds_toArray, List.set_cons_zero, List.set_cons_succ]
        refine wpAnyH_take (i := 18) (oi := ?_) (v := ?_) ?_ ?_ ?_ ?_ ?_ ?_ (by assumption) ?_
        rotate_left 2
        · simp only [List.getElem?_toArray, List.getElem?_cons_zero, List.getElem?_cons_succ]
          rfl
        · kernel_rfl
        · kernel_rfl
        · kernel_rfl
        · exact fun _ _ _ h => h
        · refine Or.inl ⟨by rfl, ?_⟩
          intro w hSw
          (try dsimp only at hSw)
          go_simp
          all_goals with_reducible rfl
        simp only [Act.put, List.setIfInBounds_toArray, List.set_cons_zero, List.set_cons_succ]
        refine wpAnyH_ready (rs := [19]) (by kernel_rfl) (by simp) ?_
        refine AllReadyH.cons (o := ?_) ?_ (fun KK hKK => ?_) AllReadyH.nil
        rotate_left
        · simp only [List.getElem?_toArray, List.getElem?_cons_zero, List.getElem?_cons_succ]
          rfl
        go_simp
        refine (slargest_any _ A g' s3 _ hc.1).mono ?_; rintro e wd ⟨rfl, rfl⟩
        try go_wp2_with fail
        refine hKK.out _ _ ?_ (fun hd => ?_)
        · (try dsimp only)
          exact hc
        clear hKK KK
        try simp only [Act.put, List.setIfInBounds_toArray, List.set_cons_zero, List.set_cons_succ]
        refine wpAnyH_ready (rs := [20]) (by kernel_rfl) (by simp) ?_
        refine AllReadyH.cons (o := ?_) ?_ (fun KK hKK => ?_) AllReadyH.nil
        rotate_left
        · simp only [List.getElem?_toArray, List.getElem?_cons_zero, List.getElem?_cons_succ]
          rfl
        go_simp
        refine (refLargest_any _ _ (A + 1) s3 _ hd.doc).mono ?_; rintro e we ⟨rfl, qe, rfl⟩
        try go_wp2_with fail
        refine hKK.out _ _ ?_ (fun he => ?_)
        · (try dsimp only)
          exact Two.kept hd (below_drewN (Below.refl _ _) _)
        clear hKK KK
        try simp only [Act.put, List.setIfInBounds_toArray, List.set_cons_zero, List.set_cons_succ]
        refine wpAnyH_take (i := 21) (oi := ?_) (v := ?_) ?_ ?_ ?_ ?_ ?_ ?_ (by assumption) ?_
        rotate_left 2
        · simp only [List.getElem?_toArray, List.getElem?_cons_zero, List.getElem?_cons_succ]
          rfl
        · kernel_rfl
        · kernel_rfl
        · kernel_rfl
        · exact fun _ _ _ h => h
        · refine Or.inl ⟨by rfl, ?_⟩
          intro w hSw
          (try dsimp only at hSw)
          go_simp
          all_goals with_reducible rfl
        simp only [Act.put, List.setIfInBounds_toArray, List.set_cons_zero, List.set_cons_succ]
        refine wpAnyH_take (i := 22) (oi := ?_) (v := ?_) ?_ ?_ ?_ ?_ ?_ ?_ (by assumption) ?_
        rotate_left 2
        · simp only [List.getElem?_toArray, List.getElem?_cons_zero, List.getElem?_cons_succ]
          rfl
        · kernel_rfl
        · kernel_rfl
        · kernel_rfl
        · exact fun _ _ _ h => h
        · refine Or.inl ⟨by rfl, ?_⟩
          intro w hSw
          (try dsimp only at hSw)
          go_simp
          all_goals with_reducible rfl
        simp only [Act.put, List.setIfInBounds_toArray, List.set_cons_zero, List.set_cons_succ]
        refine wpAnyH_take (i := 23) (oi := ?_) (v := ?_) ?_ ?_ ?_ ?_ ?_ ?_ (by assumption) ?_
        rotate_left 2
        · simp only [List.getElem?_toArray, List.getElem?_cons_zero, List.getElem?_cons_succ]
          rfl
        · kernel_rfl
        · kernel_rfl
        · kernel_rfl
        · exact fun _ _ _ h => h
        · refine Or.inl ⟨by rfl, ?_⟩
          intro w hSw
          (try dsimp only at hSw)
          go_simp
          all_goals with_reducible rfl
        simp only [Act.put, List.setIfInBounds_toArray, List.set_cons_zero, List.set_cons_succ]
        refine wpAnyH_ready (rs := [24]) (by kernel_rfl) (by simp) ?_
        refine AllReadyH.cons (o := ?_) ?_ (fun KK hKK => ?_) AllReadyH.nil
        rotate_left
        · simp only [List.getElem?_toArray, List.getElem?_cons_zero, List.getElem?_cons_succ]
          rfl
        go_simp
        refine (sranges_any _ A g' s3 _ he.1).mono ?_; rintro e wf ⟨vf, gf, rfl, hrf, -, -, hq⟩
        try go_wp2_with fail
        refine hKK.out _ _ ?_ (fun hf => ?_)
        · (try dsimp only)
          exact Two.kept he hq
        clear hKK KK
        try simp only [Act.put, List.setIfInBounds_toArray, List.set_cons_zero, List.set_cons_succ]
        refine wpAnyH_ready (rs := [25]) (by kernel_rfl) (by simp) ?_
        refine AllReadyH.cons (o := ?_) ?_ (fun KK hKK => ?_) AllReadyH.nil
        rotate_left
        · simp only [List.getElem?_toArray, List.getElem?_cons_zero, List.getElem?_cons_succ]
          rfl
        go_simp
        refine (refRanges_any _ _ (A + 1) s3 _ (by omega) hf.doc).mono ?_; rintro e wg ⟨vg, gg, rfl, hrg, -, hq2⟩
        try go_wp2_with fail
        refine hKK.out _ _ ?_ (fun hg => ?_)
        · (try dsimp only)
          exact Two.kept hf hq2
        clear hKK KK
        try simp only [Act.put, List.setIfInBounds_toArray, List.set_cons_zero, List.set_cons_succ]
        refine wpAnyH_ready (rs := [26]) (by kernel_rfl) (by simp) ?_
        refine AllReadyH.cons (o := ?_) ?_ (fun KK hKK => ?_) AllReadyH.nil
        rotate_left
        · simp only [List.getElem?_toArray, List.getElem?_cons_zero, List.getElem?_cons_succ]
          rfl
        go_simp
        refine (refSame_any gf gg _ _ _ _ (hrf.kept hq2) hrg (by have := hf.1.ok.len; omega)).mono ?_; rintro e wh ⟨rfl, hq3⟩
        try go_wp2_with fail
        refine hKK.out _ _ ?_ (fun hh => ?_)
        · (try dsimp only)
          exact Two.kept hg hq3
        clear hKK KK
        try simp only [Act.put, List.setIfInBounds_toArray, List.set_cons_zero, List.set_cons_succ]
        refine wpAnyH_take (i := 27) (oi := ?_) (v := ?_) ?_ ?_ ?_ ?_ ?_ ?_ (by assumption) ?_
        rotate_left 2
        · simp only [List.getElem?_toArray, List.getElem?_cons_zero, List.getElem?_cons_succ]
          rfl
        · kernel_rfl
        · kernel_rfl
        · kernel_rfl
        · exact fun _ _ _ h => h
        · refine Or.inl ⟨by rfl, ?_⟩
          intro w hSw
          (try dsimp only at hSw)
          go_simp
          all_goals with_reducible rfl
        simp only [Act.put, List.setIfInBounds_toArray, List.set_cons_zero, List.set_cons_succ]
        refine wpAnyH_take (i := 28) (oi := ?_) (v := ?_) ?_ ?_ ?_ ?_ ?_ ?_ (by assumption) ?_
        rotate_left 2
        · simp only [List.getElem?_toArray, List.getElem?_cons_zero, List.getElem?_cons_succ]
          rfl
        · kernel_rfl
        · kernel_rfl
        · kernel_rfl
        · exact fun _ _ _ h => h
        · refine Or.inl ⟨by rfl, ?_⟩
          intro w hSw
          (try dsimp only at hSw)
          go_simp
          all_goals with_reducible rfl
        simp only [Act.put, List.setIfInBounds_toArray, List.set_cons_zero, List.set_cons_succ]
        refine wpAnyH_done (by kernel_rfl) ?_ _
        have HE := Lib.hid hh
        clear hHeld ha hb hc hd he hf hg hh hrf hrg hq hq2 hq3
        go_wp2
        go_roundw
        case rel => exact ⟨j + 1, s3, g', by omega, by go_num, HE.out⟩
        case measure => simp [intOf]; omega
      · have hkz : (kd == 0) = false := by simp [hk0]
        go_wp2_with fail
        refine (two_forget HT.out n).mono ?_
        rintro e w2 ⟨rfl, g', hh⟩
        have HH := Lib.hid hh
        clear hh f0 f1
        go_wp2_with fail
        refine (half_forget n HH.out (by omega)).mono ?_
        rintro e w3 ⟨rfl, ht⟩
        generalize (Rg.forget n s).2 = s3 at *
        generalize (Rg.forget n s).1 = r3 at *
        clear HT HH HOK
        have HT := Lib.hid ht
        clear ht
        go_wp2
        refine wp_region_held_drew (S := (Two w A g' (A + 1) (j + 1) s3)) (by kernel_rfl) (HT.out.kept (below_drewN (Below.refl _ _) 1)) (fun hHeld => ?_)
        refine wpAnyH_take (i := 0) (oi := ?_) (v := ?_) ?_ ?_ ?_ ?_ ?_ ?_ (by assumption) ?_
        rotate_left 2
        · simp only [List.getElem?_toArray, List.getElem?_cons_zero, List.getElem?_cons_succ]
          rfl
        · kernel_rfl
        · kernel_rfl
        · kernel_rfl
        · exact fun _ _ _ h => h
        · refine Or.inl ⟨by rfl, ?_⟩
          intro w hSw
          (try dsimp only at hSw)
          go_simp
          all_goals with_reducible rfl
        simp only [Act.put, List.setIfInBounds_toArray, List.set_cons_zero, List.set_cons_succ]
        refine wpAnyH_take (i := 1) (oi := ?_) (v := ?_) ?_ ?_ ?_ ?_ ?_ ?_ (by assumption) ?_
        rotate_left 2
        · simp only [List.getElem?_toArray, List.getElem?_cons_zero, List.getElem?_cons_succ]
          rfl
        · kernel_rfl
        · kernel_rfl
        · kernel_rfl
        · exact fun _ _ _ h => h
        · refine Or.inl ⟨by rfl, ?_⟩
          intro w hSw
          (try dsimp only at hSw)
          go_simp
          all_goals with_reducible rfl
        simp only [Act.put, List.setIfInBounds_toArray, List.set_cons_zero, List.set_cons_succ]
        refine wpAnyH_take (i := 2) (oi := ?_) (v := ?_) ?_ ?_ ?_ ?_ ?_ ?_ (by assumption) ?_
        rotate_left 2
        · simp only [List.getElem?_toArray, List.getElem?_cons_zero, List.getElem?_cons_succ]
          rfl
        · kernel_rfl
        · kernel_rfl
        · kernel_rfl
        · exact fun _ _ _ h => h
        · refine Or.inl ⟨by rfl, ?_⟩
          intro w hSw
          (try dsimp only at hSw)
          go_simp
          all_goals with_reducible rfl
        simp only [Act.put, List.setIfInBounds_toArray, List.set_cons_zero, List.set_cons_succ]
        refine wpAnyH_take (i := 3) (oi := ?_) (v := ?_) ?_ ?_ ?_ ?_ ?_ ?_ (by assumption) ?_
        rotate_left 2
        · simp only [List.getElem?_toArray, List.getElem?_cons_zero, List.getElem?_cons_succ]
          rfl
        · kernel_rfl
        · kernel_rfl
        · kernel_rfl
        · exact fun _ _ _ h => h
        · refine Or.inl ⟨by rfl, ?_⟩
          intro w hSw
          (try dsimp only at hSw)
          go_simp
          all_goals with_reducible rfl
        simp only [Act.put, List.setIfInBounds_toArray, List.set_cons_zero, List.set_cons_succ]
        refine wpAnyH_take (i := 5) (oi := ?_) (v := ?_) ?_ ?_ ?_ ?_ ?_ ?_ (by assumption) ?_
        rotate_left 2
        · simp only [List.getElem?_toArray, List.getElem?_cons_zero, List.getElem?_cons_succ]
          rfl
        · kernel_rfl
        · kernel_rfl
        · kernel_rfl
        · exact fun _ _ _ h => h
        · refine Or.inl ⟨by rfl, ?_⟩
          intro w hSw
          (try dsimp only at hSw)
          go_simp
          all_goals with_reducible rfl
        simp only [Act.put, List.setIfInBounds_toArray, List.set_cons_zero, List.set_cons_succ]
        refine wpAnyH_ready (rs := [4]) (by kernel_rfl) (by simp) ?_
        refine AllReadyH.cons (o := ?_) ?_ (fun KK hKK => ?_) AllReadyH.nil
        rotate_left
        · simp only [List.getElem?_toArray, List.getElem?_cons_zero, List.getElem?_cons_succ]
          rfl
        go_simp
        refine (shas_any _ A g' n s3 _ hHeld.1).mono ?_; rintro e wa ⟨rfl, -, hq⟩
        try go_wp2_with fail
        refine hKK.out _ _ ?_ (fun ha => ?_)
        · (try dsimp only)
          exact Two.kept hHeld hq
        clear hKK KK
        try simp only [Act.put, List.setIfInBounds_toArray, List.set_cons_zero, List.set_cons_succ]
        refine wpAnyH_ready (rs := [6]) (by kernel_rfl) (by simp) ?_
        refine AllReadyH.cons (o := ?_) ?_ (fun KK hKK => ?_) AllReadyH.nil
        rotate_left
        · simp only [List.getElem?_toArray, List.getElem?_cons_zero, List.getElem?_cons_succ]
          rfl
        go_simp
        refine (refHas_any _ _ (A + 1) n s3 _ ha.doc).mono ?_; rintro e wb ⟨rfl, rfl⟩
        try go_wp2_with fail
        refine hKK.out _ _ ?_ (fun hb => ?_)
        · (try dsimp only)
          exact ha
        clear hKK KK
        try simp only [Act.put, List.setIfInBounds_toArray, List.set_cons_zero, List.set_cons_succ]
        refine wpAnyH_take (i := 7) (oi := ?_) (v := ?_) ?_ ?_ ?_ ?_ ?_ ?_ (by assumption) ?_
        rotate_left 2
        · simp only [List.getElem?_toArray, List.getElem?_cons_zero, List.getElem?_cons_succ]
          rfl
        · kernel_rfl
        · kernel_rfl
        · kernel_rfl
        · exact fun _ _ _ h => h
        · refine Or.inl ⟨by rfl, ?_⟩
          intro w hSw
          (try dsimp only at hSw)
          go_simp
          all_goals with_reducible rfl
        simp only [Act.put, List.setIfInBounds_toArray, List.set_cons_zero, List.set_cons_succ]
        refine wpAnyH_take (i := 8) (oi := ?_) (v := ?_) ?_ ?_ ?_ ?_ ?_ ?_ (by assumption) ?_
        rotate_left 2
        · simp only [List.getElem?_toArray, List.getElem?_cons_zero, List.getElem?_cons_succ]
          rfl
        · kernel_rfl
        · kernel_rfl
        · kernel_rfl
        · exact fun _ _ _ h => h
        · refine Or.inl ⟨by rfl, ?_⟩
          intro w hSw
          (try dsimp only at hSw)
          go_simp
          all_goals with_reducible rfl
        simp only [Act.put, List.setIfInBounds_toArray, List.set_cons_zero, List.set_cons_succ]
        refine wpAnyH_take (i := 9) (oi := ?_) (v := ?_) ?_ ?_ ?_ ?_ ?_ ?_ (by assumption) ?_
        rotate_left 2
        · simp only [List.getElem?_toArray, List.getElem?_cons_zero, List.getElem?_cons_succ]
          rfl
        · kernel_rfl
        · kernel_rfl
        · kernel_rfl
        · exact fun _ _ _ h => h
        · refine Or.inl ⟨by rfl, ?_⟩
          intro w hSw
          (try dsimp only at hSw)
          go_simp
          all_goals with_reducible rfl
        simp only [Act.put, List.setIfInBounds_toArray, List.set_cons_zero, List.set_cons_succ]
        refine wpAnyH_take (i := 10) (oi := ?_) (v := ?_) ?_ ?_ ?_ ?_ ?_ ?_ (by assumption) ?_
        rotate_left 2
        · simp only [List.getElem?_toArray, List.getElem?_cons_zero, List.getElem?_cons_succ]
          rfl
        · kernel_rfl
        · kernel_rfl
        · kernel_rfl
        · exact fun _ _ _ h => h
        · refine Or.inl ⟨by rfl, ?_⟩
          intro w hSw
          (try dsimp only at hSw)
          go_simp
          all_goals with_reducible rfl
        simp only [Act.put, List.setIfInBounds_toArray, List.set_cons_zero, List.set_cons_succ]
        refine wpAnyH_take (i := 12) (oi := ?_) (v := ?_) ?_ ?_ ?_ ?_ ?_ ?_ (by assumption) ?_
        rotate_left 2
        · simp only [List.getElem?_toArray, List.getElem?_cons_zero, List.getElem?_cons_succ]
          rfl
        · kernel_rfl
        · kernel_rfl
        · kernel_rfl
        · exact fun _ _ _ h => h
        · refine Or.inl ⟨by rfl, ?_⟩
          intro w hSw
          (try dsimp only at hSw)
          go_simp
          all_goals with_reducible rfl
        simp only [Act.put, List.setIfInBounds_toArray, List.set_cons_zero, List.set_cons_succ]
        refine wpAnyH_take (i := 13) (oi := ?_) (v := ?_) ?_ ?_ ?_ ?_ ?_ ?_ (by assumption) ?_
        rotate_left 2
        · simp only [List.getElem?_toArray, List.getElem?_cons_zero, List.getElem?_cons_succ]
          rfl
        · kernel_rfl
        · kernel_rfl
        · kernel_rfl
        · exact fun _ _ _ h => h
        · refine Or.inl ⟨by rfl, ?_⟩
          intro w hSw
          (try dsimp only at hSw)
          go_simp
          all_goals with_reducible rfl
        simp only [Act.put, List.setIfInBounds_toArray, List.set_cons_zero, List.set_cons_succ]
        refine wpAnyH_take (i := 14) (oi := ?_) (v := ?_) ?_ ?_ ?_ ?_ ?_ ?_ (by assumption) ?_
        rotate_left 2
        · simp only [List.getElem?_toArray, List.getElem?_cons_zero, List.getElem?_cons_succ]
          rfl
        · kernel_rfl
        · kernel_rfl
        · kernel_rfl
        · exact fun _ _ _ h => h
        · refine Or.inl ⟨by rfl, ?_⟩
          intro w' hSw
          have q := hSw.low
          go_simp
          all_goals with_reducible rfl
        simp only [Act.put, List.setIfInBounds_toArray, List.set_cons_zero, List.set_cons_succ]
        refine wpAnyH_take (i := 15) (oi := ?_) (v := ?_) ?_ ?_ ?_ ?_ ?_ ?_ (by assumption) ?_
        rotate_left 2
        · simp only [List.getElem?_toArray, List.getElem?_cons_zero, List.getElem?_cons_succ]
          rfl
        · kernel_rfl
        · kernel_rfl
        · kernel_rfl
        · exact fun _ _ _ h => h
        · refine Or.inl ⟨by rfl, ?_⟩
          intro w hSw
          (try dsimp only at hSw)
          go_simp
          all_goals with_reducible rfl
        simp only [Act.put, List.setIfInBounds_toArray, List.set_cons_zero, List.set_cons_succ]
        refine wpAnyH_ready (rs := [11]) (by kernel_rfl) (by simp) ?_
        refine AllReadyH.cons (o := ?_) ?_ (fun KK hKK => ?_) AllReadyH.nil
        rotate_left
        · simp only [List.getElem?_toArray, List.getElem?_cons_zero, List.getElem?_cons_succ]
          rfl
        go_simp
        refine (sold_any _ A g' n s3 _ hb.1).mono ?_; rintro e wc ⟨rfl, rfl⟩
        try go_wp2_with fail
        refine hKK.out _ _ ?_ (fun hc => ?_)
        · (try dsimp only)
          exact hb
        clear hKK KK
        try simp only [Act.put, List.setIfInBounds_toArray, List.set_cons_zero, List.set_cons_succ]
        refine wpAnyH_take (i := 16) (oi := ?_) (v := ?_) ?_ ?_ ?_ ?_ ?_ ?_ (by assumption) ?_
        rotate_left 2
        · simp only [List.getElem?_toArray, List.getElem?_cons_zero, List.getElem?_cons_succ]
          rfl
        · kernel_rfl
        · kernel_rfl
        · kernel_rfl
        · exact fun _ _ _ h => h
        · refine Or.inl ⟨by rfl, ?_⟩
          intro w hSw
          (try dsimp only at hSw)
          go_simp
          all_goals with_reducible rfl
        simp only [Act.put, List.setIfInBounds_toArray, List.set_cons_zero, List.set_cons_succ]
        refine wpAnyH_take (i := 17) (oi := ?_) (v := ?_) ?_ ?_ ?_ ?_ ?_ ?_ (by assumption) ?_
        rotate_left 2
        · simp only [List.getElem?_toArray, List.getElem?_cons_zero, List.getElem?_cons_succ]
          rfl
        · kernel_rfl
        · kernel_rfl
        · kernel_rfl
        · exact fun _ _ _ h => h
        · refine Or.inl ⟨by rfl, ?_⟩
          intro w hSw
          (try dsimp only at hSw)
          go_simp
          all_goals with_reducible rfl
        simp only [Act.put, List.setIfInBounds_toArray, List.set_cons_zero, List.set_cons_succ]
        refine wpAnyH_take (i := 18) (oi := ?_) (v := ?_) ?_ ?_ ?_ ?_ ?_ ?_ (by assumption) ?_
        rotate_left 2
        · simp only [List.getElem?_toArray, List.getElem?_cons_zero, List.getElem?_cons_succ]
          rfl
        · kernel_rfl
        · kernel_rfl
        · kernel_rfl
        · exact fun _ _ _ h => h
        · refine Or.inl ⟨by rfl, ?_⟩
          intro w hSw
          (try dsimp only at hSw)
          go_simp
          all_goals with_reducible rfl
        simp only [Act.put, List.setIfInBounds_toArray, List.set_cons_zero, List.set_cons_succ]
        refine wpAnyH_ready (rs := [19]) (by kernel_rfl) (by simp) ?_
        refine AllReadyH.cons (o := ?_) ?_ (fun KK hKK => ?_) AllReadyH.nil
        rotate_left
        · simp only [List.getElem?_toArray, List.getElem?_cons_zero, List.getElem?_cons_succ]
          rfl
        go_simp
        refine (slargest_any _ A g' s3 _ hc.1).mono ?_; rintro e wd ⟨rfl, rfl⟩
        try go_wp2_with fail
        refine hKK.out _ _ ?_ (fun hd => ?_)
        · (try dsimp only)
          exact hc
        clear hKK KK
        try simp only [Act.put, List.setIfInBounds_toArray, List.set_cons_zero, List.set_cons_succ]
        refine wpAnyH_ready (rs := [20]) (by kernel_rfl) (by simp) ?_
        refine AllReadyH.cons (o := ?_) ?_ (fun KK hKK => ?_) AllReadyH.nil
        rotate_left
        · simp only [List.getElem?_toArray, List.getElem?_cons_zero, List.getElem?_cons_succ]
          rfl
        go_simp
        refine (refLargest_any _ _ (A + 1) s3 _ hd.doc).mono ?_; rintro e we ⟨rfl, qe, rfl⟩
        try go_wp2_with fail
        refine hKK.out _ _ ?_ (fun he => ?_)
        · (try dsimp only)
          exact Two.kept hd (below_drewN (Below.refl _ _) _)
        clear hKK KK
        try simp only [Act.put, List.setIfInBounds_toArray, List.set_cons_zero, List.set_cons_succ]
        refine wpAnyH_take (i := 21) (oi := ?_) (v := ?_) ?_ ?_ ?_ ?_ ?_ ?_ (by assumption) ?_
        rotate_left 2
        · simp only [List.getElem?_toArray, List.getElem?_cons_zero, List.getElem?_cons_succ]
          rfl
        · kernel_rfl
        · kernel_rfl
        · kernel_rfl
        · exact fun _ _ _ h => h
        · refine Or.inl ⟨by rfl, ?_⟩
          intro w hSw
          (try dsimp only at hSw)
          go_simp
          all_goals with_reducible rfl
        simp only [Act.put, List.setIfInBounds_toArray, List.set_cons_zero, List.set_cons_succ]
        refine wpAnyH_take (i := 22) (oi := ?_) (v := ?_) ?_ ?_ ?_ ?_ ?_ ?_ (by assumption) ?_
        rotate_left 2
        · simp only [List.getElem?_toArray, List.getElem?_cons_zero, List.getElem?_cons_succ]
          rfl
        · kernel_rfl
        · kernel_rfl
        · kernel_rfl
        · exact fun _ _ _ h => h
        · refine Or.inl ⟨by rfl, ?_⟩
          intro w hSw
          (try dsimp only at hSw)
          go_simp
          all_goals with_reducible rfl
        simp only [Act.put, List.setIfInBounds_toArray, List.set_cons_zero, List.set_cons_succ]
        refine wpAnyH_take (i := 23) (oi := ?_) (v := ?_) ?_ ?_ ?_ ?_ ?_ ?_ (by assumption) ?_
        rotate_left 2
        · simp only [List.getElem?_toArray, List.getElem?_cons_zero, List.getElem?_cons_succ]
          rfl
        · kernel_rfl
        · kernel_rfl
        · kernel_rfl
        · exact fun _ _ _ h => h
        · refine Or.inl ⟨by rfl, ?_⟩
          intro w hSw
          (try dsimp only at hSw)
          go_simp
          all_goals with_reducible rfl
        simp only [Act.put, List.setIfInBounds_toArray, List.set_cons_zero, List.set_cons_succ]
        refine wpAnyH_ready (rs := [24]) (by kernel_rfl) (by simp) ?_
        refine AllReadyH.cons (o := ?_) ?_ (fun KK hKK => ?_) AllReadyH.nil
        rotate_left
        · simp only [List.getElem?_toArray, List.getElem?_cons_zero, List.getElem?_cons_succ]
          rfl
        go_simp
        refine (sranges_any _ A g' s3 _ he.1).mono ?_; rintro e wf ⟨vf, gf, rfl, hrf, -, -, hq⟩
        try go_wp2_with fail
        refine hKK.out _ _ ?_ (fun hf => ?_)
        · (try dsimp only)
          exact Two.kept he hq
        clear hKK KK
        try simp only [Act.put, List.setIfInBounds_toArray, List.set_cons_zero, List.set_cons_succ]
        refine wpAnyH_ready (rs := [25]) (by kernel_rfl) (by simp) ?_
        refine AllReadyH.cons (o := ?_) ?_ (fun KK hKK => ?_) AllReadyH.nil
        rotate_left
        · simp only [List.getElem?_toArray, List.getElem?_cons_zero, List.getElem?_cons_succ]
          rfl
        go_simp
        refine (refRanges_any _ _ (A + 1) s3 _ (by omega) hf.doc).mono ?_; rintro e wg ⟨vg, gg, rfl, hrg, -, hq2⟩
        try go_wp2_with fail
        refine hKK.out _ _ ?_ (fun hg => ?_)
        · (try dsimp only)
          exact Two.kept hf hq2
        clear hKK KK
        try simp only [Act.put, List.setIfInBounds_toArray, List.set_cons_zero, List.set_cons_succ]
        refine wpAnyH_ready (rs := [26]) (by kernel_rfl) (by simp) ?_
        refine AllReadyH.cons (o := ?_) ?_ (fun KK hKK => ?_) AllReadyH.nil
        rotate_left
        · simp only [List.getElem?_toArray, List.getElem?_cons_zero, List.getElem?_cons_succ]
          rfl
        go_simp
        refine (refSame_any gf gg _ _ _ _ (hrf.kept hq2) hrg (by have := hf.1.ok.len; omega)).mono ?_; rintro e wh ⟨rfl, hq3⟩
        try go_wp2_with fail
        refine hKK.out _ _ ?_ (fun hh => ?_)
        · (try dsimp only)
          exact Two.kept hg hq3
        clear hKK KK
        try simp only [Act.put, List.setIfInBounds_toArray, List.set_cons_zero, List.set_cons_succ]
        refine wpAnyH_take (i := 27) (oi := ?_) (v := ?_) ?_ ?_ ?_ ?_ ?_ ?_ (by assumption) ?_
        rotate_left 2
        · simp only [List.getElem?_toArray, List.getElem?_cons_zero, List.getElem?_cons_succ]
          rfl
        · kernel_rfl
        · kernel_rfl
        · kernel_rfl
        · exact fun _ _ _ h => h
        · refine Or.inl ⟨by rfl, ?_⟩
          intro w hSw
          (try dsimp only at hSw)
          go_simp
          all_goals with_reducible rfl
        simp only [Act.put, List.setIfInBounds_toArray, List.set_cons_zero, List.set_cons_succ]
        refine wpAnyH_take (i := 28) (oi := ?_) (v := ?_) ?_ ?_ ?_ ?_ ?_ ?_ (by assumption) ?_
        rotate_left 2
        · simp only [List.getElem?_toArray, List.getElem?_cons_zero, List.getElem?_cons_succ]
          rfl
        · kernel_rfl
        · kernel_rfl
        · kernel_rfl
        · exact fun _ _ _ h => h
        · refine Or.inl ⟨by rfl, ?_⟩
          intro w hSw
          (try dsimp only at hSw)
          go_simp
          all_goals with_reducible rfl
        simp only [Act.put, List.setIfInBounds_toArray, List.set_cons_zero, List.set_cons_succ]
        refine wpAnyH_done (by kernel_rfl) ?_ _
        have HE := Lib.hid hh
        clear hHeld ha hb hc hd he hf hg hh hrf hrg hq hq2 hq3
        go_wp2
        go_roundw
        case rel => exact ⟨j + 1, s3, g', by omega, by go_num, HE.out⟩
        case measure => simp [intOf]; omega
    · obtain rfl : n0 = j := by omega
      have HT := Lib.hid hT
      clear hlt hj hT
      go_wp2
      go_ret
      exact ⟨rfl, HT.out.2.2.2.2⟩
end Go.Proofs.Ytgbgdbadifagcaa
