/- Layer 16: alive. -/
import Derived.Test.YtghfgekmdcangaaRows
import Derived.Test.YtghfgekmdcangaaAid
import Derived.Test.YtghfgekmdcangaaPlainRs
import Derived.Test.YtghfgekmdcangaaRsW
import Derived.Test.YtghfgekmdcangaaRsA
import Derived.Test.YtghfgekmdcangaaRsD
import Derived.Test.YtghfgekmdcangaaRsG
import Derived.WalkKit
import Derived.OwnWalk
import Derived.Laws.Rows
import Derived.Laws.Tables
import Derived.WalkSpells
import Derived.WalkLawsBesides
import Derived.BigQuiet
import Derived.Handy
import Derived.Lib.Hide
import Derived.Lib.SlBytesConst
import Derived.IntWalk
namespace Go.Proofs.Ytghfgekmdcangaa.Rm
open Go.RowKit Go.Maps
set_option linter.unusedVariables false
set_option linter.unusedSimpArgs false

theorem rb_const (w : World) (l : List Nat) (t : TypeId) (fz : Nat × Nat) : Rb (w.alloc (.cells (l.map b8).toArray t fz)) (some ⟨w.heap.size, 0, none⟩) l := fun hp => by
  refine ⟨_, 0, rfl, by simp, fun j hj => ?_⟩
  rw [cell_of_row _ _ _ _ _ _ (heap_alloc_new w _), Nat.zero_add]
  simp [List.getD_eq_getElem?_getD, hj]
theorem str_any (w : World) (A : Option Addr) (c n : Nat) (l : List Nat) (hn : l.length = n) (hp : 0 < n) (h : Rb w A l) : (convert 22 9 (.slice A n c)).run Try.prog w = .ok (.string (strOfNums (l.map fun (x : Nat) => (x : Int)))) w := by
  subst hn
  obtain ⟨b, off, rfl, _, hc⟩ := h hp
  exact run_convert_bytes_arg (P := Try.prog) w 22 5 Try.underlying22 Try.underlying5 b off l.length c (l.map fun (x : Nat) => (x : Int)) (by simp) (fun i hi => by
    have hc' := hc i (by simpa using hi)
    unfold b8 at hc'
    have : Addr.add ⟨b, off, none⟩ i = ⟨b, off + i, none⟩ := by
      unfold Addr.add
      by_cases h0 : i = 0
      · subst h0; simp
      · simp [h0]
    first
    | (rw [this, hc']; simp [List.getD_eq_getElem?_getD, hi])
    | (rw [hc']; simp [List.getD_eq_getElem?_getD, hi])
    | (simp [hc', List.getD_eq_getElem?_getD, hi])) 9 Try.underlying9
theorem put_err {x : Rs.S} {off : Nat} {d : List Nat} {last : Bool} {k : Nat} (h : Rs.err x off d.length last = k) (hk : k ≠ 0) : Rs.put x off d last = x := by
  unfold Rs.put; rw [if_neg (by omega)]

def s0 : Rs.S := Rs.new 10
def s1 : Rs.S := Rs.put s0 2 [99, 100] true
def s2 : Rs.S := Rs.put s1 0 [97, 98] false
def s3 : Rs.S := (Rs.read s2 3).2
def s4 : Rs.S := (Rs.read s3 9).2
theorem v1 : Rs.err s0 2 2 true = 0 := by decide
theorem v2 : Rs.err s1 0 2 false = 0 := by decide
theorem v3 : Rs.err s2 4 1 false = 10 := by decide
theorem v3' : Rs.put s2 4 [120] false = s2 := put_err (k := 10) v3 (by decide)
theorem v4 : Rs.ready s2 = 4 := by decide
theorem v5 : Rs.many s2 3 = 3 ∧ Rs.bytes s2 3 = [97, 98, 99] := by decide
theorem v6 : Rs.many s3 9 = 1 ∧ Rs.bytes s3 1 = [100] := by decide
theorem v7 : Rs.done s4 = true ∧ Rs.limit s4 = 14 ∧ s4.top = 4 ∧ s4.rd = 4 ∧ s4.cnt = 0 := by decide
theorem v8 : Rs.err s4 14 1 false = 9 := by decide
theorem v8' : Rs.put s4 14 [120] false = s4 := put_err (k := 9) v8 (by decide)

section
variable {W w : World} {a mb : Nat}
/-- A Put of a text that is a constant. -/
theorem OwnS.putC {x y : Rs.S} (h : OwnS W a mb x w) (off er : Nat) (l : List Nat) (last : Bool) (t : TypeId) (fz : Nat × Nat) (hb : ∀ c ∈ l, c < 256) (hl : l.length ≤ 1000) (hoff : off < 18446744073709551616) (he : Rs.err x off l.length last = er) (hy : Rs.put x off l last = y) :
    Calls Try.prog 10 #[.pointer (some ⟨a, 0, none⟩), .int .u64 (off : Int), .slice (some ⟨w.heap.size, 0, none⟩) l.length l.length, .bool last] (w.alloc (.cells (l.map b8).toArray t fz)) fun e w' => e = .returned (.int .i64 (er : Int)) ∧ OwnS W a mb y w' := by
  refine ((h.kept ((Below.refl _ w).alloc (Nat.le_refl _) (.cells (l.map b8).toArray t fz))).put off l.length _ l last (rb_const w l t fz) hb (by omega) ⟨Nat.le_refl _, by unfold maxLen; omega⟩ hoff).mono ?_
  rintro e w' ⟨rfl, h1, _⟩
  rw [he]
  exact ⟨rfl, hy ▸ h1⟩
end
set_option maxHeartbeats 4000000 in
theorem alive_any (w : World) : Calls Try.prog 8 #[] w fun e w' => e = .returned (.bool true) ∧ Below w.heap.size w w' := by
  have kc := fun (w : World) (C : Array Value) (n c : Nat) => Lib.run_convert_bytes_const (P := Try.prog) w 22 5 C n c Try.underlying22 Try.underlying5
  go_enter Try.func8, Try.ntmps8
  go_wp2_with fail
  refine (OwnS.new (W := w) 10 (by omega) (Below.refl _ w)).mono ?_
  rintro e w1 ⟨a, rfl, -, mb, -, h1, -⟩
  have H1 := Lib.hid h1
  clear h1
  go_wp2_with fail
  refine (H1.out.putC 2 0 [99, 100] true _ _ (by decide) (by decide) (by decide) v1 rfl).mono ?_
  rintro e w2 ⟨rfl, h2⟩
  have H2 := Lib.hid h2
  clear h2 H1
  go_wp2_with fail
  refine (H2.out.putC 0 0 [97, 98] false _ _ (by decide) (by decide) (by decide) v2 rfl).mono ?_
  rintro e w3 ⟨rfl, h3⟩
  have H3 := Lib.hid h3
  clear h3 H2
  go_wp2_with fail
  refine (H3.out.putC 4 10 [120] false _ _ (by decide) (by decide) (by decide) v3 v3').mono ?_
  rintro e w4 ⟨rfl, h4⟩
  have H4 := Lib.hid h4
  clear h4 H3
  go_wp2_with fail
  refine (OwnS.ready (x := s2) H4.out).mono ?_
  rintro e w5 ⟨rfl, h5, -⟩
  rw [v4]
  have H5 := Lib.hid h5
  clear h5 H4
  go_wp2_with fail
  refine (OwnS.read (x := s2) H5.out 3).mono ?_
  rintro e w6 ⟨A, c, rfl, hc1, -, hr, hA, h6, -⟩
  rw [v5.1] at hr hc1 ⊢
  rw [v5.2] at hr
  have H6 : Hid (OwnS w a mb s3 w6) := h6
  have hs6 : (convert 22 9 (.slice A 3 c)).run Try.prog w6 = .ok (.string ⟨#[97, 98, 99]⟩) w6 := str_any w6 A c 3 [97, 98, 99] rfl (by decide) hr
  clear h6 H5 hr hA hc1
  go_wp2_with fail
  refine (OwnS.read (x := s3) H6.out 9).mono ?_
  rintro e w7 ⟨A7, c7, rfl, hc7, -, hr, hA, h7, -⟩
  rw [v6.1] at hr hc7 ⊢
  rw [v6.2] at hr
  have H7 : Hid (OwnS w a mb s4 w7) := h7
  have hs7 : (convert 22 9 (.slice A7 1 c7)).run Try.prog w7 = .ok (.string ⟨#[100]⟩) w7 := str_any w7 A7 c7 1 [100] rfl (by decide) hr
  clear h7 H6 hr hA hc7
  go_wp2_with fail
  refine (OwnS.done (x := s4) H7.out).mono ?_
  rintro e w8 ⟨rfl, q1, rfl⟩
  rw [v7.1]
  have H8 : Hid (OwnS w a mb s4 (w7.drewN q1)) := H7.out.drewN q1
  go_wp2_with fail
  refine (OwnS.limit (x := s4) H8.out).mono ?_
  rintro e w9 ⟨rfl, q2, rfl⟩
  rw [v7.2.1]
  have H9 : Hid (OwnS w a mb s4 ((w7.drewN q1).drewN q2)) := H8.out.drewN q2
  obtain ⟨w9, hw9⟩ : ∃ w9, (w7.drewN q1).drewN q2 = w9 := ⟨_, rfl⟩
  rw [hw9] at H9 ⊢
  clear hw9 H8 H7
  go_wp2_with fail
  refine (OwnS.top (x := s4) H9.out).mono ?_
  rintro e wt ⟨rfl, rfl⟩
  rw [v7.2.2.1]
  go_wp2_with fail
  refine (has_yes a mb 1 4 s4 _ H9.out.bs (by rw [v7.2.2.1]; decide) (by rw [v7.2.2.2.1]; decide) (by rw [v7.2.2.2.1]; decide)).mono ?_
  rintro e wh ⟨rfl, q3, rfl⟩
  have Ha : Hid (OwnS w a mb s4 (w9.drewN q3)) := H9.out.drewN q3
  obtain ⟨wa, hwa⟩ : ∃ wa, w9.drewN q3 = wa := ⟨_, rfl⟩
  rw [hwa] at Ha ⊢
  clear hwa H9
  go_wp2_with fail
  refine (has_no a mb 1 5 s4 _ Ha.out.bs (by rw [v7.2.2.1]; decide) (by decide)).mono ?_
  rintro e wh ⟨rfl, q4, rfl⟩
  have Hb : Hid (OwnS w a mb s4 (wa.drewN q4)) := Ha.out.drewN q4
  obtain ⟨wb, hwb⟩ : ∃ wb, wa.drewN q4 = wb := ⟨_, rfl⟩
  rw [hwb] at Hb ⊢
  clear hwb Ha
  go_wp2_with fail
  refine (OwnS.held (x := s4) Hb.out).mono ?_
  rintro e wt ⟨rfl, rfl⟩
  rw [v7.2.2.2.2]
  go_wp2_with fail
  refine (Hb.out.putC 14 9 [120] false _ _ (by decide) (by decide) (by decide) v8 v8').mono ?_
  rintro e wc ⟨rfl, hc⟩
  have Hc := Lib.hid hc
  clear hc Hb
  go_wp2_with fail
  refine (new_neg _).mono ?_
  rintro e wt ⟨rfl, rfl⟩
  go_wp2
  go_ret
  exact ⟨rfl, Hc.out.below⟩
end Go.Proofs.Ytghfgekmdcangaa.Rm
