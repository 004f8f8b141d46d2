/- Layer 17's outflow, walked: open, bytes.IndexByte over a row of states, Sent. -/
import Derived.Test.YtdloeakmoaoalaaRows
import Derived.Test.YtdloeakmoaoalaaAid
import Derived.Test.YtdloeakmoaoalaaPlainOf
import Derived.Test.YtdloeakmoaoalaaOfW
import Derived.Test.YtdloeakmoaoalaaOfX
import Derived.Test.YtdloeakmoaoalaaOfA
import Derived.Test.YtdloeakmoaoalaaOfB
import Derived.WalkKit
import Derived.OwnWalk
import Derived.Laws.Rows
import Derived.Laws.Tables
import Derived.WalkSpells
import Derived.WalkLawsBesides
import Derived.BigQuiet
import Derived.Handy
import Derived.StillTailTactics
import Derived.Lib.Hide
import Derived.Lib.IndexLaws
import Derived.IntWalk
import Derived.Shelf.Bytes.IndexByte
import Derived.Test.YtdloeakmoaoalaaOfLay
namespace Go.Proofs.Ytdloeakmoaoalaa
open Go.RowKit Go.Shelf
set_option linter.unusedVariables false
set_option linter.unusedSimpArgs false

/-- The first place of a state, or -1. -/
def idx (c : Nat) (l : List Nat) : Int := if Of.fst c l < l.length then (Of.fst c l : Int) else -1
theorem fst_cons (c a : Nat) (t : List Nat) : Of.fst c (a :: t) = if a = c then 0 else Of.fst c t + 1 := by
  unfold Of.fst
  rw [List.findIdx_cons]
  by_cases h : a = c
  · simp [h]
  · have hb : (a == c) = false := by simpa using h
    rw [hb, if_neg h]
    rfl
theorem idx_eq {c : Nat} {l : List Nat} (hc : c < 256) (hl : ∀ x ∈ l, x < 256) : Lib.indexByte (Lib.bytesOf (l.map fun (x : Nat) => (x : Int))) (c : Int).toNat.toUInt8 = idx c l := by
  have hb : Lib.bytesOf (l.map fun (x : Nat) => (x : Int)) = l.map UInt8.ofNat := by
    unfold Lib.bytesOf; rw [List.map_map]; rfl
  have hcu : (c : Int).toNat.toUInt8 = UInt8.ofNat c := rfl
  rw [hb, hcu]
  have hne : ∀ x, x < 256 → (UInt8.ofNat x = UInt8.ofNat c ↔ x = c) := fun x hx => by
    constructor
    · intro h
      have := congrArg UInt8.toNat h
      rw [UInt8.toNat_ofNat', UInt8.toNat_ofNat'] at this
      omega
    · rintro rfl; rfl
  induction l with
  | nil => rfl
  | cons a t ih =>
    have ih' := ih (fun x hx => hl x (List.mem_cons_of_mem _ hx)) (by unfold Lib.bytesOf; rw [List.map_map]; rfl)
    have ha := hl a List.mem_cons_self
    rw [List.map_cons, Lib.indexByte, ih']
    by_cases hac : a = c
    · subst hac
      rw [if_pos (by simp)]
      unfold idx
      rw [fst_cons, if_pos rfl, if_pos (by simp)]
      rfl
    · rw [if_neg (by simp [hne a ha, hac])]
      by_cases h : Of.fst c t < t.length
      · have e1 : idx c t = (Of.fst c t : Int) := if_pos h
        have e2 : idx c (a :: t) = ((Of.fst c t + 1 : Nat) : Int) := by
          unfold idx; rw [fst_cons, if_neg hac, if_pos (by show Of.fst c t + 1 < t.length + 1; omega)]
        rw [e1, e2, if_neg (by intro h'; have := eq_of_beq h'; omega)]
        omega
      · have e1 : idx c t = -1 := if_neg h
        have e2 : idx c (a :: t) = -1 := by
          unfold idx; rw [fst_cons, if_neg hac, if_neg (by show ¬ Of.fst c t + 1 < t.length + 1; omega)]
        rw [e1, e2]
        rfl

theorem idx_any (g top c cs : Nat) (base : Option Addr) (l : List Nat) (w : World) (hR : RowB w (.slice base l.length c) g l) (ht : top ≤ l.length) (hc : cs < 256) (hl : ∀ x ∈ l, x < 256) :
    Calls Try.prog 41 #[.slice base top c, .int .u8 (cs : Int)] w fun e w' => e = .returned (.int .i64 (idx cs (l.take top))) ∧ w = w' := by
  obtain ⟨base', c', hbc, hlc, _, hf, hcell⟩ := hR.form
  cases hbc
  rcases hf with ⟨rfl, h0, rfl⟩ | rfl
  · subst h0
    obtain rfl : top = 0 := by simpa using ht
    refine (Any.bytes_IndexByte_nil Ytdloeakmoaoalaa.indexByte (cs : Int) w).mono ?_
    rintro e w' ⟨rfl, rfl⟩
    exact ⟨rfl, rfl⟩
  · have hlen : (l.take top).length = top := by rw [List.length_take]; omega
    have hI := Any.bytes_IndexByte Ytdloeakmoaoalaa.indexByte g 0 top c ((l.take top).map fun (x : Nat) => (x : Int)) (cs : Int) w (by rw [List.length_map, hlen]) (fun i hi => by
      rw [Nat.zero_add, (hcell i (by omega)).2]
      unfold b8
      rw [List.getD_eq_getElem?_getD, List.getD_eq_getElem?_getD, List.getElem?_map, List.getElem?_take, if_pos hi, List.getElem?_eq_getElem (show i < l.length by omega)]
      rfl)
    rw [idx_eq hc (fun x hx => hl x (List.mem_of_mem_take hx))] at hI
    refine hI.mono ?_
    rintro e w' ⟨rfl, rfl⟩
    exact ⟨rfl, rfl⟩

set_option maxHeartbeats 1000000 in
theorem open_any (a gb gs : Nat) (x : Of.B) (w : World) (h : Bf w a gb gs x) (hok : Of.Ok x) :
    Calls Try.prog 42 #[.pointer (some ⟨a, 0, none⟩)] w fun e w' => e = .returned (.int .i64 (Of.openB x : Nat)) ∧ ∃ q, w' = w.drewN q := by
  obtain ⟨vb, vs, hO, hb, hs, hsep⟩ := h
  obtain ⟨base, c, rfl, _⟩ := hs.form
  have f1 : w.cell? ⟨a, 1, none⟩ = some (.slice base x.s.length c) := by rw [hO.cell]; rfl
  have f4 : w.cell? ⟨a, 4, none⟩ = some (.int .u64 (x.lim : Int)) := by rw [hO.cell]; rfl
  obtain ⟨o, ho⟩ : ∃ o, Of.openB x = o := ⟨_, rfl⟩
  rw [ho]
  unfold Of.openB at ho
  have hsl : x.s.length ≤ 2000 := by have := hok.len; have := hok.cap; omega
  have e1 : min (x.s.length : Int) (x.lim : Int) = (o : Int) := by omega
  have e2 : (if (x.lim : Int) < (x.s.length : Int) then (x.lim : Int) else (x.s.length : Int)) = (o : Int) := by split <;> omega
  have e3 : IntKind.u64.wrap (x.s.length : Int) = (x.s.length : Int) := by rw [IntKind.wrap_u64]; omega
  have e4 : IntKind.i64.wrap (o : Int) = (o : Int) := by rw [IntKind.wrap_i64]; omega
  have ho2 : o ≤ 2000 := by omega
  clear hO hb hs hsep hok ho
  generalize x.s.length = m at *
  generalize x.lim = lim at *
  go_enter Try.func42, Try.ntmps42
  go_wp2
  go_quiet (fail)
  go_wp2
  go_ret
  exact ⟨rfl, _, rfl⟩

theorem sent_any (a gb gs : Nat) (x : Of.B) (w : World) (h : Bf w a gb gs x) (hok : Of.Ok x) :
    Calls Try.prog 17 #[.pointer (some ⟨a, 0, none⟩)] w fun e w' => e = .returned (.int .u64 (Of.sent x : Nat)) ∧ w = w' := by
  obtain ⟨vb, vs, hO, hb, hs, hsep⟩ := h
  obtain ⟨base, c, rfl, _⟩ := hs.form
  have f1 : w.cell? ⟨a, 1, none⟩ = some (.slice base x.s.length c) := by rw [hO.cell]; rfl
  have hsl : x.s.length ≤ 2000 := by have := hok.len; have := hok.cap; omega
  have hI := idx_any gs x.s.length c 0 base x.s w hs (Nat.le_refl _) (by omega) (fun y hy => by have := hok.st y hy; omega)
  rw [List.take_length] at hI
  have HI := Lib.hid hI
  have hfl := Of.fst_le 0 x.s
  have HS : Hid (Of.sent x = Of.fst 0 x.s) := rfl
  have HX : Hid (idx 0 x.s = if Of.fst 0 x.s < x.s.length then (Of.fst 0 x.s : Int) else -1) := rfl
  clear hO hb hs hsep hok hI
  rw [HS.out]
  generalize Of.fst 0 x.s = p at *
  generalize idx 0 x.s = q at *
  generalize x.s.length = m at *
  go_enter Try.func17, Try.ntmps17
  go_wp2_with fail
  refine HI.out.mono ?_
  rintro e w1 ⟨rfl, rfl⟩
  by_cases hp : p < m
  · obtain rfl : q = (p : Int) := by rw [HX.out, if_pos hp]
    have e3 : IntKind.u64.wrap (p : Int) = (p : Int) := by rw [IntKind.wrap_u64]; omega
    go_wp2
    go_ret
    exact ⟨rfl, rfl⟩
  · obtain rfl : q = -1 := by rw [HX.out, if_neg hp]
    have hpm : m = p := by omega
    have e3 : IntKind.u64.wrap (m : Int) = (m : Int) := by rw [IntKind.wrap_u64]; omega
    have HP := Lib.hid hpm
    clear hpm hp hfl
    go_wp2
    go_ret
    refine ⟨?_, rfl⟩
    rw [← HP.out]; rfl
end Go.Proofs.Ytdloeakmoaoalaa
