/- Layer 9's gcm, walked: Sum's closure, which takes one block more. -/
import Derived.Test.YtnphanhoakbkpaaRows
import Derived.Test.YtnphanhoakbkpaaAid
import Derived.Test.YtnphanhoakbkpaaPlainAe
import Derived.Test.YtnphanhoakbkpaaPlainAe2
import Derived.Test.YtnphanhoakbkpaaPlainGc
import Derived.Test.YtnphanhoakbkpaaPlainGc2
import Derived.Test.YtnphanhoakbkpaaHeldT
import Derived.Test.YtnphanhoakbkpaaAesB
import Derived.Test.YtnphanhoakbkpaaAesBox
import Derived.Test.YtnphanhoakbkpaaAesW
import Derived.Test.YtnphanhoakbkpaaAesE
import Derived.Test.YtnphanhoakbkpaaAesK
import Derived.Test.YtnphanhoakbkpaaAesS
import Derived.Test.YtnphanhoakbkpaaAesT
import Derived.Test.YtnphanhoakbkpaaBl
import Derived.Test.YtnphanhoakbkpaaGcA
import Derived.Test.YtnphanhoakbkpaaGcB
import Derived.Test.YtnphanhoakbkpaaGcD
import Derived.Test.YtnphanhoakbkpaaGcE
import Derived.WalkKit
import Derived.WalkSpells
import Derived.WalkLawsBesides
import Derived.Laws.Rows
import Derived.Laws.CopyOwn
import Derived.Laws.BitsAllLaws
import Derived.Handy
import Derived.Lib.Hide
import Derived.IntWalk
namespace Go.Proofs.Ytnphanhoakbkpaa
open Go Go.RowKit
set_option linter.unusedVariables false
set_option linter.unusedSimpArgs false

theorem pad_splice (c : List Nat) (h : c.length ≤ 16) : (splice ((List.replicate 16 0).map u8v) 0 (c.map u8v)).toArray = cellsN (Gc.pad c) := by
  apply Array.ext'
  show _ = (Gc.pad c).map u8v
  unfold splice Gc.pad
  rw [List.map_append, List.take_zero, List.nil_append, List.length_map, Nat.zero_add, ← List.map_drop, List.drop_replicate]
theorem rd_src {w : World} {A : Option Addr} {l : List Nat} (h : Rd w A l) (hp : 0 < l.length) : ∃ ad, A = some ad ∧ ∀ j v, (l.map u8v)[j]? = some v → w.cell? (ad.add j) = some v := by
  obtain ⟨b, off, rfl, hb, hc⟩ := h hp
  refine ⟨_, rfl, fun j v hv => ?_⟩
  rw [List.getElem?_map] at hv
  obtain ⟨x, hx, rfl⟩ := Option.map_eq_some_iff.1 hv
  have hj := (List.getElem?_eq_some_iff.1 hx).1
  rw [Addr.add_lit]
  have := hc j hj
  rw [List.getD_eq_getElem?_getD, hx] at this
  exact this

set_option maxRecDepth 100000 in
set_option maxHeartbeats 4000000 in
theorem take_any (Y H y h : Nat) (A : Option Addr) (n cp : Nat) (c : List Nat) (W : World) (hY : Obj W Y 45 (Rm.prs y)) (hH : Obj W H 45 (Rm.prs h)) (hne : Y ≠ H) (ly : y < 2 ^ 128) (lh : h < 2 ^ 128) (hr : Rd W A c) (hl : c.length = n) (hn : n ≤ 16) (hc : Ae.bytes c) :
    Calls Try.prog 23 (#[.slice A n cp] ++ #[.pointer (some ⟨Y, 0, none⟩), .pointer (some ⟨H, 0, none⟩)]) W fun e w' => (∃ v, e = .returned v) ∧ Obj w' Y 45 (Rm.prs (Gc.step h y c)) ∧ Upd Y W w' := by
  obtain ⟨S, hS⟩ : ∃ S, W.heap.size = S := ⟨_, rfl⟩
  obtain ⟨W1, hW1⟩ : ∃ W1, W.alloc (.cells #[.int .u8 0, .int .u8 0, .int .u8 0, .int .u8 0, .int .u8 0, .int .u8 0, .int .u8 0, .int .u8 0, .int .u8 0, .int .u8 0, .int .u8 0, .int .u8 0, .int .u8 0, .int .u8 0, .int .u8 0, .int .u8 0] 22) = W1 := ⟨_, rfl⟩
  have hb1 : Below S W W1 := hW1 ▸ (Below.refl _ W).alloc (by omega) _
  have hsz1 : W1.heap.size = S + 1 := by rw [← hW1]; simp [hS]
  have o1 : W1.heap[S]? = some (.cells ((List.replicate 16 0).map u8v).toArray 22 (0, 0)) := hW1 ▸ hS ▸ Obj.new W 22 #[.int .u8 0, .int .u8 0, .int .u8 0, .int .u8 0, .int .u8 0, .int .u8 0, .int .u8 0, .int .u8 0, .int .u8 0, .int .u8 0, .int .u8 0, .int .u8 0, .int .u8 0, .int .u8 0, .int .u8 0, .int .u8 0]
  have hYl := hY.lt
  have hHl := hH.lt
  have HSRC : Hid (0 < (c.map u8v).length → (some (⟨S, 0, none⟩ : Addr)) = some ⟨S, 0, none⟩ ∧ ∃ ad, A = some ad ∧ ∀ j v, (c.map u8v)[j]? = some v → W1.cell? (ad.add j) = some v) := fun hp => ⟨rfl, by
    rw [List.length_map] at hp
    exact rd_src (hr.below (hS ▸ hb1)) hp⟩
  have HCN : Hid ((c.map u8v).length = Nat.min n 16) := by unfold Hid; rw [List.length_map, hl]; exact (Nat.min_eq_left hn).symm
  have HFT : Hid (0 + (c.map u8v).length ≤ ((List.replicate 16 0).map u8v).length) := by unfold Hid; simp; omega
  have HON : Hid (∀ v ∈ c.map u8v, v.oneCell' = true) := fun v hv => by
    obtain ⟨x, _, rfl⟩ := List.mem_map.1 hv
    rfl
  have hpl : (Gc.pad c).length = 16 := Gc.pad_len (by omega)
  have hpb := Gc.pad_bytes hc
  have HPS := Lib.hid (pad_splice c (by omega))
  have hp128 := Gc.nb16_lt hpl hpb
  have H1 := Lib.hid (fun w => of_any (Gc.pad c) w hpl hpb)
  have HSZ := Lib.hid (size16 hpl)
  have hx128 : (y ^^^ Gc.nb (Gc.pad c)) < 2 ^ 128 := Nat.xor_lt_two_pow ly hp128
  have H2 : Hid (∀ w, Calls Try.prog 19 #[.agg #[.int .u64 ((Gc.hi (y ^^^ Gc.nb (Gc.pad c)) : Nat) : Int), .int .u64 ((Gc.lo (y ^^^ Gc.nb (Gc.pad c)) : Nat) : Int)], .agg #[.int .u64 ((Gc.hi h : Nat) : Int), .int .u64 ((Gc.lo h : Nat) : Int)]] w fun e w' => e = .returned (.agg #[.int .u64 ((Gc.hi (Gc.step h y c) : Nat) : Int), .int .u64 ((Gc.lo (Gc.step h y c) : Nat) : Int)]) ∧ Below w.heap.size w w') := fun w => Rm.times_any (y ^^^ Gc.nb (Gc.pad c)) h w hx128 lh
  have xh := u64_xor_nat (Gc.hi y) (Gc.hi (Gc.nb (Gc.pad c))) (Gc.hi_lt ly) (Gc.hi_lt hp128)
  have xl := u64_xor_nat (Gc.lo y) (Gc.lo (Gc.nb (Gc.pad c))) (Gc.lo_lt _) (Gc.lo_lt _)
  rw [← Gc.hi_xor] at xh
  rw [← Gc.lo_xor] at xl
  generalize Gc.nb (Gc.pad c) = p at *
  have HKY : Hid (∀ w2, Below S W w2 → Obj w2 Y 45 (Rm.prs y) ∧ Obj w2 H 45 (Rm.prs h) ∧ (w2.cell? ⟨Y, 0, none⟩ = some (.int .u64 ((Gc.hi y : Nat) : Int)) ∧ w2.cell? ⟨Y, 1, none⟩ = some (.int .u64 ((Gc.lo y : Nat) : Int)) ∧ w2.frozen? ⟨Y, 0, none⟩ = false ∧ w2.frozen? ⟨Y, 1, none⟩ = false) ∧ (w2.cell? ⟨H, 0, none⟩ = some (.int .u64 ((Gc.hi h : Nat) : Int)) ∧ w2.cell? ⟨H, 1, none⟩ = some (.int .u64 ((Gc.lo h : Nat) : Int)))) := fun w2 hb => by
    have oy := hY.kept (hS ▸ hb)
    have oh := hH.kept (hS ▸ hb)
    exact ⟨oy, oh, ⟨by rw [oy.cell]; rfl, by rw [oy.cell]; rfl, oy.free 0, oy.free 1⟩, by rw [oh.cell]; rfl, by rw [oh.cell]; rfl⟩
  have HO1 := Lib.hid o1
  have HB1 := Lib.hid hb1
  have hsl := fun w => slice16all S w
  clear hY hH hr hl hc hpl hpb hp128 hx128 o1 hb1
  go_enter Try.func23, Try.ntmps23
  go_wp2_with (first
    | (refine wpList_copy_splice rfl (.tmp 6) (.tmp 7) 23 23 rfl 5 Try.underlying23 hsz8 _ _ _ _ _ _ rfl rfl S 0 ((List.replicate 16 0).map u8v) 22 HO1.out (c.map u8v) HCN.out HSRC.out HFT.out HON.out S W HB1.out (Nat.le_refl _) ?_; intro w2 hg2 hb2; have HR2 : Hid (Obj w2 S 22 (cellsN (Gc.pad c))) := (by have h := hg2.out; rw [HPS.out] at h; exact h); have HB2 := Lib.hid hb2; clear hg2 hb2)
    | (refine wpList_load_row rfl 22 (.tmp 4) rfl S rfl _ _ _ _ HR2.out Try.underlying22 rfl HSZ.out ?_))
  refine (H1.out _).mono ?_
  rintro e w3 ⟨rfl, hb3⟩
  have hbS : Below S W w3 := HB2.out.trans (hb3.mono (by have := HR2.out.lt; omega))
  obtain ⟨_, _, ⟨y0, y1, z0, z1⟩, x0, x1⟩ := HKY.out w3 hbS
  have hY3 : Y < w3.heap.size := by have := hbS.size; omega
  have hH3 : H < w3.heap.size := by have := hbS.size; omega
  have HBS := Lib.hid hbS
  clear hbS hb3
  generalize Gc.hi (y ^^^ p) = sh at *
  generalize Gc.lo (y ^^^ p) = so at *
  go_wp2_with fail
  refine (H2.out _).mono ?_
  rintro e w5 ⟨rfl, hb5⟩
  have hb35 : Below S W w5 := HBS.out.trans (((Below.refl _ w3).alloc (Nat.le_refl _) (.cells #[.int .u64 ((Gc.hi p : Nat) : Int), .int .u64 ((Gc.lo p : Nat) : Int)] 45)).trans (hb5.mono (by simp)) |>.mono (by have := HBS.out.size; omega))
  obtain ⟨oy, _, ⟨y0', y1', z0', z1'⟩, _, _⟩ := HKY.out w5 hb35
  have oy1 := oy.set 0 (.int .u64 ((Gc.hi (Gc.step h y c) : Nat) : Int))
  have y1'' : (w5.setCell ⟨Y, 0, none⟩ (.int .u64 ((Gc.hi (Gc.step h y c) : Nat) : Int))).cell? ⟨Y, 1, none⟩ = some (.int .u64 ((Gc.lo y : Nat) : Int)) := by rw [oy1.cell]; rfl
  have oy2 := oy1.set 1 (.int .u64 ((Gc.lo (Gc.step h y c) : Nat) : Int))
  have u5 : Upd Y W ((w5.setCell ⟨Y, 0, none⟩ (.int .u64 ((Gc.hi (Gc.step h y c) : Nat) : Int))).setCell ⟨Y, 1, none⟩ (.int .u64 ((Gc.lo (Gc.step h y c) : Nat) : Int))) := ((Upd.of_below (hS ▸ hb35) Y).set 0 _).set 1 _
  have HFI : Hid (Obj ((w5.setCell ⟨Y, 0, none⟩ (.int .u64 ((Gc.hi (Gc.step h y c) : Nat) : Int))).setCell ⟨Y, 1, none⟩ (.int .u64 ((Gc.lo (Gc.step h y c) : Nat) : Int))) Y 45 (Rm.prs (Gc.step h y c)) ∧ Upd Y W ((w5.setCell ⟨Y, 0, none⟩ (.int .u64 ((Gc.hi (Gc.step h y c) : Nat) : Int))).setCell ⟨Y, 1, none⟩ (.int .u64 ((Gc.lo (Gc.step h y c) : Nat) : Int)))) := ⟨oy2.as rfl, u5⟩
  clear oy oy1 oy2 u5 hb35 hb5 y0 y1 z0 z1 x0 x1
  go_wp2
  refine bodyPost_end (results_none rfl _ _ _) rfl ?_
  exact ⟨⟨_, rfl⟩, HFI.out⟩
end Go.Proofs.Ytnphanhoakbkpaa
