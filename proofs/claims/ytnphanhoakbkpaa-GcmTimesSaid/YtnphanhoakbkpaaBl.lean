/- Blocks of 16 bytes and slices of bytes: comparisons, slicing, streams. -/
import Derived.Test.YtnphanhoakbkpaaRows
import Derived.Test.YtnphanhoakbkpaaAid
import Derived.Test.YtnphanhoakbkpaaPlainAe
import Derived.Test.YtnphanhoakbkpaaPlainAe2
import Derived.Test.YtnphanhoakbkpaaAesB
import Derived.Test.YtnphanhoakbkpaaAesBox
import Derived.Test.YtnphanhoakbkpaaAesW
import Derived.Test.YtnphanhoakbkpaaAesE
import Derived.Test.YtnphanhoakbkpaaAesK
import Derived.Test.YtnphanhoakbkpaaAesS
import Derived.Test.YtnphanhoakbkpaaAesT
import Derived.ChangeKeysEq
import Derived.Stop.BytesEq
import Derived.WalkKit
import Derived.Laws.BitsAllLaws
import Derived.Laws.Rows
import Derived.WalkSpells
import Derived.WalkLawsBesides
import Derived.Handy
import Derived.Lib.Hide
import Derived.Deep.RegionHeld3
import Derived.Deep.OwnRows
import Derived.IntWalk
namespace Go.Proofs.Ytnphanhoakbkpaa
open Go.RowKit
set_option linter.unusedVariables false
set_option linter.unusedSimpArgs false

theorem cellsN_u8 {l : List Nat} (h : Ae.bytes l) : cellsN l = ((l.map UInt8.ofNat).map Extern.Stop.cell).toArray := by
  unfold cellsN
  rw [List.map_map]
  congr 1
  refine List.map_congr_left fun c hc => ?_
  have := h c hc
  show Value.int .u8 (c : Int) = Extern.Stop.cell (UInt8.ofNat c)
  unfold Extern.Stop.cell
  rw [UInt8.toNat_ofNat', Nat.mod_eq_of_lt (by omega)]
  rfl
theorem eq16 {x y : List Nat} (hx : x.length = 16) (hy : y.length = 16) (qx : Ae.bytes x) (qy : Ae.bytes y) (w : World) :
    (binOp .eql 22 (.agg (cellsN x)) (.agg (cellsN y))).run Try.prog w = .ok (.bool (decide (x = y))) w := by
  rw [cellsN_u8 qx, cellsN_u8 qy, run_eql_bytes w 22 5 16 Try.underlying22 Try.underlying5 (fun w => by kernel_rfl) _ _ (by simpa using hx) (by simpa using hy)]
  congr 2
  rw [Bool.eq_iff_iff]
  simp only [beq_iff_eq, decide_eq_true_eq]
  constructor
  · intro h
    have hm : ∀ l : List Nat, Ae.bytes l → (l.map UInt8.ofNat).map UInt8.toNat = l := fun l ql => by
      rw [List.map_map]
      conv => rhs; rw [← List.map_id l]
      refine List.map_congr_left fun c hc => ?_
      have := ql c hc
      show (UInt8.ofNat c).toNat = c
      rw [UInt8.toNat_ofNat', Nat.mod_eq_of_lt (by omega)]
    rw [← hm x qx, h, hm y qy]
  · rintro rfl; rfl
theorem el8 : Try.prog.underlying 23 = some (.slice (Try.prog.elem 23)) := by kernel_rfl
theorem sz8 (w : World) : (sizeOf (Try.prog.elem 23)).run Try.prog w = .ok 1 w := by kernel_rfl
theorem slice8_h (A : Option Addr) (n c K : Nat) (hK : K ≤ c) (w : World) :
    (Instr.slice 23 (.slice A n c) none (some (.int .i64 (K : Int))) none).run Try.prog w = .ok (.slice A K c) w := by
  rw [run_slice_h w 23 A n c el8 .i64 (K : Int) (by omega) (by omega), sz8]
  have hA : A.map (fun x => x.add (0 * 1)) = A := by cases A <;> simp [Addr.add]
  simp only [Result.andThen, sliced, Int.toNat_natCast, Nat.sub_zero, hA]
  split <;> rfl
theorem slice8_at (A : Option Addr) (n c K : Nat) (hK : K ≤ c) (w : World) :
    (Instr.sliceAt 23 (.slice A n c) none (some (.int .i64 (K : Int))) none).run Try.prog w = .ok (.slice A K c) w := by
  rw [run_sliceAt_slice w 23 _ _ _ _ el8]; exact slice8_h A n c K hK w
theorem Rd.take {w : World} {A : Option Addr} {l : List Nat} (h : Rd w A l) (K : Nat) (hK : K ≤ l.length) : Rd w A (l.take K) := fun hp => by
  rw [List.length_take] at hp
  obtain ⟨b, off, rfl, hlt, hc⟩ := h (by omega)
  refine ⟨b, off, rfl, hlt, fun j hj => ?_⟩
  rw [List.length_take] at hj
  rw [hc j (by omega)]
  simp [List.getD_eq_getElem?_getD, show j < K by omega]
theorem below_drewN' {w w' : World} {q : Nat} (h : w' = w.drewN q) : Below w.heap.size w w' := by subst h; exact ⟨rfl, rfl, rfl, Nat.le_refl _, fun _ _ => rfl⟩
theorem bytes_take {l : List Nat} (h : Ae.bytes l) (K : Nat) : Ae.bytes (l.take K) := fun c hc => h c (List.mem_of_mem_take hc)
theorem made_zeros (n : Nat) : madeCells #[Value.int .u8 0] n = cellsN (List.replicate n 0) := by
  apply Array.ext
  · rw [size_madeCells, cellsN_size, List.length_replicate]
  · intro i h1 h2
    simp [madeCells, cellsN, Nat.mod_one]
theorem mk16 (N : Nat) (hN : N ≤ 1000) (w : World) :
    (Instr.makeSlice 23 (.int .i64 (N : Int)) (.int .i64 (N : Int))).run Try.prog w = .ok (.slice (some ⟨w.heap.size, 0, none⟩) N N) (w.alloc (.cells (cellsN (List.replicate N 0)) 5)) := by
  rw [run_make_row' 23 5 (.int .u8 0) 1 Try.underlying23 info8 rfl .i64 .i64 N (by omega) (by omega) w, made_zeros]
theorem Rd.new (w : World) (l : List Nat) (t : TypeId) : Rd (w.alloc (.cells (cellsN l) t)) (some ⟨w.heap.size, 0, none⟩) l := fun hp =>
  ⟨_, 0, rfl, by simp, fun j hj => by rw [Nat.zero_add]; exact Obj.getN (Obj.new w t (cellsN l)) j hj⟩
theorem slice8_l (b o n c K : Nat) (hK : K < c) (hn : K ≤ n) (hc : n ≤ c) (w : World) :
    (Instr.slice 23 (.slice (some ⟨b, o, none⟩) n c) (some (.int .i64 (K : Int))) none none).run Try.prog w = .ok (.slice (some ⟨b, o + K, none⟩) (n - K) (c - K)) w := by
  rw [run_slice_l w 23 (some ⟨b, o, none⟩) n c el8 .i64 (K : Int) (by omega) (by omega), sz8]
  have h1 : ¬ c = K := by omega
  simp [Result.andThen, sliced, h1, Addr.add_mid]
theorem slice16all (g : Nat) (w : World) :
    (Instr.sliceAt 22 (.pointer (some ⟨g, 0, none⟩)) none none none).run Try.prog w = .ok (.slice (some ⟨g, 0, none⟩) 16 16) w := by
  rw [run_sliceAt_array_all w 22 ⟨g, 0, none⟩ el16, sz16, al16]
  simp [Result.andThen, slicedAt, Addr.add]
theorem stream_at (k f : List Nat) (B : Option Addr) (d N : Nat) (x : List Nat) (W : World) (hk : k.length = 16) (hf : f.length = 16) (qk : Ae.bytes k) (qf : Ae.bytes f) (hN : x.length = N) (h1 : Rd W B x) (h2 : Ae.bytes x) (h3 : N ≤ 1000000) :
    Calls Try.prog 30 #[.agg (cellsN k), .agg (cellsN f), .slice B N d] W fun e w' => ∃ A' c', e = .returned (.slice A' N c') ∧ N ≤ c' ∧ Rd w' A' (Ae.stream (Ae.sched k) f x) ∧ Below W.heap.size W w' := by
  subst hN
  exact (stream_any k f B d x W hk hf qk qf h1 h2 h3).mono fun e w' ⟨v, he, hv, hb⟩ => by
    obtain ⟨A', c', rfl, _, h4, h5⟩ := own_rd hv
    exact ⟨A', c', he, h4, h5, hb⟩
theorem Rd.drop {w : World} {b o : Nat} {l : List Nat} (h : Rd w (some ⟨b, o, none⟩) l) (K : Nat) : Rd w (some ⟨b, o + K, none⟩) (l.drop K) := fun hp => by
  rw [List.length_drop] at hp
  obtain ⟨b', off, e, hlt, hc⟩ := h (by omega)
  obtain ⟨rfl, rfl⟩ : b = b' ∧ o = off := by cases e; exact ⟨rfl, rfl⟩
  refine ⟨b, o + K, rfl, hlt, fun j hj => ?_⟩
  rw [List.length_drop] at hj
  rw [show o + K + j = o + (K + j) by omega, hc (K + j) (by omega)]
  simp [List.getD_eq_getElem?_getD]
theorem Rd.far {w : World} {g o : Nat} {l : List Nat} (h : Rd w (some ⟨g, o, none⟩) l) {p : Addr} (hp : g ≠ p.block) (v : Value) : Rd (w.setCell p v) (some ⟨g, o, none⟩) l := fun hl => by
  obtain ⟨b', off, e, hlt, hc⟩ := h hl
  obtain ⟨rfl, rfl⟩ : g = b' ∧ o = off := by cases e; exact ⟨rfl, rfl⟩
  exact ⟨g, o, rfl, by simpa [World.setCell] using hlt, fun j hj => by rw [World.cell?_setCell_far _ _ _ _ (fun e => hp e.symm)]; exact hc j hj⟩
theorem Obj.rd {w : World} {g : Nat} {t : TypeId} {l : List Nat} (h : Obj w g t (cellsN l)) : Rd w (some ⟨g, 0, none⟩) l := fun _ => ⟨g, 0, rfl, h.lt, fun j hj => by rw [Nat.zero_add]; exact h.getN j hj⟩
end Go.Proofs.Ytnphanhoakbkpaa
