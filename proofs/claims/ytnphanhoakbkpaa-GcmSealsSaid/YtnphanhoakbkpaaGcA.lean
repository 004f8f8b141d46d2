/- Layer 9's gcm, walked: a block's halves, and back. -/
import Derived.Test.YtnphanhoakbkpaaRows
import Derived.Test.YtnphanhoakbkpaaAid
import Derived.Test.YtnphanhoakbkpaaPlainAe
import Derived.Test.YtnphanhoakbkpaaPlainAe2
import Derived.Test.YtnphanhoakbkpaaPlainGc
import Derived.Test.YtnphanhoakbkpaaPlainGc2
import Derived.Test.YtnphanhoakbkpaaHeldT
import Derived.Test.YtnphanhoakbkpaaAesB
import Derived.Test.YtnphanhoakbkpaaAesBox
import Derived.Test.YtnphanhoakbkpaaAesW
import Derived.WalkKit
import Derived.WalkSpells
import Derived.WalkLawsBesides
import Derived.Laws.BitsAllLaws
import Derived.Handy
import Derived.Lib.Hide
import Derived.IntWalk
namespace Go.Proofs.Ytnphanhoakbkpaa
open Go Go.RowKit
set_option linter.unusedVariables false
set_option linter.unusedSimpArgs false

/-- Halves of a block that was read so far. -/
theorem or8 (p c : Nat) (hp : p < 72057594037927936) (hc : c < 256) : bits .or .u64 ((p : Int) * 256) (c : Int) = ((p * 256 + c : Nat) : Int) := by
  rw [bits_join .u64 64 (by decide) (fun n h₀ h₁ => by rw [IntKind.wrap_u64]; omega) 8 ((p : Int) * 256) (c : Int) (by omega) (by omega) (by omega) (by omega) (by omega) (by omega)]
  omega
theorem nb_take_next {l : List Nat} {k : Nat} (hk : k < l.length) : Gc.nb (l.take (k + 1)) = Gc.nb (l.take k) * 256 + l.getD k 0 := by
  rw [List.take_succ_eq_append_getElem hk, Gc.nb_snoc, List.getD_eq_getElem?_getD, List.getElem?_eq_getElem hk]; rfl
theorem nb_take_lt {l : List Nat} (hb : Ae.bytes l) {k : Nat} (hk : k < 8) : Gc.nb (l.take k) < 72057594037927936 := by
  have h := Gc.nb_lt (l.take k) (fun c hc => hb c (List.mem_of_mem_take hc))
  have h2 : 256 ^ (l.take k).length ≤ 256 ^ 7 := Nat.pow_le_pow_right (by decide) (by rw [List.length_take]; omega)
  have h3 : (256 : Nat) ^ 7 = 72057594037927936 := by decide
  omega

set_option maxRecDepth 100000 in
set_option maxHeartbeats 4000000 in
theorem of_any (b : List Nat) (w : World) (hl : b.length = 16) (hb : Ae.bytes b) :
    Calls Try.prog 20 #[.agg (cellsN b)] w fun e w' => e = .returned (.agg #[.int .u64 ((Gc.hi (Gc.nb b) : Nat) : Int), .int .u64 ((Gc.lo (Gc.nb b) : Nat) : Int)]) ∧ Below w.heap.size w w' := by
  obtain ⟨B, hB⟩ : ∃ B, w.heap.size = B := ⟨_, rfl⟩
  have hba : Below w.heap.size w (((w.alloc (.cells (cellsN b) 22)).alloc (.cells #[.int .u64 0, .int .u64 0] 45)).alloc (.cells #[.int .u64 0, .int .u64 0] 45)) := (((Below.refl _ w).alloc (Nat.le_refl _) _).alloc (by simp) _).alloc (by simp; omega) _
  have H0 : Hid (Obj (((w.alloc (.cells (cellsN b) 22)).alloc (.cells #[.int .u64 0, .int .u64 0] 45)).alloc (.cells #[.int .u64 0, .int .u64 0] 45)) B 22 (cellsN b) ∧ Obj (((w.alloc (.cells (cellsN b) 22)).alloc (.cells #[.int .u64 0, .int .u64 0] 45)).alloc (.cells #[.int .u64 0, .int .u64 0] 45)) (B + 1) 45 #[.int .u64 0, .int .u64 0] ∧
      Obj (((w.alloc (.cells (cellsN b) 22)).alloc (.cells #[.int .u64 0, .int .u64 0] 45)).alloc (.cells #[.int .u64 0, .int .u64 0] 45)) (B + 2) 45 #[.int .u64 ((Gc.nb (b.take 0) : Nat) : Int), .int .u64 ((Gc.nb ((b.drop 8).take 0) : Nat) : Int)] ∧ Below w.heap.size w (((w.alloc (.cells (cellsN b) 22)).alloc (.cells #[.int .u64 0, .int .u64 0] 45)).alloc (.cells #[.int .u64 0, .int .u64 0] 45))) := by
    refine ⟨hB ▸ ((Obj.new w _ _).alloc _).alloc _, ?_, ?_, hba⟩
    · have := (new2 w (.cells (cellsN b) 22) 45 #[.int .u64 0, .int .u64 0]).alloc (.cells #[.int .u64 0, .int .u64 0] 45)
      rw [hB] at this
      exact this
    · have := Obj.new ((w.alloc (.cells (cellsN b) 22)).alloc (.cells #[.int .u64 0, .int .u64 0] 45)) 45 #[.int .u64 0, .int .u64 0]
      simp only [World.size_alloc, hB] at this
      exact this
  clear hba
  go_enter Try.func20, Try.ntmps20
  go_wp2
  go_loopw [4, 5] (fun _ i wr => ∃ k : Nat, k ≤ 8 ∧ i = .int .i64 (k : Int) ∧ Obj wr B 22 (cellsN b) ∧ Obj wr (B + 1) 45 #[.int .u64 0, .int .u64 0] ∧ Obj wr (B + 2) 45 #[.int .u64 ((Gc.nb (b.take k) : Nat) : Int), .int .u64 ((Gc.nb ((b.drop 8).take k) : Nat) : Int)] ∧ Below w.heap.size w wr) (fun _ i _ => 8 - (intOf i).toNat)
  case atStart => exact ⟨0, Nat.zero_le _, rfl, H0.out.1, H0.out.2.1, H0.out.2.2.1, H0.out.2.2.2⟩
  case round =>
    clear H0
    obtain ⟨k, hk, rfl, o0, o1, o2, hb2⟩ := hrel
    by_cases hlt : k < 8
    · have hki : (k : Int) < 8 := by omega
      have r0 := o0.getN k (by omega)
      have r1 := o0.getN (8 + k) (by omega)
      have c0 := Ae.bytes_get hb k
      have c1 := Ae.bytes_get hb (8 + k)
      have p0 := nb_take_lt hb hlt
      have p1 := nb_take_lt (fun c hc => hb c (List.mem_of_mem_drop hc) : Ae.bytes (b.drop 8)) hlt
      have n0 := nb_take_next (l := b) (k := k) (by omega)
      have n1 := nb_take_next (l := b.drop 8) (k := k) (by rw [List.length_drop]; omega)
      rw [show (b.drop 8).getD k 0 = b.getD (8 + k) 0 by simp [List.getD_eq_getElem?_getD]] at n1
      have e8 : IntKind.i64.wrap (8 + (k : Int)) = ((8 + k : Nat) : Int) := by rw [IntKind.wrap_i64]; omega
      generalize Gc.nb (b.take k) = p at *
      generalize Gc.nb ((b.drop 8).take k) = q at *
      generalize b.getD k 0 = c at *
      generalize b.getD (8 + k) 0 = d at *
      have x0 := or8 p c p0 c0
      have x1 := or8 q d p1 c1
      have f0 : wr.cell? ⟨B + 1 + 1, 0, none⟩ = some (.int .u64 (p : Int)) := by rw [o2.cell]; rfl
      have f1 : wr.cell? ⟨B + 1 + 1, 1, none⟩ = some (.int .u64 (q : Int)) := by rw [o2.cell]; rfl
      have z0 := o2.free 0
      have z1 := o2.free 1
      have u2 : Upd (B + 2) wr ((wr.setCell ⟨B + 1 + 1, 0, none⟩ (.int .u64 ((p * 256 + c : Nat) : Int))).setCell ⟨B + 1 + 1, 1, none⟩ (.int .u64 ((q * 256 + d : Nat) : Int))).drew := (((Upd.refl _ wr).set 0 _).set 1 _).drew
      have HFI : Hid (Obj ((wr.setCell ⟨B + 1 + 1, 0, none⟩ (.int .u64 ((p * 256 + c : Nat) : Int))).setCell ⟨B + 1 + 1, 1, none⟩ (.int .u64 ((q * 256 + d : Nat) : Int))).drew B 22 (cellsN b) ∧ Obj ((wr.setCell ⟨B + 1 + 1, 0, none⟩ (.int .u64 ((p * 256 + c : Nat) : Int))).setCell ⟨B + 1 + 1, 1, none⟩ (.int .u64 ((q * 256 + d : Nat) : Int))).drew (B + 1) 45 #[.int .u64 0, .int .u64 0] ∧ Obj ((wr.setCell ⟨B + 1 + 1, 0, none⟩ (.int .u64 ((p * 256 + c : Nat) : Int))).setCell ⟨B + 1 + 1, 1, none⟩ (.int .u64 ((q * 256 + d : Nat) : Int))).drew (B + 2) 45 #[.int .u64 ((Gc.nb (b.take (k + 1)) : Nat) : Int), .int .u64 ((Gc.nb ((b.drop 8).take (k + 1)) : Nat) : Int)] ∧ Below w.heap.size w ((wr.setCell ⟨B + 1 + 1, 0, none⟩ (.int .u64 ((p * 256 + c : Nat) : Int))).setCell ⟨B + 1 + 1, 1, none⟩ (.int .u64 ((q * 256 + d : Nat) : Int))).drew) := by
        refine ⟨o0.upd u2 (by omega), o1.upd u2 (by omega), ?_, Upd.below hb2 (by omega) u2⟩
        rw [n0, n1]
        exact ((o2.set 0 _).set 1 _).as rfl
      clear o0 o1 o2 n0 n1 hb2 u2
      go_wp2
      go_region
      go_wp2
      go_roundw
      case rel => exact ⟨k + 1, by omega, by go_num, HFI.out⟩
      case measure => simp [intOf]; omega
    · obtain rfl : k = 8 := by omega
      have e1 : Gc.nb (b.take 8) = Gc.hi (Gc.nb b) := (Gc.nb_parts hl hb).1.symm
      have e2 : Gc.nb ((b.drop 8).take 8) = Gc.lo (Gc.nb b) := by rw [List.take_of_length_le (by rw [List.length_drop]; omega)]; exact (Gc.nb_parts hl hb).2.symm
      rw [e1, e2] at o2
      obtain ⟨p, hp⟩ : ∃ p, Gc.hi (Gc.nb b) = p := ⟨_, rfl⟩
      obtain ⟨q, hq⟩ : ∃ q, Gc.lo (Gc.nb b) = q := ⟨_, rfl⟩
      rw [hp, hq] at o2
      have HP := Lib.hid hp
      have HQ := Lib.hid hq
      have f0 : wr.cell? ⟨B + 1 + 1, 0, none⟩ = some (.int .u64 (p : Int)) := by rw [o2.cell]; rfl
      have f1 : wr.cell? ⟨B + 1 + 1, 1, none⟩ = some (.int .u64 (q : Int)) := by rw [o2.cell]; rfl
      have g0 : wr.cell? ⟨B + 1, 0, none⟩ = some (.int .u64 0) := by rw [o1.cell]; rfl
      have g1 : wr.cell? ⟨B + 1, 1, none⟩ = some (.int .u64 0) := by rw [o1.cell]; rfl
      have z0 := o1.free 0
      have z1 := o1.free 1
      have o1' := o1.set 0 (.int .u64 (p : Int))
      have g1' : (wr.setCell ⟨B + 1, 0, none⟩ (.int .u64 (p : Int))).cell? ⟨B + 1, 1, none⟩ = some (.int .u64 0) := by rw [o1'.cell]; rfl
      have o1'' := o1'.set 1 (.int .u64 (q : Int))
      have h0 : ((wr.setCell ⟨B + 1, 0, none⟩ (.int .u64 (p : Int))).setCell ⟨B + 1, 1, none⟩ (.int .u64 (q : Int))).cell? ⟨B + 1, 0, none⟩ = some (.int .u64 (p : Int)) := by rw [o1''.cell]; rfl
      have h1 : ((wr.setCell ⟨B + 1, 0, none⟩ (.int .u64 (p : Int))).setCell ⟨B + 1, 1, none⟩ (.int .u64 (q : Int))).cell? ⟨B + 1, 1, none⟩ = some (.int .u64 (q : Int)) := by rw [o1''.cell]; rfl
      have HB2 : Hid (Below w.heap.size w ((wr.setCell ⟨B + 1, 0, none⟩ (.int .u64 (p : Int))).setCell ⟨B + 1, 1, none⟩ (.int .u64 (q : Int)))) := Upd.below hb2 (show w.heap.size ≤ B + 1 by omega) (((Upd.refl _ wr).set 0 _).set 1 _)
      clear o0 o1 o2 o1' o1'' hb2 e1 e2 hp hq
      go_wp2
      exact bodyPost_ret (v := .agg #[.int .u64 (p : Int), .int .u64 (q : Int)]) (by simp [results, Try.results20, go_sem, h0, h1]) rfl ⟨by rw [HP.out, HQ.out], HB2.out⟩
end Go.Proofs.Ytnphanhoakbkpaa
