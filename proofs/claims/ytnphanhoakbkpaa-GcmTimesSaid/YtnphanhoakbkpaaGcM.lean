/- Layer 9's gcm, walked: alive. -/
import Derived.RangeFuncNested
import Derived.RangeFuncBound
import Derived.RangeFuncCalls
import Derived.RangeFuncLeaves
import Derived.RangeFuncBox
import Derived.Shelf.Abstract
import Derived.Shelf.RegionOpen
import Derived.WalkKit
import Derived.OwnWalkIn
import Derived.TacticsInMore
import Derived.LoopN
import Derived.LoopNIn
import Derived.LoopIn
import Derived.WalkSpells
import Derived.WalkLawsBesides
import Derived.Laws.Rows
import Derived.Laws.EntriesVeiled
import Derived.Laws.BitsAllLaws
import Derived.Handy
import Derived.BigQuiet
import Derived.Deep.QuietTactic
import Derived.IntWalk
import Derived.Lib.Hide
import Derived.Lib.SlBytesConst
import Derived.Laws.BytesArg
import Derived.Outline
import Derived.Test.YtnphanhoakbkpaaRows
import Derived.Test.YtnphanhoakbkpaaAid
import Derived.Test.YtnphanhoakbkpaaPlainAe
import Derived.Test.YtnphanhoakbkpaaPlainAe2
import Derived.Test.YtnphanhoakbkpaaPlainGc
import Derived.Test.YtnphanhoakbkpaaPlainGc2
import Derived.Test.YtnphanhoakbkpaaAesB
import Derived.Test.YtnphanhoakbkpaaAesBox
import Derived.Test.YtnphanhoakbkpaaAesW
import Derived.Test.YtnphanhoakbkpaaAesE
import Derived.Test.YtnphanhoakbkpaaAesK
import Derived.Test.YtnphanhoakbkpaaAesS
import Derived.Test.YtnphanhoakbkpaaAesT
import Derived.Test.YtnphanhoakbkpaaBl
import Derived.Test.YtnphanhoakbkpaaItF
import Derived.Test.YtnphanhoakbkpaaGcA
import Derived.Test.YtnphanhoakbkpaaGcB
import Derived.Test.YtnphanhoakbkpaaGcD
import Derived.Test.YtnphanhoakbkpaaGcE
import Derived.Test.YtnphanhoakbkpaaGcF
import Derived.Test.YtnphanhoakbkpaaGcG
import Derived.Test.YtnphanhoakbkpaaGcH
import Derived.Test.YtnphanhoakbkpaaGcI
import Derived.Test.YtnphanhoakbkpaaGcJ
import Derived.Test.YtnphanhoakbkpaaGcK
import Derived.Test.YtnphanhoakbkpaaGcL
namespace Go.Gc
open Go.Proofs.Ytnphanhoakbkpaa
def k1 : List Nat := 1 :: List.replicate 15 0
def n2 : List Nat := 2 :: List.replicate 11 0
def more4 : List Nat := [109, 111, 114, 101]
def mora4 : List Nat := [109, 111, 114, 97]
def text4 : List Nat := [116, 101, 120, 116]
theorem ex_1 : (sealT (List.replicate 16 0) (List.replicate 12 0) [] []).take 2 = [0x58, 0xe2] := by decide +kernel
theorem ex_2 : (openC k1 n2 mora4 (sealT k1 n2 more4 text4)).1 = 7 := by decide +kernel
theorem ex_3 : bn (mul (nb (128 :: List.replicate 15 0)) (nb (7 :: List.replicate 15 0))) = 7 :: List.replicate 15 0 := by decide +kernel
theorem openC_seal (key nonce more text : List Nat) : openC key nonce more (sealT key nonce more text) = (0, text) := by
  unfold openC
  rw [if_neg (by rw [sealT_len]; omega), open_seal]
end Go.Gc
namespace Go.Proofs.Ytnphanhoakbkpaa
open Go Go.RowKit Go.Shelf
set_option linter.unusedVariables false
set_option linter.unusedSimpArgs false
theorem Rd.nil (w : World) (A : Option Addr) : Rd w A [] := fun hp => by simp at hp
theorem Rd.some {w : World} {A : Option Addr} {l : List Nat} (h : Rd w A l) (hp : 0 < l.length) : ∃ b o, A = some ⟨b, o, none⟩ ∧ b < w.heap.size ∧ ∀ j, j < l.length → w.cell? ⟨b, o + j, none⟩ = some (.int .u8 ((l.getD j 0 : Nat) : Int)) := by
  obtain ⟨b, o, e, hb, hc⟩ := h hp
  exact ⟨b, o, e, hb, hc⟩
theorem lit_rd (w : World) (l : List Nat) (fr : Nat × Nat) : Rd (w.alloc (.cells (cellsN l) 5 fr)) (some ⟨w.heap.size, 0, none⟩) l := fun hp =>
  ⟨_, 0, rfl, by simp, fun j hj => by rw [Nat.zero_add, World.cell?_alloc_mark w (cellsN l) 5 fr j]; exact cellsN_get l j hj⟩
theorem lit_rd' (w : World) (l : List Nat) (fr : Nat × Nat) {g : Nat} (hg : w.heap.size = g) : Rd (w.alloc (.cells (cellsN l) 5 fr)) (some ⟨g, 0, none⟩) l := hg ▸ lit_rd w l fr
theorem conv_at (w : World) (C : Array Value) (n c g : Nat) (hg : g = w.heap.size) :
    (convert 23 23 (.slice (some ⟨g, 0, none⟩) n c)).run Try.prog (w.alloc (.cells C 5)) = .ok (.slice (some ⟨g, 0, none⟩) n c) (w.alloc (.cells C 5 (C.size, C.size + 1))) := by
  subst hg; exact Lib.run_convert_bytes_const w 23 5 C n c Try.underlying23 Try.underlying5
theorem str4 (w : World) (b o c : Nat) (h0 : w.cell? ⟨b, o, none⟩ = some (.int .u8 116)) (h1 : w.cell? ⟨b, o + 1, none⟩ = some (.int .u8 101)) (h2 : w.cell? ⟨b, o + 2, none⟩ = some (.int .u8 120)) (h3 : w.cell? ⟨b, o + 3, none⟩ = some (.int .u8 116)) :
    (convert 23 9 (.slice (some ⟨b, o, none⟩) 4 c)).run Try.prog w = .ok (.string { data := #[116, 101, 120, 116] }) w :=
  run_convert_bytes_arg (P := Try.prog) w 23 5 Try.underlying23 Try.underlying5 b o 4 c [116, 101, 120, 116] rfl (fun i hi => by
    have : i = 0 ∨ i = 1 ∨ i = 2 ∨ i = 3 := by omega
    rcases this with rfl | rfl | rfl | rfl
    · exact h0
    · exact h1
    · exact h2
    · exact h3) 9 Try.underlying9
/-- Seal, its answer as a slice. -/
theorem Seal_rd (key nonce : List Nat) (A1 : Option Addr) (n1 c1 : Nat) (more : List Nat) (A2 : Option Addr) (n2 c2 : Nat) (text : List Nat) (w : World) (l1 : key.length = 16) (q1 : Ae.bytes key) (l2 : nonce.length = 12) (q2 : Ae.bytes nonce) (r1 : Rd w A1 more) (m1 : more.length = n1) (b1 : Ae.bytes more) (k1 : n1 ≤ 1000000 ∧ n1 ≤ c1 ∧ c1 ≤ 9223372036854775807) (r2 : Rd w A2 text) (m2 : text.length = n2) (b2 : Ae.bytes text) (k2 : n2 ≤ 1000000) :
    Calls Try.prog 17 #[.agg (cellsN key), .agg (cellsN nonce), .slice A1 n1 c1, .slice A2 n2 c2] w fun e w' => ∃ b o c, e = .returned (.slice (some ⟨b, o, none⟩) (n2 + 16) c) ∧ n2 + 16 ≤ c ∧ c ≤ 9223372036854775807 ∧ Rd w' (some ⟨b, o, none⟩) (Gc.sealT key nonce more text) ∧ Below w.heap.size w w' :=
  (Seal_any key nonce A1 n1 c1 more A2 n2 c2 text w l1 q1 l2 q2 r1 m1 b1 k1 r2 m2 b2 k2).mono fun e w' ⟨v, e1, hown, hb⟩ => by
    obtain ⟨A, c, rfl, hl, h1, h2, hr⟩ := own_cap hown
    obtain ⟨b, o, rfl, _, _⟩ := hr (by rw [Gc.sealT_len]; omega)
    exact ⟨b, o, c, e1, h1, h2, hr, hb⟩

set_option maxRecDepth 100000 in
set_option maxHeartbeats 4000000 in
theorem alive_true (w : World) : Calls Try.prog 9 #[] w fun e w' => e = .returned (.bool true) ∧ Below w.heap.size w w' := by
  have HS1 : Hid (∀ W, Calls Try.prog 17 #[.agg #[.int .u8 0, .int .u8 0, .int .u8 0, .int .u8 0, .int .u8 0, .int .u8 0, .int .u8 0, .int .u8 0, .int .u8 0, .int .u8 0, .int .u8 0, .int .u8 0, .int .u8 0, .int .u8 0, .int .u8 0, .int .u8 0], .agg #[.int .u8 0, .int .u8 0, .int .u8 0, .int .u8 0, .int .u8 0, .int .u8 0, .int .u8 0, .int .u8 0, .int .u8 0, .int .u8 0, .int .u8 0, .int .u8 0], .slice none 0 0, .slice none 0 0] W fun e w' => ∃ b o c, e = .returned (.slice (some ⟨b, o, none⟩) 16 c) ∧ w'.cell? ⟨b, o, none⟩ = some (.int .u8 88) ∧ w'.cell? ⟨b, o + 1, none⟩ = some (.int .u8 226) ∧ b < w'.heap.size ∧ Below W.heap.size W w') := fun W =>
    (Seal_rd (List.replicate 16 0) (List.replicate 12 0) none 0 0 [] none 0 0 [] W rfl (Gc.zeros_bytes 16) rfl (Gc.zeros_bytes 12) (Rd.nil _ _) rfl (fun c hc => by simp at hc) (by omega) (Rd.nil _ _) rfl (fun c hc => by simp at hc) (by omega)).mono fun e w' ⟨b, o, c, e1, _, _, h1, h2⟩ => by
      obtain ⟨b', o', e', hb, hc⟩ := h1.some (by rw [Gc.sealT_len]; omega)
      cases e'
      have g0 := hc 0 (by rw [Gc.sealT_len]; simp)
      have g1 := hc 1 (by rw [Gc.sealT_len]; simp)
      have hx := Gc.ex_1
      have x0 : (Gc.sealT (List.replicate 16 0) (List.replicate 12 0) [] []).getD 0 0 = 88 := by
        have := congrArg (fun l => l.getD 0 0) hx
        simpa [List.getD_eq_getElem?_getD] using this
      have x1 : (Gc.sealT (List.replicate 16 0) (List.replicate 12 0) [] []).getD 1 0 = 226 := by
        have := congrArg (fun l => l.getD 1 0) hx
        simpa [List.getD_eq_getElem?_getD] using this
      rw [x0] at g0
      rw [x1] at g1
      exact ⟨b, o, c, e1, g0, g1, hb, h2⟩
  have q4 : Ae.bytes Gc.more4 := by unfold Ae.bytes Gc.more4; decide
  have q5 : Ae.bytes Gc.mora4 := by unfold Ae.bytes Gc.mora4; decide
  have q6 : Ae.bytes Gc.text4 := by unfold Ae.bytes Gc.text4; decide
  have qk : Ae.bytes Gc.k1 := by unfold Ae.bytes Gc.k1; decide
  have qn : Ae.bytes Gc.n2 := by unfold Ae.bytes Gc.n2; decide
  have HS2 : Hid (∀ W g g', Rd W (some ⟨g, 0, none⟩) Gc.more4 → Rd W (some ⟨g', 0, none⟩) Gc.text4 → Calls Try.prog 17 #[.agg #[.int .u8 1, .int .u8 0, .int .u8 0, .int .u8 0, .int .u8 0, .int .u8 0, .int .u8 0, .int .u8 0, .int .u8 0, .int .u8 0, .int .u8 0, .int .u8 0, .int .u8 0, .int .u8 0, .int .u8 0, .int .u8 0], .agg #[.int .u8 2, .int .u8 0, .int .u8 0, .int .u8 0, .int .u8 0, .int .u8 0, .int .u8 0, .int .u8 0, .int .u8 0, .int .u8 0, .int .u8 0, .int .u8 0], .slice (some ⟨g, 0, none⟩) 4 4, .slice (some ⟨g', 0, none⟩) 4 4] W fun e w' => ∃ b o c, e = .returned (.slice (some ⟨b, o, none⟩) 20 c) ∧ 20 ≤ c ∧ c ≤ 9223372036854775807 ∧ Rd w' (some ⟨b, o, none⟩) (Gc.sealT Gc.k1 Gc.n2 Gc.more4 Gc.text4) ∧ Below W.heap.size W w') := fun W g g' h1 h2 =>
    Seal_rd Gc.k1 Gc.n2 _ 4 4 Gc.more4 _ 4 4 Gc.text4 W rfl qk rfl qn h1 rfl q4 (by omega) h2 rfl q6 (by omega)
  have HO3 : Hid (∀ W g A c, Rd W (some ⟨g, 0, none⟩) Gc.more4 → Rd W A (Gc.sealT Gc.k1 Gc.n2 Gc.more4 Gc.text4) → 20 ≤ c → c ≤ 9223372036854775807 → Calls Try.prog 14 #[.agg #[.int .u8 1, .int .u8 0, .int .u8 0, .int .u8 0, .int .u8 0, .int .u8 0, .int .u8 0, .int .u8 0, .int .u8 0, .int .u8 0, .int .u8 0, .int .u8 0, .int .u8 0, .int .u8 0, .int .u8 0, .int .u8 0], .agg #[.int .u8 2, .int .u8 0, .int .u8 0, .int .u8 0, .int .u8 0, .int .u8 0, .int .u8 0, .int .u8 0, .int .u8 0, .int .u8 0, .int .u8 0, .int .u8 0], .slice (some ⟨g, 0, none⟩) 4 4, .slice A 20 c] W fun e w' => ∃ b o c', e = .returned (.tuple #[.slice (some ⟨b, o, none⟩) 4 c', .int .i64 0]) ∧ (b < w'.heap.size ∧ w'.cell? ⟨b, o, none⟩ = some (.int .u8 116) ∧ w'.cell? ⟨b, o + 1, none⟩ = some (.int .u8 101) ∧ w'.cell? ⟨b, o + 2, none⟩ = some (.int .u8 120) ∧ w'.cell? ⟨b, o + 3, none⟩ = some (.int .u8 116)) ∧ Below W.heap.size W w') := fun W g A c h1 h2 h3 h4 =>
    (Open_any Gc.k1 Gc.n2 _ 4 4 Gc.more4 A 20 c _ W rfl qk rfl qn h1 rfl q4 (by omega) h2 (by rw [Gc.sealT_len]; rfl) (Gc.sealT_bytes qk qn q6) (by omega)).mono fun e w' ⟨A', n', c', e1, h5, h6, h7, h8⟩ => by
      rw [Gc.openC_seal] at e1 h5 h6
      obtain ⟨b, o, rfl, hb, hc⟩ := h5.some (by decide)
      obtain rfl : 4 = n' := h6
      exact ⟨b, o, c', e1, ⟨hb, hc 0 (by decide), hc 1 (by decide), hc 2 (by decide), hc 3 (by decide)⟩, h8⟩
  have HO4 : Hid (∀ W g A c, Rd W (some ⟨g, 0, none⟩) Gc.mora4 → Rd W A (Gc.sealT Gc.k1 Gc.n2 Gc.more4 Gc.text4) → 20 ≤ c → c ≤ 9223372036854775807 → Calls Try.prog 14 #[.agg #[.int .u8 1, .int .u8 0, .int .u8 0, .int .u8 0, .int .u8 0, .int .u8 0, .int .u8 0, .int .u8 0, .int .u8 0, .int .u8 0, .int .u8 0, .int .u8 0, .int .u8 0, .int .u8 0, .int .u8 0, .int .u8 0], .agg #[.int .u8 2, .int .u8 0, .int .u8 0, .int .u8 0, .int .u8 0, .int .u8 0, .int .u8 0, .int .u8 0, .int .u8 0, .int .u8 0, .int .u8 0, .int .u8 0], .slice (some ⟨g, 0, none⟩) 4 4, .slice A 20 c] W fun e w' => ∃ v, e = .returned (.tuple #[v, .int .i64 7]) ∧ Below W.heap.size W w') := fun W g A c h1 h2 h3 h4 =>
    (Open_any Gc.k1 Gc.n2 _ 4 4 Gc.mora4 A 20 c _ W rfl qk rfl qn h1 rfl q5 (by omega) h2 (by rw [Gc.sealT_len]; rfl) (Gc.sealT_bytes qk qn q6) (by omega)).mono fun e w' ⟨A', n', c', e1, h5, h6, h7, h8⟩ => by
      rw [Gc.ex_2] at e1
      exact ⟨_, e1, h8⟩
  have HTM : Hid (∀ W, Calls Try.prog 10 #[.agg #[.int .u8 128, .int .u8 0, .int .u8 0, .int .u8 0, .int .u8 0, .int .u8 0, .int .u8 0, .int .u8 0, .int .u8 0, .int .u8 0, .int .u8 0, .int .u8 0, .int .u8 0, .int .u8 0, .int .u8 0, .int .u8 0], .agg #[.int .u8 7, .int .u8 0, .int .u8 0, .int .u8 0, .int .u8 0, .int .u8 0, .int .u8 0, .int .u8 0, .int .u8 0, .int .u8 0, .int .u8 0, .int .u8 0, .int .u8 0, .int .u8 0, .int .u8 0, .int .u8 0]] W fun e w' => e = .returned (.agg #[.int .u8 7, .int .u8 0, .int .u8 0, .int .u8 0, .int .u8 0, .int .u8 0, .int .u8 0, .int .u8 0, .int .u8 0, .int .u8 0, .int .u8 0, .int .u8 0, .int .u8 0, .int .u8 0, .int .u8 0, .int .u8 0]) ∧ Below W.heap.size W w') := fun W => by
    have := Times_any (128 :: List.replicate 15 0) (7 :: List.replicate 15 0) W rfl rfl (by unfold Ae.bytes; decide) (by unfold Ae.bytes; decide)
    rw [Gc.ex_3] at this
    exact this
  clear q4 q5 q6 qk qn
  go_enter Try.func9, Try.ntmps9
  go_wp2_with fail
  refine (HS1.out _).mono ?_
  rintro e w1 ⟨b1, o1, c1, rfl, d0, d1, hl1, hb1⟩
  have HW1 : Hid (Below w.heap.size w w1) := hb1
  obtain ⟨S1, hS1⟩ : ∃ S, w1.heap.size = S := ⟨_, rfl⟩
  have kcA := fun (C : Array Value) (n c : Nat) => conv_at w1 C n c S1 hS1.symm
  have kcB := fun (C0 : Array Value) (fr : Nat × Nat) (C : Array Value) (n c : Nat) => conv_at (w1.alloc (.cells C0 5 fr)) C n c (S1 + 1) (by simp [hS1])
  obtain ⟨W2, hW2⟩ : ∃ W2, (w1.alloc (.cells #[.int .u8 109, .int .u8 111, .int .u8 114, .int .u8 101] 5 (4, 5))).alloc (.cells #[.int .u8 116, .int .u8 101, .int .u8 120, .int .u8 116] 5 (4, 5)) = W2 := ⟨_, rfl⟩
  have k1 : Below w1.heap.size w1 W2 := hW2 ▸ ((Below.refl _ w1).alloc (Nat.le_refl _) _).alloc (by simp) _
  have m1 : Rd W2 (some ⟨S1, 0, none⟩) Gc.more4 := hW2 ▸ (lit_rd' w1 Gc.more4 (4, 5) hS1).below ((Below.refl _ _).alloc (Nat.le_refl _) _)
  have m2 : Rd W2 (some ⟨S1 + 1, 0, none⟩) Gc.text4 := hW2 ▸ lit_rd' (w1.alloc (.cells #[.int .u8 109, .int .u8 111, .int .u8 114, .int .u8 101] 5 (4, 5))) Gc.text4 (4, 5) (by simp [hS1])
  have HM1 := Lib.hid m1
  have HM2 := Lib.hid m2
  have HW1 := Lib.hid (hb1.trans (k1.mono hb1.size))
  have HD := Lib.hid (And.intro (Below.cell (p := ⟨b1, o1, none⟩) k1 hl1 |>.trans d0) (Below.cell (p := ⟨b1, o1 + 1, none⟩) k1 hl1 |>.trans d1))
  have HLB : Hid (b1 < W2.heap.size) := Nat.lt_of_lt_of_le hl1 k1.size
  have HW2 := Lib.hid hW2
  clear m1 m2 k1 hb1 d0 d1 hW2 hl1
  go_wp2_with fail
  rw [HW2.out]
  clear kcA kcB hS1
  refine (HS2.out _ S1 (S1 + 1) HM1.out HM2.out).mono ?_
  rintro e w3 ⟨b2, o2, c2, rfl, hc2, hc2', hr2, hb3⟩
  obtain ⟨S3, hS3⟩ : ∃ S, w3.heap.size = S := ⟨_, rfl⟩
  have kcA := fun (C : Array Value) (n c : Nat) => conv_at w3 C n c S3 hS3.symm
  obtain ⟨W4, hW4⟩ : ∃ W4, w3.alloc (.cells #[.int .u8 109, .int .u8 111, .int .u8 114, .int .u8 101] 5 (4, 5)) = W4 := ⟨_, rfl⟩
  have k3 : Below w3.heap.size w3 W4 := hW4 ▸ (Below.refl _ w3).alloc (Nat.le_refl _) _
  have b4 := hb3.trans (k3.mono hb3.size)
  have HM3 : Hid (Rd W4 (some ⟨S3, 0, none⟩) Gc.more4) := hW4 ▸ lit_rd' w3 Gc.more4 (4, 5) hS3
  have HR4 := Lib.hid (hr2.below k3)
  have HB4 := Lib.hid (HW1.out.trans (b4.mono HW1.out.size))
  have HD4 := Lib.hid (And.intro (Below.cell (p := ⟨b1, o1, none⟩) b4 HLB.out |>.trans HD.out.1) (Below.cell (p := ⟨b1, o1 + 1, none⟩) b4 HLB.out |>.trans HD.out.2))
  have HL4 : Hid (b1 < W4.heap.size) := Nat.lt_of_lt_of_le HLB.out b4.size
  have HW4 := Lib.hid hW4
  clear hW4 k3 b4 hb3 hr2 HM1 HM2 HD HLB
  go_wp2_with fail
  rw [HW4.out]
  clear kcA hS3
  refine (HO3.out _ S3 _ c2 HM3.out HR4.out hc2 hc2').mono ?_
  rintro e w5 ⟨b5, o5, c5, rfl, ⟨hl5, x0, x1, x2, x3⟩, hb5⟩
  obtain ⟨S5, hS5⟩ : ∃ S, w5.heap.size = S := ⟨_, rfl⟩
  have kcA := fun (C : Array Value) (n c : Nat) => conv_at w5 C n c S5 hS5.symm
  obtain ⟨W6, hW6⟩ : ∃ W6, w5.alloc (.cells #[.int .u8 109, .int .u8 111, .int .u8 114, .int .u8 97] 5 (4, 5)) = W6 := ⟨_, rfl⟩
  have k5 : Below w5.heap.size w5 W6 := hW6 ▸ (Below.refl _ w5).alloc (Nat.le_refl _) _
  have b6 := hb5.trans (k5.mono hb5.size)
  have HM5 : Hid (Rd W6 (some ⟨S5, 0, none⟩) Gc.mora4) := hW6 ▸ lit_rd' w5 Gc.mora4 (4, 5) hS5
  have HR6 := Lib.hid (HR4.out.below b6)
  have HB6 := Lib.hid (HB4.out.trans (b6.mono HB4.out.size))
  have hd0 := Below.cell (p := ⟨b1, o1, none⟩) b6 HL4.out |>.trans HD4.out.1
  have hd1 := Below.cell (p := ⟨b1, o1 + 1, none⟩) b6 HL4.out |>.trans HD4.out.2
  have hl6 := Nat.lt_of_lt_of_le HL4.out b6.size
  have hl5' := Nat.lt_of_lt_of_le hl5 k5.size
  have y0 := Below.cell (p := ⟨b5, o5, none⟩) k5 hl5 |>.trans x0
  have y1 := Below.cell (p := ⟨b5, o5 + 1, none⟩) k5 hl5 |>.trans x1
  have y2 := Below.cell (p := ⟨b5, o5 + 2, none⟩) k5 hl5 |>.trans x2
  have y3 := Below.cell (p := ⟨b5, o5 + 3, none⟩) k5 hl5 |>.trans x3
  have HW6 := Lib.hid hW6
  have HY := Lib.hid (And.intro (And.intro hd0 hd1) (And.intro y0 (And.intro y1 (And.intro y2 y3))))
  clear hW6 k5 b6 hb5 HM3 HR4 HD4 HL4 x0 x1 x2 x3 hd0 hd1 y0 y1 y2 y3
  go_wp2_with fail
  rw [HW6.out]
  clear kcA hS5
  refine (HO4.out _ S5 _ c2 HM5.out HR6.out hc2 hc2').mono ?_
  rintro e w7 ⟨v7, rfl, hb7⟩
  have z0 := Below.cell (p := ⟨b1, o1, none⟩) hb7 hl6 |>.trans HY.out.1.1
  have z1 := Below.cell (p := ⟨b1, o1 + 1, none⟩) hb7 hl6 |>.trans HY.out.1.2
  have y0 := Below.cell (p := ⟨b5, o5, none⟩) hb7 hl5' |>.trans HY.out.2.1
  have y1 := Below.cell (p := ⟨b5, o5 + 1, none⟩) hb7 hl5' |>.trans HY.out.2.2.1
  have y2 := Below.cell (p := ⟨b5, o5 + 2, none⟩) hb7 hl5' |>.trans HY.out.2.2.2.1
  have y3 := Below.cell (p := ⟨b5, o5 + 3, none⟩) hb7 hl5' |>.trans HY.out.2.2.2.2
  have hst := str4 w7 b5 o5 c5 y0 y1 y2 y3
  have HB7 := Lib.hid (HB6.out.trans (hb7.mono HB6.out.size))
  have heq := fun w => eq16 (x := 7 :: List.replicate 15 0) (y := 7 :: List.replicate 15 0) rfl rfl (by unfold Ae.bytes; decide) (by unfold Ae.bytes; decide) w
  rw [show decide (7 :: List.replicate 15 0 = 7 :: List.replicate 15 0) = true from rfl] at heq
  have heq' : ∀ w, (binOp .eql 22 (.agg #[.int .u8 7, .int .u8 0, .int .u8 0, .int .u8 0, .int .u8 0, .int .u8 0, .int .u8 0, .int .u8 0, .int .u8 0, .int .u8 0, .int .u8 0, .int .u8 0, .int .u8 0, .int .u8 0, .int .u8 0, .int .u8 0]) (.agg #[.int .u8 7, .int .u8 0, .int .u8 0, .int .u8 0, .int .u8 0, .int .u8 0, .int .u8 0, .int .u8 0, .int .u8 0, .int .u8 0, .int .u8 0, .int .u8 0, .int .u8 0, .int .u8 0, .int .u8 0, .int .u8 0])).run Try.prog w = .ok (.bool true) w := heq
  have eqg : Try.prog.eqGuardType Try.prog.depth 22 = false := by kernel_rfl
  clear hb7 HY HR6 HM5 y0 y1 y2 y3 heq
  go_wp2_with fail
  refine (HTM.out _).mono ?_
  rintro e w8 ⟨rfl, hb8⟩
  have HB8 := Lib.hid (HB7.out.trans (hb8.mono HB7.out.size))
  go_wp2
  go_ret
  exact ⟨rfl, HB8.out⟩
end Go.Proofs.Ytnphanhoakbkpaa
