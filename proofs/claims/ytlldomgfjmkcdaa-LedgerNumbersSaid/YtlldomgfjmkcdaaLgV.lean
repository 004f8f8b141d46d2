/- Layer 15: alive, walked. -/
import Derived.Test.YtlldomgfjmkcdaaRows
import Derived.Test.YtlldomgfjmkcdaaAid
import Derived.Test.YtlldomgfjmkcdaaLgW
import Derived.Test.YtlldomgfjmkcdaaLgD
import Derived.Test.YtlldomgfjmkcdaaLgO
import Derived.Test.YtlldomgfjmkcdaaLgQ
import Derived.Test.YtlldomgfjmkcdaaLgU
import Derived.WalkLawsBesides
import Derived.Laws.ComplexArith
import Derived.Outline
namespace Go.Proofs.Ytlldomgfjmkcdaa
open Go Go.RowKit
set_option linter.unusedVariables false
set_option linter.unusedSimpArgs false

theorem frNil (w : World) (c : Nat) : FrAt w none 0 [] := ⟨rfl, by simp, fun h => absurd h (by omega)⟩
theorem own_type {w : World} {base a : Nat} {v : Value} {x : LS} (h : StV w base a v x) {g : Nat} (hg : v.ownBlock = some g) : ∃ cur, w.heap[g]? = some (.cells cur 32 (0, 0)) := by
  rcases h.own.2 with ⟨rfl, _⟩ | ⟨g', c, cur, rfl, _, hb, _⟩
  · cases hg
  · cases hg; exact ⟨cur, hb⟩
theorem rng_ne {w : World} {base a b' : Nat} {A : Option Addr} {cs : Array Value} {o' m : Nat} (ho : Obj w b' 49 cs) (hA : A = some ⟨b', o', none⟩) : ∀ v x, StV w base a v x → ∀ g b o, 0 < m → v.ownBlock = some g → A = some ⟨b, o, none⟩ → b ≠ g := by
  intro v x hs g b o _ hg e he
  subst he
  rw [hA] at e; cases e
  obtain ⟨cur, hc⟩ := own_type hs hg
  have h2 : w.heap[b']? = _ := ho
  rw [hc] at h2; cases h2
/-- One range that was just laid. -/
theorem rng_one (w : World) (lo hi : Nat) : RbR (w.alloc (.cells #[.int .u64 (lo : Int), .int .u64 (hi : Int)] 49)) (some ⟨w.heap.size, 0, none⟩) [(lo, hi)] := fun _ => by
  have ho := Obj.new w 49 #[.int .u64 (lo : Int), .int .u64 (hi : Int)]
  refine ⟨_, _, rfl, ho.lt, fun i hi => ?_⟩
  obtain rfl : i = 0 := by simpa using hi
  exact ⟨by rw [ho.cell]; rfl, by rw [ho.cell]; rfl⟩

/-- So many packets that are alike. -/
def keysN (tm sz m : Nat) : List Key := (List.range m).map fun i => ⟨i, tm, sz, true⟩
theorem keysN_succ (tm sz m : Nat) : keysN tm sz (m + 1) = keysN tm sz m ++ [⟨m, tm, sz, true⟩] := by unfold keysN; rw [List.range_succ, List.map_append]; rfl
theorem keysN_length (tm sz m : Nat) : (keysN tm sz m).length = m := by unfold keysN; simp
theorem keysN_kb (tm sz m : Nat) (hm : m ≤ 1000000) (ht : tm ≤ 18446744073709551615) (hs : sz ≤ 1200) : KB (keysN tm sz m) := fun p hp => by
  unfold keysN at hp
  obtain ⟨i, hi, rfl⟩ := List.mem_map.1 hp
  have := List.mem_range.1 hi
  exact ⟨by show i + 1 ≤ _; omega, ht, hs⟩
set_option maxRecDepth 100000 in
set_option maxHeartbeats 4000000 in
theorem alive_any (w : World) : Calls Try.prog 7 #[] w fun e w' => e = .returned (.bool true) ∧ Below w.heap.size w w' := by
  obtain ⟨B, hB⟩ : ∃ B, w.heap.size = B := ⟨_, rfl⟩
  obtain ⟨W1, hW1⟩ : ∃ W1, (w.alloc (.cells #[.slice none 0 0, .int .i64 0, .int .i64 0] 27)).alloc (.cells #[.int .i64 0, .int .u64 5, .int .i64 100, .bool true, .slice none 0 0] 32) = W1 := ⟨_, rfl⟩
  have hb1 : Below w.heap.size w W1 := hW1 ▸ ((Below.refl _ w).alloc (Nat.le_refl _) _).alloc (by simp) _
  have hs1 : W1.heap.size = B + 2 := by rw [← hW1, ← hB]; simp
  have o0 : Obj W1 B 27 #[.slice none 0 0, .int .i64 0, .int .i64 0] := hW1 ▸ hB ▸ (Obj.new w _ _).alloc _
  have o1 : Obj W1 (B + 1) 32 #[.int .i64 0, .int .u64 5, .int .i64 100, .bool true, .slice none 0 0] := by
    have := Obj.new (w.alloc (.cells #[.slice none 0 0, .int .i64 0, .int .i64 0] 27)) 32 #[.int .i64 0, .int .u64 5, .int .i64 100, .bool true, .slice none 0 0]
    rw [World.size_alloc, hB] at this
    exact hW1 ▸ this
  have L1 : LK w (B + 2) B (keysN 5 100 0) 0 0 W1 := LK.start hb1 (by omega) o0 (by omega) (by omega)
  have HP : Hid (∀ W, Keep (B + 2) B W1 W → Obj W (B + 1) 32 #[.int .i64 0, .int .u64 5, .int .i64 100, .bool true, .slice none 0 0] ∧ (W.cell? ⟨B + 1, 0, none⟩ = some (.int .i64 0) ∧ W.cell? ⟨B + 1, 1, none⟩ = some (.int .u64 5) ∧ W.cell? ⟨B + 1, 2, none⟩ = some (.int .i64 100) ∧ W.cell? ⟨B + 1, 3, none⟩ = some (.bool true) ∧ W.cell? ⟨B + 1, 4, none⟩ = some (.slice none 0 0))) := fun W hk => by
    have o := o1.keep hk (by omega) (by omega)
    exact ⟨o, by rw [o.cell]; rfl, by rw [o.cell]; rfl, by rw [o.cell]; rfl, by rw [o.cell]; rfl, by rw [o.cell]; rfl⟩
  have HSN : Hid (∀ (m : Nat) (W : World), m < 64 → LK w (B + 2) B (keysN 5 100 m) m 0 W → Calls Try.prog 9 #[.pointer (some ⟨B, 0, none⟩), .agg #[.int .i64 0, .int .u64 5, .int .i64 100, .bool true, .slice none 0 0]] W fun e w' => e = .returned (.tuple #[.int .i64 (m : Int), .int .i64 0]) ∧ LK w (B + 2) B (keysN 5 100 (m + 1)) (m + 1) 0 w' ∧ Keep (B + 2) B W w') := fun m W hm hL => by
    rw [keysN_succ]
    exact send_k hL 0 5 100 true none 0 0 [] (by omega) (by rw [keysN_length]; exact hm) (by omega) (frNil _ 0) (by omega)
  have K1 := Lib.hid (Keep.refl (B + 2) B W1)
  have L1 := Lib.hid L1
  have HW1 := Lib.hid hW1
  clear o0 o1 hb1 hs1 hW1
  go_enter Try.func7, Try.ntmps7
  go_wp2_with fail
  rw [HW1.out]
  refine (HSN.out 0 _ (by omega) L1.out).mono ?_
  rintro e W2 ⟨rfl, l2, k2⟩
  have L2 := Lib.hid l2
  have K2 := Lib.hid (K1.out.trans k2)
  clear l2 k2 L1 K1
  obtain ⟨-, p0, p1, p2, p3, p4⟩ := HP.out W2 K2.out
  go_wp2_with fail
  refine (HSN.out 1 _ (by omega) L2.out).mono ?_
  rintro e W3 ⟨rfl, l3, k3⟩
  have L3 := Lib.hid l3
  have K3 := Lib.hid (K2.out.trans k3)
  clear l3 k3 p0 p1 p2 p3 p4 L2 K2
  have HFL := flight_k L3.out (by decide) (keysN_kb _ _ _ (by omega) (by omega) (by omega))
  rw [show Fl.F (cntK (keysN 5 100 (1 + 1))) = 4611686018427387904 by decide +kernel, show Fl.F (smsK (keysN 5 100 (1 + 1))) = 4641240890982006784 by decide +kernel] at HFL
  have HFL := Lib.hid HFL
  go_wp2_with fail
  refine HFL.out.mono ?_
  rintro e W4 ⟨rfl, l4, k4⟩
  have L4 := Lib.hid l4
  have K4 := Lib.hid (K3.out.trans k4)
  clear l4 k4 L3 K3 HFL
  go_wp2
  go_loopw [8] (fun i wr => ∃ k : Nat, k ≤ 3 ∧ i = .int .i64 (k : Int) ∧ LK w (B + 2) B (keysN 5 100 (2 + k)) (2 + k) 0 wr ∧ Keep (B + 2) B W1 wr) (fun i _ => 3 - (intOf i).toNat)
  case atStart => exact ⟨0, by omega, rfl, L4.out, K4.out⟩
  case round =>
    clear L4 K4
    obtain ⟨k, hk, rfl, hL, hK⟩ := hrel
    have L5 := Lib.hid hL
    have K5 := Lib.hid hK
    clear hL hK
    by_cases hlt : k < 3
    · have hki : (k : Int) < 3 := by omega
      obtain ⟨-, p0, p1, p2, p3, p4⟩ := HP.out _ K5.out
      go_wp2_with fail
      refine (HSN.out (2 + k) _ (by omega) L5.out).mono ?_
      rintro e W6 ⟨rfl, l6, k6⟩
      have L6 := Lib.hid l6
      have K6 := Lib.hid (K5.out.trans k6)
      clear l6 k6
      go_wp2
      go_roundw
      case rel => exact ⟨k + 1, by omega, by go_num, L6.out, K6.out⟩
      case measure => simp [intOf]; omega
    · obtain rfl : k = 3 := by omega
      obtain ⟨W6, hW6⟩ : ∃ W6, wr.alloc (.cells #[.int .u64 4, .int .u64 4] 49) = W6 := ⟨_, rfl⟩
      have hb6 : Below wr.heap.size wr W6 := hW6 ▸ (Below.refl _ wr).alloc (Nat.le_refl _) _
      have o6 : Obj W6 wr.heap.size 49 #[.int .u64 4, .int .u64 4] := hW6 ▸ Obj.new wr _ _
      have r6 : RbR W6 (some ⟨wr.heap.size, 0, none⟩) [(4, 4)] := hW6 ▸ rng_one wr 4 4
      have l6 := L5.out.kept hb6
      have hA := ack_k l6.1 (some ⟨wr.heap.size, 0, none⟩) 1 1 [(4, 4)] (by decide) (keysN_kb _ _ _ (by omega) (by omega) (by omega)) (by omega) (by omega) rfl (by omega) r6 (rng_ne o6 rfl) (by simp) (by decide)
      rw [show (keysN 5 100 (2 + 3)).filter (inRsK [(4, 4)]) = [⟨4, 5, 100, true⟩] by decide, show (keysN 5 100 (2 + 3)).filter (fun p => !inRsK [(4, 4)] p) = keysN 5 100 4 by decide, show ackMK 0 [⟨4, 5, 100, true⟩] = 5 by decide] at hA
      have HA := Lib.hid hA
      have K6 := Lib.hid (K5.out.trans l6.2)
      clear hA l6 r6 o6 hb6 K5 L5
      go_wp2_with fail
      refine HA.out.mono ?_
      rintro e W7 ⟨gv, G, rfl, hown, hG, l7, k7⟩
      obtain ⟨A7, c7, rfl, _, _, _, _, _⟩ := ownS_rb hown
      have L7 := Lib.hid l7
      have K7 := Lib.hid (K6.out.trans k7)
      clear hown hG l7 k7 HA
      have hA := lost_k L7.out 6 10 (by decide) (keysN_kb _ _ _ (by omega) (by omega) (by omega)) (by omega) (by omega)
      rw [show (keysN 5 100 4).filter (lostK 5 10 6) = keysN 5 100 2 by decide +kernel, show (keysN 5 100 4).filter (fun p => !lostK 5 10 6 p) = [⟨2, 5, 100, true⟩, ⟨3, 5, 100, true⟩] by decide +kernel] at hA
      have HA := Lib.hid hA
      clear hA
      go_wp2_with fail
      refine HA.out.mono ?_
      rintro e W8 ⟨gv, G', rfl, hown, hG, l8, k8⟩
      rw [show (keysN 5 100 2).length = 2 by rfl] at hown
      obtain ⟨A8, c8, rfl, _, _, _, _, _⟩ := ownS_rb hown
      have L8 := Lib.hid l8
      have K8 := Lib.hid (K7.out.trans k8)
      clear hown hG l8 k8 HA L7 K7
      obtain ⟨W9, hW9⟩ : ∃ W9, W8.alloc (.cells #[.int .u64 9, .int .u64 9] 49) = W9 := ⟨_, rfl⟩
      have hb9 : Below W8.heap.size W8 W9 := hW9 ▸ (Below.refl _ W8).alloc (Nat.le_refl _) _
      have o9 : Obj W9 W8.heap.size 49 #[.int .u64 9, .int .u64 9] := hW9 ▸ Obj.new W8 _ _
      have r9 : RbR W9 (some ⟨W8.heap.size, 0, none⟩) [(9, 9)] := hW9 ▸ rng_one W8 9 9
      have l9 := L8.out.kept hb9
      have kb : KB [⟨2, 5, 100, true⟩, ⟨3, 5, 100, true⟩] := fun p hp => by
        simp only [List.mem_cons, List.not_mem_nil, or_false] at hp
        rcases hp with rfl | rfl <;> (refine ⟨?_, ?_, ?_⟩ <;> simp)
      have hA := ackbad_k l9.1 (some ⟨W8.heap.size, 0, none⟩) 1 1 [(9, 9)] (by decide) kb (by omega) (by omega) rfl (by omega) r9 (rng_ne o9 rfl) (by simp) (by decide)
      have HA := Lib.hid hA
      have K9 := Lib.hid (K8.out.trans l9.2)
      have KBB := Lib.hid kb
      clear hA l9 r9 o9 hb9 K8 L8 kb
      go_wp2_with fail
      refine HA.out.mono ?_
      rintro e WA ⟨rfl, lA, kA⟩
      have LA := Lib.hid lA
      have KA := Lib.hid (K9.out.trans kA)
      clear lA kA K9 HA
      have HC := Lib.hid (acked_k LA.out (by omega))
      go_wp2_with fail
      refine HC.out.mono ?_
      rintro e w' ⟨rfl, rfl⟩
      clear HC
      have HC := Lib.hid (next_k LA.out)
      go_wp2_with fail
      refine HC.out.mono ?_
      rintro e w' ⟨rfl, rfl⟩
      clear HC
      have hD := due_k LA.out 10 (by decide) KBB.out (by omega) (by omega)
      rw [show dueLK [⟨2, 5, 100, true⟩, ⟨3, 5, 100, true⟩] 5 10 = 15 by decide +kernel] at hD
      have HD := Lib.hid hD
      clear hD
      go_wp2_with fail
      refine HD.out.mono ?_
      rintro e WB ⟨rfl, lB, kB⟩
      have LB := Lib.hid lB
      have KB := Lib.hid (KA.out.trans kB)
      clear lB kB KA LA HD
      have HD := Lib.hid (list_k LB.out (by decide))
      go_wp2_with fail
      refine HD.out.mono ?_
      rintro e WC ⟨gv, G'', rfl, hown, hG, lC, kC⟩
      obtain ⟨AC, cC, rfl, _, _, _, _, _⟩ := ownS_rb hown
      have LC := Lib.hid lC
      have KC := Lib.hid (KB.out.trans kC)
      clear hown hG lC kC KB LB HD
      have HD := Lib.hid (drop_k LC.out (by decide))
      go_wp2_with fail
      refine HD.out.mono ?_
      rintro e WD ⟨rfl, lD, kD⟩
      have LD := Lib.hid lD
      clear lD kD HD
      go_wp2
      go_ret
      exact ⟨rfl, LD.out.bel⟩
end Go.Proofs.Ytlldomgfjmkcdaa
