/- LedgerActs, walked. -/
import Derived.Test.YtlldomgfjmkcdaaRows
import Derived.Test.YtlldomgfjmkcdaaAid
import Derived.Test.YtlldomgfjmkcdaaPlainFl
import Derived.Test.YtlldomgfjmkcdaaHeldT
import Derived.Test.YtlldomgfjmkcdaaLgV
import Derived.Test.YtlldomgfjmkcdaaLgX
import Derived.Test.YtlldomgfjmkcdaaLgZ
import Derived.Test.YtlldomgfjmkcdaaLgF2
import Derived.Test.YtlldomgfjmkcdaaLgG2
import Derived.Test.YtlldomgfjmkcdaaLaI
import Derived.Test.YtlldomgfjmkcdaaLaJ
import Derived.Test.YtlldomgfjmkcdaaLaK
import Derived.Test.YtlldomgfjmkcdaaLaL
import Derived.Test.YtlldomgfjmkcdaaTk
import Derived.WalkLawsBesides
import Derived.Laws.ComplexArith
import Derived.Deep.CutBlock
import Derived.Deep.DeepCutAuto
import Derived.Deep.LoopGhost
import Derived.Lib.Hide
namespace Go.Proofs.Ytlldomgfjmkcdaa
open Go Go.RowKit Rm
open Go.ChangeShapes Go.WideShapes Go.Deep
set_option linter.unusedVariables false
set_option linter.unusedSimpArgs false

theorem last_nil' (w : World) : Calls Try.prog 17 #[.pointer none] w fun e w' => e = .returned (.tuple #[.int .u64 0, .bool false]) ∧ Below w.heap.size w w' := last_nil w
theorem ord0 : (FloatKind.f64.format.order 0 0 == some .eq) = true := by decide +kernel
/-- Between two acts. -/
def LoI (w0 : World) (B D k : Nat) (W : World) : Prop := ∃ v vd x y ks, LV w0 B D v vd x y ks ks x.next x.acked W ∧ KO w0 ks x.next x.acked ∧ x.next ≤ k
theorem Acts15.beloww {w w' : World} {A : Option Addr} {n : Nat} {l : List Act15} (h : Acts15 w A n l) (hb : Below w.heap.size w w') : Acts15 w' A n l :=
  ⟨h.1, fun a ha => by
    have q := h.2.1 a ha
    exact ⟨q.num, q.sz, q.tm, q.d, q.fl, q.fc, fun hp => by
      obtain ⟨b, o, e, h1, h2⟩ := q.fr hp
      exact ⟨b, o, e, Nat.lt_of_lt_of_le h1 hb.size, fun i hi j v hv => (World.cell?_of_block (a := ⟨b, o + i * 24 + j, none⟩) (hb.block b h1)).trans (h2 i hi j v hv)⟩, fun f hf => (q.fok f hf).beloww hb, q.rl, q.rc, q.rb.below hb, q.rng⟩,
   fun hp => by
    obtain ⟨b, o, e, h1, h2⟩ := h.2.2 hp
    exact ⟨b, o, e, Nat.lt_of_lt_of_le h1 hb.size, fun i hi j v hv => (World.cell?_of_block (a := ⟨b, o + i * 8 + j, none⟩) (hb.block b h1)).trans (h2 i hi j v hv)⟩⟩
set_option maxRecDepth 100000 in
set_option maxHeartbeats 16000000 in
theorem ledgerActs_walk (A0 : Option Addr) (n0 c0 : Nat) (l0 : List Act15) (w : World) (hl : Acts15 w A0 n0 l0) (hc : n0 ≤ c0 ∧ c0 ≤ maxLen) :
    Calls Try.prog 6 #[.slice A0 n0 c0] w fun e w' => e = .returned (.bool true) ∧ Below w.heap.size w w' := by
  have HL := Lib.hid hl
  have HC := Lib.hid hc
  have hcm : n0 ≤ c0 ∧ c0 ≤ 9223372036854775807 := ⟨hc.1, by have := hc.2; simp only [maxLen] at this; omega⟩
  clear hl hc
  go_enter Try.func6, Try.ntmps6
  go_wp2_with fail
  refine (alive_any w).mono ?_
  rintro e w1 ⟨rfl, hb⟩
  have HB := Lib.hid hb
  clear hb
  have HL1 := Lib.hid (HL.out.beloww HB.out)
  go_wp2_with fail
  refine (few_any A0 n0 c0 l0 w1 HL1.out HC.out).mono ?_
  rintro e w' ⟨b, rfl, hfew, rfl⟩
  have HFW := Lib.hid hfew
  clear hfew HL1
  cases b with
  | false =>
    go_wp2
    go_ret
    exact ⟨rfl, HB.out⟩
  | true =>
    have HF : Hid (Few l0) := HFW.out rfl
    clear HFW
    go_wp2_with fail
    refine (send_nil _).mono ?_
    rintro e w2 ⟨rfl, hb2⟩
    have HB2 := Lib.hid (HB.out.trans (hb2.mono HB.out.size))
    clear hb2
    go_wp2_with fail
    refine (ack_nil _).mono ?_
    rintro e w3 ⟨rfl, hb3⟩
    have HB3 := Lib.hid (HB2.out.trans (hb3.mono HB2.out.size))
    clear hb3
    go_wp2_with fail
    refine (last_nil' _).mono ?_
    rintro e w4 ⟨rfl, hb4⟩
    have HB4 := Lib.hid (HB3.out.trans (hb4.mono HB3.out.size))
    clear hb4
    go_wp2_with fail
    refine (lost_nil _).mono ?_
    rintro e w5 ⟨rfl, hb5⟩
    have HB5 := Lib.hid (HB4.out.trans (hb5.mono HB4.out.size))
    clear hb5
    go_wp2_with fail
    refine (list_nil0 _).mono ?_
    rintro e w' ⟨rfl, rfl⟩
    go_wp2_with fail
    refine (drop_nil _).mono ?_
    rintro e w6 ⟨rfl, hb6⟩
    have HB6 := Lib.hid (HB5.out.trans (hb6.mono HB5.out.size))
    clear hb6
    go_wp2_with fail
    refine (due_nil _).mono ?_
    rintro e w7 ⟨rfl, hb7⟩
    have HB7 := Lib.hid (HB6.out.trans (hb7.mono HB6.out.size))
    clear hb7
    go_wp2_with fail
    refine (flight_nil _).mono ?_
    rintro e w8 ⟨rfl, hb8⟩
    have HB8 := Lib.hid (HB7.out.trans (hb8.mono HB7.out.size))
    clear hb8
    have o0 := ord0
    go_wp2_with fail
    refine (next_nil _).mono ?_
    rintro e w' ⟨rfl, rfl⟩
    clear o0
    go_wp2_with fail
    refine (acked_nil _).mono ?_
    rintro e w' ⟨rfl, rfl⟩
    clear HB HB2 HB3 HB4 HB5 HB6 HB7
    obtain ⟨B, hB⟩ : ∃ B, w8.heap.size = B := ⟨_, rfl⟩
    obtain ⟨W1, hW1⟩ : ∃ W1, (w8.alloc (.cells #[.slice none 0 0, .int .i64 0, .int .i64 0] 27)).alloc (.cells #[.slice none 0 0, .int .i64 0, .int .i64 0] 59) = W1 := ⟨_, rfl⟩
    have hb1 : Below w8.heap.size w8 W1 := hW1 ▸ ((Below.refl _ w8).alloc (Nat.le_refl _) _).alloc (by simp) _
    have o0 : Obj W1 B 27 #[.slice none 0 0, .int .i64 0, .int .i64 0] := hW1 ▸ hB ▸ (Obj.new w8 _ _).alloc _
    have o1 : Obj W1 (B + 1) 59 #[.slice none 0 0, .int .i64 0, .int .i64 0] := by
      have := Obj.new (w8.alloc (.cells #[.slice none 0 0, .int .i64 0, .int .i64 0] 27)) 59 #[.slice none 0 0, .int .i64 0, .int .i64 0]
      rw [World.size_alloc, hB] at this
      exact hW1 ▸ this
    have hsz : W1.heap.size = B + 1 + 1 := by rw [← hW1, World.size_alloc, World.size_alloc, hB]
    obtain ⟨D, hD⟩ : ∃ D, B + 1 = D := ⟨_, rfl⟩
    have HI1 : Hid (LoI w B D 0 W1) := by
      rw [hD] at o1 hsz
      have hs8 := HB8.out.size
      exact ⟨.slice none 0 0, .slice none 0 0, ⟨[], 0, 0⟩, [], [], ⟨HB8.out.trans (hb1.mono HB8.out.size), ⟨by omega, by omega⟩, ⟨o0, World.ownsRow_nil _ _ _ _, by omega, by omega⟩, trivial, fun p hp => (by cases hp), ⟨o1, World.ownsRow_nil _ _ _ _⟩, trivial, fun g e => (by cases e)⟩, ⟨OnceB.start, fun k hk => (by cases hk)⟩, Nat.le_refl _⟩
    have HW1 := Lib.hid hW1
    have HB0 := Lib.hid hB
    have HDD := Lib.hid hD
    have HLW : Hid (∀ (k : Nat) (W : World), k < n0 → Below w.heap.size w W → AOk w (l0.getD k default) ∧ FewA (l0.getD k default) ∧ ∃ G off, A0 = some ⟨G, off, none⟩ ∧ G < w.heap.size ∧ ∀ j v, (acells (l0.getD k default))[j]? = some v → W.cell? ⟨G, off + k * 8 + j, none⟩ = some v) := fun k W hk hbW => by
      obtain ⟨q1, q2, q3⟩ := HL.out
      obtain ⟨G, off, e, hG, hcl⟩ := q3 (by omega)
      have hm : l0.getD k default ∈ l0 := getD_mem (by omega)
      exact ⟨q2 _ hm, HF.out.2 _ hm, G, off, e, hG, fun j v hv => (World.cell?_of_block (a := ⟨G, off + k * 8 + j, none⟩) (hbW.block G hG)).trans (hcl k hk j v hv)⟩
    have h120 : n0 ≤ 120 := by have := HF.out.1; rw [HL.out.1] at this; exact this
    clear hW1 hb1 o0 o1 hsz hB hD
    go_wp2
    rw [HW1.out, HB0.out, HDD.out]
    clear HW1 HB0 HDD HB8
    as_aux_lemma =>
    go_loopg [12] n0 (fun g i wr => ∃ k : Nat, k + g = n0 ∧ i = .int .i64 (k : Int) ∧ LoI w B D k wr)
    case atStart => exact ⟨0, by omega, rfl, HI1.out⟩
    case round =>
      clear HI1
      obtain ⟨k, hk, rfl, v0, vd0, x0, y0, ks, hI, hK, hnk⟩ := hrel
      by_cases hlt : k < n0
      · as_aux_lemma =>
        have hki : (k : Int) < (n0 : Int) := by omega
        obtain ⟨hA, hFw, G, off, rfl, hG, hcl⟩ := HLW.out k wr hlt hI.bel
        generalize l0.getD k default = a at *
        obtain ⟨T, hT⟩ : ∃ T, wr.heap.size = T := ⟨_, rfl⟩
        obtain ⟨W2, hW2⟩ : ∃ W, wr.alloc (.cells (acells a).toArray 35) = W := ⟨_, rfl⟩
        have hb2 : Below wr.heap.size wr W2 := hW2 ▸ (Below.refl _ wr).alloc (Nat.le_refl _) _
        obtain ⟨nx, hnx⟩ : ∃ nx, x0.next = nx := ⟨_, rfl⟩
        obtain ⟨ak, hak⟩ : ∃ ak, x0.acked = ak := ⟨_, rfl⟩
        rw [hnx, hak] at hI hK
        rw [hnx] at hnk
        have HS2 : Hid (St w B D T a ks nx ak ks nx ak W2) := ⟨⟨v0, vd0, x0, y0, hI.kept hb2, hnx, hak⟩, hT ▸ hW2 ▸ Obj.new wr _ _⟩
        have HKO := Lib.hid hK
        have HA := Lib.hid hA
        have HFA := Lib.hid hFw
        have hnx1 : nx ≤ 1000 := by omega
        have hnx2 : nx < 121 := by omega
        have HNK := Lib.hid hnk
        obtain ⟨kind, num, tm, sz, ask, fA, fn, fc, frs, rA, rn, rc, rngs, d⟩ := a
        have f0 : wr.cell? ⟨G, off + k * 8, none⟩ = some (.int .i64 kind) := hcl 0 _ rfl
        have f1 : wr.cell? ⟨G, off + k * 8 + 1, none⟩ = some (.int .i64 num) := hcl 1 _ rfl
        have f2 : wr.cell? ⟨G, off + k * 8 + 2, none⟩ = some (.int .u64 (tm : Int)) := hcl 2 _ rfl
        have f3 : wr.cell? ⟨G, off + k * 8 + 3, none⟩ = some (.int .i64 sz) := hcl 3 _ rfl
        have f4 : wr.cell? ⟨G, off + k * 8 + 4, none⟩ = some (.bool ask) := hcl 4 _ rfl
        have f5 : wr.cell? ⟨G, off + k * 8 + 5, none⟩ = some (.slice fA fn fc) := hcl 5 _ rfl
        have f6 : wr.cell? ⟨G, off + k * 8 + 6, none⟩ = some (.slice rA rn rc) := hcl 6 _ rfl
        have f7 : wr.cell? ⟨G, off + k * 8 + 7, none⟩ = some (.int .u64 (d : Int)) := hcl 7 _ rfl
        have HW2 : Hid (wr.alloc (.cells #[.int .i64 kind, .int .i64 num, .int .u64 (tm : Int), .int .i64 sz, .bool ask, .slice fA fn fc, .slice rA rn rc, .int .u64 (d : Int)] 35) = W2) := hW2
        have HTT := Lib.hid hT
        obtain ⟨a, ha⟩ : ∃ a : Act15, (⟨kind, num, tm, sz, ask, fA, fn, fc, frs, rA, rn, rc, rngs, d⟩ : Act15) = a := ⟨_, rfl⟩
        rw [ha] at HS2 HA HFA
        have HAE := Lib.hid ha
        have HCF : Hid (∀ W, Obj W T 35 (acells a).toArray → (W.cell? ⟨T, 0, none⟩ = some (.int .i64 kind) ∧ W.cell? ⟨T, 1, none⟩ = some (.int .i64 num) ∧ W.cell? ⟨T, 2, none⟩ = some (.int .u64 (tm : Int)) ∧ W.cell? ⟨T, 3, none⟩ = some (.int .i64 sz) ∧ W.cell? ⟨T, 4, none⟩ = some (.bool ask) ∧ W.cell? ⟨T, 5, none⟩ = some (.slice fA fn fc) ∧ W.cell? ⟨T, 6, none⟩ = some (.slice rA rn rc) ∧ W.cell? ⟨T, 7, none⟩ = some (.int .u64 (d : Int)))) := fun W ho => by
          subst ha
          exact ⟨ho.cell 0, ho.cell 1, ho.cell 2, ho.cell 3, ho.cell 4, ho.cell 5, ho.cell 6, ho.cell 7⟩
        clear hT hW2 hb2 hI hK hA hFw hcl hnx hak hG ha hnk
        go_upto_region 17 with fail
        rw [HTT.out, HW2.out]
        clear f0 f1 f2 f3 f4 f5 f6 f7 HW2 HTT HLW
        obtain ⟨g0, -⟩ := HCF.out W2 HS2.out.2
        go_upto_block 2 with fail
        go_cut [14] (fun s wx => s = .bool true ∧ ∃ (ks' : List KF) (nx' ak' : Nat), St w B D T a ks' nx' ak' ks' nx' ak' wx ∧ KO w ks' nx' ak' ∧ nx' ≤ nx + 1)
        case first =>
          by_cases hk0 : kind = 0
          · subst hk0
            as_aux_lemma =>
              obtain ⟨n1, n2, ks', nx', hS1, hS2, hK', hn'⟩ := st_send (B := B) (D := D) (T := T) a HKO.out hnx1 HA.out HFA.out
              have HE : Hid (a.num = num ∧ a.tm = tm ∧ a.sz = sz ∧ a.ask = ask ∧ a.fA = fA ∧ a.fn = fn ∧ a.fc = fc) := by rw [← HAE.out]; exact ⟨rfl, rfl, rfl, rfl, rfl, rfl, rfl⟩
              obtain ⟨q1, q2, q3, q4, q5, q6, q7⟩ := HE.out
              rw [q1, q2, q3, q4, q5, q6, q7] at hS1 hS2
              have HS3 := Lib.hid (hS1 _ HS2.out)
              have HS4 := Lib.hid hS2
              have HK' := Lib.hid hK'
              obtain ⟨-, p1, p2, p3, p4, p5, -⟩ := HCF.out W2 HS2.out.2
              clear hS1 hS2 hK' HE q1 q2 q3 q4 q5 q6 q7
              go_wp2_with fail
              refine HS3.out.mono ?_
              rintro e w3 ⟨rfl, hs3⟩
              have HS5 := Lib.hid (HS4.out _ hs3)
              clear p1 p2 p3 p4 p5
              obtain ⟨-, p1, p2, p3, p4, p5, -⟩ := HCF.out w3 hs3.2
              clear hs3 HS3 HS4
              go_wp2_with fail
              refine HS5.out.mono ?_
              rintro e w4 ⟨rfl, hs4⟩
              have HS6 := Lib.hid hs4
              clear hs4 HS5 p1 p2 p3 p4 p5
              go_wp2_with fail
              go_meet
              exact ⟨rfl, _, _, _, HS6.out, HK'.out, hn'⟩
          have e0 : (kind == 0) = false := by simpa using hk0
          by_cases hk1 : kind = 1
          · subst hk1
            as_aux_lemma =>
              obtain ⟨n2, ks', gs, ak', hS1, hS2, hK', hKg⟩ := st_ack (B := B) (D := D) (T := T) a HKO.out hnx1 HA.out HFA.out
              have HE : Hid (a.rA = rA ∧ a.rn = rn ∧ a.rc = rc) := by rw [← HAE.out]; exact ⟨rfl, rfl, rfl⟩
              obtain ⟨q1, q2, q3⟩ := HE.out
              rw [q1, q2, q3] at hS1 hS2
              have HS3 := Lib.hid (hS1 _ HS2.out)
              have HS4 := Lib.hid hS2
              have HK' := Lib.hid hK'
              have HKg := Lib.hid hKg
              obtain ⟨-, -, -, -, -, -, p6, -⟩ := HCF.out W2 HS2.out.2
              clear hS1 hS2 hK' hKg HE q1 q2 q3
              go_wp2_with fail
              refine HS3.out.mono ?_
              rintro e w3 ⟨gv, rfl, hs3, GG, hgp⟩
              have HS5 := Lib.hid (HS4.out _ hs3)
              have HGP := Lib.hid hgp
              clear p6
              obtain ⟨-, -, -, -, -, -, p6, -⟩ := HCF.out w3 hs3.2
              clear hs3 HS3 HS4 hgp
              go_wp2_with fail
              refine HS5.out.mono ?_
              rintro e w4 ⟨gd, rfl, hs4, ⟨HH, hgd⟩, hk4⟩
              have HS6 := Lib.hid hs4
              have HSM := Lib.hid (st_same hs4 HKg.out (hk4 _ _ HGP.out) hgd)
              clear hs4 HS5 p6 hgd hk4 HGP
              go_wp2_with fail
              refine HSM.out.mono ?_
              rintro e w5 ⟨rfl, hb5⟩
              have HS7 := Lib.hid (HS6.out.kept hb5)
              clear hb5 HSM HS6
              go_wp2_with fail
              go_meet
              exact ⟨rfl, _, _, _, HS7.out, HK'.out, by omega⟩
          have e1 : (kind == 1) = false := by simpa using hk1
          by_cases hk2 : kind = 2
          · subst hk2
            as_aux_lemma =>
              obtain ⟨ks', gs, hS1, hS2, hK', hKg⟩ := st_lost (B := B) (D := D) (T := T) a tm HKO.out hnx1 HA.out
              have HE : Hid (a.d = d) := by rw [← HAE.out]; rfl
              rw [HE.out] at hS1 hS2
              have HS2d := Lib.hid (HS2.out.kept (Below.refl _ W2).drew)
              have HS3 := Lib.hid (hS1 _ HS2d.out)
              have HS4 := Lib.hid hS2
              have HK' := Lib.hid hK'
              have HKg := Lib.hid hKg
              have HCT : Hid (∀ ks nx ak js mx mk W, St w B D T a ks nx ak js mx mk W → W.cell? ⟨T, 2, none⟩ = some (.int .u64 (tm : Int)) ∧ W.cell? ⟨T, 7, none⟩ = some (.int .u64 (d : Int))) := fun ks nx ak js mx mk W h => ⟨(HCF.out W h.2).2.2.1, (HCF.out W h.2).2.2.2.2.2.2.2⟩
              clear hS1 hS2 hK' hKg HE
              go_upto_region 28 with fail
              refine wp_region_held_drew (S := (fun wq => wq.cell? ⟨T, 2, none⟩ = some (.int .u64 (tm : Int)) ∧ wq.cell? ⟨T, 7, none⟩ = some (.int .u64 (d : Int)))) (by kernel_rfl) (HCT.out _ _ _ _ _ _ _ HS2d.out) (fun hHeld => ?_)
              refine tkH 0 ?_
              refine tkH 1 ?_
              refine tkH 2 ?_
              refine tkH 3 ?_
              refine tkH 4 ?_
              refine tkH 6 ?_
              refine tkH 7 ?_
              refine tkH 8 ?_
              refine tkH 9 ?_
              refine tkH 10 ?_
              refine onH 5 (fun KK hKK => ?_)
              go_simp
              refine HS3.out.mono ?_
              rintro e w3 ⟨gv, rfl, hs3, GG, hgp⟩
              have HS5 := Lib.hid (HS4.out _ hs3)
              have HGP := Lib.hid hgp
              have HC3 := Lib.hid (HCT.out _ _ _ _ _ _ _ hs3)
              clear hs3 hgp
              try go_wp2_with fail
              refine hKK.out _ _ ?_ (fun hh1 => ?_)
              · (try dsimp only)
                exact HC3.out
              clear hKK KK
              try simp only [Act.put, List.setIfInBounds_toArray, List.set_cons_zero, List.set_cons_succ]
              refine onH 11 (fun KK hKK => ?_)
              go_simp
              refine HS5.out.mono ?_
              rintro e w4 ⟨gd, rfl, hs4, ⟨HH, hgd⟩, hk4⟩
              have HS6 := Lib.hid hs4
              have HSM := Lib.hid (st_same hs4 HKg.out (hk4 _ _ HGP.out) hgd)
              have HC4 := Lib.hid (HCT.out _ _ _ _ _ _ _ hs4)
              clear hs4 hgd hk4
              try go_wp2_with fail
              refine hKK.out _ _ ?_ (fun hh2 => ?_)
              · (try dsimp only)
                exact HC4.out
              clear hKK KK
              try simp only [Act.put, List.setIfInBounds_toArray, List.set_cons_zero, List.set_cons_succ]
              refine onH 12 (fun KK hKK => ?_)
              go_simp
              refine HSM.out.mono ?_
              rintro e w5 ⟨rfl, hb5⟩
              have HS7 := Lib.hid (HS6.out.kept hb5)
              have HC5 := Lib.hid (HCT.out _ _ _ _ _ _ _ HS7.out)
              clear hb5
              try go_wp2_with fail
              refine hKK.out _ _ ?_ (fun hh3 => ?_)
              · (try dsimp only)
                exact HC5.out
              clear hKK KK
              try simp only [Act.put, List.setIfInBounds_toArray, List.set_cons_zero, List.set_cons_succ]
              refine tkH 13 ?_
              refine wpAnyH_done (by kernel_rfl) ?_ _
              go_wp2_with fail
              go_meet
              exact ⟨rfl, _, _, _, HS7.out, HK'.out, by omega⟩
          have e2 : (kind == 2) = false := by simpa using hk2
          by_cases hk3 : kind = 3
          · subst hk3
            as_aux_lemma =>
              obtain ⟨⟨v, vd, x, y, hI, hnx, hak⟩, hT⟩ := HS2.out
              obtain ⟨A1, c1, rfl, hyl, _, _, _, _⟩ := ownS_rb hI.gd.own
              have hI2 := hI.kept (Below.refl _ W2).drew
              have HD1 : Hid (W2.drew.cell? ⟨D, 0, none⟩ = some (.slice A1 ks.length c1)) := by unfold Hid; rw [hI2.ds.obj.cell]; rfl
              have HDR := Lib.hid (jp_drop hI2 (by have := HKO.out.len; omega))
              have HTD : Hid (Obj W2.drew T 35 (acells a).toArray) := hT.drew
              have HEN : Hid (KO w [] nx ak) := ⟨⟨by simp, HKO.out.ob.2.1, fun p hp => by cases hp⟩, fun k hk => by cases hk⟩
              have HNA := Lib.hid (And.intro hnx hak)
              obtain ⟨m, hm⟩ : ∃ m, ks.length = m := ⟨_, rfl⟩
              rw [hm] at HD1 HDR
              clear hI hI2 hT hyl hnx hak
              go_upto_region 30 with fail
              refine wp_region_held_drew (S := (fun wq => wq.cell? ⟨D, 0, none⟩ = some (.slice A1 m c1))) (by kernel_rfl) HD1.out (fun hHeld => ?_)
              refine tkH 1 ?_
              refine tkH 2 ?_
              refine tkH 3 ?_
              refine onH 0 (fun KK hKK => ?_)
              go_simp
              refine HDR.out.mono ?_
              rintro e w3 ⟨rfl, v3, x3, hI3, hn3, ha3, hs3⟩
              have HI3 := Lib.hid hI3
              have HS3 := Lib.hid (And.intro hn3 (And.intro ha3 (hs3.obj HTD.out (by decide) (by decide) (by decide))))
              have HD3 : Hid (w3.cell? ⟨D, 0, none⟩ = some (.slice A1 m c1)) := by unfold Hid; rw [hI3.ds.obj.cell]; rfl
              have z3 := hI3.ds.obj.free 0
              clear hI3 hn3 ha3 hs3
              try go_wp2_with fail
              refine hKK.out _ _ ?_ (fun hh1 => ?_)
              · (try dsimp only)
                exact HD3.out
              clear hKK KK
              try simp only [Act.put, List.setIfInBounds_toArray, List.set_cons_zero, List.set_cons_succ]
              refine tkH 4 ?_
              refine tkH 5 ?_
              refine wpAnyH_done (by kernel_rfl) ?_ _
              have d3 := HD3.out
              go_wp2_with fail
              go_meet
              have q := jd_drop HI3.out
              exact ⟨rfl, [], nx, ak, ⟨⟨_, _, _, _, q.1, HS3.out.1.trans HNA.out.1, HS3.out.2.1.trans HNA.out.2⟩, q.2.obj HS3.out.2.2 (by decide) (by decide) (by decide)⟩, HEN.out, by omega⟩
          have e3 : (kind == 3) = false := by simpa using hk3
          go_wp2_with fail
          go_meet
          exact ⟨rfl, ks, nx, ak, HS2.out, HKO.out, by omega⟩
        case rest =>
          as_aux_lemma =>
            obtain ⟨rfl, ks', nx', ak', hS, hK, hn⟩ := hcut
            clear HS2 HKO g0
            obtain ⟨⟨v, vd, x, y, hI, rfl, rfl⟩, hT⟩ := hS
            have hn1 : x.next ≤ 1000 := by omega
            have HK := Lib.hid hK
            have HT := Lib.hid hT
            have HN : Hid (x.next ≤ k + 1) := by have := HNK.out; unfold Hid; omega
            have hlen := hK.len
            obtain ⟨A1, c1, rfl, hyl, _, _, _, _⟩ := ownS_rb hI.gd.own
            have HI := Lib.hid hI
            have HRF := Lib.hid (jd_flight hI hK.ob hn1)
            have HPL := Lib.hid (jp_last hI (by omega))
            have hcs : cntK (ks'.map Prod.fst) ≤ 64 ∧ smsK (ks'.map Prod.fst) ≤ 1200 * 64 := by
              have h1 := cnt_le x.l
              have h2 := sms_le x.l (fun p hp => (kb_of hK.ob hI.pl.keys hn1).2 p hp |>.2.2)
              rw [cnt_key, hI.pl.keys] at h1
              rw [sms_key, hI.pl.keys] at h2
              have := hI.xlen
              omega
            have HFL : Hid (∀ W, LV w B D v (.slice A1 ks'.length c1) x y ks' ks' x.next x.acked W → Calls Try.prog 14 #[.pointer (some ⟨B, 0, none⟩)] W fun e w' => e = .returned (.complex .f64 (Fl.F (cntK (ks'.map Prod.fst))) (Fl.F (smsK (ks'.map Prod.fst)))) ∧ Below W.heap.size W w') := fun W h => jp_flight h HK.out.ob hn1
            have HNX : Hid (∀ W, LV w B D v (.slice A1 ks'.length c1) x y ks' ks' x.next x.acked W → Calls Try.prog 13 #[.pointer (some ⟨B, 0, none⟩)] W fun e w' => e = .returned (.int .i64 (x.next : Int)) ∧ W = w') := fun W h => next_any B (D + 1) v x W h.st
            have HAC : Hid (∀ W, LV w B D v (.slice A1 ks'.length c1) x y ks' ks' x.next x.acked W → Calls Try.prog 18 #[.pointer (some ⟨B, 0, none⟩)] W fun e w' => e = .returned (.int .i64 ((x.acked : Int) - 1)) ∧ W = w') := fun W h => acked_any B (D + 1) v x W h.st (by have := HK.out.ob.2.1; omega)
            have HAD : Hid (a.d = d ∧ a.d ≤ 18446744073709551615) := ⟨by rw [← HAE.out], HA.out.d⟩
            have HDU : Hid (∀ W, LV w B D v (.slice A1 ks'.length c1) x y ks' ks' x.next x.acked W → Calls Try.prog 15 #[.pointer (some ⟨B, 0, none⟩), .int .u64 (d : Int)] W fun e w' => e = .returned (.int .u64 ((dueLK (ks'.map Prod.fst) x.acked d : Nat) : Int)) ∧ Below W.heap.size W w') := fun W h => jp_due h HK.out.ob hn1 d (by have := HAD.out; omega)
            have HRD : Hid (∀ W, LV w B D v (.slice A1 ks'.length c1) x y ks' ks' x.next x.acked W → Calls Try.prog 25 #[.pointer (some ⟨D, 0, none⟩), .int .u64 (d : Int)] W fun e w' => e = .returned (.int .u64 ((dueLK (ks'.map Prod.fst) x.acked d : Nat) : Int)) ∧ Below W.heap.size W w') := fun W h => jd_due h HK.out.ob hn1 d (by have := HAD.out; omega)
            have HLI : Hid (∀ W, LV w B D v (.slice A1 ks'.length c1) x y ks' ks' x.next x.acked W → Calls Try.prog 12 #[.pointer (some ⟨B, 0, none⟩)] W fun e w' => ∃ gv, e = .returned gv ∧ GP w' D gv x.l ks' ∧ Below W.heap.size W w') := fun W h => jp_list h (by omega)
            have HCD : Hid (∀ W, LV w B D v (.slice A1 ks'.length c1) x y ks' ks' x.next x.acked W → W.cell? ⟨D, 0, none⟩ = some (.slice A1 ks'.length c1) ∧ W.cell? ⟨D, 1, none⟩ = some (.int .i64 (x.next : Int)) ∧ W.cell? ⟨D, 2, none⟩ = some (.int .i64 (x.acked : Int))) := fun W h => ⟨by rw [h.ds.obj.cell]; rfl, by rw [h.ds.obj.cell]; rfl, by rw [h.ds.obj.cell]; rfl⟩
            have HSAME : Hid (∀ W gv, LV w B D v (.slice A1 ks'.length c1) x y ks' ks' x.next x.acked W → GP W D gv x.l ks' → Calls Try.prog 21 #[gv, .slice A1 ks'.length c1] W fun e w' => e = .returned (.bool true) ∧ Below W.heap.size W w') := fun W gv h hG => same_gone hG h.gd h.bel HK.out.ff (by omega)
            obtain ⟨r, hr⟩ : ∃ r, lastK (ks'.map Prod.fst) = r := ⟨_, rfl⟩
            have HRL : Hid (∀ W, LV w B D v (.slice A1 ks'.length c1) x y ks' ks' x.next x.acked W → Calls Try.prog 24 #[.pointer (some ⟨D, 0, none⟩)] W fun e w' => e = .returned (.tuple #[.int .u64 ((r.1 : Nat) : Int), .bool r.2]) ∧ W = w') := fun W h => hr ▸ jd_last h (by omega)
            rw [hr] at HPL
            have HROW : Hid True := trivial
            have HLO : Hid (∀ W, LV w B D v (.slice A1 ks'.length c1) x y ks' ks' x.next x.acked W → LoI w B D (k + 1) W) := fun W h => ⟨v, _, x, y, ks', h, HK.out, HN.out⟩
            obtain ⟨rt, rb⟩ := r
            dsimp only at HRL HPL
            generalize cntK (ks'.map Prod.fst) = cn at *
            generalize smsK (ks'.map Prod.fst) = sm at *
            generalize dueLK (ks'.map Prod.fst) x.acked d = du at *
            generalize hgx : x.next = nx' at *
            generalize hgk : x.acked = ak' at *
            generalize hgl : ks'.length = m at *
            have HGX := Lib.hid hgx
            clear hI hT hK hyl hr hgx hgk hgl HROW
            go_wp2_with fail
            refine HRF.out.mono ?_
            rintro e w' ⟨rfl, rfl⟩
            clear HRF
            go_wp2_with fail
            refine HPL.out.mono ?_
            rintro e w2 ⟨rfl, hb2⟩
            have HI2 := Lib.hid (HI.out.kept hb2)
            have HT2 := Lib.hid (HT.out.kept hb2)
            clear HPL hb2 HI HT
            go_wp2_with fail
            refine (HRL.out _ HI2.out).mono ?_
            rintro e w' ⟨rfl, rfl⟩
            clear HRL
            have o1 := ord_F cn (by omega)
            have o2 := ord_F sm (by omega)
            have hcv := fun n w => conv_f n w
            have e1 : IntKind.i64.wrap ((ak' : Int) - 1) = (ak' : Int) - 1 := by rw [IntKind.wrap_i64]; have := HK.out.ob.2.1; omega
            have HI3 := Lib.hid (HI2.out.kept (Below.refl _ w2).drew)
            have HT3 := Lib.hid (HT2.out.kept (Below.refl _ w2).drew)
            have HST : Hid (∀ W, LV w B D v (.slice A1 m c1) x y ks' ks' nx' ak' W → Obj W T 35 (acells a).toArray → (W.cell? ⟨D, 0, none⟩ = some (.slice A1 m c1) ∧ W.cell? ⟨D, 1, none⟩ = some (.int .i64 (nx' : Int)) ∧ W.cell? ⟨D, 2, none⟩ = some (.int .i64 (ak' : Int))) ∧ W.cell? ⟨T, 7, none⟩ = some (.int .u64 (d : Int))) := fun W h ho => ⟨HCD.out W h, (HCF.out W ho).2.2.2.2.2.2.2⟩
            go_upto_region 35 with fail
            refine wp_region_held_drew (S := (fun W => (W.cell? ⟨D, 0, none⟩ = some (.slice A1 m c1) ∧ W.cell? ⟨D, 1, none⟩ = some (.int .i64 (nx' : Int)) ∧ W.cell? ⟨D, 2, none⟩ = some (.int .i64 (ak' : Int))) ∧ W.cell? ⟨T, 7, none⟩ = some (.int .u64 (d : Int)))) (by kernel_rfl) (HST.out _ HI3.out HT3.out) (fun hHeld => ?_)
            refine tkH 0 ?_
            refine tkH 1 ?_
            refine tkH 2 ?_
            refine tkH 4 ?_
            refine tkH 5 ?_
            refine tkH 6 ?_
            refine tkH 7 ?_
            refine tkH 8 ?_
            refine onH 3 (fun KK hKK => ?_)
            go_simp
            refine (HFL.out _ HI3.out).mono ?_
            rintro e w4 ⟨rfl, hb4⟩
            have HI4 := Lib.hid (HI3.out.kept hb4)
            have HT4 := Lib.hid (HT3.out.kept hb4)
            clear hb4
            try go_wp2_with fail
            refine hKK.out _ _ ?_ (fun hh1 => ?_)
            · (try dsimp only)
              exact HST.out _ HI4.out HT4.out
            clear hKK KK
            try simp only [Act.put, List.setIfInBounds_toArray, List.set_cons_zero, List.set_cons_succ]
            refine tkH 9 ?_
            refine tkH 10 ?_
            refine tkH 11 ?_
            refine tkH 13 ?_
            refine tkH 14 ?_
            refine onH 12 (fun KK hKK => ?_)
            go_simp
            refine (HNX.out _ HI4.out).mono ?_
            rintro e w' ⟨rfl, rfl⟩
            try go_wp2_with fail
            refine hKK.out _ _ ?_ (fun hh2 => ?_)
            · (try dsimp only)
              exact HST.out _ HI4.out HT4.out
            clear hKK KK
            try simp only [Act.put, List.setIfInBounds_toArray, List.set_cons_zero, List.set_cons_succ]
            refine tkH 15 ?_
            refine tkH 16 ?_
            refine tkH 17 ?_
            refine tkH 19 ?_
            refine tkH 20 ?_
            refine tkH 21 ?_
            refine onH 18 (fun KK hKK => ?_)
            go_simp
            refine (HAC.out _ HI4.out).mono ?_
            rintro e w' ⟨rfl, rfl⟩
            try go_wp2_with fail
            refine hKK.out _ _ ?_ (fun hh3 => ?_)
            · (try dsimp only)
              exact HST.out _ HI4.out HT4.out
            clear hKK KK
            try simp only [Act.put, List.setIfInBounds_toArray, List.set_cons_zero, List.set_cons_succ]
            refine tkH 22 ?_
            refine tkH 23 ?_
            refine tkH 24 ?_
            refine tkH 25 ?_
            refine tkH 26 ?_
            refine tkH 28 ?_
            refine tkH 29 ?_
            refine onH 27 (fun KK hKK => ?_)
            go_simp
            refine (HDU.out _ HI4.out).mono ?_
            rintro e w5 ⟨rfl, hb5⟩
            have HI5 := Lib.hid (HI4.out.kept hb5)
            have HT5 := Lib.hid (HT4.out.kept hb5)
            clear hb5
            try go_wp2_with fail
            refine hKK.out _ _ ?_ (fun hh4 => ?_)
            · (try dsimp only)
              exact HST.out _ HI5.out HT5.out
            clear hKK KK
            try simp only [Act.put, List.setIfInBounds_toArray, List.set_cons_zero, List.set_cons_succ]
            refine onH 30 (fun KK hKK => ?_)
            go_simp
            refine (HRD.out _ HI5.out).mono ?_
            rintro e w6 ⟨rfl, hb6⟩
            have HI6 := Lib.hid (HI5.out.kept hb6)
            have HT6 := Lib.hid (HT5.out.kept hb6)
            clear hb6
            try go_wp2_with fail
            refine hKK.out _ _ ?_ (fun hh5 => ?_)
            · (try dsimp only)
              exact HST.out _ HI6.out HT6.out
            clear hKK KK
            try simp only [Act.put, List.setIfInBounds_toArray, List.set_cons_zero, List.set_cons_succ]
            refine tkH 31 ?_
            refine tkH 32 ?_
            refine tkH 33 ?_
            refine tkH 34 ?_
            refine tkH 35 ?_
            refine tkH 36 ?_
            refine tkH 37 ?_
            refine tkH 38 ?_
            refine tkH 39 ?_
            refine tkH 40 ?_
            refine tkH 41 ?_
            refine tkH 42 ?_
            refine tkH 43 ?_
            refine tkH 45 ?_
            refine tkH 46 ?_
            refine onH 44 (fun KK hKK => ?_)
            go_simp
            refine (HLI.out _ HI6.out).mono ?_
            rintro e w7 ⟨gv, rfl, hg7, hb7⟩
            have HI7 := Lib.hid (HI6.out.kept hb7)
            have HT7 := Lib.hid (HT6.out.kept hb7)
            have HSM := Lib.hid (HSAME.out _ _ HI7.out hg7)
            clear hb7 hg7
            try go_wp2_with fail
            refine hKK.out _ _ ?_ (fun hh6 => ?_)
            · (try dsimp only)
              exact HST.out _ HI7.out HT7.out
            clear hKK KK
            try simp only [Act.put, List.setIfInBounds_toArray, List.set_cons_zero, List.set_cons_succ]
            refine onH 47 (fun KK hKK => ?_)
            go_simp
            refine HSM.out.mono ?_
            rintro e w8 ⟨rfl, hb8⟩
            have HI8 := Lib.hid (HI7.out.kept hb8)
            have HT8 := Lib.hid (HT7.out.kept hb8)
            clear hb8
            try go_wp2_with fail
            refine hKK.out _ _ ?_ (fun hh7 => ?_)
            · (try dsimp only)
              exact HST.out _ HI8.out HT8.out
            clear hKK KK
            try simp only [Act.put, List.setIfInBounds_toArray, List.set_cons_zero, List.set_cons_succ]
            refine tkH 48 ?_
            refine tkH 49 ?_
            refine wpAnyH_done (by kernel_rfl) ?_ _
            go_wp2_with fail
            go_roundg (n0 - (k + 1))
            case measure => omega
            case rel => exact ⟨k + 1, by omega, by go_num, HLO.out _ HI8.out⟩
      · obtain rfl : k = n0 := by omega
        go_wp2
        go_ret
        exact ⟨rfl, hI.bel⟩
end Go.Proofs.Ytlldomgfjmkcdaa
