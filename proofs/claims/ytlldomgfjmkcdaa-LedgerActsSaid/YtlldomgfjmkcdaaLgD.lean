/- Layer 15's ledger, walked: slices.Clone at frames, Send. -/
import Derived.Test.YtlldomgfjmkcdaaRows
import Derived.Test.YtlldomgfjmkcdaaAid
import Derived.Test.YtlldomgfjmkcdaaHeldT
import Derived.Test.YtlldomgfjmkcdaaLgW
import Derived.Test.YtlldomgfjmkcdaaLgA
import Derived.Test.YtlldomgfjmkcdaaLgB
import Derived.Test.YtlldomgfjmkcdaaLgC
import Derived.Lib.SliceRun
import Derived.Lib.AppendZeros
import Derived.BigQuiet
import Derived.Deep.QuietTactic
import Derived.Deep.RegionHeld3
import Derived.Deep.WholeRow
namespace Go.Proofs.Ytlldomgfjmkcdaa
open Go Go.RowKit
set_option linter.unusedVariables false
set_option linter.unusedSimpArgs false

theorem infoFm : (Try.prog.info? 70).map (fun i => (i.zero.map (·.cells.size), i.size, i.bytes)) = some (some 24, 24, 112) := by kernel_rfl
theorem infoF : ∃ i0 z, Try.prog.info? 70 = some i0 ∧ i0.zero = some z ∧ z.cells.size = 24 ∧ i0.size = 24 ∧ i0.bytes = 112 := by
  obtain ⟨i0, h1, h2⟩ := Option.map_eq_some_iff.1 infoFm
  simp only [Prod.mk.injEq] at h2
  obtain ⟨z, hz, hc⟩ := Option.map_eq_some_iff.1 h2.1
  exact ⟨i0, z, h1, hz, hc, h2.2.1, h2.2.2⟩
/-- Frames that lie at an address: their cells. -/
structure FrAt (w : World) (A : Option Addr) (n : Nat) (news : List Value) : Prop where
  len : news.length = n * 24
  one : ∀ u ∈ news, u.oneCell' = true
  at0 : 0 < n → ∃ b o, A = some ⟨b, o, none⟩ ∧ b < w.heap.size ∧ ∀ j u, news[j]? = some u → w.cell? ⟨b, o + j, none⟩ = some u
theorem FrAt.below {w w' : World} {A : Option Addr} {n : Nat} {news : List Value} (h : FrAt w A n news) (hb : Below w.heap.size w w') : FrAt w' A n news :=
  ⟨h.len, h.one, fun hp => by
    obtain ⟨b, o, e, h1, h2⟩ := h.at0 hp
    exact ⟨b, o, e, Nat.lt_of_lt_of_le h1 hb.size, fun j u hu => (World.cell?_of_block (a := ⟨b, o + j, none⟩) (hb.block b h1)).trans (h2 j u hu)⟩⟩
theorem eqNilF (w : World) (a : Option Addr) (n c n' c' : Nat) : (binOp .eql 30 (.slice a n c) (.slice none n' c')).run Try.prog w = .ok (.bool a.isNone) w := Lib.run_eql_slice_nil w _ _ a n c n' c' Try.underlying30

set_option maxHeartbeats 1000000 in
theorem cloneF_any (A : Option Addr) (n c : Nat) (news : List Value) (w : World) (h : FrAt w A n news) (hn : n ≤ 1000) :
    Calls Try.prog 26 #[.slice A n c] w fun e w' => ∃ A' c', e = .returned (.slice A' n c') ∧ w'.ownsRow w.heap.size 70 24 (.slice A' n c') n news ∧ Below w.heap.size w w' := by
  cases A with
  | none =>
    have h0 : n = 0 := by
      rcases Nat.eq_zero_or_pos n with h0 | h0
      · exact h0
      · obtain ⟨_, _, e, _⟩ := h.at0 h0; cases e
    subst h0
    have hnw : news = [] := List.eq_nil_of_length_eq_zero (by rw [h.len])
    subst hnw
    have hq := fun w => eqNilF w none 0 c 0 0
    clear h
    go_enter Try.func26, Try.ntmps26
    go_wp2
    go_ret
    exact ⟨_, _, rfl, World.ownsRow_nil _ _ _ _, Below.refl _ _⟩
  | some ad =>
    have hq := fun w => eqNilF w (some ad) n c 0 0
    have hb1 : Below w.heap.size w (w.alloc (.cells #[] 70)) := (Below.refl _ w).alloc (Nat.le_refl _) _
    have hm : (w.alloc (.cells #[] 70)).ownsRow w.heap.size 70 24 (.slice (some ⟨w.heap.size, 0, none⟩) 0 0) 0 [] := World.ownsRow_made w #[] 0 (Nat.le_refl _) (Nat.zero_le _) rfl
    obtain ⟨i0, z, hi, hz0, hzc, hz1, hz2⟩ := infoF
    obtain ⟨v', w', h1, h2, h3, _⟩ := run_append_own (P := Try.prog) (w.alloc (.cells #[] 70)) w.heap.size 30 30 70 i0 z 24 112 Try.underlying30 hi hz0 hz1 hz2 hzc (by decide) _ 0 [] hm ad n c news h.len (by
      intro j u hj
      have hp : 0 < n := by
        have := (List.getElem?_eq_some_iff.1 hj).1
        rw [h.len] at this; omega
      obtain ⟨b, o, e, _, hs⟩ := (h.below hb1).at0 hp
      cases e
      rw [Addr.add_lit]
      exact hs j u hj) h.one (by unfold maxLen; omega) (by omega) (by simp)
    rw [Nat.zero_add, List.nil_append] at h2
    have hb2 := hb1.grown h3 (by simp) (fun k e => by cases e; exact Nat.le_refl _)
    obtain ⟨A', c', rfl⟩ : ∃ A' c', v' = .slice A' n c' := by
      rcases h2.2 with ⟨e, h0⟩ | ⟨g, cap, cur, e, _⟩
      · subst h0; exact ⟨_, _, e⟩
      · exact ⟨_, _, e⟩
    have HR := Lib.hid h1
    have HO := Lib.hid h2
    have HB := Lib.hid hb2
    clear h hb1 hm h1 h2 h3 hb2 hi hz0 hzc hz1 hz2
    go_enter Try.func26, Try.ntmps26
    go_wp2_with (at_builtin; refine Lib.wpList_append_run _ rfl (.tmp 5) (.tmp 6) _ _ rfl _ _ rfl rfl _ _ HR.out ?_)
    go_ret
    exact ⟨_, _, rfl, HO.out, HB.out⟩

set_option maxHeartbeats 1000000 in
/-- A size that cannot be. -/
theorem send_arg (a : Nat) (num : Int) (tm : Nat) (sz : Int) (ask : Bool) (A : Option Addr) (n c : Nat) (w : World) (hs : sz < 0 ∨ 1200 < sz) :
    Calls Try.prog 9 #[.pointer (some ⟨a, 0, none⟩), .agg #[.int .i64 num, .int .u64 (tm : Int), .int .i64 sz, .bool ask, .slice A n c]] w fun e w' => e = .returned (.tuple #[.int .i64 0, .int .i64 1]) ∧ Below w.heap.size w w' := by
  rcases hs with h | h
  · go_enter Try.func9, Try.ntmps9
    go_wp2
    go_ret2
    exact ⟨rfl, (Below.refl _ _).alloc (Nat.le_refl _) _⟩
  · have h' : ¬ sz < 0 := by omega
    go_enter Try.func9, Try.ntmps9
    go_wp2
    go_ret2
    exact ⟨rfl, (Below.refl _ _).alloc (Nat.le_refl _) _⟩

set_option maxHeartbeats 1000000 in
/-- A full ledger. -/
theorem send_full (a base : Nat) (v : Value) (x : LS) (num : Int) (tm : Nat) (sz : Int) (ask : Bool) (A : Option Addr) (n c : Nat) (w : World) (h : StV w base a v x) (hs : 0 ≤ sz ∧ sz ≤ 1200) (hf : 64 ≤ x.l.length) (hx : x.l.length ≤ 1000) :
    Calls Try.prog 9 #[.pointer (some ⟨a, 0, none⟩), .agg #[.int .i64 num, .int .u64 (tm : Int), .int .i64 sz, .bool ask, .slice A n c]] w fun e w' => e = .returned (.tuple #[.int .i64 0, .int .i64 5]) ∧ Below w.heap.size w w' := by
  have hal := h.obj.lt
  have f0 : w.cell? ⟨a, 0, none⟩ = some v := by rw [h.obj.cell]; rfl
  obtain ⟨A1, c1, rfl, _, _, _, _, _⟩ := ownS_rb h.own
  clear h
  generalize x.l.length = q at *
  have h1 : ¬ sz < 0 := by omega
  have h2 : ¬ 1200 < sz := by omega
  have h3 : 64 ≤ (q : Int) := by omega
  go_enter Try.func9, Try.ntmps9
  go_wp2
  go_ret2
  exact ⟨rfl, (Below.refl _ _).alloc (Nat.le_refl _) _⟩

theorem own_updG {V V' : World} {base n b : Nat} {v : Value} {xs : List Value} {T : TypeId} {s : Nat} (h : V.ownsRow base T s v n xs) (hu : Upd b V V') (hne : v.ownBlock = some b → False) : V'.ownsRow base T s v n xs := by
  refine ⟨h.1, ?_⟩
  rcases h.2 with h0 | ⟨g, cap, cur, e, hb1, hg, h3⟩
  · exact .inl h0
  · exact .inr ⟨g, cap, cur, e, hb1, (hu.block g (Array.getElem?_eq_some_iff.1 hg).1 (fun e2 => hne (by rw [e, e2]; rfl))).trans hg, h3⟩
theorem own_base {V : World} {base base' n : Nat} {v : Value} {xs : List Value} {T : TypeId} {s : Nat} (h : V.ownsRow base T s v n xs) (hb : base' ≤ base) : V.ownsRow base' T s v n xs := by
  refine ⟨h.1, ?_⟩
  rcases h.2 with h0 | ⟨g, cap, cur, e, hb1, h3⟩
  · exact .inl h0
  · exact .inr ⟨g, cap, cur, e, by omega, h3⟩
theorem litS_src (V : World) (p : PS) : ∀ j u, (flatS [p])[j]? = some u → (V.alloc (.cells (pc p).toArray 32)).cell? ((⟨V.heap.size, 0, none⟩ : Addr).add j) = some u := by
  intro j u hu
  rw [Addr.add_lit, Nat.zero_add, (Obj.new V 32 (pc p).toArray).cell]
  simpa [flatS] using hu
/-- Appending turns the row's own block, or makes a new one. -/
theorem ownS_app2 (w : World) (ty : TypeId) {base n : Nat} {v : Value} {l : List PS} (hown : w.ownsRow base 32 5 v n (flatS l)) (ad : Addr) (m c : Nat) (X : List PS) (hl : X.length = m) (hsrc : ∀ j u, (flatS X)[j]? = some u → w.cell? (ad.add j) = some u) (hm : n + m ≤ 1000000) (hbase : base ≤ w.heap.size) :
    ∃ v' w', (Builtin.append_ #[25, 25] ty #[v, .slice (some ad) m c]).run Try.prog w = .ok v' w' ∧ w'.ownsRow base 32 5 v' (n + m) (flatS (l ++ X)) ∧ w.grownBy w' v.ownBlock ∧ Fresh w v v' := by
  obtain ⟨v', w', h1, h2, h3⟩ := ownS_app w ty hown ad m c X hl hsrc hm hbase
  refine ⟨v', w', h1, h2, h3, fun g hg => ?_⟩
  obtain ⟨i0, hi, hz0, hz1, hz2⟩ := infoS
  have hu := Try.underlying25
  have hln := hown.1
  rcases hown.2 with ⟨rfl, h0⟩ | ⟨g0, cap, cur, rfl, hbg, hg0, hnc, hcm, hcs, htk⟩
  · obtain ⟨v'', w'', k1, k2, _⟩ := ownS_app w ty (base := w.heap.size) (n := n) (v := .slice none 0 0) (l := l) ⟨hown.1, .inl ⟨rfl, h0⟩⟩ ad m c X hl hsrc hm (Nat.le_refl _)
    rw [h1] at k1
    cases k1
    exact .inr (k2.lt g hg).1
  · have hO : Obj w g0 32 cur := hg0
    by_cases hroom : n + m ≤ cap
    · have hr := run_append_room_cells (P := Try.prog) w 25 ty 32 i0 hu hi g0 0 n cap ad m c (flatS X) (by rw [flatS_length, hl, hz1]) hsrc (flatS_one X) hroom
        (fun j hj => by
          rw [flatS_length, hl] at hj
          rw [hz1, hO.cell, Array.getElem?_eq_getElem (by omega)]; rfl)
        (fun j hj => hO.free _)
      rw [h1] at hr
      cases hr
      exact .inl hg
    · obtain ⟨v'', w'', k1, k2, _⟩ := run_append_arg_grows (P := Try.prog) w 25 ty 32 i0 _ 5 56 hu hi hz0 hz1 hz2 rfl (by decide) ⟨g0, 0, none⟩ n cap (flatS l) hown.1
        (fun j u hu' => by
          have hj := (List.getElem?_eq_some_iff.1 hu').1
          rw [← htk, List.getElem?_take_of_lt (by omega)] at hu'
          rw [Addr.add_lit, Nat.zero_add, hO.cell]
          simpa using hu') ad m c (flatS X) (by rw [flatS_length, hl]) hsrc (by omega) (by unfold maxLen; omega) (by omega)
      rw [h1] at k1
      cases k1
      exact .inr (k2.lt g hg).1
theorem infoS5 : (Try.prog.info? 32).map (·.size) = some 5 := by kernel_rfl
/-- Behind Send: the ledger's own block and its row have turned. -/
structure SendR (w w' : World) (base a : Nat) (v : Value) (x : LS) (tm sz : Nat) (ask : Bool) (n : Nat) (news : List Value) : Prop where
  ex : ∃ v' A' c', StV w' base a v' ⟨x.l ++ [⟨x.next, tm, sz, ask, A', n, c'⟩], x.next + 1, x.acked⟩ ∧ Fresh w v v' ∧ w'.ownsRow w.heap.size 70 24 (.slice A' n c') n news
  upd : UpdO a v.ownBlock w w'
theorem grow_fin {w wb w1 w3 : World} {base a n c' : Nat} {v v3 : Value} {x : LS} {A' : Option Addr} {tm sz : Nat} {ask : Bool} {news : List Value}
    (h1 : StV w1 base a v x) (hb1 : Below w.heap.size w w1) (hfr : w1.ownsRow w.heap.size 70 24 (.slice A' n c') n news)
    (h3 : w3.ownsRow base 32 5 v3 (x.l.length + 1) (flatS (x.l ++ [⟨x.next, tm, sz, ask, A', n, c'⟩]))) (hg : w1.grownBy w3 v.ownBlock) (hfs : Fresh w v v3) (hle : base ≤ w.heap.size) (hv : ∀ g, v.ownBlock = some g → g < w.heap.size) :
    SendR w ((w3.setCell ⟨a, 0, none⟩ v3).setCell ⟨a, 1, none⟩ (.int .i64 ((x.next + 1 : Nat) : Int))) base a v x tm sz ask n news := by
  have ho : Obj w3 a 27 #[v, .int .i64 (x.next : Int), .int .i64 (x.acked : Int)] := (hg.block a h1.obj.lt (fun e => by have := (h1.own.lt a e.symm).1; have := h1.lt; omega)).trans h1.obj
  have o4 := (ho.set 0 v3).set 1 (.int .i64 ((x.next + 1 : Nat) : Int))
  have u : Upd a w3 ((w3.setCell ⟨a, 0, none⟩ v3).setCell ⟨a, 1, none⟩ (.int .i64 ((x.next + 1 : Nat) : Int))) := ((Upd.refl _ w3).set 0 v3).set 1 _
  have hal := h1.obj.lt
  have halt := h1.lt
  have hw1 := hb1.size
  refine ⟨⟨v3, A', c', ⟨o4, ?_, h1.lt, Nat.le_trans hle (Nat.le_trans hw1 (Nat.le_trans hg.size u.size))⟩, hfs, ?_⟩, ?_⟩
  · show World.ownsRow _ _ _ _ _ (x.l ++ [_]).length _
    rw [List.length_append]
    refine ⟨h3.1, ?_⟩
    rcases h3.2 with h0 | ⟨g, cap, cur, e, hb2, hg2, hr⟩
    · exact .inl h0
    · exact .inr ⟨g, cap, cur, e, hb2, (u.block g (Array.getElem?_eq_some_iff.1 hg2).1 (by omega)).trans hg2, hr⟩
  · refine ⟨hfr.1, ?_⟩
    rcases hfr.2 with h0 | ⟨g, cap, cur, e, hb2, hg2, hr⟩
    · exact .inl h0
    · have hgl := (Array.getElem?_eq_some_iff.1 hg2).1
      exact .inr ⟨g, cap, cur, e, hb2, ((u.block g (Nat.lt_of_lt_of_le hgl hg.size) (by omega)).trans (hg.block g hgl (fun e2 => by have := hv g e2.symm; omega))).trans hg2, hr⟩
  · exact ⟨u.os.trans (hg.os.trans hb1.os), u.tape.trans (hg.tape.trans hb1.tape), u.output.trans (hg.output.trans hb1.output), Nat.le_trans hw1 (Nat.le_trans hg.size u.size), fun k hk h1' h2' =>
      (u.block k (Nat.lt_of_lt_of_le hk (Nat.le_trans hw1 hg.size)) h1').trans ((hg.block k (Nat.lt_of_lt_of_le hk hw1) h2').trans (hb1.block k hk))⟩

set_option maxRecDepth 100000 in
set_option maxHeartbeats 4000000 in
theorem send_any (a base : Nat) (v : Value) (x : LS) (num : Int) (tm sz : Nat) (ask : Bool) (A : Option Addr) (n c : Nat) (news : List Value) (w : World) (h : StV w base a v x) (hs : sz ≤ 1200) (hf : x.l.length < 64) (hx : x.next ≤ 1000000) (hfr : FrAt w A n news) (hn : n ≤ 1000) :
    Calls Try.prog 9 #[.pointer (some ⟨a, 0, none⟩), .agg #[.int .i64 num, .int .u64 (tm : Int), .int .i64 (sz : Int), .bool ask, .slice A n c]] w fun e w' => e = .returned (.tuple #[.int .i64 (x.next : Int), .int .i64 0]) ∧ SendR w w' base a v x tm sz ask n news := by
  obtain ⟨wb, hwb⟩ : ∃ wb, w.alloc (.cells #[.int .i64 num, .int .u64 (tm : Int), .int .i64 (sz : Int), .bool ask, .slice A n c] 32) = wb := ⟨_, rfl⟩
  have hBb : Below w.heap.size w wb := hwb ▸ (Below.refl _ w).alloc (Nat.le_refl _) _
  have hOb : Obj wb w.heap.size 32 #[.int .i64 num, .int .u64 (tm : Int), .int .i64 (sz : Int), .bool ask, .slice A n c] := hwb ▸ Obj.new w _ _
  have hSb := h.kept hBb
  have hle := h.le
  have hvl : ∀ g, v.ownBlock = some g → g < w.heap.size := fun g e => (h.own.lt g e).2
  have hal := h.obj.lt
  have f0 : wb.cell? ⟨a, 0, none⟩ = some v := by rw [hSb.obj.cell]; rfl
  obtain ⟨A1, c1, rfl, _, _, _, _, _⟩ := ownS_rb h.own
  obtain ⟨S, hS⟩ : ∃ S, w.heap.size = S := ⟨_, rfl⟩
  have b2 : wb.cell? ⟨S, 2, none⟩ = some (.int .i64 (sz : Int)) := by rw [← hS, hOb.cell]; rfl
  have HCF := Lib.hid (cloneF_any A n c news wb.drew (hfr.below hBb.drew) hn)
  have HW := Lib.hid h
  have HSb := Lib.hid hSb
  have HOb := Lib.hid hOb
  have HBb := Lib.hid hBb
  have HVL := Lib.hid hvl
  have HLE := Lib.hid hle
  clear h hSb hOb hBb hfr hvl
  obtain ⟨q, hq⟩ : ∃ q, x.l.length = q := ⟨_, rfl⟩
  have HQ := Lib.hid hq
  rw [hq] at HW HSb HVL f0 hf ⊢
  have h1 : ¬ (sz : Int) < 0 := by omega
  have h2 : ¬ 1200 < (sz : Int) := by omega
  have h3 : ¬ 64 ≤ (q : Int) := by omega
  clear hq
  go_enter Try.func9, Try.ntmps9
  go_wp2
  have fa1 : wb.cell? ⟨a, 1, none⟩ = some (.int .i64 (x.next : Int)) := by rw [HSb.out.obj.cell]; rfl
  have b4 : wb.cell? ⟨S, 4, none⟩ = some (.slice A n c) := by rw [← hS, HOb.out.cell]; rfl
  have HF1 : Hid (∀ (w1 : World) (A' : Option Addr) (c' : Nat), Below wb.drew.heap.size wb.drew w1 → w1.ownsRow wb.drew.heap.size 70 24 (.slice A' n c') n news →
      StV w1 base a (.slice A1 q c1) x ∧ Obj w1 S 32 #[.int .i64 num, .int .u64 (tm : Int), .int .i64 (sz : Int), .bool ask, .slice A n c] ∧ Below w.heap.size w w1 ∧ w1.ownsRow (S + 1) 70 24 (.slice A' n c') n news) := fun w1 A' c' hb ho => by
    have hb' : Below wb.heap.size wb w1 := (Below.refl _ wb).drew.trans hb
    have hs : wb.drew.heap.size = S + 1 := by rw [← hS, ← hwb]; simp
    exact ⟨HSb.out.kept hb', (hS ▸ HOb.out).kept hb', HBb.out.trans (hb'.mono HBb.out.size), hs ▸ ho⟩
  have hSa : a < S := by omega
  have hSS := Lib.hid hS
  clear hwb HSb HOb HBb hS
  refine wp_region_held_drew (S := (fun wq => wq.cell? ⟨a, 1, none⟩ = some (.int .i64 (x.next : Int)))) (by kernel_rfl) fa1 (fun hHeld => ?_)
  refine wpAnyH_take (i := 0) (oi := ?_) (v := ?_) ?_ ?_ ?_ ?_ ?_ ?_ (by assumption) ?_
  rotate_left 2
  · simp only [List.getElem?_toArray, List.getElem?_cons_zero, List.getElem?_cons_succ]
    rfl
  · kernel_rfl
  · kernel_rfl
  · kernel_rfl
  · exact fun _ _ _ h => h
  · refine Or.inl ⟨by rfl, ?_⟩
    intro w hSw
    (try dsimp only at hSw)
    go_simp
    all_goals with_reducible rfl
  simp only [Act.put, List.setIfInBounds_toArray, List.set_cons_zero, List.set_cons_succ]
  refine wpAnyH_take (i := 1) (oi := ?_) (v := ?_) ?_ ?_ ?_ ?_ ?_ ?_ (by assumption) ?_
  rotate_left 2
  · simp only [List.getElem?_toArray, List.getElem?_cons_zero, List.getElem?_cons_succ]
    rfl
  · kernel_rfl
  · kernel_rfl
  · kernel_rfl
  · exact fun _ _ _ h => h
  · refine Or.inl ⟨by rfl, ?_⟩
    intro w hSw
    (try dsimp only at hSw)
    go_simp
    all_goals with_reducible rfl
  simp only [Act.put, List.setIfInBounds_toArray, List.set_cons_zero, List.set_cons_succ]
  refine wpAnyH_take (i := 2) (oi := ?_) (v := ?_) ?_ ?_ ?_ ?_ ?_ ?_ (by assumption) ?_
  rotate_left 2
  · simp only [List.getElem?_toArray, List.getElem?_cons_zero, List.getElem?_cons_succ]
    rfl
  · kernel_rfl
  · kernel_rfl
  · kernel_rfl
  · exact fun _ _ _ h => h
  · refine Or.inl ⟨by rfl, ?_⟩
    intro w hSw
    (try dsimp only at hSw)
    go_simp
    all_goals with_reducible rfl
  simp only [Act.put, List.setIfInBounds_toArray, List.set_cons_zero, List.set_cons_succ]
  refine wpAnyH_take (i := 3) (oi := ?_) (v := ?_) ?_ ?_ ?_ ?_ ?_ ?_ (by assumption) ?_
  rotate_left 2
  · simp only [List.getElem?_toArray, List.getElem?_cons_zero, List.getElem?_cons_succ]
    rfl
  · kernel_rfl
  · kernel_rfl
  · kernel_rfl
  · exact fun _ _ _ h => h
  · refine Or.inl ⟨by rfl, ?_⟩
    intro w hSw
    (try dsimp only at hSw)
    go_simp
    all_goals with_reducible rfl
  simp only [Act.put, List.setIfInBounds_toArray, List.set_cons_zero, List.set_cons_succ]
  refine wpAnyH_take (i := 4) (oi := ?_) (v := ?_) ?_ ?_ ?_ ?_ ?_ ?_ (by assumption) ?_
  rotate_left 2
  · simp only [List.getElem?_toArray, List.getElem?_cons_zero, List.getElem?_cons_succ]
    rfl
  · kernel_rfl
  · kernel_rfl
  · kernel_rfl
  · exact fun _ _ _ h => h
  · refine Or.inl ⟨by rfl, ?_⟩
    intro w hSw
    (try dsimp only at hSw)
    go_simp
    all_goals with_reducible rfl
  simp only [Act.put, List.setIfInBounds_toArray, List.set_cons_zero, List.set_cons_succ]
  refine wpAnyH_ready (rs := [5]) (by kernel_rfl) (by simp) ?_
  refine AllReadyH.cons (o := ?_) ?_ (fun KK hKK => ?_) AllReadyH.nil
  rotate_left
  · simp only [List.getElem?_toArray, List.getElem?_cons_zero, List.getElem?_cons_succ]
    rfl
  go_simp
  refine hKK.out _ _ ?_ (fun hh5 => ?_)
  · (try dsimp only)
    exact hHeld
  clear hKK KK
  try simp only [Act.put, List.setIfInBounds_toArray, List.set_cons_zero, List.set_cons_succ]
  refine wpAnyH_take (i := 7) (oi := ?_) (v := ?_) ?_ ?_ ?_ ?_ ?_ ?_ (by assumption) ?_
  rotate_left 2
  · simp only [List.getElem?_toArray, List.getElem?_cons_zero, List.getElem?_cons_succ]
    rfl
  · kernel_rfl
  · kernel_rfl
  · kernel_rfl
  · exact fun _ _ _ h => h
  · refine Or.inl ⟨by rfl, ?_⟩
    intro w hSw
    (try dsimp only at hSw)
    go_simp
    all_goals with_reducible rfl
  simp only [Act.put, List.setIfInBounds_toArray, List.set_cons_zero, List.set_cons_succ]
  refine wpAnyH_ready (rs := [6]) (by kernel_rfl) (by simp) ?_
  refine AllReadyH.cons (o := ?_) ?_ (fun KK hKK => ?_) AllReadyH.nil
  rotate_left
  · simp only [List.getElem?_toArray, List.getElem?_cons_zero, List.getElem?_cons_succ]
    rfl
  go_simp
  refine HCF.out.mono ?_; rintro e w1 ⟨A', c', rfl, hfr', hb'⟩
  try go_wp2_with fail
  obtain ⟨hst1, ho1, hbw1, hfr1⟩ := HF1.out w1 A' c' hb' hfr'
  have k0 : w1.cell? ⟨S, 0, none⟩ = some (.int .i64 num) := by rw [ho1.cell]; rfl
  have z0 := ho1.free 0
  have ho2 := ho1.set 0 (.int .i64 (x.next : Int))
  have k4 : (w1.setCell ⟨S, 0, none⟩ (.int .i64 (x.next : Int))).cell? ⟨S, 4, none⟩ = some (.slice A n c) := by rw [ho2.cell]; rfl
  have z4 := ho2.free 4
  have HST1 := Lib.hid hst1
  have HO3 := Lib.hid (ho2.set 4 (.slice A' n c'))
  have HBW1 := Lib.hid hbw1
  have HFR1 := Lib.hid hfr1
  have n1 : w1.cell? ⟨a, 1, none⟩ = some (.int .i64 (x.next : Int)) := by rw [hst1.obj.cell]; rfl
  have U : Upd S w1 ((w1.setCell ⟨S, 0, none⟩ (.int .i64 (x.next : Int))).setCell ⟨S, 4, none⟩ (.slice A' n c')) := ((Upd.refl S w1).set 0 (.int .i64 (x.next : Int))).set 4 (.slice A' n c')
  have U1 : Upd S w1 (w1.setCell ⟨S, 0, none⟩ (.int .i64 (x.next : Int))) := (Upd.refl S w1).set 0 (.int .i64 (x.next : Int))
  have n2 : (w1.setCell ⟨S, 0, none⟩ (.int .i64 (x.next : Int))).cell? ⟨a, 1, none⟩ = some (.int .i64 (x.next : Int)) := by rw [(hst1.obj.upd U1 (by omega)).cell]; rfl
  have n3 : ((w1.setCell ⟨S, 0, none⟩ (.int .i64 (x.next : Int))).setCell ⟨S, 4, none⟩ (.slice A' n c')).cell? ⟨a, 1, none⟩ = some (.int .i64 (x.next : Int)) := by rw [(hst1.obj.upd U (by omega)).cell]; rfl
  have HU := Lib.hid U
  clear ho1 ho2 hst1 hbw1 hfr1 hb' hfr' U U1
  refine hKK.out _ _ ?_ (fun hh6 => ?_)
  · (try dsimp only)
    exact n1
  clear hKK KK
  try simp only [Act.put, List.setIfInBounds_toArray, List.set_cons_zero, List.set_cons_succ]
  refine wpAnyH_ready (rs := [8]) (by kernel_rfl) (by simp) ?_
  refine AllReadyH.cons (o := ?_) ?_ (fun KK hKK => ?_) AllReadyH.nil
  rotate_left
  · simp only [List.getElem?_toArray, List.getElem?_cons_zero, List.getElem?_cons_succ]
    rfl
  go_simp
  refine hKK.out _ _ ?_ (fun hh8 => ?_)
  · (try dsimp only)
    exact n2
  clear hKK KK
  try simp only [Act.put, List.setIfInBounds_toArray, List.set_cons_zero, List.set_cons_succ]
  refine wpAnyH_take (i := 9) (oi := ?_) (v := ?_) ?_ ?_ ?_ ?_ ?_ ?_ (by assumption) ?_
  rotate_left 2
  · simp only [List.getElem?_toArray, List.getElem?_cons_zero, List.getElem?_cons_succ]
    rfl
  · kernel_rfl
  · kernel_rfl
  · kernel_rfl
  · exact fun _ _ _ h => h
  · refine Or.inl ⟨by rfl, ?_⟩
    intro w hSw
    (try dsimp only at hSw)
    go_simp
    all_goals with_reducible rfl
  simp only [Act.put, List.setIfInBounds_toArray, List.set_cons_zero, List.set_cons_succ]
  refine wpAnyH_ready (rs := [10]) (by kernel_rfl) (by simp) ?_
  refine AllReadyH.cons (o := ?_) ?_ (fun KK hKK => ?_) AllReadyH.nil
  rotate_left
  · simp only [List.getElem?_toArray, List.getElem?_cons_zero, List.getElem?_cons_succ]
    rfl
  go_simp
  refine hKK.out _ _ ?_ (fun hh10 => ?_)
  · (try dsimp only)
    exact n3
  clear hKK KK
  try simp only [Act.put, List.setIfInBounds_toArray, List.set_cons_zero, List.set_cons_succ]
  refine wpAnyH_done (by kernel_rfl) ?_ _
  obtain ⟨W2, hW2⟩ : ∃ W2, (w1.setCell ⟨S, 0, none⟩ (.int .i64 (x.next : Int))).setCell ⟨S, 4, none⟩ (.slice A' n c') = W2 := ⟨_, rfl⟩
  rw [hW2] at HO3 HU ⊢
  have hsz2 : w1.heap.size = W2.heap.size := by rw [← hW2]; simp [World.setCell]
  have hst2 : StV W2 base a (.slice A1 q c1) x := ⟨HST1.out.obj.upd HU.out (by omega), own_updG HST1.out.own HU.out (fun e => by have := HVL.out S e; have := hSS.out; omega), HST1.out.lt, hsz2 ▸ HST1.out.le⟩
  have hbw2 : Below w.heap.size w W2 := Upd.below HBW1.out (by rw [hSS.out]; exact Nat.le_refl _) HU.out
  have hfr2 : W2.ownsRow (S + 1) 70 24 (.slice A' n c') n news := own_updG HFR1.out HU.out (fun e => by have := (HFR1.out.lt S e).1; omega)
  have hso : Obj W2 S 32 #[.int .i64 (x.next : Int), .int .u64 (tm : Int), .int .i64 (sz : Int), .bool ask, .slice A' n c'] := HO3.out.as rfl
  have hSl := hso.lt
  clear HST1 HBW1 HFR1 k0 z0 k4 z4 n1 n2 n3 hh5 hh6 hh8 hh10 hHeld fa1 b4 HO3 HU hW2 hsz2
  have hdr : Below W2.heap.size W2 W2.drew := (Below.refl _ W2).drew
  have hal3 : Below W2.heap.size W2 (W2.drew.alloc (.cells #[.int .i64 (x.next : Int), .int .u64 (tm : Int), .int .i64 (sz : Int), .bool ask, .slice A' n c'] 32)) := hdr.alloc (Nat.le_refl _) _
  have hst3 := hst2.kept hal3
  have hso3 := hso.kept hal3
  obtain ⟨v3, w3, hr3, ho3, hg3, hfs3⟩ := ownS_app2 (W2.drew.alloc (.cells #[.int .i64 (x.next : Int), .int .u64 (tm : Int), .int .i64 (sz : Int), .bool ask, .slice A' n c'] 32)) 25 hst3.own ⟨W2.heap.size, 0, none⟩ 1 1 [⟨x.next, tm, sz, ask, A', n, c'⟩] rfl (litS_src W2.drew ⟨x.next, tm, sz, ask, A', n, c'⟩) (by have := HQ.out; omega) hst3.le
  obtain ⟨A3, c3, rfl, _, _, _, _, _⟩ := ownS_rb ho3
  rw [HQ.out] at hr3 ho3 hfs3
  obtain ⟨v3, hv3⟩ : ∃ v3, Value.slice A3 (q + 1) c3 = v3 := ⟨_, rfl⟩
  obtain ⟨q1, hq1⟩ : ∃ q1, q + 1 = q1 := ⟨_, rfl⟩
  rw [hq1] at hr3 ho3 hfs3
  rw [hq1] at hv3
  subst hv3
  have hgl : ∀ g, (Value.slice A1 q c1).ownBlock = some g → base ≤ g ∧ g < w.heap.size := fun g e => ⟨(HW.out.own.lt g (by rw [HQ.out] at *; exact e)).1, HVL.out g e⟩
  have hso4 : Obj w3 S 32 #[.int .i64 (x.next : Int), .int .u64 (tm : Int), .int .i64 (sz : Int), .bool ask, .slice A' n c'] := (hg3.block S hso3.lt (fun e => by have := (hgl S e.symm).2; have := hSS.out; omega)).trans hso3
  have hob4 : Obj w3 a 27 #[.slice A1 q c1, .int .i64 (x.next : Int), .int .i64 (x.acked : Int)] := (hg3.block a hst3.obj.lt (fun e => by have := (hgl a e.symm).1; have := hst3.lt; omega)).trans hst3.obj
  have s0 : W2.cell? ⟨S, 0, none⟩ = some (.int .i64 (x.next : Int)) := by rw [hso.cell]; rfl
  have s1 : W2.cell? ⟨S, 1, none⟩ = some (.int .u64 (tm : Int)) := by rw [hso.cell]; rfl
  have s2 : W2.cell? ⟨S, 2, none⟩ = some (.int .i64 (sz : Int)) := by rw [hso.cell]; rfl
  have s3 : W2.cell? ⟨S, 3, none⟩ = some (.bool ask) := by rw [hso.cell]; rfl
  have s4 : W2.cell? ⟨S, 4, none⟩ = some (.slice A' n c') := by rw [hso.cell]; rfl
  have s5 : W2.cell? ⟨a, 0, none⟩ = some (.slice A1 q c1) := by rw [hst2.obj.cell]; rfl
  have hk3 : ((W2.drew.alloc (.cells #[.int .i64 (x.next : Int), .int .u64 (tm : Int), .int .i64 (sz : Int), .bool ask, .slice A' n c'] 32)).cell? ⟨S, 0, none⟩ = some (.int .i64 (x.next : Int)) ∧ (W2.drew.alloc (.cells #[.int .i64 (x.next : Int), .int .u64 (tm : Int), .int .i64 (sz : Int), .bool ask, .slice A' n c'] 32)).cell? ⟨S, 1, none⟩ = some (.int .u64 (tm : Int)) ∧ (W2.drew.alloc (.cells #[.int .i64 (x.next : Int), .int .u64 (tm : Int), .int .i64 (sz : Int), .bool ask, .slice A' n c'] 32)).cell? ⟨S, 2, none⟩ = some (.int .i64 (sz : Int)) ∧ (W2.drew.alloc (.cells #[.int .i64 (x.next : Int), .int .u64 (tm : Int), .int .i64 (sz : Int), .bool ask, .slice A' n c'] 32)).cell? ⟨S, 3, none⟩ = some (.bool ask) ∧ (W2.drew.alloc (.cells #[.int .i64 (x.next : Int), .int .u64 (tm : Int), .int .i64 (sz : Int), .bool ask, .slice A' n c'] 32)).cell? ⟨S, 4, none⟩ = some (.slice A' n c') ∧ (W2.drew.alloc (.cells #[.int .i64 (x.next : Int), .int .u64 (tm : Int), .int .i64 (sz : Int), .bool ask, .slice A' n c'] 32)).cell? ⟨a, 0, none⟩ = some (.slice A1 q c1)) := ⟨by rw [hso3.cell]; rfl, by rw [hso3.cell]; rfl, by rw [hso3.cell]; rfl, by rw [hso3.cell]; rfl, by rw [hso3.cell]; rfl, by rw [hst3.obj.cell]; rfl⟩
  have hk4 : (w3.cell? ⟨S, 0, none⟩ = some (.int .i64 (x.next : Int)) ∧ w3.cell? ⟨S, 1, none⟩ = some (.int .u64 (tm : Int)) ∧ w3.cell? ⟨S, 2, none⟩ = some (.int .i64 (sz : Int)) ∧ w3.cell? ⟨S, 3, none⟩ = some (.bool ask) ∧ w3.cell? ⟨S, 4, none⟩ = some (.slice A' n c') ∧ w3.cell? ⟨a, 0, none⟩ = some (.slice A1 q c1)) := ⟨by rw [hso4.cell]; rfl, by rw [hso4.cell]; rfl, by rw [hso4.cell]; rfl, by rw [hso4.cell]; rfl, by rw [hso4.cell]; rfl, by rw [hob4.cell]; rfl⟩
  have za := hob4.free 0
  have ob5 := hob4.set 0 (.slice A3 q1 c3)
  have c5 : (w3.setCell ⟨a, 0, none⟩ (.slice A3 q1 c3)).cell? ⟨a, 1, none⟩ = some (.int .i64 (x.next : Int)) := by rw [ob5.cell]; rfl
  have z5 := ob5.free 1
  have u5 : Upd a w3 ((w3.setCell ⟨a, 0, none⟩ (.slice A3 q1 c3)).setCell ⟨a, 1, none⟩ (.int .i64 ((x.next + 1 : Nat) : Int))) := ((Upd.refl _ w3).set 0 (.slice A3 q1 c3)).set 1 _
  obtain ⟨nx1, hnx1⟩ : ∃ nx1, x.next + 1 = nx1 := ⟨_, rfl⟩
  have en : (x.next : Int) + 1 = (nx1 : Int) := by omega
  have ew : IntKind.i64.wrap (nx1 : Int) = (nx1 : Int) := by rw [IntKind.wrap_i64]; omega
  have c6 : ((w3.setCell ⟨a, 0, none⟩ (.slice A3 q1 c3)).setCell ⟨a, 1, none⟩ (.int .i64 (nx1 : Int))).cell? ⟨S, 0, none⟩ = some (.int .i64 (x.next : Int)) := by rw [← hnx1, (hso4.upd u5 (by omega)).cell]; rfl
  have hfs : Fresh w (.slice A1 q c1) (.slice A3 q1 c3) := fun g e => (hfs3 g e).imp id (fun h => Nat.le_trans (Nat.le_trans hbw2.size hal3.size) h)
  have HFIN : Hid (SendR w ((w3.setCell ⟨a, 0, none⟩ (.slice A3 q1 c3)).setCell ⟨a, 1, none⟩ (.int .i64 (nx1 : Int))) base a (.slice A1 q c1) x tm sz ask n news) := by
    rw [← hnx1]
    exact grow_fin (wb := W2) (c' := c') (A' := A') hst3 (hbw2.trans (hal3.mono hbw2.size)) (own_base (ownS_kept hfr2 hal3) (by have := hSS.out; omega)) (by rw [HQ.out, hq1]; exact ho3) hg3 hfs HLE.out HVL.out
  have HR3 := Lib.hid hr3
  have HK3 := Lib.hid hk3
  have HK4 := Lib.hid hk4
  clear hfs3 hdr hal3 hst3 hso3 hr3 ho3 hg3 hgl hso4 hob4 ob5 hfs hso hst2 hbw2 hfr2 hk3 hk4 u5
  go_wp2
  refine wp_region_T 10 (fun wq => wq.cell? ⟨S, 0, none⟩ = some (.int .i64 (x.next : Int)) ∧ wq.cell? ⟨S, 1, none⟩ = some (.int .u64 (tm : Int)) ∧ wq.cell? ⟨S, 2, none⟩ = some (.int .i64 (sz : Int)) ∧ wq.cell? ⟨S, 3, none⟩ = some (.bool ask) ∧ wq.cell? ⟨S, 4, none⟩ = some (.slice A' n c') ∧ wq.cell? ⟨a, 0, none⟩ = some (.slice A1 q c1)) (by kernel_rfl) ⟨s0, s1, s2, s3, s4, s5⟩ (fun hHeld => ?_)
  refine wpAnyT_take (i := 0) (oi := ?_) (v := ?_) ?_ ?_ ?_ ?_ ?_ ?_ ?_ (by assumption) ?_
  rotate_left 2
  · simp only [List.getElem?_toArray, List.getElem?_cons_zero, List.getElem?_cons_succ]
    rfl
  · kernel_rfl
  · kernel_rfl
  · kernel_rfl
  · kernel_rfl
  · exact fun _ _ _ h => h
  · refine Or.inl ⟨by rfl, ?_⟩
    intro w hSw
    (try dsimp only at hSw)
    go_simp
    all_goals with_reducible rfl
  simp only [Act.put, List.setIfInBounds_toArray, List.set_cons_zero, List.set_cons_succ]
  refine wpAnyT_take (i := 1) (oi := ?_) (v := ?_) ?_ ?_ ?_ ?_ ?_ ?_ ?_ (by assumption) ?_
  rotate_left 2
  · simp only [List.getElem?_toArray, List.getElem?_cons_zero, List.getElem?_cons_succ]
    rfl
  · kernel_rfl
  · kernel_rfl
  · kernel_rfl
  · kernel_rfl
  · exact fun _ _ _ h => h
  · refine Or.inl ⟨by rfl, ?_⟩
    intro w hSw
    (try dsimp only at hSw)
    go_simp
    all_goals with_reducible rfl
  simp only [Act.put, List.setIfInBounds_toArray, List.set_cons_zero, List.set_cons_succ]
  refine wpAnyT_take (i := 2) (oi := ?_) (v := ?_) ?_ ?_ ?_ ?_ ?_ ?_ ?_ (by assumption) ?_
  rotate_left 2
  · simp only [List.getElem?_toArray, List.getElem?_cons_zero, List.getElem?_cons_succ]
    rfl
  · kernel_rfl
  · kernel_rfl
  · kernel_rfl
  · kernel_rfl
  · exact fun _ _ _ h => h
  · refine Or.inl ⟨by rfl, ?_⟩
    intro w hSw
    (try dsimp only at hSw)
    go_simp
    all_goals with_reducible rfl
  simp only [Act.put, List.setIfInBounds_toArray, List.set_cons_zero, List.set_cons_succ]
  refine wpAnyT_take (i := 3) (oi := ?_) (v := ?_) ?_ ?_ ?_ ?_ ?_ ?_ ?_ (by assumption) ?_
  rotate_left 2
  · simp only [List.getElem?_toArray, List.getElem?_cons_zero, List.getElem?_cons_succ]
    rfl
  · kernel_rfl
  · kernel_rfl
  · kernel_rfl
  · kernel_rfl
  · exact fun _ _ _ h => h
  · refine Or.inl ⟨by rfl, ?_⟩
    intro w hSw
    (try dsimp only at hSw)
    go_simp
    all_goals with_reducible rfl
  simp only [Act.put, List.setIfInBounds_toArray, List.set_cons_zero, List.set_cons_succ]
  refine wpAnyT_take (i := 4) (oi := ?_) (v := ?_) ?_ ?_ ?_ ?_ ?_ ?_ ?_ (by assumption) ?_
  rotate_left 2
  · simp only [List.getElem?_toArray, List.getElem?_cons_zero, List.getElem?_cons_succ]
    rfl
  · kernel_rfl
  · kernel_rfl
  · kernel_rfl
  · kernel_rfl
  · exact fun _ _ _ h => h
  · refine Or.inl ⟨by rfl, ?_⟩
    intro w' hSw
    obtain ⟨d0, d1, d2, d3, d4, d5⟩ := hSw
    go_simp
    all_goals with_reducible rfl
  simp only [Act.put, List.setIfInBounds_toArray, List.set_cons_zero, List.set_cons_succ]
  refine wpAnyT_take (i := 5) (oi := ?_) (v := ?_) ?_ ?_ ?_ ?_ ?_ ?_ ?_ (by assumption) ?_
  rotate_left 2
  · simp only [List.getElem?_toArray, List.getElem?_cons_zero, List.getElem?_cons_succ]
    rfl
  · kernel_rfl
  · kernel_rfl
  · kernel_rfl
  · kernel_rfl
  · exact fun _ _ _ h => h
  · refine Or.inl ⟨by rfl, ?_⟩
    intro w' hSw
    obtain ⟨d0, d1, d2, d3, d4, d5⟩ := hSw
    go_simp
    all_goals with_reducible rfl
  simp only [Act.put, List.setIfInBounds_toArray, List.set_cons_zero, List.set_cons_succ]
  refine wpAnyT_one (i := 6) (o := ?_) (by kernel_rfl) ?_ (fun KK hKK => ?_)
  rotate_left
  · simp only [List.getElem?_toArray, List.getElem?_cons_zero, List.getElem?_cons_succ]
    rfl
  go_simp
  refine hKK.out _ _ ?_ (fun hh6 => ?_)
  · (try dsimp only)
    exact HK3.out
  clear hKK KK
  try simp only [Act.put, List.setIfInBounds_toArray, List.set_cons_zero, List.set_cons_succ]
  refine wpAnyT_one (i := 7) (o := ?_) (by kernel_rfl) ?_ (fun KK hKK => ?_)
  rotate_left
  · simp only [List.getElem?_toArray, List.getElem?_cons_zero, List.getElem?_cons_succ]
    rfl
  rw [if_pos (by rfl)]
  refine Lib.wp_append_run _ _ _ _ _ rfl _ _ rfl rfl _ _ HR3.out ?_
  refine hKK.out _ _ ?_ (fun hh7 => ?_)
  · (try dsimp only)
    exact HK4.out
  clear hKK KK
  try simp only [Act.put, List.setIfInBounds_toArray, List.set_cons_zero, List.set_cons_succ]
  refine wpAnyT_one (i := 8) (o := ?_) (by kernel_rfl) ?_ (fun KK hKK => ?_)
  rotate_left
  · simp only [List.getElem?_toArray, List.getElem?_cons_zero, List.getElem?_cons_succ]
    rfl
  go_simp
  refine hKK.out _ _ ?_ (fun hh8 => ?_)
  · (try dsimp only)
    exact HK4.out
  clear hKK KK
  try simp only [Act.put, List.setIfInBounds_toArray, List.set_cons_zero, List.set_cons_succ]
  refine wpAnyT_take (i := 9) (oi := ?_) (v := ?_) ?_ ?_ ?_ ?_ ?_ ?_ ?_ (by assumption) ?_
  rotate_left 2
  · simp only [List.getElem?_toArray, List.getElem?_cons_zero, List.getElem?_cons_succ]
    rfl
  · kernel_rfl
  · kernel_rfl
  · kernel_rfl
  · kernel_rfl
  · exact fun _ _ _ h => h
  · refine Or.inl ⟨by rfl, ?_⟩
    intro w hSw
    (try dsimp only at hSw)
    go_simp
    all_goals with_reducible rfl
  simp only [Act.put, List.setIfInBounds_toArray, List.set_cons_zero, List.set_cons_succ]
  obtain ⟨e0, e1, e2, e3, e4, e5⟩ := HK4.out
  refine wpAnyT_last (o := ?_) (by kernel_rfl) ?_ (fun KK hKK => ?_)
  rotate_left
  · simp only [List.getElem?_toArray, List.getElem?_cons_zero, List.getElem?_cons_succ]
    rfl
  go_simp
  refine hKK.out _ _ ?_
  clear hKK KK
  try simp only [Act.put, List.setIfInBounds_toArray, List.set_cons_zero, List.set_cons_succ]
  refine wpAnyT_done (by kernel_rfl) ?_ _
  go_wp2
  go_ret2
  exact ⟨rfl, HFIN.out⟩
end Go.Proofs.Ytlldomgfjmkcdaa
