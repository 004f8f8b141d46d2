/- Layer 15's document, walked: Send. -/
import Derived.Test.YtlldomgfjmkcdaaRows
import Derived.Test.YtlldomgfjmkcdaaAid
import Derived.Test.YtlldomgfjmkcdaaHeldT
import Derived.Test.YtlldomgfjmkcdaaLgW
import Derived.Test.YtlldomgfjmkcdaaLgA
import Derived.Test.YtlldomgfjmkcdaaLgD
import Derived.Test.YtlldomgfjmkcdaaLaD
import Derived.Test.YtlldomgfjmkcdaaTk
import Derived.Test.YtlldomgfjmkcdaaTk2
import Derived.Lib.AppendZeros
import Derived.BigQuiet
import Derived.Deep.QuietTactic
import Derived.Deep.RegionHeld3
import Derived.Deep.CutBlock
import Derived.Deep.DeepCutAuto
import Derived.Lib.Hide
namespace Go.Proofs.Ytlldomgfjmkcdaa
open Go Go.RowKit
set_option linter.unusedVariables false
set_option linter.unusedSimpArgs false

/-- What a second argument of append holds. -/
def SrcS (w : World) (x : Value) (X : List PS) : Prop := (x = .slice none 0 0 ∧ X = []) ∨ ∃ ad c, x = .slice (some ad) X.length c ∧ ∀ j u, (flatS X)[j]? = some u → w.cell? (ad.add j) = some u
theorem SrcS.own {w : World} {base n : Nat} {v : Value} {X : List PS} (h : w.ownsRow base 32 5 v n (flatS X)) : SrcS w v X := by
  rcases h.2 with ⟨e, h0⟩ | ⟨g, cap, cur, e, hb, hg, hnc, hcm, hcs, ht⟩
  · refine .inl ⟨e, ?_⟩
    have := h.1
    rw [flatS_length, h0] at this
    exact List.length_eq_zero_iff.1 (by omega)
  · have hO : Obj w g 32 cur := hg
    have hl : X.length = n := by have := h.1; rw [flatS_length] at this; omega
    refine .inr ⟨⟨g, 0, none⟩, cap, by rw [hl]; exact e, fun j u hu => ?_⟩
    have hj := (List.getElem?_eq_some_iff.1 hu).1
    rw [flatS_length] at hj
    rw [Addr.add_lit, Nat.zero_add, hO.cell]
    rw [← ht, List.getElem?_take_of_lt (by omega)] at hu
    simpa using hu
theorem SrcS.below {w w' : World} {v : Value} {X : List PS} (h : SrcS w v X) (hb : Below w.heap.size w w') : SrcS w' v X := by
  rcases h with h | ⟨ad, c, e, hc⟩
  · exact .inl h
  · refine .inr ⟨ad, c, e, fun j u hu => ?_⟩
    have h1 := hc j u hu
    have := World.block_lt_of_cell? _ _ h1
    exact (World.cell?_of_block (a := ad.add j) (hb.block _ this)).trans h1
theorem SrcS.one (W : World) (p : PS) : SrcS (W.alloc (.cells (pc p).toArray 32)) (.slice (some ⟨W.heap.size, 0, none⟩) 1 1) [p] := .inr ⟨_, 1, rfl, litS_src W p⟩
theorem SrcS.grown {w w' : World} {v : Value} {X : List PS} {row : Option Nat} (h : SrcS w v X) (hg : w.grownBy w' row) (hne : ∀ ad n c, v = .slice (some ad) n c → some ad.block ≠ row) : SrcS w' v X := by
  rcases h with h | ⟨ad, c, e, hc⟩
  · exact .inl h
  · refine .inr ⟨ad, c, e, fun j u hu => ?_⟩
    have h1 := hc j u hu
    have := World.block_lt_of_cell? _ _ h1
    refine (World.cell?_of_block (a := ad.add j) (hg.block _ this ?_)).trans h1
    have := hne ad _ _ e
    rwa [show (ad.add j).block = ad.block from by unfold Addr.add; split <;> rfl]
/-- Appending to a row of one's own. -/
theorem appS (w : World) (ty : TypeId) {base n : Nat} {v x : Value} {l X : List PS} (hown : w.ownsRow base 32 5 v n (flatS l)) (hX : SrcS w x X) (hm : n + X.length ≤ 1000000) (hbase : base ≤ w.heap.size) :
    ∃ v' w', (Builtin.append_ #[25, 25] ty #[v, x]).run Try.prog w = .ok v' w' ∧ w'.ownsRow base 32 5 v' (n + X.length) (flatS (l ++ X)) ∧ w.grownBy w' v.ownBlock := by
  rcases hX with ⟨rfl, rfl⟩ | ⟨ad, c, rfl, hc⟩
  · obtain ⟨i0, hi, hz0, hz1, hz2⟩ := infoS
    refine ⟨v, w, run_append_owned_none w base 25 ty 32 i0 5 Try.underlying25 hi v n (flatS l) hown, by simpa using hown, ⟨rfl, rfl, rfl, Nat.le_refl _, fun _ _ _ => rfl⟩⟩
  · exact ownS_app w ty hown ad X.length c X rfl hc hm hbase
theorem wp_appP {o : Oper} {a : Act} {K : Act → World → Prop} {Q : Exit → Act → World → Prop} {w : World} (s x : Operand)
    (ho : o.op = .call { callee := .builtin .append, args := #[s, x], argTypes := #[25, 25] })
    {base n : Nat} {v vx : Value} {l X : List PS} (hs : a.eval s = v) (hx : a.eval x = vx) (hown : w.ownsRow base 32 5 v n (flatS l)) (hX : SrcS w vx X) (hm : n + X.length ≤ 1000000) (hbase : base ≤ w.heap.size)
    (h : ∀ v' w', w'.ownsRow base 32 5 v' (n + X.length) (flatS (l ++ X)) → w.grownBy w' v.ownBlock → K (a.put o.dst v') w') : o.wp Try.prog a w K Q := by
  obtain ⟨v', w', h1, h2, h3⟩ := appS w o.type hown hX hm hbase
  exact Lib.wp_append_run w s x 25 25 ho _ _ hs hx _ _ h1 (h v' w' h2 h3)
theorem own_madeS (w : World) (B : Nat) (hB : B ≤ w.heap.size) : (w.alloc (.cells #[] 32)).ownsRow B 32 5 (.slice (some ⟨w.heap.size, 0, none⟩) 0 0) 0 (flatS []) := World.ownsRow_made w #[] 0 hB (Nat.zero_le _) rfl
theorem Below.ownS {B base n : Nat} {w w1 w2 : World} {v : Value} {xs : List Value} (h : Below B w w1) (ho : w1.ownsRow base 32 5 v n xs) (hb : B ≤ base) (hB : B ≤ w1.heap.size) (hg : w1.grownBy w2 v.ownBlock) : Below B w w2 :=
  ⟨hg.os.trans h.os, hg.tape.trans h.tape, hg.output.trans h.output, Nat.le_trans h.size hg.size, fun k hk => (hg.block k (by omega) (fun e => by have := (ho.lt k e.symm).1; omega)).trans (h.block k hk)⟩
section
variable {P : Program} {ops : Array Oper} {md : Region.Mode} {Q : Exit → Act → World → Prop} {S : World → Prop} {T : Nat}
/-- Two may come up, neither of them T. -/
theorem twT (i j : Nat) {oi oj : Oper} {fuel : Nat} {listed : Array Bool} {a : Act} {w : World}
    (hi : ∀ K' : Act → World → Prop, Shut (∀ a w, S w → (S w → wpAnyT P md ops Q S T fuel (listed.setIfInBounds i true) a w) → K' a w) → if Region.wanted oi (yielded ops a.tmps) = true then Oper.wp P oi a w K' Q else K' (a.put oi.dst undef) w)
    (hj : ∀ K' : Act → World → Prop, Shut (∀ a w, S w → (S w → wpAnyT P md ops Q S T fuel (listed.setIfInBounds j true) a w) → K' a w) → if Region.wanted oj (yielded ops a.tmps) = true then Oper.wp P oj a w K' Q else K' (a.put oj.dst undef) w)
    (hoi : ops[i]? = some oi := by (simp only [List.getElem?_toArray, List.getElem?_cons_zero, List.getElem?_cons_succ]; rfl))
    (hoj : ops[j]? = some oj := by (simp only [List.getElem?_toArray, List.getElem?_cons_zero, List.getElem?_cons_succ]; rfl))
    (hr : Region.ready md ops listed = [i, j] := by kernel_rfl) : wpAnyT P md ops Q S T (fuel + 1) listed a w :=
  ⟨fun h0 => (by rw [h0] at hr; cases hr), fun k hk => by
    rw [hr] at hk
    rcases (by simpa using hk : k = i ∨ k = j) with rfl | rfl
    · exact wpOp_step hoi (fun K' hK => hi K' (fun a w hS hW => hK a w ⟨fun _ => hS, hW hS⟩))
    · exact wpOp_step hoj (fun K' hK => hj K' (fun a w hS hW => hK a w ⟨fun _ => hS, hW hS⟩))⟩
end
/-- Behind the document's Send. -/
structure RSend (w w' : World) (D : Nat) (v : Value) (y : List PS) (nx ak : Nat) (p : PS) : Prop where
  ex : ∃ v', DS w' D v' (y ++ [p]) (nx + 1) ak ∧ ∀ g, v'.ownBlock = some g → w.heap.size ≤ g
  upd : Upd D w w'
theorem rsend_fin {w W5 W9 : World} {D nx ak : Nat} {v v9 : Value} {y : List PS} {p : PS} (h5 : DS W5 D v y nx ak) (hb : Below w.heap.size w W5) (hDw : D < w.heap.size) (h9 : Below W5.heap.size W5 W9) (ho : W9.ownsRow W5.heap.size 32 5 v9 (y.length + 1) (flatS (y ++ [p]))) :
    RSend w ((W9.setCell ⟨D, 0, none⟩ v9).setCell ⟨D, 1, none⟩ (.int .i64 ((nx : Int) + 1))) D v y nx ak p := by
  have ho9 := h5.obj.kept h9
  have o4 := (ho9.set 0 v9).set 1 (.int .i64 ((nx : Int) + 1))
  have u : Upd D W9 ((W9.setCell ⟨D, 0, none⟩ v9).setCell ⟨D, 1, none⟩ (.int .i64 ((nx : Int) + 1))) := ((Upd.refl _ W9).set 0 v9).set 1 _
  have hs := hb.size
  have h9s := h9.size
  refine ⟨⟨v9, ⟨o4, ?_⟩, fun g hg => by have := (ho.lt g hg).1; omega⟩, ⟨u.os.trans (h9.os.trans hb.os), u.tape.trans (h9.tape.trans hb.tape), u.output.trans (h9.output.trans hb.output), Nat.le_trans hs (Nat.le_trans h9s u.size), fun k hk hne => (u.block k (by omega) hne).trans ((h9.block k (by omega)).trans (hb.block k hk))⟩⟩
  rw [List.length_append]
  exact own_base (own_updG ho u (fun e => by have := (ho.lt D e).1; omega)) (by omega)

set_option maxRecDepth 100000 in
set_option maxHeartbeats 1000000 in
theorem rsend_arg (D : Nat) (num : Int) (tm : Nat) (sz : Int) (ask : Bool) (A : Option Addr) (n c : Nat) (w : World) (hs : sz < 0 ∨ 1200 < sz) :
    Calls Try.prog 19 #[.pointer (some ⟨D, 0, none⟩), .agg #[.int .i64 num, .int .u64 (tm : Int), .int .i64 sz, .bool ask, .slice A n c]] w fun e w' => e = .returned (.tuple #[.int .i64 0, .int .i64 1]) ∧ Below w.heap.size w w' := by
  by_cases h0 : sz < 0
  · have d0 : decide (sz < 0) = true := decide_eq_true h0
    go_enter Try.func19, Try.ntmps19
    go_wp2
    go_ret2
    exact ⟨rfl, (Below.refl _ w).alloc (Nat.le_refl _) _⟩
  · have d0 : decide (sz < 0) = false := decide_eq_false h0
    have h1 : 1200 < sz := by omega
    have d1 : decide (1200 < sz) = true := decide_eq_true h1
    go_enter Try.func19, Try.ntmps19
    go_wp2
    go_ret2
    exact ⟨rfl, (Below.refl _ w).alloc (Nat.le_refl _) _⟩
set_option maxRecDepth 100000 in
set_option maxHeartbeats 1000000 in
theorem rsend_full (D nx ak : Nat) (v : Value) (y : List PS) (num : Int) (tm sz : Nat) (ask : Bool) (A : Option Addr) (n c : Nat) (w : World) (h : DS w D v y nx ak) (hs : sz ≤ 1200) (hf : 64 ≤ y.length) (hy : y.length ≤ 1000) :
    Calls Try.prog 19 #[.pointer (some ⟨D, 0, none⟩), .agg #[.int .i64 num, .int .u64 (tm : Int), .int .i64 (sz : Int), .bool ask, .slice A n c]] w fun e w' => e = .returned (.tuple #[.int .i64 0, .int .i64 5]) ∧ Below w.heap.size w w' := by
  have d0 : decide ((sz : Int) < 0) = false := decide_eq_false (by omega)
  have d1 : decide ((1200 : Int) < (sz : Int)) = false := decide_eq_false (by omega)
  have d1' : decide (1200 < sz) = false := decide_eq_false (by omega)
  obtain ⟨A1, c1, rfl, _, _, _, _, _⟩ := ownS_rb h.own
  have hal := h.obj.lt
  have f0 : w.cell? ⟨D, 0, none⟩ = some (.slice A1 y.length c1) := by rw [h.obj.cell]; rfl
  obtain ⟨q, hq⟩ : ∃ q, y.length = q := ⟨_, rfl⟩
  rw [hq] at f0 hf hy
  have hfi : (64 : Int) ≤ (q : Int) := by omega
  clear h hq
  go_enter Try.func19, Try.ntmps19
  go_wp2
  go_ret2
  exact ⟨rfl, (Below.refl _ w).alloc (Nat.le_refl _) _⟩

set_option maxRecDepth 100000 in
set_option maxHeartbeats 4000000 in
theorem rsend_any (D nx ak : Nat) (v : Value) (y : List PS) (num : Int) (tm sz : Nat) (ask : Bool) (A : Option Addr) (n c : Nat) (w : World) (h : DS w D v y nx ak) (hs : sz ≤ 1200) (hf : y.length < 64) (hx : nx ≤ 1000000) :
    Calls Try.prog 19 #[.pointer (some ⟨D, 0, none⟩), .agg #[.int .i64 num, .int .u64 (tm : Int), .int .i64 (sz : Int), .bool ask, .slice A n c]] w fun e w' => e = .returned (.tuple #[.int .i64 (nx : Int), .int .i64 0]) ∧ RSend w w' D v y nx ak ⟨nx, tm, sz, ask, A, n, c⟩ := by
  have d0 : decide ((sz : Int) < 0) = false := decide_eq_false (by omega)
  have d1 : decide ((1200 : Int) < (sz : Int)) = false := decide_eq_false (by omega)
  have d1' : decide (1200 < sz) = false := decide_eq_false (by omega)
  obtain ⟨B, hB⟩ : ∃ B, w.heap.size = B := ⟨_, rfl⟩
  have hal := h.obj.lt
  have hDB : D < B := by omega
  have hDne : ¬ D = B := by omega
  have hBne : ¬ B = D := by omega
  obtain ⟨W1, hW1⟩ : ∃ W1, w.alloc (.cells #[.int .i64 num, .int .u64 (tm : Int), .int .i64 (sz : Int), .bool ask, .slice A n c] 32) = W1 := ⟨_, rfl⟩
  have hb1 : Below w.heap.size w W1 := hW1 ▸ (Below.refl _ w).alloc (Nat.le_refl _) _
  have o1 : Obj W1 B 32 #[.int .i64 num, .int .u64 (tm : Int), .int .i64 (sz : Int), .bool ask, .slice A n c] := hB ▸ hW1 ▸ Obj.new w _ _
  have h1 := h.kept hb1
  obtain ⟨W5, hW5⟩ : ∃ W5, W1.setCell ⟨B, 0, none⟩ (.int .i64 (nx : Int)) = W5 := ⟨_, rfl⟩
  have u5 : Upd B W1 W5 := hW5 ▸ (Upd.refl _ W1).set 0 _
  have o5 : Obj W5 B 32 #[.int .i64 (nx : Int), .int .u64 (tm : Int), .int .i64 (sz : Int), .bool ask, .slice A n c] := hW5 ▸ o1.set 0 _
  have h5 : DS W5 D v y nx ak := ⟨h1.obj.upd u5 hDne, own_updG h1.own u5 (fun e => by have := (h.own.lt B e).2; omega)⟩
  have hb5 : Below w.heap.size w W5 := Upd.below hb1 (by omega) u5
  obtain ⟨A1, c1, rfl, _, _, _, _, _⟩ := ownS_rb h.own
  obtain ⟨q, hq⟩ : ∃ q, y.length = q := ⟨_, rfl⟩
  have f0 : W1.cell? ⟨D, 0, none⟩ = some (.slice A1 q c1) := by rw [h1.obj.cell, hq]; rfl
  have f1 : W1.cell? ⟨D, 1, none⟩ = some (.int .i64 (nx : Int)) := by rw [h1.obj.cell]; rfl
  have s2 : W1.cell? ⟨B, 2, none⟩ = some (.int .i64 (sz : Int)) := by rw [o1.cell]; rfl
  have s0 : W1.cell? ⟨B, 0, none⟩ = some (.int .i64 num) := by rw [o1.cell]; rfl
  have z0 := o1.free 0
  have hfq : q < 64 := by omega
  have hfi : ¬ (64 : Int) ≤ (q : Int) := by omega
  have e1 : IntKind.i64.wrap ((nx : Int) + 1) = (nx : Int) + 1 := by rw [IntKind.wrap_i64]; omega
  have H5 := Lib.hid h5
  have O5 := Lib.hid o5
  have HB5 := Lib.hid hb5
  have HB0 := Lib.hid hB
  have HW1 := Lib.hid hW1
  have HW5 := Lib.hid hW5
  have HQ := Lib.hid hq
  have HDB := Lib.hid hDB
  have HSV : Hid (SrcS W5 (.slice A1 q c1) y) := by have := SrcS.own h5.own; rw [hq] at this; exact this
  have HCF : Hid (∀ W, Below W5.heap.size W5 W → W.cell? ⟨D, 0, none⟩ = some (.slice A1 q c1) ∧ W.cell? ⟨D, 1, none⟩ = some (.int .i64 (nx : Int)) ∧ W.cell? ⟨B, 0, none⟩ = some (.int .i64 (nx : Int)) ∧ W.cell? ⟨B, 1, none⟩ = some (.int .u64 (tm : Int)) ∧ W.cell? ⟨B, 2, none⟩ = some (.int .i64 (sz : Int)) ∧ W.cell? ⟨B, 3, none⟩ = some (.bool ask) ∧ W.cell? ⟨B, 4, none⟩ = some (.slice A n c) ∧ W.frozen? ⟨D, 0, none⟩ = false ∧ W.frozen? ⟨D, 1, none⟩ = false) := fun W hb => by
    have o := o5.kept hb
    have d := h5.obj.kept hb
    exact ⟨by rw [d.cell, hq]; rfl, by rw [d.cell]; rfl, by rw [o.cell]; rfl, by rw [o.cell]; rfl, by rw [o.cell]; rfl, by rw [o.cell]; rfl, by rw [o.cell]; rfl, d.free 0, d.free 1⟩
  clear h h1 h5 o1 o5 hb1 hb5 u5 hW1 hW5 hq hB hal
  go_enter Try.func19, Try.ntmps19
  go_upto_region 1 with fail
  rw [HW1.out, HB0.out]
  go_upto_region 6 with fail
  rw [HW5.out]
  clear f0 f1 s2 s0 z0
  refine wp_region_T 12 (fun wq => Below W5.heap.size W5 wq) (by kernel_rfl) ((Below.refl _ W5).drew) (fun hHeld => ?_)
  generalize W5.drew = V5 at *
  have HH := Lib.hid hHeld
  refine tkT 0 ?_
  refine tkT 2 ?_
  refine tkT 3 ?_
  refine tkT 4 ?_
  refine tkT 5 ?_ (hy := by
    refine Or.inl ⟨by rfl, ?_⟩
    intro wq hSw
    obtain ⟨q0, -⟩ := HCF.out wq hSw
    go_simp
    all_goals with_reducible rfl)
  refine tkT 7 ?_ (hy := by
    refine Or.inl ⟨by rfl, ?_⟩
    intro wq hSw
    obtain ⟨-, -, q0, q1, q2, q3, q4, -⟩ := HCF.out wq hSw
    go_simp
    all_goals with_reducible rfl)
  refine twT 1 8 (fun KK hKK => ?_) (fun KK hKK => ?_)
  · skip
    go_simp
    refine hKK.out _ _ ?_ (fun h1 => ?_)
    · (try dsimp only)
      exact HH.out.alloc HH.out.size _
    clear hKK KK
    try simp only [Act.put, List.setIfInBounds_toArray, List.set_cons_zero, List.set_cons_succ]
    have HO1 := Lib.hid (own_madeS V5 W5.heap.size HH.out.size)
    have H1 := Lib.hid h1
    obtain ⟨v1, hv1⟩ : ∃ v1 : Value, Value.slice (some ⟨V5.heap.size, 0, none⟩) 0 0 = v1 := ⟨_, rfl⟩
    rw [hv1] at HO1 ⊢
    obtain ⟨V1, hV1⟩ : ∃ V1, V5.alloc (.cells #[] 32) = V1 := ⟨_, rfl⟩
    rw [hV1] at HO1 H1 h1 ⊢
    refine twT 6 8 (fun KK hKK => ?_) (fun KK hKK => ?_)
    · skip
      rw [if_pos (by rfl)]
      refine wp_appP _ _ rfl rfl rfl HO1.out (HSV.out.below H1.out) (by have := HQ.out; omega) H1.out.size ?_
      intro v6 V6 hown6 hgr6
      refine hKK.out _ _ ?_ (fun h6 => ?_)
      · (try dsimp only)
        exact Below.ownS H1.out HO1.out (Nat.le_refl _) H1.out.size hgr6
      clear hKK KK
      try simp only [Act.put, List.setIfInBounds_toArray, List.set_cons_zero, List.set_cons_succ]
      rw [Nat.zero_add, List.nil_append] at hown6
      have HO6 := Lib.hid hown6
      have H6 := Lib.hid h6
      refine onT 8 (fun KK hKK => ?_)
      go_simp
      refine hKK.out _ _ ?_ (fun h8 => ?_)
      · (try dsimp only)
        exact H6.out.alloc H6.out.size _
      clear hKK KK
      try simp only [Act.put, List.setIfInBounds_toArray, List.set_cons_zero, List.set_cons_succ]
      have HS8 := Lib.hid (SrcS.one V6 ⟨nx, tm, sz, ask, A, n, c⟩)
      have H8 := Lib.hid h8
      have hb8 : Below V6.heap.size V6 (V6.alloc (.cells (pc ⟨nx, tm, sz, ask, A, n, c⟩).toArray 32)) := (Below.refl _ V6).alloc (Nat.le_refl _) _
      obtain ⟨v8, hv8⟩ : ∃ v8 : Value, Value.slice (some ⟨V6.heap.size, 0, none⟩) 1 1 = v8 := ⟨_, rfl⟩
      rw [hv8] at HS8 ⊢
      obtain ⟨V8, hV8⟩ : ∃ V8, V6.alloc (.cells #[.int .i64 (nx : Int), .int .u64 (tm : Int), .int .i64 (sz : Int), .bool ask, .slice A n c] 32) = V8 := ⟨_, rfl⟩
      change Hid (SrcS (V6.alloc (.cells #[.int .i64 (nx : Int), .int .u64 (tm : Int), .int .i64 (sz : Int), .bool ask, .slice A n c] 32)) v8 [⟨nx, tm, sz, ask, A, n, c⟩]) at HS8
      change Below V6.heap.size V6 (V6.alloc (.cells #[.int .i64 (nx : Int), .int .u64 (tm : Int), .int .i64 (sz : Int), .bool ask, .slice A n c] 32)) at hb8
      rw [hV8] at HS8 H8 h8 hb8 ⊢
      have HB8 := Lib.hid hb8
      have HO7 := Lib.hid (ownS_kept HO6.out HB8.out)
      refine onT 9 (fun KK hKK => ?_)
      rw [if_pos (by rfl)]
      refine wp_appP _ _ rfl rfl rfl HO7.out HS8.out (by have := HQ.out; simp only [List.length_cons, List.length_nil]; omega) H8.out.size ?_
      intro v9 V9 hown9 hgr9
      obtain ⟨A9, c9, rfl, -⟩ := ownS_rb hown9
      refine hKK.out _ _ ?_ (fun h9 => ?_)
      · (try dsimp only)
        exact Below.ownS H8.out HO7.out (Nat.le_refl _) H8.out.size hgr9
      clear hKK KK
      try simp only [Act.put, List.setIfInBounds_toArray, List.set_cons_zero, List.set_cons_succ]
      have hown9b : V9.ownsRow W5.heap.size 32 5 (.slice A9 (y.length + 1) c9) (y.length + 1) (flatS (y ++ [⟨nx, tm, sz, ask, A, n, c⟩])) := hown9
      have HF := Lib.hid (rsend_fin H5.out HB5.out (by rw [HB0.out]; exact HDB.out) h9 hown9b)
      obtain ⟨g0, g1, b0, -, -, -, -, z0, z1⟩ := HCF.out V9 h9
      clear hown9 hgr9 hown9b
      refine onT 10 (fun KK hKK => ?_)
      go_simp
      refine hKK.out _ _ ?_ (fun hx1 => ?_)
      · (try dsimp only)
        assumption
      clear hKK KK
      try simp only [Act.put, List.setIfInBounds_toArray, List.set_cons_zero, List.set_cons_succ]
      refine onT 11 (fun KK hKK => ?_)
      go_simp
      refine hKK.out _ _ ?_ (fun hx2 => ?_)
      · (try dsimp only)
        assumption
      clear hKK KK
      try simp only [Act.put, List.setIfInBounds_toArray, List.set_cons_zero, List.set_cons_succ]
      refine laT (fun KK hKK => ?_)
      go_simp
      refine hKK.out _ _ ?_
      clear hKK KK
      try simp only [Act.put, List.setIfInBounds_toArray, List.set_cons_zero, List.set_cons_succ]
      refine wpAnyT_done (by kernel_rfl) ?_ _
      go_wp2
      go_ret2
      exact ⟨rfl, HF.out⟩
    · skip
      go_simp
      refine hKK.out _ _ ?_ (fun h8 => ?_)
      · (try dsimp only)
        exact H1.out.alloc H1.out.size _
      clear hKK KK
      try simp only [Act.put, List.setIfInBounds_toArray, List.set_cons_zero, List.set_cons_succ]
      have HS8 := Lib.hid (SrcS.one V1 ⟨nx, tm, sz, ask, A, n, c⟩)
      have H8 := Lib.hid h8
      have hb8 : Below V1.heap.size V1 (V1.alloc (.cells (pc ⟨nx, tm, sz, ask, A, n, c⟩).toArray 32)) := (Below.refl _ V1).alloc (Nat.le_refl _) _
      obtain ⟨v8, hv8⟩ : ∃ v8 : Value, Value.slice (some ⟨V1.heap.size, 0, none⟩) 1 1 = v8 := ⟨_, rfl⟩
      rw [hv8] at HS8 ⊢
      obtain ⟨V8, hV8⟩ : ∃ V8, V1.alloc (.cells #[.int .i64 (nx : Int), .int .u64 (tm : Int), .int .i64 (sz : Int), .bool ask, .slice A n c] 32) = V8 := ⟨_, rfl⟩
      change Hid (SrcS (V1.alloc (.cells #[.int .i64 (nx : Int), .int .u64 (tm : Int), .int .i64 (sz : Int), .bool ask, .slice A n c] 32)) v8 [⟨nx, tm, sz, ask, A, n, c⟩]) at HS8
      change Below V1.heap.size V1 (V1.alloc (.cells #[.int .i64 (nx : Int), .int .u64 (tm : Int), .int .i64 (sz : Int), .bool ask, .slice A n c] 32)) at hb8
      rw [hV8] at HS8 H8 h8 hb8 ⊢
      have HB8 := Lib.hid hb8
      have HO7 := Lib.hid (ownS_kept HO1.out HB8.out)
      refine onT 6 (fun KK hKK => ?_)
      rw [if_pos (by rfl)]
      refine wp_appP _ _ rfl rfl rfl HO7.out (HSV.out.below H8.out) (by have := HQ.out; omega) H8.out.size ?_
      intro v6 V6 hown6 hgr6
      refine hKK.out _ _ ?_ (fun h6 => ?_)
      · (try dsimp only)
        exact Below.ownS H8.out HO7.out (Nat.le_refl _) H8.out.size hgr6
      clear hKK KK
      try simp only [Act.put, List.setIfInBounds_toArray, List.set_cons_zero, List.set_cons_succ]
      rw [Nat.zero_add, List.nil_append] at hown6
      have HO6 := Lib.hid hown6
      have H6 := Lib.hid h6
      have HS9 : Hid (SrcS V6 v8 [⟨nx, tm, sz, ask, A, n, c⟩]) := HS8.out.grown hgr6 (fun ad n c e => by rw [← hv8] at e; cases e; rw [← hv1]; show some V1.heap.size ≠ some V5.heap.size; rw [← hV1]; simp)
      refine onT 9 (fun KK hKK => ?_)
      rw [if_pos (by rfl)]
      refine wp_appP _ _ rfl rfl rfl HO6.out HS9.out (by have := HQ.out; simp only [List.length_cons, List.length_nil]; omega) H6.out.size ?_
      intro v9 V9 hown9 hgr9
      obtain ⟨A9, c9, rfl, -⟩ := ownS_rb hown9
      refine hKK.out _ _ ?_ (fun h9 => ?_)
      · (try dsimp only)
        exact Below.ownS H6.out HO6.out (Nat.le_refl _) H6.out.size hgr9
      clear hKK KK
      try simp only [Act.put, List.setIfInBounds_toArray, List.set_cons_zero, List.set_cons_succ]
      have hown9b : V9.ownsRow W5.heap.size 32 5 (.slice A9 (y.length + 1) c9) (y.length + 1) (flatS (y ++ [⟨nx, tm, sz, ask, A, n, c⟩])) := hown9
      have HF := Lib.hid (rsend_fin H5.out HB5.out (by rw [HB0.out]; exact HDB.out) h9 hown9b)
      obtain ⟨g0, g1, b0, -, -, -, -, z0, z1⟩ := HCF.out V9 h9
      clear hown9 hgr9 hown9b
      refine onT 10 (fun KK hKK => ?_)
      go_simp
      refine hKK.out _ _ ?_ (fun hx1 => ?_)
      · (try dsimp only)
        assumption
      clear hKK KK
      try simp only [Act.put, List.setIfInBounds_toArray, List.set_cons_zero, List.set_cons_succ]
      refine onT 11 (fun KK hKK => ?_)
      go_simp
      refine hKK.out _ _ ?_ (fun hx2 => ?_)
      · (try dsimp only)
        assumption
      clear hKK KK
      try simp only [Act.put, List.setIfInBounds_toArray, List.set_cons_zero, List.set_cons_succ]
      refine laT (fun KK hKK => ?_)
      go_simp
      refine hKK.out _ _ ?_
      clear hKK KK
      try simp only [Act.put, List.setIfInBounds_toArray, List.set_cons_zero, List.set_cons_succ]
      refine wpAnyT_done (by kernel_rfl) ?_ _
      go_wp2
      go_ret2
      exact ⟨rfl, HF.out⟩
  · skip
    go_simp
    refine hKK.out _ _ ?_ (fun h8 => ?_)
    · (try dsimp only)
      exact HH.out.alloc HH.out.size _
    clear hKK KK
    try simp only [Act.put, List.setIfInBounds_toArray, List.set_cons_zero, List.set_cons_succ]
    have HS8 := Lib.hid (SrcS.one V5 ⟨nx, tm, sz, ask, A, n, c⟩)
    have H8 := Lib.hid h8
    have hb8 : Below V5.heap.size V5 (V5.alloc (.cells (pc ⟨nx, tm, sz, ask, A, n, c⟩).toArray 32)) := (Below.refl _ V5).alloc (Nat.le_refl _) _
    obtain ⟨v8, hv8⟩ : ∃ v8 : Value, Value.slice (some ⟨V5.heap.size, 0, none⟩) 1 1 = v8 := ⟨_, rfl⟩
    rw [hv8] at HS8 ⊢
    obtain ⟨V8, hV8⟩ : ∃ V8, V5.alloc (.cells #[.int .i64 (nx : Int), .int .u64 (tm : Int), .int .i64 (sz : Int), .bool ask, .slice A n c] 32) = V8 := ⟨_, rfl⟩
    change Hid (SrcS (V5.alloc (.cells #[.int .i64 (nx : Int), .int .u64 (tm : Int), .int .i64 (sz : Int), .bool ask, .slice A n c] 32)) v8 [⟨nx, tm, sz, ask, A, n, c⟩]) at HS8
    change Below V5.heap.size V5 (V5.alloc (.cells #[.int .i64 (nx : Int), .int .u64 (tm : Int), .int .i64 (sz : Int), .bool ask, .slice A n c] 32)) at hb8
    rw [hV8] at HS8 H8 h8 hb8 ⊢
    have HB8 := Lib.hid hb8
    refine onT 1 (fun KK hKK => ?_)
    go_simp
    refine hKK.out _ _ ?_ (fun h1 => ?_)
    · (try dsimp only)
      exact H8.out.alloc H8.out.size _
    clear hKK KK
    try simp only [Act.put, List.setIfInBounds_toArray, List.set_cons_zero, List.set_cons_succ]
    have HO1 := Lib.hid (own_madeS V8 W5.heap.size H8.out.size)
    have H1 := Lib.hid h1
    obtain ⟨v1, hv1⟩ : ∃ v1 : Value, Value.slice (some ⟨V8.heap.size, 0, none⟩) 0 0 = v1 := ⟨_, rfl⟩
    rw [hv1] at HO1 ⊢
    obtain ⟨V1, hV1⟩ : ∃ V1, V8.alloc (.cells #[] 32) = V1 := ⟨_, rfl⟩
    rw [hV1] at HO1 H1 h1 ⊢
    have HS7 := Lib.hid (HS8.out.below ((Below.refl _ V8).alloc (Nat.le_refl _) (.cells #[] 32)))
    rw [hV1] at HS7
    refine onT 6 (fun KK hKK => ?_)
    rw [if_pos (by rfl)]
    refine wp_appP _ _ rfl rfl rfl HO1.out (HSV.out.below H1.out) (by have := HQ.out; omega) H1.out.size ?_
    intro v6 V6 hown6 hgr6
    refine hKK.out _ _ ?_ (fun h6 => ?_)
    · (try dsimp only)
      exact Below.ownS H1.out HO1.out (Nat.le_refl _) H1.out.size hgr6
    clear hKK KK
    try simp only [Act.put, List.setIfInBounds_toArray, List.set_cons_zero, List.set_cons_succ]
    rw [Nat.zero_add, List.nil_append] at hown6
    have HO6 := Lib.hid hown6
    have H6 := Lib.hid h6
    have HS9 : Hid (SrcS V6 v8 [⟨nx, tm, sz, ask, A, n, c⟩]) := HS7.out.grown hgr6 (fun ad n c e => by rw [← hv8] at e; cases e; rw [← hv1]; show some V5.heap.size ≠ some V8.heap.size; rw [← hV8]; simp)
    refine onT 9 (fun KK hKK => ?_)
    rw [if_pos (by rfl)]
    refine wp_appP _ _ rfl rfl rfl HO6.out HS9.out (by have := HQ.out; simp only [List.length_cons, List.length_nil]; omega) H6.out.size ?_
    intro v9 V9 hown9 hgr9
    obtain ⟨A9, c9, rfl, -⟩ := ownS_rb hown9
    refine hKK.out _ _ ?_ (fun h9 => ?_)
    · (try dsimp only)
      exact Below.ownS H6.out HO6.out (Nat.le_refl _) H6.out.size hgr9
    clear hKK KK
    try simp only [Act.put, List.setIfInBounds_toArray, List.set_cons_zero, List.set_cons_succ]
    have hown9b : V9.ownsRow W5.heap.size 32 5 (.slice A9 (y.length + 1) c9) (y.length + 1) (flatS (y ++ [⟨nx, tm, sz, ask, A, n, c⟩])) := hown9
    have HF := Lib.hid (rsend_fin H5.out HB5.out (by rw [HB0.out]; exact HDB.out) h9 hown9b)
    obtain ⟨g0, g1, b0, -, -, -, -, z0, z1⟩ := HCF.out V9 h9
    clear hown9 hgr9 hown9b
    refine onT 10 (fun KK hKK => ?_)
    go_simp
    refine hKK.out _ _ ?_ (fun hx1 => ?_)
    · (try dsimp only)
      assumption
    clear hKK KK
    try simp only [Act.put, List.setIfInBounds_toArray, List.set_cons_zero, List.set_cons_succ]
    refine onT 11 (fun KK hKK => ?_)
    go_simp
    refine hKK.out _ _ ?_ (fun hx2 => ?_)
    · (try dsimp only)
      assumption
    clear hKK KK
    try simp only [Act.put, List.setIfInBounds_toArray, List.set_cons_zero, List.set_cons_succ]
    refine laT (fun KK hKK => ?_)
    go_simp
    refine hKK.out _ _ ?_
    clear hKK KK
    try simp only [Act.put, List.setIfInBounds_toArray, List.set_cons_zero, List.set_cons_succ]
    refine wpAnyT_done (by kernel_rfl) ?_ _
    go_wp2
    go_ret2
    exact ⟨rfl, HF.out⟩
end Go.Proofs.Ytlldomgfjmkcdaa
