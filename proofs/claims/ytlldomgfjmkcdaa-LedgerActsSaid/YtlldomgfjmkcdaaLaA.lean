/- Layer 15: frames that are the same, for the document: two slices of bytes, two frames, two lists of frames. -/
import Derived.Test.YtlldomgfjmkcdaaRows
import Derived.Test.YtlldomgfjmkcdaaAid
import Derived.Test.YtlldomgfjmkcdaaLgW
import Derived.Test.YtlldomgfjmkcdaaLgD
import Derived.Test.YtlldomgfjmkcdaaLgO
import Derived.Test.YtlldomgfjmkcdaaLgZ
import Derived.Test.YtlldomgfjmkcdaaLgF2
import Derived.BigQuiet
import Derived.Deep.QuietTactic
import Derived.Deep.RegionHeld3
import Derived.Deep.WholeRow
import Derived.Deep.MidRow
import Derived.Laws.StructEq
import Derived.Stop.BytesEq
import Derived.WalkLawsBesides
import Derived.Lib.Hide
import Derived.Deep.CutBlock
import Derived.Deep.DeepCutAuto
namespace Go.Proofs.Ytlldomgfjmkcdaa
open Go Go.RowKit
set_option linter.unusedVariables false
set_option linter.unusedSimpArgs false

theorem below_drewN'' (w : World) (q : Nat) : Below w.heap.size w (w.drewN q) := ⟨rfl, rfl, rfl, Nat.le_refl _, fun _ _ => rfl⟩
set_option maxHeartbeats 1000000 in
theorem same01_any (A B : Option Addr) (c d n : Nat) (l : List Nat) (w : World) (hn : l.length = n) (hA : RbB w A l) (hB : RbB w B l) (hm : n ≤ 1000000) :
    Calls Try.prog 48 #[.slice A n c, .slice B n d] w fun e w' => e = .returned (.bool true) ∧ ∃ q, w' = w.drewN q := by
  have HN := Lib.hid hn
  have HA := Lib.hid hA
  have HB := Lib.hid hB
  clear hn hA hB
  go_enter Try.func48, Try.ntmps48
  go_wp2
  go_loopw [5] (fun i wr => ∃ k q : Nat, k ≤ n ∧ i = .int .i64 k ∧ wr = w.drewN q) (fun i _ => n - (intOf i).toNat)
  case atStart => exact ⟨0, 0, by omega, rfl, rfl⟩
  case round =>
    obtain ⟨k, q, hk, rfl, rfl⟩ := hrel
    by_cases hlt : k < n
    · obtain ⟨b, o, rfl, hb, hc⟩ := HA.out (by rw [HN.out]; omega)
      obtain ⟨b', o', rfl, hb', hc'⟩ := HB.out (by rw [HN.out]; omega)
      have f0 : w.cell? ⟨b, o + k, none⟩ = some (.int .u8 ((l.getD k 0 : Nat) : Int)) := hc k (by rw [HN.out]; exact hlt)
      have f1 : w.cell? ⟨b', o' + k, none⟩ = some (.int .u8 ((l.getD k 0 : Nat) : Int)) := hc' k (by rw [HN.out]; exact hlt)
      have hki : (k : Int) < (n : Int) := by omega
      clear hc hc' hb hb'
      generalize l.getD k 0 = x at *
      go_wp2
      go_quiet (fail)
      go_wp2
      go_roundw
      case rel => exact ⟨k + 1, _, by omega, by go_num, rfl⟩
      case measure => simp [intOf]; omega
    · obtain rfl : k = n := by omega
      go_wp2
      go_ret
      exact ⟨rfl, _, rfl⟩

/-- Two ranges that are the same. -/
theorem neqRng (a b : Nat) (w : World) : (binOp .neq 49 (.agg #[.int .u64 (a : Int), .int .u64 (b : Int)]) (.agg #[.int .u64 (a : Int), .int .u64 (b : Int)])).run Try.prog w = .ok (.bool false) w := by
  rw [run_neq_struct, run_equalIn_agg w 9999 49 _ _ (by kernel_rfl) (by kernel_rfl)]
  have hf : (Try.prog.fieldsOf 49).toList = [(Try.prog.fieldsOf 49)[0]!, (Try.prog.fieldsOf 49)[1]!] := by kernel_rfl
  have f0 : ((Try.prog.fieldsOf 49)[0]!).type = 29 := by kernel_rfl
  have f1 : ((Try.prog.fieldsOf 49)[1]!).type = 29 := by kernel_rfl
  have n0 : ((Try.prog.fieldsOf 49)[0]!).name ≠ "_" := by decide +kernel
  have n1 : ((Try.prog.fieldsOf 49)[1]!).name ≠ "_" := by decide +kernel
  have p0 : (part ((Try.prog.fieldsOf 49)[0]!).type #[Value.int .u64 (a : Int), .int .u64 (b : Int)] ((Try.prog.fieldsOf 49)[0]!).offset).run Try.prog w = .ok (.int .u64 (a : Int)) w := by kernel_rfl
  have p1 : (part ((Try.prog.fieldsOf 49)[1]!).type #[Value.int .u64 (a : Int), .int .u64 (b : Int)] ((Try.prog.fieldsOf 49)[1]!).offset).run Try.prog w = .ok (.int .u64 (b : Int)) w := by kernel_rfl
  have e0 : (Op.equalIn 9999 ((Try.prog.fieldsOf 49)[0]!).type (.int .u64 (a : Int)) (.int .u64 (a : Int))).run Try.prog w = .ok true w := by rw [f0, run_equalIn_int w 9998 _ _ _ _ _ Try.underlying29]; simp
  have e1 : (Op.equalIn 9999 ((Try.prog.fieldsOf 49)[1]!).type (.int .u64 (b : Int)) (.int .u64 (b : Int))).run Try.prog w = .ok true w := by rw [f1, run_equalIn_int w 9998 _ _ _ _ _ Try.underlying29]; simp
  rw [hf]
  simp only [Op.eqFields, if_pos n0, if_pos n1, Sem.run_bind, p0, p1, e0, e1, Result.andThen_ok, Bool.not_true, Bool.false_eq_true, if_false, Sem.run_pure]
theorem eqgR : Try.prog.eqGuardType Try.prog.depth 49 = false := by kernel_rfl
theorem eqgT : Try.prog.eqGuardType Try.prog.depth 68 = false := by kernel_rfl

/-- A frame's token. -/
def tokC (f : Frm) : List Value := f.tok.map fun x => .int .u8 ((x : Nat) : Int)
theorem neqTok (l : List Nat) (hl : l.length = 16) (hq : ∀ x ∈ l, x < 256) (w : World) : (binOp .neq 68 (.agg (l.map fun x => Value.int .u8 ((x : Nat) : Int)).toArray) (.agg (l.map fun x => Value.int .u8 ((x : Nat) : Int)).toArray)).run Try.prog w = .ok (.bool false) w := by
  obtain ⟨xs, hx⟩ : ∃ xs : List UInt8, (l.map fun x => Value.int .u8 ((x : Nat) : Int)) = xs.map Extern.Stop.cell := ⟨l.map UInt8.ofNat, by
    rw [List.map_map]
    refine List.map_congr_left fun x h => ?_
    show Value.int .u8 (x : Int) = Value.int .u8 ((UInt8.ofNat x).toNat : Int)
    rw [UInt8.toNat_ofNat_of_lt' (hq x h)]⟩
  have hxl : xs.length = 16 := by rw [← List.length_map (f := Extern.Stop.cell), ← hx, List.length_map, hl]
  rw [hx, run_neq_struct, run_equalIn_bytes w 9998 68 5 16 Try.underlying68 Try.underlying5 (fun w => by kernel_rfl) _ _ hxl hxl]
  simp

/-- A load of many cells out of a block, whatever guards it. -/
theorem wpList_load_midw {ops : Array Oper} {rest : List Oper} {op : Oper} {a : Act} {w : World} {Q : Exit → Act → World → Prop} (hw : Region.wanted op (yielded ops a.tmps) = true) (ty : TypeId) (x : Operand) (ho : op.op = .load ty x)
    (b o : Nat) (hx : a.eval x = .pointer (some ⟨b, o, none⟩)) (cs : List Value) (d : TypeDesc) (hc : w.rangeAt b o cs)
    (hu : Try.prog.underlying ty = some d) (hd : d.isRow = true) (hi : (Try.prog.info? ty).map (·.size) = some cs.length)
    (h : wpList Try.prog ops Q rest (a.put op.dst (.agg cs.toArray)) w) : wpList Try.prog ops Q (op :: rest) a w :=
  wpList_step fun K hK => by rw [if_pos hw]; exact wp_load_mid ty x ho b o hx cs d hc hu hd hi (hK _ _ h)
theorem wpList_neqTok {l : List Nat} {ops : Array Oper} {rest : List Oper} {o : Oper} {a : Act} {w : World} {Q : Exit → Act → World → Prop} (hw : Region.wanted o (yielded ops a.tmps) = true) (x y : Operand) (ho : o.op = .binOp .neq 68 x y 68)
    (hx : a.eval x = .agg (l.map fun x => Value.int .u8 ((x : Nat) : Int)).toArray) (hy : a.eval y = .agg (l.map fun x => Value.int .u8 ((x : Nat) : Int)).toArray)
    (hl : l.length = 16) (hq : ∀ c ∈ l, c < 256) (h : wpList Try.prog ops Q rest (a.put o.dst (.bool false)) w) : wpList Try.prog ops Q (o :: rest) a w :=
  wpList_step fun K hK => by
    rw [if_pos hw]
    unfold Oper.wp execOp
    simp only [ho, hx, hy, Sem.run_bind, run_eqGuard_agg w .neq 68 x y _ _ eqgT, neqTok l hl hq w, Result.andThen_ok, Sem.run_pure]
    exact hK _ _ h
theorem fcells_len {w : World} {f : Frm} (h : FOk w f) : (fcells f).length = 24 := by
  simp [fcells, h.tl]
set_option maxRecDepth 100000 in
set_option maxHeartbeats 2000000 in
theorem same03_any (f : Frm) (w : World) (hf : FOk w f) (hq : FewF f) :
    Calls Try.prog 45 #[.agg (fcells f).toArray, .agg (fcells f).toArray] w fun e w' => e = .returned (.bool true) ∧ Below w.heap.size w w' := by
  have hlen := fcells_len hf
  obtain ⟨kind, id, a, b, code, flag, dA, dn, dc, rA, rn, rc, data, rngs, tok⟩ := f
  obtain ⟨cs, hcs⟩ : ∃ cs, (fcells ⟨kind, id, a, b, code, flag, dA, dn, dc, rA, rn, rc, data, rngs, tok⟩).toArray = cs := ⟨_, rfl⟩
  rw [hcs]
  obtain ⟨S, hS⟩ : ∃ S, w.heap.size = S := ⟨_, rfl⟩
  obtain ⟨W2, hW2⟩ : ∃ W2, (w.alloc (.cells cs 70)).alloc (.cells cs 70) = W2 := ⟨_, rfl⟩
  have hb2 : Below w.heap.size w W2 := hW2 ▸ ((Below.refl _ w).alloc (Nat.le_refl _) _).alloc (by simp) _
  have o0 : Obj W2 S 70 cs := hW2 ▸ hS ▸ (Obj.new w _ _).alloc _
  have o1 : Obj W2 (S + 1) 70 cs := by
    have := Obj.new (w.alloc (.cells cs 70)) 70 cs
    rw [World.size_alloc, hS] at this
    exact hW2 ▸ this
  have HLW : Hid (∀ wr, Below W2.heap.size W2 wr → ∀ g, g = S ∨ g = S + 1 → wr.cell? ⟨g, 7, none⟩ = some (.slice rA rn rc)) := fun wr hb g hg => by
    have : Obj wr g 70 cs := by
      rcases hg with rfl | rfl
      · exact o0.kept hb
      · exact o1.kept hb
    rw [this.cell, ← hcs]; rfl
  have a0 : W2.cell? ⟨S, 0, none⟩ = some (.int .i64 kind) := by rw [o0.cell, ← hcs]; rfl
  have a1 : W2.cell? ⟨S, 1, none⟩ = some (.int .u64 (id : Int)) := by rw [o0.cell, ← hcs]; rfl
  have a2 : W2.cell? ⟨S, 2, none⟩ = some (.int .u64 (a : Int)) := by rw [o0.cell, ← hcs]; rfl
  have a3 : W2.cell? ⟨S, 3, none⟩ = some (.int .u64 (b : Int)) := by rw [o0.cell, ← hcs]; rfl
  have a4 : W2.cell? ⟨S, 4, none⟩ = some (.int .u64 (code : Int)) := by rw [o0.cell, ← hcs]; rfl
  have a5 : W2.cell? ⟨S, 5, none⟩ = some (.bool flag) := by rw [o0.cell, ← hcs]; rfl
  have a6 : W2.cell? ⟨S, 6, none⟩ = some (.slice dA dn dc) := by rw [o0.cell, ← hcs]; rfl
  have a7 : W2.cell? ⟨S, 7, none⟩ = some (.slice rA rn rc) := by rw [o0.cell, ← hcs]; rfl
  have b0 : W2.cell? ⟨S + 1, 0, none⟩ = some (.int .i64 kind) := by rw [o1.cell, ← hcs]; rfl
  have b1 : W2.cell? ⟨S + 1, 1, none⟩ = some (.int .u64 (id : Int)) := by rw [o1.cell, ← hcs]; rfl
  have b2 : W2.cell? ⟨S + 1, 2, none⟩ = some (.int .u64 (a : Int)) := by rw [o1.cell, ← hcs]; rfl
  have b3 : W2.cell? ⟨S + 1, 3, none⟩ = some (.int .u64 (b : Int)) := by rw [o1.cell, ← hcs]; rfl
  have b4 : W2.cell? ⟨S + 1, 4, none⟩ = some (.int .u64 (code : Int)) := by rw [o1.cell, ← hcs]; rfl
  have b5 : W2.cell? ⟨S + 1, 5, none⟩ = some (.bool flag) := by rw [o1.cell, ← hcs]; rfl
  have b6 : W2.cell? ⟨S + 1, 6, none⟩ = some (.slice dA dn dc) := by rw [o1.cell, ← hcs]; rfl
  have b7 : W2.cell? ⟨S + 1, 7, none⟩ = some (.slice rA rn rc) := by rw [o1.cell, ← hcs]; rfl
  have HT0 : Hid (W2.rangeAt S 8 (tok.map fun x => .int .u8 ((x : Nat) : Int))) := fun j v hv => by
    rw [o0.cell, ← hcs]
    simpa [fcells, Nat.add_comm 8 j] using hv
  have HT1 : Hid (W2.rangeAt (S + 1) 8 (tok.map fun x => .int .u8 ((x : Nat) : Int))) := fun j v hv => by
    rw [o1.cell, ← hcs]
    simpa [fcells, Nat.add_comm 8 j] using hv
  have HTL : Hid (tok.length = 16) := hf.tl
  have HTQ : Hid (∀ x ∈ tok, x < 256) := hf.toks
  have HIT : Hid ((Try.prog.info? 68).map (·.size) = some (tok.map fun x => Value.int .u8 ((x : Nat) : Int)).length) := by unfold Hid; rw [List.length_map, HTL.out]; kernel_rfl
  have HIF : Hid ((Try.prog.info? 70).map (·.size) = some cs.size) := by unfold Hid; rw [← hcs, List.size_toArray, hlen]; kernel_rfl
  have hdl : data.length = dn := hf.dl
  have hdm : dn ≤ 100 := by rw [← hdl]; exact hq.1
  have HSM := Lib.hid (same01_any dA dA dc dc dn data W2 hdl (hf.db.below hb2) (hf.db.below hb2) (by omega))
  have HRL : Hid (rngs.length = rn) := hf.rl
  have HRB : Hid (RbR W2 rA rngs) := hf.rb.below hb2
  have hrn : rn ≤ 20 := by rw [← HRL.out]; exact hq.2
  have HB2 := Lib.hid hb2
  have HW2 := Lib.hid hW2
  clear o0 o1 hb2 hW2 hcs hlen hf hq hdl
  go_enter Try.func45, Try.ntmps45
  go_upto_region 1 with fail
  rw [HW2.out]
  clear HW2 hS
  go_wp2_with (first
    | (refine wpList_load_midw (by rfl) 68 (.tmp 47) rfl S 8 rfl _ _ HT0.out Try.underlying68 rfl HIT.out ?_)
    | (refine wpList_load_midw (by rfl) 68 (.tmp 49) rfl (S + 1) 8 rfl _ _ HT1.out Try.underlying68 rfl HIT.out ?_)
    | (refine wpList_neqTok (by rfl) (.tmp 48) (.tmp 50) rfl rfl rfl HTL.out HTQ.out ?_)
    | fail)
  refine HSM.out.mono ?_
  rintro e w' ⟨rfl, q, rfl⟩
  clear a0 a1 a2 a3 a4 a5 a6 b0 b1 b2 b3 b4 b5 b6 HSM HT0 HT1 HTL HTQ HIT HIF HLW
  go_wp2
  go_loopw [5] (fun i wr => ∃ k q : Nat, k ≤ rn ∧ i = .int .i64 k ∧ wr = W2.drewN q) (fun i _ => rn - (intOf i).toNat)
  case atStart => exact ⟨0, q, by omega, rfl, rfl⟩
  case round =>
    obtain ⟨k, q, hk, rfl, rfl⟩ := hrel
    by_cases hlt : k < rn
    · obtain ⟨b, o, rfl, hb, hc⟩ := HRB.out (by rw [HRL.out]; omega)
      obtain ⟨f0, f1⟩ := hc k (by rw [HRL.out]; exact hlt)
      have hki : (k : Int) < (rn : Int) := by omega
      clear hc hb
      generalize (rngs.getD k (0, 0)).1 = x at *
      generalize (rngs.getD k (0, 0)).2 = y at *
      have hne := fun w => neqRng x y w
      have hg := eqgR
      go_wp2
      go_quiet (fail)
      go_wp2
      go_roundw
      case rel => exact ⟨k + 1, _, by omega, by go_num, rfl⟩
      case measure => simp [intOf]; omega
    · obtain rfl : k = rn := by omega
      go_wp2
      go_ret
      exact ⟨rfl, HB2.out.trans ((below_drewN'' W2 q).mono HB2.out.size)⟩
end Go.Proofs.Ytlldomgfjmkcdaa
