/- Layer 7's Tag and Extract, walked. -/
import Derived.WalkKit
import Derived.OwnWalk
import Derived.ArgAppend
import Derived.WalkSpells
import Derived.WalkLawsBesides
import Derived.BigQuiet
import Derived.Deep.QuietTactic
import Derived.Deep.DeepCutAuto
import Derived.Laws.BitsAllLaws
import Derived.Laws.CopyOwn
import Derived.StillTailTactics
import Derived.Deep.RegionHeld3
import Derived.Handy
import Derived.Lib.Hide
import Derived.IntWalk
import Derived.Test.YtanigdadhldceaaDoorRows
import Derived.Test.YtanigdadhldceaaDoorAid
import Derived.Test.YtanigdadhldceaaDoorPlainSh
import Derived.Test.YtanigdadhldceaaDoorBy
import Derived.Test.YtanigdadhldceaaDoorShB
import Derived.Test.YtanigdadhldceaaDoorShW
import Derived.Test.YtanigdadhldceaaDoorHeldT
import Derived.Test.YtanigdadhldceaaDoorShC
import Derived.Test.YtanigdadhldceaaDoorShG
namespace Go.Proofs.YtanigdadhldceaaDoor
open Go Go.RowKit
set_option linter.unusedVariables false
set_option linter.unusedSimpArgs false

/-- Bytes appended to a slice of a whole array. -/
theorem app_full (w : World) (ty : TypeId) {g : Nat} {T : TypeId} {l : List Nat} {n : Nat} (hO : Obj w g T (cellsK .u8 l)) (hl : l.length = n) (h0 : 0 < n) (A : Option Addr) (m c : Nat) (X : List Nat) (hX : X.length = m) (hR : Rb w A X) (hm : n + m ≤ 1000000) :
    ∃ A' c' w', (Builtin.append_ #[22, 22] ty #[.slice (some ⟨g, 0, none⟩) n n, .slice A m c]).run Tryd.prog w = .ok (.slice A' (n + m) c') w' ∧ (n + m ≤ c' ∧ c' ≤ maxLen) ∧ Rb w' A' (l ++ X) ∧ Below w.heap.size w w' := by
  obtain ⟨i0, hi, hz0, hz1, hz2⟩ := info_parts info8
  have hu := Tryd.underlying22
  have hlR : Rb w (some ⟨g, 0, none⟩) l := fun _ => ⟨g, 0, rfl, hO.lt, fun i hi => by rw [Nat.zero_add]; exact hO.getK i hi⟩
  by_cases hm0 : m = 0
  · subst hm0
    obtain rfl : X = [] := List.eq_nil_of_length_eq_zero hX
    refine ⟨some ⟨g, 0, none⟩, n, w, ?_, ⟨by omega, by unfold maxLen; omega⟩, by simpa using hlR, Below.refl _ _⟩
    cases A with
    | none => simp [Builtin.append_, run_underlying hu, sizeOf, typeInfo, hi, Builtin.lenOf, Builtin.firstCells, loadCells, loadCellsFrom, storeCells]
    | some ad => simp [Builtin.append_, run_underlying hu, sizeOf, typeInfo, hi, Builtin.lenOf, Builtin.firstCells, loadCells, loadCellsFrom, storeCells]
  · obtain ⟨b, o, rfl, hb, hc⟩ := hR (by omega)
    obtain ⟨v', w', hrun, r1, r2⟩ := run_append_arg_grows (P := Tryd.prog) w 22 ty 5 i0 (.int .u8 0) 1 1 hu hi hz0 hz1 hz2 rfl (by decide) ⟨g, 0, none⟩ n n (l.map b8) (by simp [hl])
      (fun j u hu' => by
        rw [List.getElem?_map, Option.map_eq_some_iff] at hu'
        obtain ⟨y, hy, rfl⟩ := hu'
        have hj := (List.getElem?_eq_some_iff.1 hy).1
        rw [add_mid, Nat.zero_add, hO.getK j hj]
        simp [b8, List.getD_eq_getElem?_getD, hy]) ⟨b, o, none⟩ m c (X.map b8) (by simp [hX])
      (fun j u hu' => by
        rw [List.getElem?_map, Option.map_eq_some_iff] at hu'
        obtain ⟨y, hy, rfl⟩ := hu'
        have hj := (List.getElem?_eq_some_iff.1 hy).1
        rw [add_mid, hc j hj]
        simp [b8, List.getD_eq_getElem?_getD, hy]) (by omega) (by unfold maxLen; omega) (by omega)
    rw [← List.map_append] at r1
    obtain ⟨A', c', rfl, h1, h2, h3, h4, _⟩ := own_rb r1
    exact ⟨A', c', w', hrun, ⟨h2, h3⟩, h4, (Below.refl _ w).grown r2 (Nat.le_refl _) (fun k e => by cases e)⟩
theorem zero64b : (Tryd.prog.info? 45).map (fun i => (i.zero, i.size)) = some (some (.agg (cellsK .u8 z64)), 64) := by kernel_rfl
/-- The key, filled up, with its first bytes masked. -/
def mskK (l : List Nat) (c i : Nat) : List Nat := (List.range 64).map fun j => if j < i then l.getD j 0 ^^^ c else l.getD j 0
theorem mskK_len (l : List Nat) (c i : Nat) : (mskK l c i).length = 64 := by simp [mskK]
theorem mskK_get (l : List Nat) (c i j : Nat) (hj : j < 64) : (mskK l c i).getD j 0 = if j < i then l.getD j 0 ^^^ c else l.getD j 0 := by
  unfold mskK
  rw [List.getD_eq_getElem?_getD, List.getElem?_map, List.getElem?_range hj]; rfl
theorem list64 {l m : List Nat} (h1 : l.length = 64) (h2 : m.length = 64) (h : ∀ i, i < 64 → l.getD i 0 = m.getD i 0) : l = m := by
  apply List.ext_getElem (by omega)
  intro i q1 q2
  have := h i (by omega)
  rw [List.getD_eq_getElem?_getD, List.getD_eq_getElem?_getD, List.getElem?_eq_getElem q1, List.getElem?_eq_getElem q2] at this
  simpa using this
theorem mskK_set (l : List Nat) (c i : Nat) (hi : i < 64) : (mskK l c i).set i (l.getD i 0 ^^^ c) = mskK l c (i + 1) :=
  list64 (by rw [List.length_set, mskK_len]) (mskK_len _ _ _) fun j hj => by
    rw [mskK_get _ _ _ _ hj, List.getD_eq_getElem?_getD, List.getElem?_set]
    by_cases e : i = j
    · subst e
      rw [if_pos rfl, if_pos (by rw [mskK_len]; exact hi), if_pos (by omega)]; rfl
    · rw [if_neg e, ← List.getD_eq_getElem?_getD, mskK_get _ _ _ _ hj]
      by_cases h1 : j < i
      · rw [if_pos h1, if_pos (by omega)]
      · rw [if_neg h1, if_neg (by omega)]
theorem mskK_full (l : List Nat) (c : Nat) : mskK l c 64 = Sh.mask l c := by
  unfold mskK Sh.mask
  apply List.map_congr_left
  intro j hj
  rw [if_pos (by simpa using hj)]
theorem mskK_copy (l : List Nat) (c : Nat) (h : l.length ≤ 64) : splice (z64.map b8) 0 (l.map b8) = (mskK l c 0).map b8 := by
  have : splice z64 0 l = mskK l c 0 := list64 (by rw [length_splice _ _ _ (by simp [z64]; omega)]; simp [z64]) (mskK_len _ _ _) fun i hi => by
    rw [mskK_get _ _ _ _ hi, if_neg (by omega)]
    unfold splice
    rw [List.take_zero, List.nil_append, List.getD_eq_getElem?_getD, List.getElem?_append]
    by_cases h1 : i < l.length
    · rw [if_pos h1, List.getD_eq_getElem?_getD]
    · rw [if_neg h1, List.getD_eq_getElem?_getD, List.getElem?_eq_none (by omega : l.length ≤ i)]
      unfold z64
      rw [List.getElem?_drop, List.getElem?_replicate]
      split <;> rfl
  rw [← this]
  unfold splice
  rw [List.map_append, List.map_append, List.map_take, List.map_drop, List.length_map]
theorem mskK_lt (l : List Nat) (h : ∀ x ∈ l, x < 256) (c : Nat) (hc : c < 256) (i : Nat) : ∀ x ∈ mskK l c i, x < 256 := by
  have hg : ∀ j, l.getD j 0 < 256 := fun j => by
    rw [List.getD_eq_getElem?_getD]
    cases e : l[j]? with
    | none => decide
    | some v => exact h v (List.mem_of_getElem? e)
  intro x hx
  unfold mskK at hx
  obtain ⟨j, _, rfl⟩ := List.mem_map.1 hx
  split
  · exact Nat.xor_lt_two_pow (n := 8) (hg j) hc
  · exact hg j
theorem key_lt (k : List Nat) (h : ∀ x ∈ k, x < 256) : ∀ x ∈ Sh.key k, x < 256 := by
  unfold Sh.key
  split
  · exact Sh.sum_lt _
  · exact h
theorem key_len (k : List Nat) : (Sh.key k).length ≤ 64 := by
  unfold Sh.key
  split
  · rw [Sh.sum_len]; decide
  · omega
theorem slice32all (g : Nat) (w : World) :
    (Instr.sliceAt 25 (.pointer (some ⟨g, 0, none⟩)) none none none).run Tryd.prog w = .ok (.slice (some ⟨g, 0, none⟩) 32 32) w := by
  rw [run_sliceAt_array_all w 25 ⟨g, 0, none⟩ el32, sz32, al32]
  simp [Result.andThen, slicedAt, Addr.add]
theorem al64 : Tryd.prog.arrayLen 45 = 64 := by kernel_rfl
theorem el64 : Tryd.prog.underlying 45 = some (.array (Tryd.prog.arrayLen 45) (Tryd.prog.elem 45)) := by kernel_rfl
theorem sz64 (w : World) : (sizeOf (Tryd.prog.elem 45)).run Tryd.prog w = .ok 1 w := by kernel_rfl
theorem slice64all (g : Nat) (w : World) :
    (Instr.sliceAt 45 (.pointer (some ⟨g, 0, none⟩)) none none none).run Tryd.prog w = .ok (.slice (some ⟨g, 0, none⟩) 64 64) w := by
  rw [run_sliceAt_array_all w 45 ⟨g, 0, none⟩ el64, sz64, al64]
  simp [Result.andThen, slicedAt, Addr.add]
/-- The key is at hand: slot 0. -/
def TgK (w0 : World) (B : Nat) (k : List Nat) (s : Value) (wx : World) : Prop :=
  ∃ A kn kc, s = .slice A kn kc ∧ (Sh.key k).length = kn ∧ Rb wx A (Sh.key k) ∧ Obj wx B 25 #[.int .u8 0, .int .u8 0, .int .u8 0, .int .u8 0, .int .u8 0, .int .u8 0, .int .u8 0, .int .u8 0, .int .u8 0, .int .u8 0, .int .u8 0, .int .u8 0, .int .u8 0, .int .u8 0, .int .u8 0, .int .u8 0, .int .u8 0, .int .u8 0, .int .u8 0, .int .u8 0, .int .u8 0, .int .u8 0, .int .u8 0, .int .u8 0, .int .u8 0, .int .u8 0, .int .u8 0, .int .u8 0, .int .u8 0, .int .u8 0, .int .u8 0, .int .u8 0] ∧ Below B w0 wx

/-- copy as a law for the walk: one block turns. -/
theorem wpList_copyU {P : Program} {w : World} {ops : Array Oper} {rest : List Oper} {o : Oper} {a : Act} {Q : Exit → Act → World → Prop} (hgd : o.guard = none) (d s : Operand) (dT sT : TypeId)
    (ho : o.op = .call { callee := .builtin .copy, args := #[d, s], argTypes := #[dT, sT] }) (elem : TypeId) (hu : P.underlying dT = some (.slice elem)) (hsz : (P.info? elem).map (·.size) = some 1)
    (dp sp : Option Addr) (dLen dCap sLen sCap : Nat) (hd : a.eval d = .slice dp dLen dCap) (hs : a.eval s = .slice sp sLen sCap)
    (g off : Nat) (cur : List Value) (t : TypeId) (hg : Obj w g t cur.toArray) (cs : List Value) (hn : cs.length = Nat.min sLen dLen)
    (hpos : 0 < cs.length → dp = some ⟨g, off, none⟩ ∧ ∃ ad, sp = some ad ∧ ∀ j v, cs[j]? = some v → w.cell? (ad.add j) = some v)
    (hfit : off + cs.length ≤ cur.length) (h1 : ∀ v ∈ cs, v.oneCell' = true)
    (h : ∀ w', Hid (Obj w' g t (splice cur off cs).toArray) → Upd g w w' → wpList P ops Q rest (a.put o.dst (goInt cs.length)) w') :
    wpList P ops Q (o :: rest) a w := by
  by_cases h0 : cs.length = 0
  · obtain rfl : cs = [] := List.eq_nil_of_length_eq_zero h0
    refine wpList_copy_nothing hgd d s dT sT ho elem hu hsz dp sp dLen dCap sLen sCap hd hs (by simpa using hn.symm) ?_
    exact h w (show Obj _ _ _ _ by simpa [splice] using hg) (Upd.refl _ _)
  · obtain ⟨rfl, ad, rfl, hsrc⟩ := hpos (by omega)
    refine wpList_copy_own hgd d s dT sT ho elem hu hsz g off dLen dCap ad sLen sCap hd hs cur.toArray t hg cs hn hsrc (by simpa using hfit) h1 ?_
    have e : (splice cur off cs) = cur.toArray.toList.take off ++ (cs ++ cur.toArray.toList.drop (off + cs.length)) := rfl
    refine h _ ?_ ((Upd.refl g w).row _)
    rw [e]
    exact setRow_heap w g _ _ t _ hg
theorem rb_src {w : World} {A : Option Addr} {l : List Nat} (h : Rb w A l) (hp : 0 < l.length) : ∃ ad, A = some ad ∧ ∀ j v, (l.map b8)[j]? = some v → w.cell? (ad.add j) = some v := by
  obtain ⟨b, o, rfl, h1, h2⟩ := h hp
  refine ⟨_, rfl, fun j v hv => ?_⟩
  rw [List.getElem?_map, Option.map_eq_some_iff] at hv
  obtain ⟨y, hy, rfl⟩ := hv
  have hj := (List.getElem?_eq_some_iff.1 hy).1
  rw [add_mid, h2 j hj]
  simp [List.getD_eq_getElem?_getD, hy]
/-- The key's masks so far. -/
structure TgL (w0 : World) (B G : Nat) (kk : List Nat) (i j : Nat) (V : World) : Prop where
  rO : Obj V B 25 #[.int .u8 0, .int .u8 0, .int .u8 0, .int .u8 0, .int .u8 0, .int .u8 0, .int .u8 0, .int .u8 0, .int .u8 0, .int .u8 0, .int .u8 0, .int .u8 0, .int .u8 0, .int .u8 0, .int .u8 0, .int .u8 0, .int .u8 0, .int .u8 0, .int .u8 0, .int .u8 0, .int .u8 0, .int .u8 0, .int .u8 0, .int .u8 0, .int .u8 0, .int .u8 0, .int .u8 0, .int .u8 0, .int .u8 0, .int .u8 0, .int .u8 0, .int .u8 0]
  iO : Obj V G 45 (cellsK .u8 (mskK kk 54 i))
  oO : Obj V (G + 1) 45 (cellsK .u8 (mskK kk 92 j))
  bel : Below B w0 V
  lt : B < G
theorem TgL.setI {w0 V : World} {B G i j : Nat} {kk : List Nat} (h : TgL w0 B G kk i j V) (hi : i < 64) : TgL w0 B G kk (i + 1) j (V.setCell ⟨G, i, none⟩ (.int .u8 ((kk.getD i 0 ^^^ 54 : Nat) : Int))) := by
  have hu : Upd G V (V.setCell ⟨G, i, none⟩ (.int .u8 ((kk.getD i 0 ^^^ 54 : Nat) : Int))) := (Upd.refl _ V).set _ _
  have hlt := h.lt
  have hl2 := h.iO.lt
  refine ⟨h.rO.upd hu (by omega), ?_, h.oO.upd hu (by omega), ⟨hu.os.trans h.bel.os, hu.tape.trans h.bel.tape, hu.output.trans h.bel.output, Nat.le_trans h.bel.size hu.size, fun k hk => (hu.block k (by omega) (by omega)).trans (h.bel.block k hk)⟩, hlt⟩
  rw [← mskK_set kk 54 i hi]
  exact h.iO.setK i _
theorem TgL.setO {w0 V : World} {B G i j : Nat} {kk : List Nat} (h : TgL w0 B G kk i j V) (hj : j < 64) : TgL w0 B G kk i (j + 1) (V.setCell ⟨G + 1, j, none⟩ (.int .u8 ((kk.getD j 0 ^^^ 92 : Nat) : Int))) := by
  have hu : Upd (G + 1) V (V.setCell ⟨G + 1, j, none⟩ (.int .u8 ((kk.getD j 0 ^^^ 92 : Nat) : Int))) := (Upd.refl _ V).set _ _
  have hlt := h.lt
  have hl2 := h.iO.lt
  refine ⟨h.rO.upd hu (by omega), h.iO.upd hu (by omega), ?_, ⟨hu.os.trans h.bel.os, hu.tape.trans h.bel.tape, hu.output.trans h.bel.output, Nat.le_trans h.bel.size hu.size, fun k hk => (hu.block k (by omega) (by omega)).trans (h.bel.block k hk)⟩, hlt⟩
  rw [← mskK_set kk 92 j hj]
  exact h.oO.setK j _
theorem getD_lt8 {l : List Nat} (h : ∀ x ∈ l, x < 256) (j : Nat) : l.getD j 0 < 256 := by
  rw [List.getD_eq_getElem?_getD]
  cases e : l[j]? with
  | none => decide
  | some v => exact h v (List.mem_of_getElem? e)

/-- Behind the first digest. -/
structure TgF (w0 : World) (B : Nat) (m2 s1 : List Nat) (G S : Nat) (V : World) : Prop where
  sO : Obj V S 25 (cellsK .u8 s1)
  mO : Obj V (G + 1) 45 (cellsK .u8 m2)
  rO : Obj V B 25 #[.int .u8 0, .int .u8 0, .int .u8 0, .int .u8 0, .int .u8 0, .int .u8 0, .int .u8 0, .int .u8 0, .int .u8 0, .int .u8 0, .int .u8 0, .int .u8 0, .int .u8 0, .int .u8 0, .int .u8 0, .int .u8 0, .int .u8 0, .int .u8 0, .int .u8 0, .int .u8 0, .int .u8 0, .int .u8 0, .int .u8 0, .int .u8 0, .int .u8 0, .int .u8 0, .int .u8 0, .int .u8 0, .int .u8 0, .int .u8 0, .int .u8 0, .int .u8 0]
  bel : Below B w0 V
theorem row_belowB {w0 w : World} {B : Nat} (h : Below B w0 w) (hl : B < w.heap.size) (cs : Array Value) : Below B w0 (w.setRow B cs) := by
  have hu : Upd B w (w.setRow B cs) := (Upd.refl B w).row cs
  exact ⟨hu.os.trans h.os, hu.tape.trans h.tape, hu.output.trans h.output, Nat.le_trans h.size hu.size, fun k hk => (hu.block k (by omega) (by omega)).trans (h.block k hk)⟩

set_option maxRecDepth 100000 in
set_option maxHeartbeats 8000000 in
theorem tag_any (A A2 : Option Addr) (n c m d : Nat) (k t : List Nat) (w : World) (ht : Tabs w) (hA : Rb w A k) (hl : k.length = n) (hb : ∀ x ∈ k, x < 256) (hn : n ≤ 90000) (hc : n ≤ c ∧ c ≤ maxLen)
    (hA2 : Rb w A2 t) (hl2 : t.length = m) (hb2 : ∀ x ∈ t, x < 256) (hm : m ≤ 90000) :
    Calls Tryd.prog 11 #[.slice A n c, .slice A2 m d] w fun e w' => e = .returned (.agg (cellsK .u8 (Sh.tag k t))) ∧ Below w.heap.size w w' := by
  obtain ⟨B, hB⟩ : ∃ B, w.heap.size = B := ⟨_, rfl⟩
  have HB := Lib.hid hB
  have HT := Lib.hid ht
  have HA := Lib.hid hA
  have HL := Lib.hid hl
  have HBY := Lib.hid hb
  have HC := Lib.hid hc
  have HA2 := Lib.hid hA2
  have HL2 := Lib.hid hl2
  have HBY2 := Lib.hid hb2
  have O1 : Obj (w.alloc (.cells #[.int .u8 0, .int .u8 0, .int .u8 0, .int .u8 0, .int .u8 0, .int .u8 0, .int .u8 0, .int .u8 0, .int .u8 0, .int .u8 0, .int .u8 0, .int .u8 0, .int .u8 0, .int .u8 0, .int .u8 0, .int .u8 0, .int .u8 0, .int .u8 0, .int .u8 0, .int .u8 0, .int .u8 0, .int .u8 0, .int .u8 0, .int .u8 0, .int .u8 0, .int .u8 0, .int .u8 0, .int .u8 0, .int .u8 0, .int .u8 0, .int .u8 0, .int .u8 0] 25)) B 25 #[.int .u8 0, .int .u8 0, .int .u8 0, .int .u8 0, .int .u8 0, .int .u8 0, .int .u8 0, .int .u8 0, .int .u8 0, .int .u8 0, .int .u8 0, .int .u8 0, .int .u8 0, .int .u8 0, .int .u8 0, .int .u8 0, .int .u8 0, .int .u8 0, .int .u8 0, .int .u8 0, .int .u8 0, .int .u8 0, .int .u8 0, .int .u8 0, .int .u8 0, .int .u8 0, .int .u8 0, .int .u8 0, .int .u8 0, .int .u8 0, .int .u8 0, .int .u8 0] := hB ▸ Obj.new w _ _
  have L1 : Below B w (w.alloc (.cells #[.int .u8 0, .int .u8 0, .int .u8 0, .int .u8 0, .int .u8 0, .int .u8 0, .int .u8 0, .int .u8 0, .int .u8 0, .int .u8 0, .int .u8 0, .int .u8 0, .int .u8 0, .int .u8 0, .int .u8 0, .int .u8 0, .int .u8 0, .int .u8 0, .int .u8 0, .int .u8 0, .int .u8 0, .int .u8 0, .int .u8 0, .int .u8 0, .int .u8 0, .int .u8 0, .int .u8 0, .int .u8 0, .int .u8 0, .int .u8 0, .int .u8 0, .int .u8 0] 25)) := hB ▸ (Below.refl _ w).alloc (Nat.le_refl _) _
  have HO1 := Lib.hid O1
  have HL1 := Lib.hid L1
  clear ht hA hl hb hc hA2 hl2 hb2 O1 L1 hB
  have hn64 : n ≤ 9223372036854775807 := by omega
  go_enter Tryd.func11, Tryd.ntmps11
  go_upto_if 12 with fail
  go_cut [0] (fun s wx => TgK w B k s wx)
  case first =>
    by_cases h64 : 64 < n
    · have h64' : 64 < (n : Int) := by omega
      have HS : Hid (Calls Tryd.prog 9 #[.slice A n c] (w.alloc (.cells #[.int .u8 0, .int .u8 0, .int .u8 0, .int .u8 0, .int .u8 0, .int .u8 0, .int .u8 0, .int .u8 0, .int .u8 0, .int .u8 0, .int .u8 0, .int .u8 0, .int .u8 0, .int .u8 0, .int .u8 0, .int .u8 0, .int .u8 0, .int .u8 0, .int .u8 0, .int .u8 0, .int .u8 0, .int .u8 0, .int .u8 0, .int .u8 0, .int .u8 0, .int .u8 0, .int .u8 0, .int .u8 0, .int .u8 0, .int .u8 0, .int .u8 0, .int .u8 0] 25)) fun e w' => e = .returned (.agg (cellsK .u8 (Sh.sum k))) ∧ Below (w.alloc (.cells #[.int .u8 0, .int .u8 0, .int .u8 0, .int .u8 0, .int .u8 0, .int .u8 0, .int .u8 0, .int .u8 0, .int .u8 0, .int .u8 0, .int .u8 0, .int .u8 0, .int .u8 0, .int .u8 0, .int .u8 0, .int .u8 0, .int .u8 0, .int .u8 0, .int .u8 0, .int .u8 0, .int .u8 0, .int .u8 0, .int .u8 0, .int .u8 0, .int .u8 0, .int .u8 0, .int .u8 0, .int .u8 0, .int .u8 0, .int .u8 0, .int .u8 0, .int .u8 0] 25)).heap.size (w.alloc (.cells #[.int .u8 0, .int .u8 0, .int .u8 0, .int .u8 0, .int .u8 0, .int .u8 0, .int .u8 0, .int .u8 0, .int .u8 0, .int .u8 0, .int .u8 0, .int .u8 0, .int .u8 0, .int .u8 0, .int .u8 0, .int .u8 0, .int .u8 0, .int .u8 0, .int .u8 0, .int .u8 0, .int .u8 0, .int .u8 0, .int .u8 0, .int .u8 0, .int .u8 0, .int .u8 0, .int .u8 0, .int .u8 0, .int .u8 0, .int .u8 0, .int .u8 0, .int .u8 0] 25)) w') :=
        sum_any A n c k _ (HT.out.below (HB.out ▸ HL1.out)) (HA.out.below (HB.out ▸ HL1.out)) HL.out HBY.out (by omega) HC.out
      have HKEY : Hid (Sh.key k = Sh.sum k) := by unfold Hid Sh.key; rw [if_pos (by rw [HL.out]; exact h64)]
      have HFIN : Hid (∀ w1, Below (w.alloc (.cells #[.int .u8 0, .int .u8 0, .int .u8 0, .int .u8 0, .int .u8 0, .int .u8 0, .int .u8 0, .int .u8 0, .int .u8 0, .int .u8 0, .int .u8 0, .int .u8 0, .int .u8 0, .int .u8 0, .int .u8 0, .int .u8 0, .int .u8 0, .int .u8 0, .int .u8 0, .int .u8 0, .int .u8 0, .int .u8 0, .int .u8 0, .int .u8 0, .int .u8 0, .int .u8 0, .int .u8 0, .int .u8 0, .int .u8 0, .int .u8 0, .int .u8 0, .int .u8 0] 25)).heap.size (w.alloc (.cells #[.int .u8 0, .int .u8 0, .int .u8 0, .int .u8 0, .int .u8 0, .int .u8 0, .int .u8 0, .int .u8 0, .int .u8 0, .int .u8 0, .int .u8 0, .int .u8 0, .int .u8 0, .int .u8 0, .int .u8 0, .int .u8 0, .int .u8 0, .int .u8 0, .int .u8 0, .int .u8 0, .int .u8 0, .int .u8 0, .int .u8 0, .int .u8 0, .int .u8 0, .int .u8 0, .int .u8 0, .int .u8 0, .int .u8 0, .int .u8 0, .int .u8 0, .int .u8 0] 25)) w1 → Obj (w1.alloc (.cells #[.int .u8 0, .int .u8 0, .int .u8 0, .int .u8 0, .int .u8 0, .int .u8 0, .int .u8 0, .int .u8 0, .int .u8 0, .int .u8 0, .int .u8 0, .int .u8 0, .int .u8 0, .int .u8 0, .int .u8 0, .int .u8 0, .int .u8 0, .int .u8 0, .int .u8 0, .int .u8 0, .int .u8 0, .int .u8 0, .int .u8 0, .int .u8 0, .int .u8 0, .int .u8 0, .int .u8 0, .int .u8 0, .int .u8 0, .int .u8 0, .int .u8 0, .int .u8 0] 25)) w1.heap.size 25 #[.int .u8 0, .int .u8 0, .int .u8 0, .int .u8 0, .int .u8 0, .int .u8 0, .int .u8 0, .int .u8 0, .int .u8 0, .int .u8 0, .int .u8 0, .int .u8 0, .int .u8 0, .int .u8 0, .int .u8 0, .int .u8 0, .int .u8 0, .int .u8 0, .int .u8 0, .int .u8 0, .int .u8 0, .int .u8 0, .int .u8 0, .int .u8 0, .int .u8 0, .int .u8 0, .int .u8 0, .int .u8 0, .int .u8 0, .int .u8 0, .int .u8 0, .int .u8 0] ∧ TgK w B k (.slice (some ⟨w1.heap.size, 0, none⟩) 32 32) ((w1.alloc (.cells #[.int .u8 0, .int .u8 0, .int .u8 0, .int .u8 0, .int .u8 0, .int .u8 0, .int .u8 0, .int .u8 0, .int .u8 0, .int .u8 0, .int .u8 0, .int .u8 0, .int .u8 0, .int .u8 0, .int .u8 0, .int .u8 0, .int .u8 0, .int .u8 0, .int .u8 0, .int .u8 0, .int .u8 0, .int .u8 0, .int .u8 0, .int .u8 0, .int .u8 0, .int .u8 0, .int .u8 0, .int .u8 0, .int .u8 0, .int .u8 0, .int .u8 0, .int .u8 0] 25)).setRow w1.heap.size (cellsK .u8 (Sh.sum k)))) := by
        intro w1 h1
        have o1 := HO1.out.kept h1
        have o2 := Obj.new w1 25 #[.int .u8 0, .int .u8 0, .int .u8 0, .int .u8 0, .int .u8 0, .int .u8 0, .int .u8 0, .int .u8 0, .int .u8 0, .int .u8 0, .int .u8 0, .int .u8 0, .int .u8 0, .int .u8 0, .int .u8 0, .int .u8 0, .int .u8 0, .int .u8 0, .int .u8 0, .int .u8 0, .int .u8 0, .int .u8 0, .int .u8 0, .int .u8 0, .int .u8 0, .int .u8 0, .int .u8 0, .int .u8 0, .int .u8 0, .int .u8 0, .int .u8 0, .int .u8 0]
        have u := (Upd.refl w1.heap.size (w1.alloc (.cells #[.int .u8 0, .int .u8 0, .int .u8 0, .int .u8 0, .int .u8 0, .int .u8 0, .int .u8 0, .int .u8 0, .int .u8 0, .int .u8 0, .int .u8 0, .int .u8 0, .int .u8 0, .int .u8 0, .int .u8 0, .int .u8 0, .int .u8 0, .int .u8 0, .int .u8 0, .int .u8 0, .int .u8 0, .int .u8 0, .int .u8 0, .int .u8 0, .int .u8 0, .int .u8 0, .int .u8 0, .int .u8 0, .int .u8 0, .int .u8 0, .int .u8 0, .int .u8 0] 25))).row (cellsK .u8 (Sh.sum k))
        have o3 := o2.row (cellsK .u8 (Sh.sum k))
        have hb1 : Below B w w1 := HL1.out.trans (h1.mono (by have := HO1.out.lt; omega))
        refine ⟨o2, _, _, _, rfl, by rw [HKEY.out, Sh.sum_len], ?_, (o1.alloc _).upd u (by have := o1.lt; omega), ?_⟩
        · rw [HKEY.out]
          exact fun _ => ⟨_, _, rfl, o3.lt, fun i hi => by rw [Nat.zero_add]; exact o3.getK i hi⟩
        · have hs1 := o1.lt
          exact ⟨u.os.trans hb1.os, u.tape.trans hb1.tape, u.output.trans hb1.output, Nat.le_trans hb1.size (by simp [row_size]), fun j hj => (u.block j (by simp; omega) (by omega)).trans ((Below.heap_alloc _ _ _ (by omega)).trans (hb1.block j hj))⟩
      have hsl := fun g w' => slice32all g w'
      have HSZ := Lib.hid (sizeH (Sh.sum_len k))
      have HSL := Lib.hid (Sh.sum_len k)
      go_wp2_with (first
        | (go_at_call 9; refine HS.out.mono ?_; rintro e w1 ⟨rfl, hb1⟩; have HX := Lib.hid (HFIN.out w1 hb1); clear hb1)
        | (refine wpList_store_row rfl 25 (.tmp 5) (.tmp 14) rfl _ _ rfl rfl _ _ HX.out.1 HSZ.out (by rw [cellsK_size, HSL.out]; rfl) (one_cellsK _ _) ?_))
      go_meet
      exact HX.out.2
    · have h64' : ¬ 64 < (n : Int) := by omega
      have HFIN : Hid (TgK w B k (.slice A n c) (w.alloc (.cells #[.int .u8 0, .int .u8 0, .int .u8 0, .int .u8 0, .int .u8 0, .int .u8 0, .int .u8 0, .int .u8 0, .int .u8 0, .int .u8 0, .int .u8 0, .int .u8 0, .int .u8 0, .int .u8 0, .int .u8 0, .int .u8 0, .int .u8 0, .int .u8 0, .int .u8 0, .int .u8 0, .int .u8 0, .int .u8 0, .int .u8 0, .int .u8 0, .int .u8 0, .int .u8 0, .int .u8 0, .int .u8 0, .int .u8 0, .int .u8 0, .int .u8 0, .int .u8 0] 25))) := by
        have hk : Sh.key k = k := by unfold Sh.key; rw [if_neg (by rw [HL.out]; exact h64)]
        exact ⟨_, _, _, rfl, by rw [hk, HL.out], by rw [hk]; exact HA.out.below (HB.out ▸ HL1.out), HO1.out, HL1.out⟩
      go_wp2
      go_meet
      exact HFIN.out
  obtain ⟨A', kn, kc, rfl, hkl, hkr, hO, hbc⟩ := hcut
  obtain ⟨G, hG⟩ : ∃ G, wc.heap.size = G := ⟨_, rfl⟩
  have hz := (zero_of_info zero64b).1
  have hk64 := key_len k
  have hklt := key_lt k HBY.out
  have T2 : Below wc.heap.size wc ((wc.alloc (.cells (cellsK .u8 z64) 45)).alloc (.cells (cellsK .u8 z64) 45)) := ((Below.refl _ wc).alloc (Nat.le_refl _) _).alloc (by simp) _
  have O2 := (Obj.new wc 45 (cellsK .u8 z64)).alloc (.cells (cellsK .u8 z64) 45)
  have O3 := Obj.new (wc.alloc (.cells (cellsK .u8 z64) 45)) 45 (cellsK .u8 z64)
  rw [World.size_alloc] at O3
  have OB := hO.kept T2
  have BB := hbc.trans (T2.mono (by have := hO.lt; omega))
  have HR2 := Lib.hid (hkr.below T2)
  have HTG := Lib.hid (hO.lt)
  have HRC := Lib.hid hkr
  have HT2 := Lib.hid T2
  rw [hG] at O2 O3
  have HO2 := Lib.hid O2
  have HO3 := Lib.hid O3
  have HOB := Lib.hid OB
  have HBB := Lib.hid BB
  have HKL := Lib.hid hkl
  have HK64 := Lib.hid hk64
  have HKLT := Lib.hid hklt
  have HTAG : Hid (Sh.tag k t = Sh.sum (Sh.mask (Sh.key k) 92 ++ Sh.sum (Sh.mask (Sh.key k) 54 ++ t))) := rfl
  have HGX := Lib.hid hG
  clear hkl hkr hO hbc T2 O2 O3 OB BB hk64 hklt HO1 HL1
  generalize Sh.key k = kk at *
  have hsl := fun g w' => slice64all g w'
  have hkn : kn ≤ 64 := by have := HKL.out; have := HK64.out; omega
  have HCS : Hid (((kk.map b8).length = Nat.min kn 64) ∧ (∀ v ∈ kk.map b8, v.oneCell' = true) ∧ 0 + (kk.map b8).length ≤ (z64.map b8).length ∧ kk.length ≤ 64) := by
    refine ⟨by rw [List.length_map, HKL.out]; exact (Nat.min_eq_left hkn).symm, fun v hv => ?_, by rw [List.length_map, HKL.out, List.length_map]; simp [z64]; omega, HK64.out⟩
    obtain ⟨c, _, rfl⟩ := List.mem_map.1 hv
    rfl
  obtain ⟨W2, hW2⟩ : ∃ W2, (wc.alloc (.cells (cellsK .u8 z64) 45)).alloc (.cells (cellsK .u8 z64) 45) = W2 := ⟨_, rfl⟩
  rw [hW2] at HR2 HO2 HO3 HOB HBB HT2
  have HSP : Hid (∀ (x : Nat) (c : Nat), Obj W2 x 45 (cellsK .u8 z64) → Obj W2 x 45 (z64.map b8).toArray) := fun x c h => h
  have HP1 : Hid (0 < (kk.map b8).length → ∃ ad, A' = some ad ∧ ∀ j v, (kk.map b8)[j]? = some v → W2.cell? (ad.add j) = some v) := fun h => rb_src HR2.out (by simpa using h)
  have HP2 : Hid (∀ w3, Upd G W2 w3 → 0 < (kk.map b8).length → ∃ ad, A' = some ad ∧ ∀ j v, (kk.map b8)[j]? = some v → w3.cell? (ad.add j) = some v) := fun w3 hu h =>
    rb_src (HRC.out.below (Upd.below HT2.out (by rw [HGX.out]; exact Nat.le_refl _) hu)) (by simpa using h)
  have HST : Hid (∀ w3 w4, Upd G W2 w3 → Obj w3 G 45 (splice (z64.map b8) 0 (kk.map b8)).toArray → Upd (G + 1) w3 w4 → Obj w4 (G + 1) 45 (splice (z64.map b8) 0 (kk.map b8)).toArray → TgL w B G kk 0 0 w4) := fun w3 w4 u3 o3 u4 o4 => by
    have hlt : B < G := by have := HTG.out; rw [HGX.out] at this; exact this
    have h2 := HO3.out.lt
    rw [mskK_copy kk 54 HCS.out.2.2.2] at o3
    rw [mskK_copy kk 92 HCS.out.2.2.2] at o4
    exact ⟨(HOB.out.upd u3 (by omega)).upd u4 (by omega), o3.upd u4 (by omega), o4, ⟨u4.os.trans (u3.os.trans HBB.out.os), u4.tape.trans (u3.tape.trans HBB.out.tape), u4.output.trans (u3.output.trans HBB.out.output), by have := HBB.out.size; have := u3.size; have := u4.size; omega, fun j hj => (u4.block j (by have := u3.size; omega) (by omega)).trans ((u3.block j (by omega) (by omega)).trans (HBB.out.block j hj))⟩, hlt⟩
  have HX3 : Hid (∀ w3, Upd G W2 w3 → Obj w3 (G + 1) 45 (z64.map b8).toArray) := fun w3 u => HO3.out.upd u (by omega)
  clear HSP
  go_wp2_with (first
    | (refine wpList_copyU rfl (.tmp 16) (.tmp 17) 22 22 rfl 5 Tryd.underlying22 hsz8 _ _ _ _ _ _ rfl rfl G 0 (z64.map b8) 45 HO2.out (kk.map b8) HCS.out.1 (fun h => ⟨rfl, HP1.out h⟩) HCS.out.2.2.1 HCS.out.2.1 ?_; intro w3 hg3 hu3; have HU3 := Lib.hid hu3; have HG3 := hg3; clear hg3 hu3)
    | (refine wpList_copyU rfl (.tmp 19) (.tmp 20) 22 22 rfl 5 Tryd.underlying22 hsz8 _ _ _ _ _ _ rfl rfl (G + 1) 0 (z64.map b8) 45 (HX3.out w3 HU3.out) (kk.map b8) HCS.out.1 (fun h => ⟨rfl, HP2.out w3 HU3.out h⟩) HCS.out.2.2.1 HCS.out.2.1 ?_; intro w4 hg4 hu4; have HL0 := Lib.hid (HST.out w3 w4 HU3.out HG3.out hu4 hg4.out); clear hg4 hu4))
  have HW2 := Lib.hid hW2
  clear hW2 hG hz HO2 HO3 HP1 HP2 HST HX3 HU3 HG3
  go_loopw [22] (fun i wr => ∃ i' : Nat, i' ≤ 64 ∧ i = .int .i64 i' ∧ TgL w B G kk i' i' wr) (fun i _ => 64 - (intOf i).toNat)
  case atStart => exact ⟨0, by omega, rfl, HL0.out⟩
  case round =>
    clear HL0
    obtain ⟨j, hj, rfl, hR⟩ := hrel
    have HR := Lib.hid hR
    by_cases hlt : j < 64
    · have hji : (j : Int) < 64 := by omega
      have hx := getD_lt8 HKLT.out j
      have c0 : wr.cell? ⟨G, j, none⟩ = some (.int .u8 ((kk.getD j 0 : Nat) : Int)) := by
        rw [hR.iO.getK j (by rw [mskK_len]; exact hlt), mskK_get _ _ _ _ hlt, if_neg (by omega)]
      have z0 := hR.iO.free j
      have hR1 := hR.setI hlt
      have c1 : (wr.setCell ⟨G, j, none⟩ (.int .u8 ((kk.getD j 0 ^^^ 54 : Nat) : Int))).cell? ⟨G + 1, j, none⟩ = some (.int .u8 ((kk.getD j 0 : Nat) : Int)) := by
        rw [hR1.oO.getK j (by rw [mskK_len]; exact hlt), mskK_get _ _ _ _ hlt, if_neg (by omega)]
      have z1 := hR1.oO.free j
      have HNX := Lib.hid (hR1.setO hlt)
      have e1 : bits .xor .u8 ((kk.getD j 0 : Nat) : Int) 54 = ((kk.getD j 0 ^^^ 54 : Nat) : Int) := u8_xor_nat _ 54 hx (by decide)
      have e2 : bits .xor .u8 ((kk.getD j 0 : Nat) : Int) 92 = ((kk.getD j 0 ^^^ 92 : Nat) : Int) := u8_xor_nat _ 92 hx (by decide)
      clear hR hR1
      generalize kk.getD j 0 ^^^ 54 = y1 at *
      generalize kk.getD j 0 ^^^ 92 = y2 at *
      generalize kk.getD j 0 = x at *
      go_wp2
      go_roundw
      case rel => exact ⟨j + 1, by omega, by go_num, HNX.out⟩
      case measure => simp [intOf]; omega
    · obtain rfl : j = 64 := by omega
      have hm1 : (Sh.mask kk 54).length = 64 := by rw [← mskK_full]; exact mskK_len _ _ _
      have hm2 : (Sh.mask kk 92).length = 64 := by rw [← mskK_full]; exact mskK_len _ _ _
      have q1 : ∀ x ∈ Sh.mask kk 54, x < 256 := by rw [← mskK_full]; exact mskK_lt kk HKLT.out 54 (by decide) 64
      have q2 : ∀ x ∈ Sh.mask kk 92, x < 256 := by rw [← mskK_full]; exact mskK_lt kk HKLT.out 92 (by decide) 64
      have hI := hR.iO
      have hO := hR.oO
      rw [mskK_full] at hI hO
      have hBw : B = w.heap.size := HB.out.symm
      obtain ⟨A5, c5, w5, hrun, hc5, hR5, hb5⟩ := app_full wr 22 hI hm1 (by decide) A2 m d t HL2.out (HA2.out.below (hBw ▸ hR.bel)) (by omega)
      have hbw5 : Below B w w5 := hR.bel.trans (hb5.mono (by have := hR.rO.lt; omega))
      have HS1 : Hid (Calls Tryd.prog 9 #[.slice A5 (64 + m) c5] w5 fun e w' => e = .returned (.agg (cellsK .u8 (Sh.sum (Sh.mask kk 54 ++ t)))) ∧ Below w5.heap.size w5 w') :=
        sum_any A5 (64 + m) c5 (Sh.mask kk 54 ++ t) w5 (HT.out.below (hBw ▸ hbw5)) hR5 (by rw [List.length_append, hm1, HL2.out]) (fun x hx => by rcases List.mem_append.1 hx with h | h; exact q1 x h; exact HBY2.out x h) (by omega) hc5
      have hs1 := Sh.sum_len (Sh.mask kk 54 ++ t)
      have q3 := Sh.sum_lt (Sh.mask kk 54 ++ t)
      have HTG2 : Hid (Sh.tag k t = Sh.sum (Sh.mask kk 92 ++ Sh.sum (Sh.mask kk 54 ++ t))) := HTAG.out
      have hB5 := hR.rO.kept hb5
      have hO5 := hO.kept hb5
      have HF : Hid (∀ w6, Below w5.heap.size w5 w6 → Obj (w6.alloc (.cells #[.int .u8 0, .int .u8 0, .int .u8 0, .int .u8 0, .int .u8 0, .int .u8 0, .int .u8 0, .int .u8 0, .int .u8 0, .int .u8 0, .int .u8 0, .int .u8 0, .int .u8 0, .int .u8 0, .int .u8 0, .int .u8 0, .int .u8 0, .int .u8 0, .int .u8 0, .int .u8 0, .int .u8 0, .int .u8 0, .int .u8 0, .int .u8 0, .int .u8 0, .int .u8 0, .int .u8 0, .int .u8 0, .int .u8 0, .int .u8 0, .int .u8 0, .int .u8 0] 25)) w6.heap.size 25 #[.int .u8 0, .int .u8 0, .int .u8 0, .int .u8 0, .int .u8 0, .int .u8 0, .int .u8 0, .int .u8 0, .int .u8 0, .int .u8 0, .int .u8 0, .int .u8 0, .int .u8 0, .int .u8 0, .int .u8 0, .int .u8 0, .int .u8 0, .int .u8 0, .int .u8 0, .int .u8 0, .int .u8 0, .int .u8 0, .int .u8 0, .int .u8 0, .int .u8 0, .int .u8 0, .int .u8 0, .int .u8 0, .int .u8 0, .int .u8 0, .int .u8 0, .int .u8 0] ∧ TgF w B (Sh.mask kk 92) (Sh.sum (Sh.mask kk 54 ++ t)) G w6.heap.size ((w6.alloc (.cells #[.int .u8 0, .int .u8 0, .int .u8 0, .int .u8 0, .int .u8 0, .int .u8 0, .int .u8 0, .int .u8 0, .int .u8 0, .int .u8 0, .int .u8 0, .int .u8 0, .int .u8 0, .int .u8 0, .int .u8 0, .int .u8 0, .int .u8 0, .int .u8 0, .int .u8 0, .int .u8 0, .int .u8 0, .int .u8 0, .int .u8 0, .int .u8 0, .int .u8 0, .int .u8 0, .int .u8 0, .int .u8 0, .int .u8 0, .int .u8 0, .int .u8 0, .int .u8 0] 25)).setRow w6.heap.size (cellsK .u8 (Sh.sum (Sh.mask kk 54 ++ t))))) := fun w6 h6 => by
        have o2 := Obj.new w6 25 #[.int .u8 0, .int .u8 0, .int .u8 0, .int .u8 0, .int .u8 0, .int .u8 0, .int .u8 0, .int .u8 0, .int .u8 0, .int .u8 0, .int .u8 0, .int .u8 0, .int .u8 0, .int .u8 0, .int .u8 0, .int .u8 0, .int .u8 0, .int .u8 0, .int .u8 0, .int .u8 0, .int .u8 0, .int .u8 0, .int .u8 0, .int .u8 0, .int .u8 0, .int .u8 0, .int .u8 0, .int .u8 0, .int .u8 0, .int .u8 0, .int .u8 0, .int .u8 0]
        have u := (Upd.refl w6.heap.size (w6.alloc (.cells #[.int .u8 0, .int .u8 0, .int .u8 0, .int .u8 0, .int .u8 0, .int .u8 0, .int .u8 0, .int .u8 0, .int .u8 0, .int .u8 0, .int .u8 0, .int .u8 0, .int .u8 0, .int .u8 0, .int .u8 0, .int .u8 0, .int .u8 0, .int .u8 0, .int .u8 0, .int .u8 0, .int .u8 0, .int .u8 0, .int .u8 0, .int .u8 0, .int .u8 0, .int .u8 0, .int .u8 0, .int .u8 0, .int .u8 0, .int .u8 0, .int .u8 0, .int .u8 0] 25))).row (cellsK .u8 (Sh.sum (Sh.mask kk 54 ++ t)))
        have o6 := hO5.kept h6
        have b6 := hB5.kept h6
        have l6 := o6.lt
        have l7 := b6.lt
        have hbel : Below w6.heap.size w6 ((w6.alloc (.cells #[.int .u8 0, .int .u8 0, .int .u8 0, .int .u8 0, .int .u8 0, .int .u8 0, .int .u8 0, .int .u8 0, .int .u8 0, .int .u8 0, .int .u8 0, .int .u8 0, .int .u8 0, .int .u8 0, .int .u8 0, .int .u8 0, .int .u8 0, .int .u8 0, .int .u8 0, .int .u8 0, .int .u8 0, .int .u8 0, .int .u8 0, .int .u8 0, .int .u8 0, .int .u8 0, .int .u8 0, .int .u8 0, .int .u8 0, .int .u8 0, .int .u8 0, .int .u8 0] 25)).setRow w6.heap.size (cellsK .u8 (Sh.sum (Sh.mask kk 54 ++ t)))) := Upd.below ((Below.refl _ w6).alloc (Nat.le_refl _) _) (Nat.le_refl _) u
        exact ⟨o2, o2.row _, o6.kept hbel, b6.kept hbel, (hbw5.trans (h6.mono (by have := hB5.lt; omega))).trans (hbel.mono (by omega))⟩
      have HSZ := Lib.hid (sizeH hs1)
      have HSL := Lib.hid hs1
      have HRUN := Lib.hid hrun
      have HM2 := Lib.hid hm2
      have HQ2 := Lib.hid q2
      have HQ3 := Lib.hid q3
      rw [show ((64 : Nat) : Int) = 64 from rfl]
      clear hR HR hI hO hrun hc5 hR5 hb5 hm1 hm2 q1 q2 q3 hs1 hB5 hO5 hbw5 HTAG hBw hj hlt
      generalize Sh.sum (Sh.mask kk 54 ++ t) = s1 at *
      generalize Sh.mask kk 92 = m2 at *
      have hsl2 := fun g w' => slice32all g w'
      go_wp2_with (first
        | (at_builtin; refine Lib.wpList_append_run _ rfl _ _ _ _ rfl _ _ rfl rfl _ _ HRUN.out ?_)
        | (go_at_call 9; refine HS1.out.mono ?_; rintro e w6 ⟨rfl, hb6⟩; have HX := Lib.hid (HF.out w6 hb6); clear hb6)
        | (refine wpList_store_row rfl 25 (.tmp 9) (.tmp 39) rfl _ _ rfl rfl _ _ HX.out.1 HSZ.out (by rw [cellsK_size, HSL.out]; rfl) (one_cellsK _ _) ?_))
      obtain ⟨S, hS⟩ : ∃ S, w6.heap.size = S := ⟨_, rfl⟩
      have HX2 := Lib.hid HX.out.2
      obtain ⟨W7, hW7⟩ : ∃ W7, (w6.alloc (.cells #[.int .u8 0, .int .u8 0, .int .u8 0, .int .u8 0, .int .u8 0, .int .u8 0, .int .u8 0, .int .u8 0, .int .u8 0, .int .u8 0, .int .u8 0, .int .u8 0, .int .u8 0, .int .u8 0, .int .u8 0, .int .u8 0, .int .u8 0, .int .u8 0, .int .u8 0, .int .u8 0, .int .u8 0, .int .u8 0, .int .u8 0, .int .u8 0, .int .u8 0, .int .u8 0, .int .u8 0, .int .u8 0, .int .u8 0, .int .u8 0, .int .u8 0, .int .u8 0] 25)).setRow w6.heap.size (cellsK .u8 s1) = W7 := ⟨_, rfl⟩
      rw [hW7, hS] at HX2
      rw [hW7, hS, HB.out]
      clear hW7 hS HX HF HRUN HS1
      obtain ⟨A8, c8, w8, hrun8, hc8, hR8, hb8⟩ := app_full W7.drew 22 HX2.out.mO.drew HM2.out (by decide) (some ⟨S, 0, none⟩) 32 32 s1 HSL.out (fun _ => ⟨S, 0, rfl, HX2.out.sO.lt, fun i hi => by rw [Nat.zero_add]; exact HX2.out.sO.drew.getK i hi⟩) (by omega)
      have HRUN8 := Lib.hid hrun8
      have HS9 : Hid (Calls Tryd.prog 9 #[.slice A8 (64 + 32) c8] w8 fun e w' => e = .returned (.agg (cellsK .u8 (Sh.sum (m2 ++ s1)))) ∧ Below w8.heap.size w8 w') :=
        sum_any A8 (64 + 32) c8 (m2 ++ s1) w8 (HT.out.below ((HB.out ▸ HX2.out.bel.drew).trans (hb8.mono (by have := HX2.out.rO.lt; have := HX2.out.bel.size; have := HB.out; show _ ≤ W7.heap.size; omega)))) hR8 (by rw [List.length_append, HM2.out, HSL.out]) (fun x hx => by rcases List.mem_append.1 hx with h | h; exact HQ2.out x h; exact HQ3.out x h) (by omega) hc8
      have HO9 : Hid (∀ w9, Below w8.heap.size w8 w9 → Obj w9 B 25 #[.int .u8 0, .int .u8 0, .int .u8 0, .int .u8 0, .int .u8 0, .int .u8 0, .int .u8 0, .int .u8 0, .int .u8 0, .int .u8 0, .int .u8 0, .int .u8 0, .int .u8 0, .int .u8 0, .int .u8 0, .int .u8 0, .int .u8 0, .int .u8 0, .int .u8 0, .int .u8 0, .int .u8 0, .int .u8 0, .int .u8 0, .int .u8 0, .int .u8 0, .int .u8 0, .int .u8 0, .int .u8 0, .int .u8 0, .int .u8 0, .int .u8 0, .int .u8 0] ∧ Below B w w9) := fun w9 h9 => by
        have hl := HX2.out.rO.lt
        have hbb : Below B w w8 := HX2.out.bel.drew.trans (hb8.mono (by show B ≤ W7.heap.size; omega))
        have h8 := hb8.size
        exact ⟨(HX2.out.rO.drew.kept hb8).kept h9, hbb.trans (h9.mono (by have : W7.drew.heap.size = W7.heap.size := rfl; omega))⟩
      have HSZ2 := Lib.hid (sizeH (Sh.sum_len (m2 ++ s1)))
      have HSL2 := Lib.hid (Sh.sum_len (m2 ++ s1))
      clear hrun8 hc8 hR8 hb8 HX2
      generalize Sh.sum (m2 ++ s1) = s2 at *
      refine wp_region_held_drew (S := (fun _ => True)) (by kernel_rfl) trivial (fun hHeld => ?_)
      refine wpAnyH_take (i := 0) (oi := ?_) (v := ?_) ?_ ?_ ?_ ?_ ?_ ?_ (by assumption) ?_
      rotate_left 2
      · simp only [List.getElem?_toArray, List.getElem?_cons_zero, List.getElem?_cons_succ]
        rfl
      · kernel_rfl
      · kernel_rfl
      · kernel_rfl
      · exact fun _ _ _ h => h
      · refine Or.inl ⟨by rfl, ?_⟩
        intro w hSw
        (try dsimp only at hSw)
        go_simp
        all_goals with_reducible rfl
      simp only [Act.put, List.setIfInBounds_toArray, List.set_cons_zero, List.set_cons_succ]
      refine wpAnyH_take (i := 1) (oi := ?_) (v := ?_) ?_ ?_ ?_ ?_ ?_ ?_ (by assumption) ?_
      rotate_left 2
      · simp only [List.getElem?_toArray, List.getElem?_cons_zero, List.getElem?_cons_succ]
        rfl
      · kernel_rfl
      · kernel_rfl
      · kernel_rfl
      · exact fun _ _ _ h => h
      · refine Or.inl ⟨by rfl, ?_⟩
        intro w hSw
        (try dsimp only at hSw)
        go_simp
        all_goals with_reducible rfl
      simp only [Act.put, List.setIfInBounds_toArray, List.set_cons_zero, List.set_cons_succ]
      refine wpAnyH_ready (rs := [2]) (by kernel_rfl) (by simp) ?_
      refine AllReadyH.cons (o := ?_) ?_ (fun KK hKK => ?_) AllReadyH.nil
      rotate_left
      · simp only [List.getElem?_toArray, List.getElem?_cons_zero, List.getElem?_cons_succ]
        rfl
      rw [if_pos (by rfl)]
      refine Lib.wp_append_run _ _ _ _ _ rfl _ _ rfl rfl _ _ HRUN8.out ?_
      refine hKK.out _ _ ?_ (fun hh1 => ?_)
      · (try dsimp only)
        try trivial
      clear hKK KK
      try simp only [Act.put, List.setIfInBounds_toArray, List.set_cons_zero, List.set_cons_succ]
      refine wpAnyH_ready (rs := [3]) (by kernel_rfl) (by simp) ?_
      refine AllReadyH.cons (o := ?_) ?_ (fun KK hKK => ?_) AllReadyH.nil
      rotate_left
      · simp only [List.getElem?_toArray, List.getElem?_cons_zero, List.getElem?_cons_succ]
        rfl
      go_simp
      refine HS9.out.mono ?_; rintro e w9 ⟨rfl, hb9⟩
      try go_wp2_with fail
      have HR9 := Lib.hid (HO9.out w9 hb9)
      refine hKK.out _ _ ?_ (fun hh2 => ?_)
      · (try dsimp only)
        try trivial
      clear hKK KK
      try simp only [Act.put, List.setIfInBounds_toArray, List.set_cons_zero, List.set_cons_succ]
      refine wpAnyH_ready (rs := [4]) (by kernel_rfl) (by simp) ?_
      refine AllReadyH.cons (o := ?_) ?_ (fun KK hKK => ?_) AllReadyH.nil
      rotate_left
      · simp only [List.getElem?_toArray, List.getElem?_cons_zero, List.getElem?_cons_succ]
        rfl
      rw [if_pos (by rfl)]
      refine wp_store_row 25 (.tmp 4) (.tmp 43) rfl _ _ rfl rfl _ _ HR9.out.1 HSZ2.out (by rw [cellsK_size, HSL2.out]; rfl) (one_cellsK _ _) ?_
      refine hKK.out _ _ ?_ (fun hh3 => ?_)
      · (try dsimp only)
        try trivial
      clear hKK KK
      try simp only [Act.put, List.setIfInBounds_toArray, List.set_cons_zero, List.set_cons_succ]
      refine wpAnyH_done (by kernel_rfl) ?_ _
      go_wp2
      exact bodyPost_ret (v := .agg (cellsK .u8 s2)) (results_cell_row rfl _ _ _ _ _ _ _ rfl (HR9.out.1.row _) Tryd.underlying25 rfl HSZ2.out) rfl ⟨by rw [HTG2.out], by rw [HB.out]; exact row_belowB HR9.out.2 HR9.out.1.lt _⟩
set_option maxRecDepth 100000 in
set_option maxHeartbeats 1000000 in
theorem extract_any (A A2 : Option Addr) (n c m d : Nat) (k t : List Nat) (w : World) (ht : Tabs w) (hA : Rb w A k) (hl : k.length = n) (hb : ∀ x ∈ k, x < 256) (hn : n ≤ 90000) (hc : n ≤ c ∧ c ≤ maxLen)
    (hA2 : Rb w A2 t) (hl2 : t.length = m) (hb2 : ∀ x ∈ t, x < 256) (hm : m ≤ 90000) :
    Calls Tryd.prog 13 #[.slice A n c, .slice A2 m d] w fun e w' => e = .returned (.agg (cellsK .u8 (Sh.tag k t))) ∧ Below w.heap.size w w' := by
  have o1 := Obj.new w 25 #[.int .u8 0, .int .u8 0, .int .u8 0, .int .u8 0, .int .u8 0, .int .u8 0, .int .u8 0, .int .u8 0, .int .u8 0, .int .u8 0, .int .u8 0, .int .u8 0, .int .u8 0, .int .u8 0, .int .u8 0, .int .u8 0, .int .u8 0, .int .u8 0, .int .u8 0, .int .u8 0, .int .u8 0, .int .u8 0, .int .u8 0, .int .u8 0, .int .u8 0, .int .u8 0, .int .u8 0, .int .u8 0, .int .u8 0, .int .u8 0, .int .u8 0, .int .u8 0]
  have b1 : Below w.heap.size w (w.alloc (.cells #[.int .u8 0, .int .u8 0, .int .u8 0, .int .u8 0, .int .u8 0, .int .u8 0, .int .u8 0, .int .u8 0, .int .u8 0, .int .u8 0, .int .u8 0, .int .u8 0, .int .u8 0, .int .u8 0, .int .u8 0, .int .u8 0, .int .u8 0, .int .u8 0, .int .u8 0, .int .u8 0, .int .u8 0, .int .u8 0, .int .u8 0, .int .u8 0, .int .u8 0, .int .u8 0, .int .u8 0, .int .u8 0, .int .u8 0, .int .u8 0, .int .u8 0, .int .u8 0] 25)) := (Below.refl _ w).alloc (Nat.le_refl _) _
  have HTG := Lib.hid (tag_any A A2 n c m d k t _ (ht.below b1) (hA.below b1) hl hb hn hc (hA2.below b1) hl2 hb2 hm)
  have hts : (Sh.tag k t).length = 32 := Sh.sum_len _
  have HF : Hid (∀ w1, Below (w.alloc (.cells #[.int .u8 0, .int .u8 0, .int .u8 0, .int .u8 0, .int .u8 0, .int .u8 0, .int .u8 0, .int .u8 0, .int .u8 0, .int .u8 0, .int .u8 0, .int .u8 0, .int .u8 0, .int .u8 0, .int .u8 0, .int .u8 0, .int .u8 0, .int .u8 0, .int .u8 0, .int .u8 0, .int .u8 0, .int .u8 0, .int .u8 0, .int .u8 0, .int .u8 0, .int .u8 0, .int .u8 0, .int .u8 0, .int .u8 0, .int .u8 0, .int .u8 0, .int .u8 0] 25)).heap.size (w.alloc (.cells #[.int .u8 0, .int .u8 0, .int .u8 0, .int .u8 0, .int .u8 0, .int .u8 0, .int .u8 0, .int .u8 0, .int .u8 0, .int .u8 0, .int .u8 0, .int .u8 0, .int .u8 0, .int .u8 0, .int .u8 0, .int .u8 0, .int .u8 0, .int .u8 0, .int .u8 0, .int .u8 0, .int .u8 0, .int .u8 0, .int .u8 0, .int .u8 0, .int .u8 0, .int .u8 0, .int .u8 0, .int .u8 0, .int .u8 0, .int .u8 0, .int .u8 0, .int .u8 0] 25)) w1 → Obj w1 w.heap.size 25 #[.int .u8 0, .int .u8 0, .int .u8 0, .int .u8 0, .int .u8 0, .int .u8 0, .int .u8 0, .int .u8 0, .int .u8 0, .int .u8 0, .int .u8 0, .int .u8 0, .int .u8 0, .int .u8 0, .int .u8 0, .int .u8 0, .int .u8 0, .int .u8 0, .int .u8 0, .int .u8 0, .int .u8 0, .int .u8 0, .int .u8 0, .int .u8 0, .int .u8 0, .int .u8 0, .int .u8 0, .int .u8 0, .int .u8 0, .int .u8 0, .int .u8 0, .int .u8 0] ∧ Below w.heap.size w w1) := fun w1 h1 => ⟨o1.kept h1, b1.trans (h1.mono (by simp))⟩
  have HSZ := Lib.hid (sizeH hts)
  have HSL := Lib.hid hts
  clear ht hA hl hb hc hA2 hl2 hb2 o1 b1 hts
  generalize Sh.tag k t = s at *
  go_enter Tryd.func13, Tryd.ntmps13
  go_wp2_with (first
    | (go_at_call 11; refine HTG.out.mono ?_; rintro e w1 ⟨rfl, hb1⟩; have HX := Lib.hid (HF.out w1 hb1); clear hb1)
    | (refine wpList_store_row rfl 25 (.tmp 4) (.tmp 7) rfl _ _ rfl rfl _ _ HX.out.1 HSZ.out (by rw [cellsK_size, HSL.out]; rfl) (one_cellsK _ _) ?_))
  exact bodyPost_ret (v := .agg (cellsK .u8 s)) (results_cell_row rfl _ _ _ _ _ _ _ rfl (HX.out.1.row _) Tryd.underlying25 rfl HSZ.out) rfl ⟨rfl, row_belowB HX.out.2 HX.out.1.lt _⟩
end Go.Proofs.YtanigdadhldceaaDoor
