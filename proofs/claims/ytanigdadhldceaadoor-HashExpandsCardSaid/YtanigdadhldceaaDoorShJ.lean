/- Layer 7's Label, walked. -/
import Derived.WalkKit
import Derived.OwnWalk
import Derived.ArgAppend
import Derived.WalkSpells
import Derived.WalkLawsBesides
import Derived.BigQuiet
import Derived.Deep.QuietTactic
import Derived.Deep.DeepCutAuto
import Derived.Laws.BitsAllLaws
import Derived.Laws.CopyOwn
import Derived.Laws.IdiomStrings
import Derived.Laws.Concat
import Derived.StillTailTactics
import Derived.Deep.RegionHeld3
import Derived.Deep.WholeRow
import Derived.Handy
import Derived.Lib.Hide
import Derived.IntWalk
import Derived.Test.YtanigdadhldceaaDoorRows
import Derived.Test.YtanigdadhldceaaDoorAid
import Derived.Test.YtanigdadhldceaaDoorPlainSh
import Derived.Test.YtanigdadhldceaaDoorBy
import Derived.Test.YtanigdadhldceaaDoorShB
import Derived.Test.YtanigdadhldceaaDoorShW
import Derived.Test.YtanigdadhldceaaDoorHeldT
import Derived.Test.YtanigdadhldceaaDoorShC
import Derived.Test.YtanigdadhldceaaDoorShE
import Derived.Test.YtanigdadhldceaaDoorShG
import Derived.Test.YtanigdadhldceaaDoorShH
import Derived.Test.YtanigdadhldceaaDoorShI
namespace Go.Proofs.YtanigdadhldceaaDoor
open Go Go.RowKit
set_option linter.unusedVariables false
set_option linter.unusedSimpArgs false

section
variable {P : Program}
/-- A whole row that lies there in every world that meets S. -/
theorem yieldsIf_load_row {ops : Array Oper} {S : World → Prop} {op : Oper} {a : Act} {ty : TypeId} {x : Operand} {g : Nat} {t : TypeId} {cs : Array Value} (hw : Region.wanted op (yielded ops a.tmps) = true) (ho : op.op = .load ty x)
    (hx : a.eval x = .pointer (some ⟨g, 0, none⟩)) {d : TypeDesc} (hS : ∀ w, S w → Obj w g t cs)
    (hu : P.underlying ty = some d) (hd : (match d with | .struct _ | .array _ _ => true | _ => false) = true) (hi : (P.info? ty).map (·.size) = some cs.size) : YieldsIf P ops S op (.agg cs) a :=
  .inl ⟨hw, fun w hw' => by
    unfold execOp
    simp only [ho, hx, Instr.loadAt, Instr.sureAddr, Sem.run_bind, Sem.run_pure, Result.andThen_ok, run_loadVar_row w g t ty cs (0, 0) d (hS w hw') hu hd hi]⟩
end
/-- What Expand hands back. -/
def ExV (s info : List Nat) (n : Int) (v : Value) (w : World) : Prop :=
  ((n < 0 ∨ 255 < n) ∧ v = .slice none 0 0) ∨ ∃ k : Nat, n = (k : Int) ∧ k ≤ 255 ∧ ∃ A, v = .slice A k k ∧ Rb w A (Sh.expand s info k)
theorem expand_all (s info : List Nat) (A2 : Option Addr) (m d : Nat) (n : Int) (w : World) (ht : Tabs w) (hs : s.length = 32) (hs2 : ∀ x ∈ s, x < 256) (hA2 : Rb w A2 info) (hl2 : info.length = m) (hb2 : ∀ x ∈ info, x < 256) (hm : m ≤ 80000) :
    Calls Tryd.prog 15 #[.agg (cellsK .u8 s), .slice A2 m d, .int .i64 n] w fun e w' => ∃ v, e = .returned v ∧ ExV s info n v w' ∧ Below w.heap.size w w' := by
  by_cases h : n < 0 ∨ 255 < n
  · exact (expand_no s A2 m d n w h).mono fun e w' ⟨h1, h2⟩ => ⟨_, h1, .inl ⟨h, rfl⟩, h2⟩
  · obtain ⟨k, rfl⟩ := Int.eq_ofNat_of_zero_le (show 0 ≤ n by omega)
    exact (expand_any s info A2 m d k w ht hs hs2 hA2 hl2 hb2 hm (by omega)).mono fun e w' ⟨A, h1, h2, h3⟩ => ⟨_, h1, .inr ⟨k, rfl, by omega, A, rfl, h2⟩, h3⟩
def tls : List Nat := [116, 108, 115, 49, 51, 32]
def bl (s : ByteArray) : List Nat := s.data.toList.map UInt8.toNat
theorem bl_lt (s : ByteArray) : ∀ x ∈ bl s, x < 256 := by
  intro x hx
  obtain ⟨c, _, rfl⟩ := List.mem_map.1 hx
  exact c.toNat_lt
theorem bl_len (s : ByteArray) : (bl s).length = s.size := by unfold bl; rw [List.length_map, Array.length_toList]; rfl
/-- A label's info. -/
def infoL (lab : List Nat) (x0 x1 : Nat) : List Nat := [x0, x1, 6 + lab.length] ++ (tls ++ lab) ++ [0]
def full6 (lab : ByteArray) : ByteArray := ⟨#[116, 108, 115, 49, 51, 32]⟩ ++ lab
theorem full6_bl (lab : ByteArray) : bl (full6 lab) = tls ++ bl lab := by
  unfold bl full6
  rw [ByteArray.data_append, Array.toList_append, List.map_append]
  rfl
theorem full6_size (lab : ByteArray) : (full6 lab).size = 6 + lab.size := by
  unfold full6; rw [ByteArray.size_append]; rfl
theorem bytes_rb (V : World) (s : ByteArray) (cp : Nat) (fr : Nat × Nat) : Rb (V.drew.alloc (.cells (bytesRow s cp) 5 fr)) (some ⟨V.heap.size, 0, none⟩) (bl s) := fun hp => by
  refine ⟨_, _, rfl, by simp [World.size_alloc], fun i hi => ?_⟩
  rw [Nat.zero_add]
  have h := World.cell?_alloc_mark V.drew (bytesRow s cp) 5 fr i
  rw [show (⟨V.heap.size, i, none⟩ : Addr) = ⟨V.drew.heap.size, i, none⟩ from rfl, h]
  unfold bytesRow
  rw [bl_len] at hi
  have hi2 : i < s.data.size := hi
  rw [Array.getElem?_append_left (by simpa using hi2), Array.getElem?_map, Array.getElem?_eq_getElem hi2]
  simp [b8, bl, List.getD_eq_getElem?_getD, Array.getElem?_eq_getElem hi2]
theorem drew_alloc_below (V : World) (o : _root_.Go.Obj) : Below V.heap.size V (V.drew.alloc o) := (Below.refl _ V).drew.alloc (Nat.le_refl _) o
/-- Label's blocks. -/
structure LbP (w0 : World) (B : Nat) (s : List Nat) (V : World) : Prop where
  sO : Obj V B 25 (cellsK .u8 s)
  bel : Below B w0 V
theorem LbP.kept {w0 V V' : World} {B : Nat} {s : List Nat} (h : LbP w0 B s V) (hb : Below V.heap.size V V') : LbP w0 B s V' := ⟨h.sO.kept hb, h.bel.trans (hb.mono (Nat.le_of_lt h.sO.lt))⟩
theorem LbP.new {w0 V : World} {B : Nat} {s : List Nat} (h : LbP w0 B s V) (T : TypeId) (cs : Array Value) : Obj (V.alloc (.cells cs T)) V.heap.size T cs := Obj.new V T cs
theorem LbP.bytes {w0 V : World} {B : Nat} {s : List Nat} (h : LbP w0 B s V) (t : ByteArray) (cp : Nat) (fr : Nat × Nat) : Rb (V.drew.alloc (.cells (bytesRow t cp) 5 fr)) (some ⟨V.heap.size, 0, none⟩) (bl t) := bytes_rb V t cp fr
/-- What Concat joins. -/
def Lz (L : List Nat) (x0 x1 x2 : Nat) : Nat → List Nat
  | 0 => [x0, x1, x2]
  | 1 => L
  | _ => [0]
theorem lab_cat {w0 V : World} {B b9 b12 b13 x0 x1 x2 n1 c1 : Nat} {s L : List Nat} {A1 : Option Addr} (h : LbP w0 B s V) (hL : L.length = n1) (hm : n1 ≤ 70000) (h11 : Rb V A1 L)
    (h9 : Obj V b9 5 #[.int .u8 (x0 : Int), .int .u8 (x1 : Int), .int .u8 (x2 : Int)]) (h12 : Obj V b12 5 #[.int .u8 0]) (h13 : Obj V b13 22 #[.slice (some ⟨b9, 0, none⟩) 3 3, .slice A1 n1 c1, .slice (some ⟨b12, 0, none⟩) 1 1]) :
    Calls Tryd.prog 19 #[.slice (some ⟨b13, 0, none⟩) 3 3] V fun e w' => ∃ A6 n6 c6, e = .returned (.slice A6 n6 c6) ∧ ([x0, x1, x2] ++ L ++ [0]).length = n6 ∧ Rb w' A6 ([x0, x1, x2] ++ L ++ [0]) ∧ n6 ≤ 80000 ∧ Below V.heap.size V w' := by
  have hcat : catK (Lz L x0 x1 x2) 3 = [x0, x1, x2] ++ L ++ [0] := by simp [catK, Lz]
  have hlen : (catK (Lz L x0 x1 x2) 3).length = n1 + 4 := by rw [hcat]; simp [hL]
  refine (concat_any b13 3 (fun j => match j with | 0 => some ⟨b9, 0, none⟩ | 1 => A1 | _ => some ⟨b12, 0, none⟩) (fun j => match j with | 0 => 3 | 1 => n1 | _ => 1) (fun j => match j with | 0 => 3 | 1 => c1 | _ => 1) (Lz L x0 x1 x2) V (by omega) h13.lt ?_ ?_ (by rw [hlen]; omega)).mono ?_
  · intro j hj
    rw [h13.cell j]
    have : j = 0 ∨ j = 1 ∨ j = 2 := by omega
    rcases this with rfl | rfl | rfl <;> rfl
  · intro j hj
    have : j = 0 ∨ j = 1 ∨ j = 2 := by omega
    rcases this with rfl | rfl | rfl
    · exact ⟨rfl, fun _ => ⟨b9, 0, rfl, h9.lt, fun q hq => by
        have : q = 0 ∨ q = 1 ∨ q = 2 := by simp [Lz] at hq; omega
        rw [Nat.zero_add, h9.cell q]
        rcases this with rfl | rfl | rfl <;> rfl⟩⟩
    · exact ⟨hL, h11⟩
    · exact ⟨rfl, fun _ => ⟨b12, 0, rfl, h12.lt, fun q hq => by
        obtain rfl : q = 0 := by simp [Lz] at hq; omega
        exact h12.cell 0⟩⟩
  · rintro e w' ⟨v, rfl, hown, hbel⟩
    rw [hcat] at hown hlen
    obtain ⟨A6, c6, rfl, hl6, _, _, hr6, _⟩ := own_rb hown
    exact ⟨A6, _, c6, rfl, hl6, hr6, by rw [hlen]; omega, hbel⟩

set_option maxRecDepth 100000 in
set_option maxHeartbeats 400000 in
theorem label_no (s : List Nat) (lab : ByteArray) (n : Int) (w : World) (h1 : 60 < lab.size) (h2 : lab.size ≤ maxLen) :
    Calls Tryd.prog 17 #[.agg (cellsK .u8 s), .string lab, .int .i64 n] w fun e w' => e = .returned (.slice none 0 0) ∧ Below w.heap.size w w' := by
  unfold maxLen at h2
  have h3 : 60 < (lab.size : Int) := by omega
  go_enter Tryd.func17, Tryd.ntmps17
  go_wp2
  go_ret
  exact ⟨rfl, (Below.refl _ _).alloc (Nat.le_refl _) _⟩

set_option maxRecDepth 100000 in
set_option maxHeartbeats 16000000 in
theorem label_any (s : List Nat) (lab : ByteArray) (n : Int) (w : World) (ht : Tabs w) (hs : s.length = 32) (hs2 : ∀ x ∈ s, x < 256) (hlab : lab.size ≤ 60) :
    Calls Tryd.prog 17 #[.agg (cellsK .u8 s), .string lab, .int .i64 n] w fun e w' => ∃ v, e = .returned v ∧ ExV s (infoL (bl lab) (n / 256 % 256).toNat (n % 256).toNat) n v w' ∧ Below w.heap.size w w' := by
  obtain ⟨B, hB⟩ : ∃ B, w.heap.size = B := ⟨_, rfl⟩
  have HB := Lib.hid hB
  have HT := Lib.hid ht
  have HS := Lib.hid hs
  have HS2 := Lib.hid hs2
  obtain ⟨x0, hx0⟩ : ∃ x, (n / 256 % 256).toNat = x := ⟨_, rfl⟩
  obtain ⟨x1, hx1⟩ : ∃ x, (n % 256).toNat = x := ⟨_, rfl⟩
  rw [hx0, hx1]
  have e0 : IntKind.u8.wrap (n / 256) = (x0 : Int) := by rw [IntKind.wrap_u8]; omega
  have e1 : IntKind.u8.wrap n = (x1 : Int) := by rw [IntKind.wrap_u8]; omega
  have b0 : x0 < 256 := by omega
  have b1 : x1 < 256 := by omega
  have hl60 : (lab.size : Int) ≤ 60 := by omega
  obtain ⟨full, hfull⟩ : ∃ f, full6 lab = f := ⟨_, rfl⟩
  have HFU : Hid ((⟨#[116, 108, 115, 49, 51, 32]⟩ : ByteArray) ++ lab = full) := hfull
  obtain ⟨x2, hx2⟩ : ∃ x, full.size = x := ⟨_, rfl⟩
  have b2 : x2 ≤ 66 := by rw [← hx2, ← hfull, full6_size]; omega
  have e2 : IntKind.u8.wrap (x2 : Int) = (x2 : Int) := by rw [IntKind.wrap_u8]; omega
  have hcv : ∀ w : World, (convert 9 22 (.string full)).run Tryd.prog w = .ok (.slice (some ⟨w.heap.size, 0, none⟩) x2 (grownCap w x2 0 5))
      (w.drew.alloc (.cells (bytesRow full (grownCap w x2 0 5)) 5 ((bytesRow full (grownCap w x2 0 5)).size, (bytesRow full (grownCap w x2 0 5)).size + 1))) := fun w => by
    rw [← hx2]
    exact run_bytes_of_string w _ _ _ full Tryd.underlying9 Tryd.underlying22 Tryd.underlying5
  have HBL : Hid ((bl full).length = x2) := by unfold Hid; rw [bl_len]; exact hx2
  have HINF : Hid ([x0, x1, x2] ++ bl full ++ [0] = infoL (bl lab) x0 x1) := by
    unfold Hid infoL
    rw [← hx2, ← hfull, full6_size, full6_bl, bl_len]
  have HBI : Hid (∀ x ∈ [x0, x1, x2] ++ bl full ++ [0], x < 256) := fun x hx => by
    rcases List.mem_append.1 hx with hx | hx
    · rcases List.mem_append.1 hx with hx | hx
      · simp at hx; omega
      · exact bl_lt _ x hx
    · simp at hx; omega
  have HSX := Lib.hid hx2
  have HE00 : Hid (LbP w B s (w.alloc (.cells (cellsK .u8 s) 25))) := ⟨hB ▸ Obj.new w _ _, hB ▸ (Below.refl _ w).alloc (Nat.le_refl _) _⟩
  have HSZ := Lib.hid (sizeH hs)
  have HEX : Hid (∀ (W : World) A6 n6 c6, LbP w B s W → ([x0, x1, x2] ++ bl full ++ [0]).length = n6 → Rb W A6 ([x0, x1, x2] ++ bl full ++ [0]) → n6 ≤ 80000 → Calls Tryd.prog 15 #[.agg (cellsK .u8 s), .slice A6 n6 c6, .int .i64 n] W fun e w' => ∃ v, e = .returned v ∧ ExV s ([x0, x1, x2] ++ bl full ++ [0]) n v w' ∧ Below W.heap.size W w') := fun W A6 n6 c6 h1 h2 h3 h4 =>
    expand_all s _ A6 n6 c6 n W (HT.out.below (HB.out.symm ▸ h1.bel)) HS.out HS2.out h3 h2 HBI.out h4
  clear ht hs hs2 hx0 hx1 hfull hx2 hB
  go_enter Tryd.func17, Tryd.ntmps17
  go_wp2_with fail
  rw [HFU.out, HB.out]
  obtain ⟨wr, hwr⟩ : ∃ wr, w.alloc (.cells (cellsK .u8 s) 25) = wr := ⟨_, rfl⟩
  rw [hwr] at HE00 ⊢
  have hxs : full.size = x2 := HSX.out
  have HE0 : Hid (LbP w B s wr.drew) := HE00.out.kept ((Below.refl _ wr).drew)
  clear hwr HE00
  refine wp_region_held_drew (S := (fun wq => Obj wq B 25 (cellsK .u8 s))) (by kernel_rfl) HE0.out.sO (fun hHeld => ?_)
  refine wpAnyH_take (i := 0) (oi := ?_) (v := ?_) ?_ ?_ ?_ ?_ ?_ ?_ (by assumption) ?_
  rotate_left 2
  · simp only [List.getElem?_toArray, List.getElem?_cons_zero, List.getElem?_cons_succ]
    rfl
  · kernel_rfl
  · kernel_rfl
  · kernel_rfl
  · exact fun _ _ _ h => h
  · refine yieldsIf_load_row (g := B) (t := 25) (cs := (cellsK .u8 s)) (ty := 25) (x := (.tmp 3)) ?_ ?_ ?_ ?_ Tryd.underlying25 rfl HSZ.out
    · rfl
    · rfl
    · rfl
    · exact fun w hSw => hSw
  simp only [Act.put, List.setIfInBounds_toArray, List.set_cons_zero, List.set_cons_succ]
  refine wpAnyH_take (i := 1) (oi := ?_) (v := ?_) ?_ ?_ ?_ ?_ ?_ ?_ (by assumption) ?_
  rotate_left 2
  · simp only [List.getElem?_toArray, List.getElem?_cons_zero, List.getElem?_cons_succ]
    rfl
  · kernel_rfl
  · kernel_rfl
  · kernel_rfl
  · exact fun _ _ _ h => h
  · refine Or.inl ⟨by rfl, ?_⟩
    intro w hSw
    (try dsimp only at hSw)
    go_simp
    all_goals with_reducible rfl
  simp only [Act.put, List.setIfInBounds_toArray, List.set_cons_zero, List.set_cons_succ]
  refine wpAnyH_take (i := 2) (oi := ?_) (v := ?_) ?_ ?_ ?_ ?_ ?_ ?_ (by assumption) ?_
  rotate_left 2
  · simp only [List.getElem?_toArray, List.getElem?_cons_zero, List.getElem?_cons_succ]
    rfl
  · kernel_rfl
  · kernel_rfl
  · kernel_rfl
  · exact fun _ _ _ h => h
  · refine Or.inl ⟨by rfl, ?_⟩
    intro w hSw
    (try dsimp only at hSw)
    go_simp
    all_goals with_reducible rfl
  simp only [Act.put, List.setIfInBounds_toArray, List.set_cons_zero, List.set_cons_succ]
  refine wpAnyH_take (i := 3) (oi := ?_) (v := ?_) ?_ ?_ ?_ ?_ ?_ ?_ (by assumption) ?_
  rotate_left 2
  · simp only [List.getElem?_toArray, List.getElem?_cons_zero, List.getElem?_cons_succ]
    rfl
  · kernel_rfl
  · kernel_rfl
  · kernel_rfl
  · exact fun _ _ _ h => h
  · refine Or.inl ⟨by rfl, ?_⟩
    intro w hSw
    (try dsimp only at hSw)
    go_simp
    all_goals with_reducible rfl
  simp only [Act.put, List.setIfInBounds_toArray, List.set_cons_zero, List.set_cons_succ]
  refine wpAnyH_take (i := 4) (oi := ?_) (v := ?_) ?_ ?_ ?_ ?_ ?_ ?_ (by assumption) ?_
  rotate_left 2
  · simp only [List.getElem?_toArray, List.getElem?_cons_zero, List.getElem?_cons_succ]
    rfl
  · kernel_rfl
  · kernel_rfl
  · kernel_rfl
  · exact fun _ _ _ h => h
  · refine Or.inl ⟨by rfl, ?_⟩
    intro w hSw
    (try dsimp only at hSw)
    go_simp
    all_goals with_reducible rfl
  simp only [Act.put, List.setIfInBounds_toArray, List.set_cons_zero, List.set_cons_succ]
  refine wpAnyH_take (i := 5) (oi := ?_) (v := ?_) ?_ ?_ ?_ ?_ ?_ ?_ (by assumption) ?_
  rotate_left 2
  · simp only [List.getElem?_toArray, List.getElem?_cons_zero, List.getElem?_cons_succ]
    rfl
  · kernel_rfl
  · kernel_rfl
  · kernel_rfl
  · exact fun _ _ _ h => h
  · refine Or.inl ⟨by rfl, ?_⟩
    intro w hSw
    (try dsimp only at hSw)
    go_simp
    all_goals with_reducible rfl
  simp only [Act.put, List.setIfInBounds_toArray, List.set_cons_zero, List.set_cons_succ]
  refine wpAnyH_take (i := 6) (oi := ?_) (v := ?_) ?_ ?_ ?_ ?_ ?_ ?_ (by assumption) ?_
  rotate_left 2
  · simp only [List.getElem?_toArray, List.getElem?_cons_zero, List.getElem?_cons_succ]
    rfl
  · kernel_rfl
  · kernel_rfl
  · kernel_rfl
  · exact fun _ _ _ h => h
  · refine Or.inl ⟨by rfl, ?_⟩
    intro w hSw
    (try dsimp only at hSw)
    go_simp
    all_goals with_reducible rfl
  simp only [Act.put, List.setIfInBounds_toArray, List.set_cons_zero, List.set_cons_succ]
  refine wpAnyH_take (i := 7) (oi := ?_) (v := ?_) ?_ ?_ ?_ ?_ ?_ ?_ (by assumption) ?_
  rotate_left 2
  · simp only [List.getElem?_toArray, List.getElem?_cons_zero, List.getElem?_cons_succ]
    rfl
  · kernel_rfl
  · kernel_rfl
  · kernel_rfl
  · exact fun _ _ _ h => h
  · refine Or.inl ⟨by rfl, ?_⟩
    intro w hSw
    (try dsimp only at hSw)
    go_simp
    all_goals with_reducible rfl
  simp only [Act.put, List.setIfInBounds_toArray, List.set_cons_zero, List.set_cons_succ]
  refine wpAnyH_take (i := 8) (oi := ?_) (v := ?_) ?_ ?_ ?_ ?_ ?_ ?_ (by assumption) ?_
  rotate_left 2
  · simp only [List.getElem?_toArray, List.getElem?_cons_zero, List.getElem?_cons_succ]
    rfl
  · kernel_rfl
  · kernel_rfl
  · kernel_rfl
  · exact fun _ _ _ h => h
  · refine Or.inl ⟨by rfl, ?_⟩
    intro w hSw
    (try dsimp only at hSw)
    go_simp
    all_goals with_reducible rfl
  simp only [Act.put, List.setIfInBounds_toArray, List.set_cons_zero, List.set_cons_succ]
  refine wpAnyH_take (i := 10) (oi := ?_) (v := ?_) ?_ ?_ ?_ ?_ ?_ ?_ (by assumption) ?_
  rotate_left 2
  · simp only [List.getElem?_toArray, List.getElem?_cons_zero, List.getElem?_cons_succ]
    rfl
  · kernel_rfl
  · kernel_rfl
  · kernel_rfl
  · exact fun _ _ _ h => h
  · refine Or.inl ⟨by rfl, ?_⟩
    intro w hSw
    (try dsimp only at hSw)
    go_simp
    all_goals with_reducible rfl
  simp only [Act.put, List.setIfInBounds_toArray, List.set_cons_zero, List.set_cons_succ]
  refine wpAnyH_take (i := 15) (oi := ?_) (v := ?_) ?_ ?_ ?_ ?_ ?_ ?_ (by assumption) ?_
  rotate_left 2
  · simp only [List.getElem?_toArray, List.getElem?_cons_zero, List.getElem?_cons_succ]
    rfl
  · kernel_rfl
  · kernel_rfl
  · kernel_rfl
  · exact fun _ _ _ h => h
  · refine Or.inl ⟨by rfl, ?_⟩
    intro w hSw
    (try dsimp only at hSw)
    go_simp
    all_goals with_reducible rfl
  simp only [Act.put, List.setIfInBounds_toArray, List.set_cons_zero, List.set_cons_succ]
  refine wpAnyH_ready (rs := [9, 11, 12]) (by kernel_rfl) (by simp) ?_
  refine AllReadyH.cons (o := ?_) ?_ (fun KK hKK => ?_) ?_
  rotate_left
  · simp only [List.getElem?_toArray, List.getElem?_cons_zero, List.getElem?_cons_succ]
    rfl
  · go_simp
    have h2 := HE0.out.new 5 #[.int .u8 (x0 : Int), .int .u8 (x1 : Int), .int .u8 (x2 : Int)]
    (try simp only [World.size_alloc, size_drew] at h2)
    have H3 := Lib.hid h2
    have HE1 := Lib.hid (HE0.out.kept ((Below.refl _ _).alloc (Nat.le_refl _) (.cells #[.int .u8 (x0 : Int), .int .u8 (x1 : Int), .int .u8 (x2 : Int)] 5)))
    clear h2 HE0
    refine hKK.out _ _ ?_ (fun hh => ?_)
    · exact HE1.out.sO
    clear hKK KK hh
    try simp only [Act.put, List.setIfInBounds_toArray, List.set_cons_zero, List.set_cons_succ]
    refine wpAnyH_ready (rs := [11, 12]) (by kernel_rfl) (by simp) ?_
    refine AllReadyH.cons (o := ?_) ?_ (fun KK hKK => ?_) ?_
    rotate_left
    · simp only [List.getElem?_toArray, List.getElem?_cons_zero, List.getElem?_cons_succ]
      rfl
    · go_simp
      generalize grownCap _ _ _ _ = cp at *
      have h6 := HE1.out.bytes full cp ((bytesRow full cp).size, (bytesRow full cp).size + 1)
      (try simp only [World.size_alloc, size_drew] at h6)
      have H7 := Lib.hid h6
      have HE5 := Lib.hid (HE1.out.kept (drew_alloc_below _ (.cells (bytesRow full cp) 5 ((bytesRow full cp).size, (bytesRow full cp).size + 1))))
      have H9 := Lib.hid (H3.out.kept (drew_alloc_below _ (.cells (bytesRow full cp) 5 ((bytesRow full cp).size, (bytesRow full cp).size + 1))))
      clear h6 HE1 H3
      refine hKK.out _ _ ?_ (fun hh => ?_)
      · exact HE5.out.sO
      clear hKK KK hh
      try simp only [Act.put, List.setIfInBounds_toArray, List.set_cons_zero, List.set_cons_succ]
      refine wpAnyH_ready (rs := [12]) (by kernel_rfl) (by simp) ?_
      refine AllReadyH.cons (o := ?_) ?_ (fun KK hKK => ?_) AllReadyH.nil
      rotate_left
      · simp only [List.getElem?_toArray, List.getElem?_cons_zero, List.getElem?_cons_succ]
        rfl
      go_simp
      have h11 := HE5.out.new 5 #[.int .u8 0]
      (try simp only [World.size_alloc, size_drew] at h11)
      have H12 := Lib.hid h11
      have HE10 := Lib.hid (HE5.out.kept ((Below.refl _ _).alloc (Nat.le_refl _) (.cells #[.int .u8 0] 5)))
      have H14 := Lib.hid (H9.out.kept ((Below.refl _ _).alloc (Nat.le_refl _) (.cells #[.int .u8 0] 5)))
      have H15 := Lib.hid (H7.out.below ((Below.refl _ _).alloc (Nat.le_refl _) (.cells #[.int .u8 0] 5)))
      clear h11 HE5 H9 H7
      refine hKK.out _ _ ?_ (fun hh => ?_)
      · exact HE10.out.sO
      clear hKK KK hh
      try simp only [Act.put, List.setIfInBounds_toArray, List.set_cons_zero, List.set_cons_succ]
      refine wpAnyH_ready (rs := [13]) (by kernel_rfl) (by simp) ?_
      refine AllReadyH.cons (o := ?_) ?_ (fun KK hKK => ?_) AllReadyH.nil
      rotate_left
      · simp only [List.getElem?_toArray, List.getElem?_cons_zero, List.getElem?_cons_succ]
        rfl
      go_simp
      have h17 := HE10.out.new 22 #[.slice (some ⟨wr.heap.size, 0, none⟩) 3 3, .slice (some ⟨wr.heap.size + 1, 0, none⟩) x2 cp, .slice (some ⟨wr.heap.size + 1 + 1, 0, none⟩) 1 1]
      (try simp only [World.size_alloc, size_drew] at h17)
      have H18 := Lib.hid h17
      have HE16 := Lib.hid (HE10.out.kept ((Below.refl _ _).alloc (Nat.le_refl _) (.cells #[.slice (some ⟨wr.heap.size, 0, none⟩) 3 3, .slice (some ⟨wr.heap.size + 1, 0, none⟩) x2 cp, .slice (some ⟨wr.heap.size + 1 + 1, 0, none⟩) 1 1] 22)))
      have H20 := Lib.hid (H14.out.kept ((Below.refl _ _).alloc (Nat.le_refl _) (.cells #[.slice (some ⟨wr.heap.size, 0, none⟩) 3 3, .slice (some ⟨wr.heap.size + 1, 0, none⟩) x2 cp, .slice (some ⟨wr.heap.size + 1 + 1, 0, none⟩) 1 1] 22)))
      have H21 := Lib.hid (H15.out.below ((Below.refl _ _).alloc (Nat.le_refl _) (.cells #[.slice (some ⟨wr.heap.size, 0, none⟩) 3 3, .slice (some ⟨wr.heap.size + 1, 0, none⟩) x2 cp, .slice (some ⟨wr.heap.size + 1 + 1, 0, none⟩) 1 1] 22)))
      have H22 := Lib.hid (H12.out.kept ((Below.refl _ _).alloc (Nat.le_refl _) (.cells #[.slice (some ⟨wr.heap.size, 0, none⟩) 3 3, .slice (some ⟨wr.heap.size + 1, 0, none⟩) x2 cp, .slice (some ⟨wr.heap.size + 1 + 1, 0, none⟩) 1 1] 22)))
      clear h17 HE10 H14 H15 H12
      refine hKK.out _ _ ?_ (fun hh => ?_)
      · exact HE16.out.sO
      clear hKK KK hh
      try simp only [Act.put, List.setIfInBounds_toArray, List.set_cons_zero, List.set_cons_succ]
      refine wpAnyH_ready (rs := [14]) (by kernel_rfl) (by simp) ?_
      refine AllReadyH.cons (o := ?_) ?_ (fun KK hKK => ?_) AllReadyH.nil
      rotate_left
      · simp only [List.getElem?_toArray, List.getElem?_cons_zero, List.getElem?_cons_succ]
        rfl
      go_simp
      refine (lab_cat (c1 := cp) HE16.out HBL.out (by omega) H21.out H20.out H22.out H18.out).mono ?_
      rintro e w6 ⟨A6, n6, c6, rfl, hl6, hr6, hn6, hb6⟩
      try go_wp2_with fail
      have HE23 := Lib.hid (HE16.out.kept hb6)
      have HR24 := Lib.hid hr6
      have HL25 := Lib.hid hl6
      clear hb6 hr6 hl6 HE16 H20 H21 H22 H18
      refine hKK.out _ _ ?_ (fun hh => ?_)
      · exact HE23.out.sO
      clear hKK KK hh
      try simp only [Act.put, List.setIfInBounds_toArray, List.set_cons_zero, List.set_cons_succ]
      refine wpAnyH_ready (rs := [16]) (by kernel_rfl) (by simp) ?_
      refine AllReadyH.cons (o := ?_) ?_ (fun KK hKK => ?_) AllReadyH.nil
      rotate_left
      · simp only [List.getElem?_toArray, List.getElem?_cons_zero, List.getElem?_cons_succ]
        rfl
      go_simp
      refine (HEX.out _ A6 n6 c6 HE23.out HL25.out HR24.out hn6).mono ?_
      rintro e w7 ⟨v7, rfl, hv7, hb7⟩
      try go_wp2_with fail
      have HE26 := Lib.hid (HE23.out.kept hb7)
      rw [HINF.out] at hv7
      have HV := Lib.hid hv7
      clear hb7 hv7 HE23
      refine hKK.out _ _ ?_ (fun hh => ?_)
      · exact HE26.out.sO
      clear hKK KK hh
      try simp only [Act.put, List.setIfInBounds_toArray, List.set_cons_zero, List.set_cons_succ]
      refine wpAnyH_ready (rs := [17]) (by kernel_rfl) (by simp) ?_
      refine AllReadyH.cons (o := ?_) ?_ (fun KK hKK => ?_) AllReadyH.nil
      rotate_left
      · simp only [List.getElem?_toArray, List.getElem?_cons_zero, List.getElem?_cons_succ]
        rfl
      go_simp
      refine hKK.out _ _ ?_ (fun hh => ?_)
      · exact HE26.out.sO
      clear hKK KK hh
      try simp only [Act.put, List.setIfInBounds_toArray, List.set_cons_zero, List.set_cons_succ]
      refine wpAnyH_done (by kernel_rfl) ?_ _
      go_wp2
      go_ret
      exact ⟨_, rfl, HV.out, by rw [HB.out]; exact HE26.out.bel⟩
    refine AllReadyH.cons (o := ?_) ?_ (fun KK hKK => ?_) AllReadyH.nil
    rotate_left
    · simp only [List.getElem?_toArray, List.getElem?_cons_zero, List.getElem?_cons_succ]
      rfl
    go_simp
    have h28 := HE1.out.new 5 #[.int .u8 0]
    (try simp only [World.size_alloc, size_drew] at h28)
    have H29 := Lib.hid h28
    have HE27 := Lib.hid (HE1.out.kept ((Below.refl _ _).alloc (Nat.le_refl _) (.cells #[.int .u8 0] 5)))
    have H31 := Lib.hid (H3.out.kept ((Below.refl _ _).alloc (Nat.le_refl _) (.cells #[.int .u8 0] 5)))
    clear h28 HE1 H3
    refine hKK.out _ _ ?_ (fun hh => ?_)
    · exact HE27.out.sO
    clear hKK KK hh
    try simp only [Act.put, List.setIfInBounds_toArray, List.set_cons_zero, List.set_cons_succ]
    refine wpAnyH_ready (rs := [11]) (by kernel_rfl) (by simp) ?_
    refine AllReadyH.cons (o := ?_) ?_ (fun KK hKK => ?_) AllReadyH.nil
    rotate_left
    · simp only [List.getElem?_toArray, List.getElem?_cons_zero, List.getElem?_cons_succ]
      rfl
    go_simp
    generalize grownCap _ _ _ _ = cp at *
    have h33 := HE27.out.bytes full cp ((bytesRow full cp).size, (bytesRow full cp).size + 1)
    (try simp only [World.size_alloc, size_drew] at h33)
    have H34 := Lib.hid h33
    have HE32 := Lib.hid (HE27.out.kept (drew_alloc_below _ (.cells (bytesRow full cp) 5 ((bytesRow full cp).size, (bytesRow full cp).size + 1))))
    have H36 := Lib.hid (H31.out.kept (drew_alloc_below _ (.cells (bytesRow full cp) 5 ((bytesRow full cp).size, (bytesRow full cp).size + 1))))
    have H37 := Lib.hid (H29.out.kept (drew_alloc_below _ (.cells (bytesRow full cp) 5 ((bytesRow full cp).size, (bytesRow full cp).size + 1))))
    clear h33 HE27 H31 H29
    refine hKK.out _ _ ?_ (fun hh => ?_)
    · exact HE32.out.sO
    clear hKK KK hh
    try simp only [Act.put, List.setIfInBounds_toArray, List.set_cons_zero, List.set_cons_succ]
    refine wpAnyH_ready (rs := [13]) (by kernel_rfl) (by simp) ?_
    refine AllReadyH.cons (o := ?_) ?_ (fun KK hKK => ?_) AllReadyH.nil
    rotate_left
    · simp only [List.getElem?_toArray, List.getElem?_cons_zero, List.getElem?_cons_succ]
      rfl
    go_simp
    have h39 := HE32.out.new 22 #[.slice (some ⟨wr.heap.size, 0, none⟩) 3 3, .slice (some ⟨wr.heap.size + 1 + 1, 0, none⟩) x2 cp, .slice (some ⟨wr.heap.size + 1, 0, none⟩) 1 1]
    (try simp only [World.size_alloc, size_drew] at h39)
    have H40 := Lib.hid h39
    have HE38 := Lib.hid (HE32.out.kept ((Below.refl _ _).alloc (Nat.le_refl _) (.cells #[.slice (some ⟨wr.heap.size, 0, none⟩) 3 3, .slice (some ⟨wr.heap.size + 1 + 1, 0, none⟩) x2 cp, .slice (some ⟨wr.heap.size + 1, 0, none⟩) 1 1] 22)))
    have H42 := Lib.hid (H36.out.kept ((Below.refl _ _).alloc (Nat.le_refl _) (.cells #[.slice (some ⟨wr.heap.size, 0, none⟩) 3 3, .slice (some ⟨wr.heap.size + 1 + 1, 0, none⟩) x2 cp, .slice (some ⟨wr.heap.size + 1, 0, none⟩) 1 1] 22)))
    have H43 := Lib.hid (H34.out.below ((Below.refl _ _).alloc (Nat.le_refl _) (.cells #[.slice (some ⟨wr.heap.size, 0, none⟩) 3 3, .slice (some ⟨wr.heap.size + 1 + 1, 0, none⟩) x2 cp, .slice (some ⟨wr.heap.size + 1, 0, none⟩) 1 1] 22)))
    have H44 := Lib.hid (H37.out.kept ((Below.refl _ _).alloc (Nat.le_refl _) (.cells #[.slice (some ⟨wr.heap.size, 0, none⟩) 3 3, .slice (some ⟨wr.heap.size + 1 + 1, 0, none⟩) x2 cp, .slice (some ⟨wr.heap.size + 1, 0, none⟩) 1 1] 22)))
    clear h39 HE32 H36 H34 H37
    refine hKK.out _ _ ?_ (fun hh => ?_)
    · exact HE38.out.sO
    clear hKK KK hh
    try simp only [Act.put, List.setIfInBounds_toArray, List.set_cons_zero, List.set_cons_succ]
    refine wpAnyH_ready (rs := [14]) (by kernel_rfl) (by simp) ?_
    refine AllReadyH.cons (o := ?_) ?_ (fun KK hKK => ?_) AllReadyH.nil
    rotate_left
    · simp only [List.getElem?_toArray, List.getElem?_cons_zero, List.getElem?_cons_succ]
      rfl
    go_simp
    refine (lab_cat (c1 := cp) HE38.out HBL.out (by omega) H43.out H42.out H44.out H40.out).mono ?_
    rintro e w6 ⟨A6, n6, c6, rfl, hl6, hr6, hn6, hb6⟩
    try go_wp2_with fail
    have HE45 := Lib.hid (HE38.out.kept hb6)
    have HR46 := Lib.hid hr6
    have HL47 := Lib.hid hl6
    clear hb6 hr6 hl6 HE38 H42 H43 H44 H40
    refine hKK.out _ _ ?_ (fun hh => ?_)
    · exact HE45.out.sO
    clear hKK KK hh
    try simp only [Act.put, List.setIfInBounds_toArray, List.set_cons_zero, List.set_cons_succ]
    refine wpAnyH_ready (rs := [16]) (by kernel_rfl) (by simp) ?_
    refine AllReadyH.cons (o := ?_) ?_ (fun KK hKK => ?_) AllReadyH.nil
    rotate_left
    · simp only [List.getElem?_toArray, List.getElem?_cons_zero, List.getElem?_cons_succ]
      rfl
    go_simp
    refine (HEX.out _ A6 n6 c6 HE45.out HL47.out HR46.out hn6).mono ?_
    rintro e w7 ⟨v7, rfl, hv7, hb7⟩
    try go_wp2_with fail
    have HE48 := Lib.hid (HE45.out.kept hb7)
    rw [HINF.out] at hv7
    have HV := Lib.hid hv7
    clear hb7 hv7 HE45
    refine hKK.out _ _ ?_ (fun hh => ?_)
    · exact HE48.out.sO
    clear hKK KK hh
    try simp only [Act.put, List.setIfInBounds_toArray, List.set_cons_zero, List.set_cons_succ]
    refine wpAnyH_ready (rs := [17]) (by kernel_rfl) (by simp) ?_
    refine AllReadyH.cons (o := ?_) ?_ (fun KK hKK => ?_) AllReadyH.nil
    rotate_left
    · simp only [List.getElem?_toArray, List.getElem?_cons_zero, List.getElem?_cons_succ]
      rfl
    go_simp
    refine hKK.out _ _ ?_ (fun hh => ?_)
    · exact HE48.out.sO
    clear hKK KK hh
    try simp only [Act.put, List.setIfInBounds_toArray, List.set_cons_zero, List.set_cons_succ]
    refine wpAnyH_done (by kernel_rfl) ?_ _
    go_wp2
    go_ret
    exact ⟨_, rfl, HV.out, by rw [HB.out]; exact HE48.out.bel⟩
  refine AllReadyH.cons (o := ?_) ?_ (fun KK hKK => ?_) ?_
  rotate_left
  · simp only [List.getElem?_toArray, List.getElem?_cons_zero, List.getElem?_cons_succ]
    rfl
  · go_simp
    generalize grownCap _ _ _ _ = cp at *
    have h50 := HE0.out.bytes full cp ((bytesRow full cp).size, (bytesRow full cp).size + 1)
    (try simp only [World.size_alloc, size_drew] at h50)
    have H51 := Lib.hid h50
    have HE49 := Lib.hid (HE0.out.kept (drew_alloc_below _ (.cells (bytesRow full cp) 5 ((bytesRow full cp).size, (bytesRow full cp).size + 1))))
    clear h50 HE0
    refine hKK.out _ _ ?_ (fun hh => ?_)
    · exact HE49.out.sO
    clear hKK KK hh
    try simp only [Act.put, List.setIfInBounds_toArray, List.set_cons_zero, List.set_cons_succ]
    refine wpAnyH_ready (rs := [9, 12]) (by kernel_rfl) (by simp) ?_
    refine AllReadyH.cons (o := ?_) ?_ (fun KK hKK => ?_) ?_
    rotate_left
    · simp only [List.getElem?_toArray, List.getElem?_cons_zero, List.getElem?_cons_succ]
      rfl
    · go_simp
      have h54 := HE49.out.new 5 #[.int .u8 (x0 : Int), .int .u8 (x1 : Int), .int .u8 (x2 : Int)]
      (try simp only [World.size_alloc, size_drew] at h54)
      have H55 := Lib.hid h54
      have HE53 := Lib.hid (HE49.out.kept ((Below.refl _ _).alloc (Nat.le_refl _) (.cells #[.int .u8 (x0 : Int), .int .u8 (x1 : Int), .int .u8 (x2 : Int)] 5)))
      have H57 := Lib.hid (H51.out.below ((Below.refl _ _).alloc (Nat.le_refl _) (.cells #[.int .u8 (x0 : Int), .int .u8 (x1 : Int), .int .u8 (x2 : Int)] 5)))
      clear h54 HE49 H51
      refine hKK.out _ _ ?_ (fun hh => ?_)
      · exact HE53.out.sO
      clear hKK KK hh
      try simp only [Act.put, List.setIfInBounds_toArray, List.set_cons_zero, List.set_cons_succ]
      refine wpAnyH_ready (rs := [12]) (by kernel_rfl) (by simp) ?_
      refine AllReadyH.cons (o := ?_) ?_ (fun KK hKK => ?_) AllReadyH.nil
      rotate_left
      · simp only [List.getElem?_toArray, List.getElem?_cons_zero, List.getElem?_cons_succ]
        rfl
      go_simp
      have h59 := HE53.out.new 5 #[.int .u8 0]
      (try simp only [World.size_alloc, size_drew] at h59)
      have H60 := Lib.hid h59
      have HE58 := Lib.hid (HE53.out.kept ((Below.refl _ _).alloc (Nat.le_refl _) (.cells #[.int .u8 0] 5)))
      have H62 := Lib.hid (H55.out.kept ((Below.refl _ _).alloc (Nat.le_refl _) (.cells #[.int .u8 0] 5)))
      have H63 := Lib.hid (H57.out.below ((Below.refl _ _).alloc (Nat.le_refl _) (.cells #[.int .u8 0] 5)))
      clear h59 HE53 H55 H57
      refine hKK.out _ _ ?_ (fun hh => ?_)
      · exact HE58.out.sO
      clear hKK KK hh
      try simp only [Act.put, List.setIfInBounds_toArray, List.set_cons_zero, List.set_cons_succ]
      refine wpAnyH_ready (rs := [13]) (by kernel_rfl) (by simp) ?_
      refine AllReadyH.cons (o := ?_) ?_ (fun KK hKK => ?_) AllReadyH.nil
      rotate_left
      · simp only [List.getElem?_toArray, List.getElem?_cons_zero, List.getElem?_cons_succ]
        rfl
      go_simp
      have h65 := HE58.out.new 22 #[.slice (some ⟨wr.heap.size + 1, 0, none⟩) 3 3, .slice (some ⟨wr.heap.size, 0, none⟩) x2 cp, .slice (some ⟨wr.heap.size + 1 + 1, 0, none⟩) 1 1]
      (try simp only [World.size_alloc, size_drew] at h65)
      have H66 := Lib.hid h65
      have HE64 := Lib.hid (HE58.out.kept ((Below.refl _ _).alloc (Nat.le_refl _) (.cells #[.slice (some ⟨wr.heap.size + 1, 0, none⟩) 3 3, .slice (some ⟨wr.heap.size, 0, none⟩) x2 cp, .slice (some ⟨wr.heap.size + 1 + 1, 0, none⟩) 1 1] 22)))
      have H68 := Lib.hid (H62.out.kept ((Below.refl _ _).alloc (Nat.le_refl _) (.cells #[.slice (some ⟨wr.heap.size + 1, 0, none⟩) 3 3, .slice (some ⟨wr.heap.size, 0, none⟩) x2 cp, .slice (some ⟨wr.heap.size + 1 + 1, 0, none⟩) 1 1] 22)))
      have H69 := Lib.hid (H63.out.below ((Below.refl _ _).alloc (Nat.le_refl _) (.cells #[.slice (some ⟨wr.heap.size + 1, 0, none⟩) 3 3, .slice (some ⟨wr.heap.size, 0, none⟩) x2 cp, .slice (some ⟨wr.heap.size + 1 + 1, 0, none⟩) 1 1] 22)))
      have H70 := Lib.hid (H60.out.kept ((Below.refl _ _).alloc (Nat.le_refl _) (.cells #[.slice (some ⟨wr.heap.size + 1, 0, none⟩) 3 3, .slice (some ⟨wr.heap.size, 0, none⟩) x2 cp, .slice (some ⟨wr.heap.size + 1 + 1, 0, none⟩) 1 1] 22)))
      clear h65 HE58 H62 H63 H60
      refine hKK.out _ _ ?_ (fun hh => ?_)
      · exact HE64.out.sO
      clear hKK KK hh
      try simp only [Act.put, List.setIfInBounds_toArray, List.set_cons_zero, List.set_cons_succ]
      refine wpAnyH_ready (rs := [14]) (by kernel_rfl) (by simp) ?_
      refine AllReadyH.cons (o := ?_) ?_ (fun KK hKK => ?_) AllReadyH.nil
      rotate_left
      · simp only [List.getElem?_toArray, List.getElem?_cons_zero, List.getElem?_cons_succ]
        rfl
      go_simp
      refine (lab_cat (c1 := cp) HE64.out HBL.out (by omega) H69.out H68.out H70.out H66.out).mono ?_
      rintro e w6 ⟨A6, n6, c6, rfl, hl6, hr6, hn6, hb6⟩
      try go_wp2_with fail
      have HE71 := Lib.hid (HE64.out.kept hb6)
      have HR72 := Lib.hid hr6
      have HL73 := Lib.hid hl6
      clear hb6 hr6 hl6 HE64 H68 H69 H70 H66
      refine hKK.out _ _ ?_ (fun hh => ?_)
      · exact HE71.out.sO
      clear hKK KK hh
      try simp only [Act.put, List.setIfInBounds_toArray, List.set_cons_zero, List.set_cons_succ]
      refine wpAnyH_ready (rs := [16]) (by kernel_rfl) (by simp) ?_
      refine AllReadyH.cons (o := ?_) ?_ (fun KK hKK => ?_) AllReadyH.nil
      rotate_left
      · simp only [List.getElem?_toArray, List.getElem?_cons_zero, List.getElem?_cons_succ]
        rfl
      go_simp
      refine (HEX.out _ A6 n6 c6 HE71.out HL73.out HR72.out hn6).mono ?_
      rintro e w7 ⟨v7, rfl, hv7, hb7⟩
      try go_wp2_with fail
      have HE74 := Lib.hid (HE71.out.kept hb7)
      rw [HINF.out] at hv7
      have HV := Lib.hid hv7
      clear hb7 hv7 HE71
      refine hKK.out _ _ ?_ (fun hh => ?_)
      · exact HE74.out.sO
      clear hKK KK hh
      try simp only [Act.put, List.setIfInBounds_toArray, List.set_cons_zero, List.set_cons_succ]
      refine wpAnyH_ready (rs := [17]) (by kernel_rfl) (by simp) ?_
      refine AllReadyH.cons (o := ?_) ?_ (fun KK hKK => ?_) AllReadyH.nil
      rotate_left
      · simp only [List.getElem?_toArray, List.getElem?_cons_zero, List.getElem?_cons_succ]
        rfl
      go_simp
      refine hKK.out _ _ ?_ (fun hh => ?_)
      · exact HE74.out.sO
      clear hKK KK hh
      try simp only [Act.put, List.setIfInBounds_toArray, List.set_cons_zero, List.set_cons_succ]
      refine wpAnyH_done (by kernel_rfl) ?_ _
      go_wp2
      go_ret
      exact ⟨_, rfl, HV.out, by rw [HB.out]; exact HE74.out.bel⟩
    refine AllReadyH.cons (o := ?_) ?_ (fun KK hKK => ?_) AllReadyH.nil
    rotate_left
    · simp only [List.getElem?_toArray, List.getElem?_cons_zero, List.getElem?_cons_succ]
      rfl
    go_simp
    have h76 := HE49.out.new 5 #[.int .u8 0]
    (try simp only [World.size_alloc, size_drew] at h76)
    have H77 := Lib.hid h76
    have HE75 := Lib.hid (HE49.out.kept ((Below.refl _ _).alloc (Nat.le_refl _) (.cells #[.int .u8 0] 5)))
    have H79 := Lib.hid (H51.out.below ((Below.refl _ _).alloc (Nat.le_refl _) (.cells #[.int .u8 0] 5)))
    clear h76 HE49 H51
    refine hKK.out _ _ ?_ (fun hh => ?_)
    · exact HE75.out.sO
    clear hKK KK hh
    try simp only [Act.put, List.setIfInBounds_toArray, List.set_cons_zero, List.set_cons_succ]
    refine wpAnyH_ready (rs := [9]) (by kernel_rfl) (by simp) ?_
    refine AllReadyH.cons (o := ?_) ?_ (fun KK hKK => ?_) AllReadyH.nil
    rotate_left
    · simp only [List.getElem?_toArray, List.getElem?_cons_zero, List.getElem?_cons_succ]
      rfl
    go_simp
    have h81 := HE75.out.new 5 #[.int .u8 (x0 : Int), .int .u8 (x1 : Int), .int .u8 (x2 : Int)]
    (try simp only [World.size_alloc, size_drew] at h81)
    have H82 := Lib.hid h81
    have HE80 := Lib.hid (HE75.out.kept ((Below.refl _ _).alloc (Nat.le_refl _) (.cells #[.int .u8 (x0 : Int), .int .u8 (x1 : Int), .int .u8 (x2 : Int)] 5)))
    have H84 := Lib.hid (H79.out.below ((Below.refl _ _).alloc (Nat.le_refl _) (.cells #[.int .u8 (x0 : Int), .int .u8 (x1 : Int), .int .u8 (x2 : Int)] 5)))
    have H85 := Lib.hid (H77.out.kept ((Below.refl _ _).alloc (Nat.le_refl _) (.cells #[.int .u8 (x0 : Int), .int .u8 (x1 : Int), .int .u8 (x2 : Int)] 5)))
    clear h81 HE75 H79 H77
    refine hKK.out _ _ ?_ (fun hh => ?_)
    · exact HE80.out.sO
    clear hKK KK hh
    try simp only [Act.put, List.setIfInBounds_toArray, List.set_cons_zero, List.set_cons_succ]
    refine wpAnyH_ready (rs := [13]) (by kernel_rfl) (by simp) ?_
    refine AllReadyH.cons (o := ?_) ?_ (fun KK hKK => ?_) AllReadyH.nil
    rotate_left
    · simp only [List.getElem?_toArray, List.getElem?_cons_zero, List.getElem?_cons_succ]
      rfl
    go_simp
    have h87 := HE80.out.new 22 #[.slice (some ⟨wr.heap.size + 1 + 1, 0, none⟩) 3 3, .slice (some ⟨wr.heap.size, 0, none⟩) x2 cp, .slice (some ⟨wr.heap.size + 1, 0, none⟩) 1 1]
    (try simp only [World.size_alloc, size_drew] at h87)
    have H88 := Lib.hid h87
    have HE86 := Lib.hid (HE80.out.kept ((Below.refl _ _).alloc (Nat.le_refl _) (.cells #[.slice (some ⟨wr.heap.size + 1 + 1, 0, none⟩) 3 3, .slice (some ⟨wr.heap.size, 0, none⟩) x2 cp, .slice (some ⟨wr.heap.size + 1, 0, none⟩) 1 1] 22)))
    have H90 := Lib.hid (H82.out.kept ((Below.refl _ _).alloc (Nat.le_refl _) (.cells #[.slice (some ⟨wr.heap.size + 1 + 1, 0, none⟩) 3 3, .slice (some ⟨wr.heap.size, 0, none⟩) x2 cp, .slice (some ⟨wr.heap.size + 1, 0, none⟩) 1 1] 22)))
    have H91 := Lib.hid (H84.out.below ((Below.refl _ _).alloc (Nat.le_refl _) (.cells #[.slice (some ⟨wr.heap.size + 1 + 1, 0, none⟩) 3 3, .slice (some ⟨wr.heap.size, 0, none⟩) x2 cp, .slice (some ⟨wr.heap.size + 1, 0, none⟩) 1 1] 22)))
    have H92 := Lib.hid (H85.out.kept ((Below.refl _ _).alloc (Nat.le_refl _) (.cells #[.slice (some ⟨wr.heap.size + 1 + 1, 0, none⟩) 3 3, .slice (some ⟨wr.heap.size, 0, none⟩) x2 cp, .slice (some ⟨wr.heap.size + 1, 0, none⟩) 1 1] 22)))
    clear h87 HE80 H82 H84 H85
    refine hKK.out _ _ ?_ (fun hh => ?_)
    · exact HE86.out.sO
    clear hKK KK hh
    try simp only [Act.put, List.setIfInBounds_toArray, List.set_cons_zero, List.set_cons_succ]
    refine wpAnyH_ready (rs := [14]) (by kernel_rfl) (by simp) ?_
    refine AllReadyH.cons (o := ?_) ?_ (fun KK hKK => ?_) AllReadyH.nil
    rotate_left
    · simp only [List.getElem?_toArray, List.getElem?_cons_zero, List.getElem?_cons_succ]
      rfl
    go_simp
    refine (lab_cat (c1 := cp) HE86.out HBL.out (by omega) H91.out H90.out H92.out H88.out).mono ?_
    rintro e w6 ⟨A6, n6, c6, rfl, hl6, hr6, hn6, hb6⟩
    try go_wp2_with fail
    have HE93 := Lib.hid (HE86.out.kept hb6)
    have HR94 := Lib.hid hr6
    have HL95 := Lib.hid hl6
    clear hb6 hr6 hl6 HE86 H90 H91 H92 H88
    refine hKK.out _ _ ?_ (fun hh => ?_)
    · exact HE93.out.sO
    clear hKK KK hh
    try simp only [Act.put, List.setIfInBounds_toArray, List.set_cons_zero, List.set_cons_succ]
    refine wpAnyH_ready (rs := [16]) (by kernel_rfl) (by simp) ?_
    refine AllReadyH.cons (o := ?_) ?_ (fun KK hKK => ?_) AllReadyH.nil
    rotate_left
    · simp only [List.getElem?_toArray, List.getElem?_cons_zero, List.getElem?_cons_succ]
      rfl
    go_simp
    refine (HEX.out _ A6 n6 c6 HE93.out HL95.out HR94.out hn6).mono ?_
    rintro e w7 ⟨v7, rfl, hv7, hb7⟩
    try go_wp2_with fail
    have HE96 := Lib.hid (HE93.out.kept hb7)
    rw [HINF.out] at hv7
    have HV := Lib.hid hv7
    clear hb7 hv7 HE93
    refine hKK.out _ _ ?_ (fun hh => ?_)
    · exact HE96.out.sO
    clear hKK KK hh
    try simp only [Act.put, List.setIfInBounds_toArray, List.set_cons_zero, List.set_cons_succ]
    refine wpAnyH_ready (rs := [17]) (by kernel_rfl) (by simp) ?_
    refine AllReadyH.cons (o := ?_) ?_ (fun KK hKK => ?_) AllReadyH.nil
    rotate_left
    · simp only [List.getElem?_toArray, List.getElem?_cons_zero, List.getElem?_cons_succ]
      rfl
    go_simp
    refine hKK.out _ _ ?_ (fun hh => ?_)
    · exact HE96.out.sO
    clear hKK KK hh
    try simp only [Act.put, List.setIfInBounds_toArray, List.set_cons_zero, List.set_cons_succ]
    refine wpAnyH_done (by kernel_rfl) ?_ _
    go_wp2
    go_ret
    exact ⟨_, rfl, HV.out, by rw [HB.out]; exact HE96.out.bel⟩
  refine AllReadyH.cons (o := ?_) ?_ (fun KK hKK => ?_) AllReadyH.nil
  rotate_left
  · simp only [List.getElem?_toArray, List.getElem?_cons_zero, List.getElem?_cons_succ]
    rfl
  go_simp
  have h98 := HE0.out.new 5 #[.int .u8 0]
  (try simp only [World.size_alloc, size_drew] at h98)
  have H99 := Lib.hid h98
  have HE97 := Lib.hid (HE0.out.kept ((Below.refl _ _).alloc (Nat.le_refl _) (.cells #[.int .u8 0] 5)))
  clear h98 HE0
  refine hKK.out _ _ ?_ (fun hh => ?_)
  · exact HE97.out.sO
  clear hKK KK hh
  try simp only [Act.put, List.setIfInBounds_toArray, List.set_cons_zero, List.set_cons_succ]
  refine wpAnyH_ready (rs := [9, 11]) (by kernel_rfl) (by simp) ?_
  refine AllReadyH.cons (o := ?_) ?_ (fun KK hKK => ?_) ?_
  rotate_left
  · simp only [List.getElem?_toArray, List.getElem?_cons_zero, List.getElem?_cons_succ]
    rfl
  · go_simp
    have h102 := HE97.out.new 5 #[.int .u8 (x0 : Int), .int .u8 (x1 : Int), .int .u8 (x2 : Int)]
    (try simp only [World.size_alloc, size_drew] at h102)
    have H103 := Lib.hid h102
    have HE101 := Lib.hid (HE97.out.kept ((Below.refl _ _).alloc (Nat.le_refl _) (.cells #[.int .u8 (x0 : Int), .int .u8 (x1 : Int), .int .u8 (x2 : Int)] 5)))
    have H105 := Lib.hid (H99.out.kept ((Below.refl _ _).alloc (Nat.le_refl _) (.cells #[.int .u8 (x0 : Int), .int .u8 (x1 : Int), .int .u8 (x2 : Int)] 5)))
    clear h102 HE97 H99
    refine hKK.out _ _ ?_ (fun hh => ?_)
    · exact HE101.out.sO
    clear hKK KK hh
    try simp only [Act.put, List.setIfInBounds_toArray, List.set_cons_zero, List.set_cons_succ]
    refine wpAnyH_ready (rs := [11]) (by kernel_rfl) (by simp) ?_
    refine AllReadyH.cons (o := ?_) ?_ (fun KK hKK => ?_) AllReadyH.nil
    rotate_left
    · simp only [List.getElem?_toArray, List.getElem?_cons_zero, List.getElem?_cons_succ]
      rfl
    go_simp
    generalize grownCap _ _ _ _ = cp at *
    have h107 := HE101.out.bytes full cp ((bytesRow full cp).size, (bytesRow full cp).size + 1)
    (try simp only [World.size_alloc, size_drew] at h107)
    have H108 := Lib.hid h107
    have HE106 := Lib.hid (HE101.out.kept (drew_alloc_below _ (.cells (bytesRow full cp) 5 ((bytesRow full cp).size, (bytesRow full cp).size + 1))))
    have H110 := Lib.hid (H103.out.kept (drew_alloc_below _ (.cells (bytesRow full cp) 5 ((bytesRow full cp).size, (bytesRow full cp).size + 1))))
    have H111 := Lib.hid (H105.out.kept (drew_alloc_below _ (.cells (bytesRow full cp) 5 ((bytesRow full cp).size, (bytesRow full cp).size + 1))))
    clear h107 HE101 H103 H105
    refine hKK.out _ _ ?_ (fun hh => ?_)
    · exact HE106.out.sO
    clear hKK KK hh
    try simp only [Act.put, List.setIfInBounds_toArray, List.set_cons_zero, List.set_cons_succ]
    refine wpAnyH_ready (rs := [13]) (by kernel_rfl) (by simp) ?_
    refine AllReadyH.cons (o := ?_) ?_ (fun KK hKK => ?_) AllReadyH.nil
    rotate_left
    · simp only [List.getElem?_toArray, List.getElem?_cons_zero, List.getElem?_cons_succ]
      rfl
    go_simp
    have h113 := HE106.out.new 22 #[.slice (some ⟨wr.heap.size + 1, 0, none⟩) 3 3, .slice (some ⟨wr.heap.size + 1 + 1, 0, none⟩) x2 cp, .slice (some ⟨wr.heap.size, 0, none⟩) 1 1]
    (try simp only [World.size_alloc, size_drew] at h113)
    have H114 := Lib.hid h113
    have HE112 := Lib.hid (HE106.out.kept ((Below.refl _ _).alloc (Nat.le_refl _) (.cells #[.slice (some ⟨wr.heap.size + 1, 0, none⟩) 3 3, .slice (some ⟨wr.heap.size + 1 + 1, 0, none⟩) x2 cp, .slice (some ⟨wr.heap.size, 0, none⟩) 1 1] 22)))
    have H116 := Lib.hid (H110.out.kept ((Below.refl _ _).alloc (Nat.le_refl _) (.cells #[.slice (some ⟨wr.heap.size + 1, 0, none⟩) 3 3, .slice (some ⟨wr.heap.size + 1 + 1, 0, none⟩) x2 cp, .slice (some ⟨wr.heap.size, 0, none⟩) 1 1] 22)))
    have H117 := Lib.hid (H108.out.below ((Below.refl _ _).alloc (Nat.le_refl _) (.cells #[.slice (some ⟨wr.heap.size + 1, 0, none⟩) 3 3, .slice (some ⟨wr.heap.size + 1 + 1, 0, none⟩) x2 cp, .slice (some ⟨wr.heap.size, 0, none⟩) 1 1] 22)))
    have H118 := Lib.hid (H111.out.kept ((Below.refl _ _).alloc (Nat.le_refl _) (.cells #[.slice (some ⟨wr.heap.size + 1, 0, none⟩) 3 3, .slice (some ⟨wr.heap.size + 1 + 1, 0, none⟩) x2 cp, .slice (some ⟨wr.heap.size, 0, none⟩) 1 1] 22)))
    clear h113 HE106 H110 H108 H111
    refine hKK.out _ _ ?_ (fun hh => ?_)
    · exact HE112.out.sO
    clear hKK KK hh
    try simp only [Act.put, List.setIfInBounds_toArray, List.set_cons_zero, List.set_cons_succ]
    refine wpAnyH_ready (rs := [14]) (by kernel_rfl) (by simp) ?_
    refine AllReadyH.cons (o := ?_) ?_ (fun KK hKK => ?_) AllReadyH.nil
    rotate_left
    · simp only [List.getElem?_toArray, List.getElem?_cons_zero, List.getElem?_cons_succ]
      rfl
    go_simp
    refine (lab_cat (c1 := cp) HE112.out HBL.out (by omega) H117.out H116.out H118.out H114.out).mono ?_
    rintro e w6 ⟨A6, n6, c6, rfl, hl6, hr6, hn6, hb6⟩
    try go_wp2_with fail
    have HE119 := Lib.hid (HE112.out.kept hb6)
    have HR120 := Lib.hid hr6
    have HL121 := Lib.hid hl6
    clear hb6 hr6 hl6 HE112 H116 H117 H118 H114
    refine hKK.out _ _ ?_ (fun hh => ?_)
    · exact HE119.out.sO
    clear hKK KK hh
    try simp only [Act.put, List.setIfInBounds_toArray, List.set_cons_zero, List.set_cons_succ]
    refine wpAnyH_ready (rs := [16]) (by kernel_rfl) (by simp) ?_
    refine AllReadyH.cons (o := ?_) ?_ (fun KK hKK => ?_) AllReadyH.nil
    rotate_left
    · simp only [List.getElem?_toArray, List.getElem?_cons_zero, List.getElem?_cons_succ]
      rfl
    go_simp
    refine (HEX.out _ A6 n6 c6 HE119.out HL121.out HR120.out hn6).mono ?_
    rintro e w7 ⟨v7, rfl, hv7, hb7⟩
    try go_wp2_with fail
    have HE122 := Lib.hid (HE119.out.kept hb7)
    rw [HINF.out] at hv7
    have HV := Lib.hid hv7
    clear hb7 hv7 HE119
    refine hKK.out _ _ ?_ (fun hh => ?_)
    · exact HE122.out.sO
    clear hKK KK hh
    try simp only [Act.put, List.setIfInBounds_toArray, List.set_cons_zero, List.set_cons_succ]
    refine wpAnyH_ready (rs := [17]) (by kernel_rfl) (by simp) ?_
    refine AllReadyH.cons (o := ?_) ?_ (fun KK hKK => ?_) AllReadyH.nil
    rotate_left
    · simp only [List.getElem?_toArray, List.getElem?_cons_zero, List.getElem?_cons_succ]
      rfl
    go_simp
    refine hKK.out _ _ ?_ (fun hh => ?_)
    · exact HE122.out.sO
    clear hKK KK hh
    try simp only [Act.put, List.setIfInBounds_toArray, List.set_cons_zero, List.set_cons_succ]
    refine wpAnyH_done (by kernel_rfl) ?_ _
    go_wp2
    go_ret
    exact ⟨_, rfl, HV.out, by rw [HB.out]; exact HE122.out.bel⟩
  refine AllReadyH.cons (o := ?_) ?_ (fun KK hKK => ?_) AllReadyH.nil
  rotate_left
  · simp only [List.getElem?_toArray, List.getElem?_cons_zero, List.getElem?_cons_succ]
    rfl
  go_simp
  generalize grownCap _ _ _ _ = cp at *
  have h124 := HE97.out.bytes full cp ((bytesRow full cp).size, (bytesRow full cp).size + 1)
  (try simp only [World.size_alloc, size_drew] at h124)
  have H125 := Lib.hid h124
  have HE123 := Lib.hid (HE97.out.kept (drew_alloc_below _ (.cells (bytesRow full cp) 5 ((bytesRow full cp).size, (bytesRow full cp).size + 1))))
  have H127 := Lib.hid (H99.out.kept (drew_alloc_below _ (.cells (bytesRow full cp) 5 ((bytesRow full cp).size, (bytesRow full cp).size + 1))))
  clear h124 HE97 H99
  refine hKK.out _ _ ?_ (fun hh => ?_)
  · exact HE123.out.sO
  clear hKK KK hh
  try simp only [Act.put, List.setIfInBounds_toArray, List.set_cons_zero, List.set_cons_succ]
  refine wpAnyH_ready (rs := [9]) (by kernel_rfl) (by simp) ?_
  refine AllReadyH.cons (o := ?_) ?_ (fun KK hKK => ?_) AllReadyH.nil
  rotate_left
  · simp only [List.getElem?_toArray, List.getElem?_cons_zero, List.getElem?_cons_succ]
    rfl
  go_simp
  have h129 := HE123.out.new 5 #[.int .u8 (x0 : Int), .int .u8 (x1 : Int), .int .u8 (x2 : Int)]
  (try simp only [World.size_alloc, size_drew] at h129)
  have H130 := Lib.hid h129
  have HE128 := Lib.hid (HE123.out.kept ((Below.refl _ _).alloc (Nat.le_refl _) (.cells #[.int .u8 (x0 : Int), .int .u8 (x1 : Int), .int .u8 (x2 : Int)] 5)))
  have H132 := Lib.hid (H125.out.below ((Below.refl _ _).alloc (Nat.le_refl _) (.cells #[.int .u8 (x0 : Int), .int .u8 (x1 : Int), .int .u8 (x2 : Int)] 5)))
  have H133 := Lib.hid (H127.out.kept ((Below.refl _ _).alloc (Nat.le_refl _) (.cells #[.int .u8 (x0 : Int), .int .u8 (x1 : Int), .int .u8 (x2 : Int)] 5)))
  clear h129 HE123 H125 H127
  refine hKK.out _ _ ?_ (fun hh => ?_)
  · exact HE128.out.sO
  clear hKK KK hh
  try simp only [Act.put, List.setIfInBounds_toArray, List.set_cons_zero, List.set_cons_succ]
  refine wpAnyH_ready (rs := [13]) (by kernel_rfl) (by simp) ?_
  refine AllReadyH.cons (o := ?_) ?_ (fun KK hKK => ?_) AllReadyH.nil
  rotate_left
  · simp only [List.getElem?_toArray, List.getElem?_cons_zero, List.getElem?_cons_succ]
    rfl
  go_simp
  have h135 := HE128.out.new 22 #[.slice (some ⟨wr.heap.size + 1 + 1, 0, none⟩) 3 3, .slice (some ⟨wr.heap.size + 1, 0, none⟩) x2 cp, .slice (some ⟨wr.heap.size, 0, none⟩) 1 1]
  (try simp only [World.size_alloc, size_drew] at h135)
  have H136 := Lib.hid h135
  have HE134 := Lib.hid (HE128.out.kept ((Below.refl _ _).alloc (Nat.le_refl _) (.cells #[.slice (some ⟨wr.heap.size + 1 + 1, 0, none⟩) 3 3, .slice (some ⟨wr.heap.size + 1, 0, none⟩) x2 cp, .slice (some ⟨wr.heap.size, 0, none⟩) 1 1] 22)))
  have H138 := Lib.hid (H130.out.kept ((Below.refl _ _).alloc (Nat.le_refl _) (.cells #[.slice (some ⟨wr.heap.size + 1 + 1, 0, none⟩) 3 3, .slice (some ⟨wr.heap.size + 1, 0, none⟩) x2 cp, .slice (some ⟨wr.heap.size, 0, none⟩) 1 1] 22)))
  have H139 := Lib.hid (H132.out.below ((Below.refl _ _).alloc (Nat.le_refl _) (.cells #[.slice (some ⟨wr.heap.size + 1 + 1, 0, none⟩) 3 3, .slice (some ⟨wr.heap.size + 1, 0, none⟩) x2 cp, .slice (some ⟨wr.heap.size, 0, none⟩) 1 1] 22)))
  have H140 := Lib.hid (H133.out.kept ((Below.refl _ _).alloc (Nat.le_refl _) (.cells #[.slice (some ⟨wr.heap.size + 1 + 1, 0, none⟩) 3 3, .slice (some ⟨wr.heap.size + 1, 0, none⟩) x2 cp, .slice (some ⟨wr.heap.size, 0, none⟩) 1 1] 22)))
  clear h135 HE128 H130 H132 H133
  refine hKK.out _ _ ?_ (fun hh => ?_)
  · exact HE134.out.sO
  clear hKK KK hh
  try simp only [Act.put, List.setIfInBounds_toArray, List.set_cons_zero, List.set_cons_succ]
  refine wpAnyH_ready (rs := [14]) (by kernel_rfl) (by simp) ?_
  refine AllReadyH.cons (o := ?_) ?_ (fun KK hKK => ?_) AllReadyH.nil
  rotate_left
  · simp only [List.getElem?_toArray, List.getElem?_cons_zero, List.getElem?_cons_succ]
    rfl
  go_simp
  refine (lab_cat (c1 := cp) HE134.out HBL.out (by omega) H139.out H138.out H140.out H136.out).mono ?_
  rintro e w6 ⟨A6, n6, c6, rfl, hl6, hr6, hn6, hb6⟩
  try go_wp2_with fail
  have HE141 := Lib.hid (HE134.out.kept hb6)
  have HR142 := Lib.hid hr6
  have HL143 := Lib.hid hl6
  clear hb6 hr6 hl6 HE134 H138 H139 H140 H136
  refine hKK.out _ _ ?_ (fun hh => ?_)
  · exact HE141.out.sO
  clear hKK KK hh
  try simp only [Act.put, List.setIfInBounds_toArray, List.set_cons_zero, List.set_cons_succ]
  refine wpAnyH_ready (rs := [16]) (by kernel_rfl) (by simp) ?_
  refine AllReadyH.cons (o := ?_) ?_ (fun KK hKK => ?_) AllReadyH.nil
  rotate_left
  · simp only [List.getElem?_toArray, List.getElem?_cons_zero, List.getElem?_cons_succ]
    rfl
  go_simp
  refine (HEX.out _ A6 n6 c6 HE141.out HL143.out HR142.out hn6).mono ?_
  rintro e w7 ⟨v7, rfl, hv7, hb7⟩
  try go_wp2_with fail
  have HE144 := Lib.hid (HE141.out.kept hb7)
  rw [HINF.out] at hv7
  have HV := Lib.hid hv7
  clear hb7 hv7 HE141
  refine hKK.out _ _ ?_ (fun hh => ?_)
  · exact HE144.out.sO
  clear hKK KK hh
  try simp only [Act.put, List.setIfInBounds_toArray, List.set_cons_zero, List.set_cons_succ]
  refine wpAnyH_ready (rs := [17]) (by kernel_rfl) (by simp) ?_
  refine AllReadyH.cons (o := ?_) ?_ (fun KK hKK => ?_) AllReadyH.nil
  rotate_left
  · simp only [List.getElem?_toArray, List.getElem?_cons_zero, List.getElem?_cons_succ]
    rfl
  go_simp
  refine hKK.out _ _ ?_ (fun hh => ?_)
  · exact HE144.out.sO
  clear hKK KK hh
  try simp only [Act.put, List.setIfInBounds_toArray, List.set_cons_zero, List.set_cons_succ]
  refine wpAnyH_done (by kernel_rfl) ?_ _
  go_wp2
  go_ret
  exact ⟨_, rfl, HV.out, by rw [HB.out]; exact HE144.out.bel⟩
end Go.Proofs.YtanigdadhldceaaDoor
