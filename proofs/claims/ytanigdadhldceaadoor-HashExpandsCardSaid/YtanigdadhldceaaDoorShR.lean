/- Layer 7's Label of the document, walked; what both Expands and both Labels hand back, in one word. -/
import Derived.Test.YtanigdadhldceaaDoorShP
import Derived.Test.YtanigdadhldceaaDoorShJ
namespace Go.Proofs.YtanigdadhldceaaDoor
open Go Go.RowKit Go.Shelf
set_option linter.unusedVariables false
set_option linter.unusedSimpArgs false

def exS (s info : List Nat) (n : Int) : List Nat := if n < 0 ∨ 255 < n then [] else Sh.expand s info n.toNat
def RV (l : List Nat) (v : Value) (w : World) : Prop := ∃ A c, v = .slice A l.length c ∧ Rb w A l ∧ l.length ≤ 300
theorem RV.nil (w : World) : RV [] (.slice none 0 0) w := ⟨none, 0, rfl, fun h => (by cases h), by simp⟩
theorem RV.below {l : List Nat} {v : Value} {w w' : World} (h : RV l v w) (hb : Below w.heap.size w w') : RV l v w' := by
  obtain ⟨A, c, h1, h2, h3⟩ := h
  exact ⟨A, c, h1, h2.below hb, h3⟩
theorem ExV.rv {s info : List Nat} {n : Int} {v : Value} {w : World} (h : ExV s info n v w) : RV (exS s info n) v w := by
  rcases h with ⟨h1, rfl⟩ | ⟨k, rfl, hk, A, rfl, hr⟩
  · unfold exS; rw [if_pos h1]; exact RV.nil w
  · have : exS s info (k : Int) = Sh.expand s info k := by unfold exS; rw [if_neg (by omega)]; simp
    rw [this]
    have hl := Sh.expand_len s info k (exK_len s info)
    exact ⟨A, k, by rw [hl], hr, by rw [hl]; omega⟩
theorem rexpand_all (s info : List Nat) (A2 : Option Addr) (m d : Nat) (n : Int) (w : World) (ht : Tabs w) (hs : s.length = 32) (hs2 : ∀ x ∈ s, x < 256) (hA2 : Rb w A2 info) (hl2 : info.length = m) (hb2 : ∀ x ∈ info, x < 256) (hm : m ≤ 1800) :
    Calls Tryd.prog 16 #[.agg (cellsK .u8 s), .slice A2 m d, .int .i64 n] w fun e w' => ∃ v, e = .returned v ∧ RV (exS s info n) v w' ∧ Below w.heap.size w w' := by
  by_cases h : n < 0 ∨ 255 < n
  · refine (rexpand_no s A2 m d n w h).mono fun e w' ⟨h1, h2⟩ => ⟨_, h1, ?_, h2⟩
    unfold exS; rw [if_pos h]; exact RV.nil w'
  · obtain ⟨k, rfl⟩ := Int.eq_ofNat_of_zero_le (show 0 ≤ n by omega)
    refine (rexpand_any s info A2 m d k w ht hs hs2 hA2 hl2 hb2 hm (by omega)).mono fun e w' ⟨A, c, h1, h2, h3⟩ => ⟨_, h1, ?_, h3⟩
    have : exS s info (k : Int) = Sh.expand s info k := by unfold exS; rw [if_neg (by omega)]; simp
    rw [this]
    have hl := Sh.expand_len s info k (exK_len s info)
    exact ⟨A, c, by rw [hl], h2, by rw [hl]; omega⟩
def labS (s : List Nat) (lab : ByteArray) (n : Int) : List Nat := if 60 < lab.size then [] else exS s (infoL (bl lab) (n / 256 % 256).toNat (n % 256).toNat) n
theorem label_all (s : List Nat) (lab : ByteArray) (n : Int) (w : World) (ht : Tabs w) (hs : s.length = 32) (hs2 : ∀ x ∈ s, x < 256) (hlab : lab.size ≤ maxLen) :
    Calls Tryd.prog 17 #[.agg (cellsK .u8 s), .string lab, .int .i64 n] w fun e w' => ∃ v, e = .returned v ∧ RV (labS s lab n) v w' ∧ Below w.heap.size w w' := by
  by_cases h : 60 < lab.size
  · refine (label_no s lab n w h hlab).mono fun e w' ⟨h1, h2⟩ => ⟨_, h1, ?_, h2⟩
    unfold labS; rw [if_pos h]; exact RV.nil w'
  · refine (label_any s lab n w ht hs hs2 (by omega)).mono fun e w' ⟨v, h1, h2, h3⟩ => ⟨_, h1, ?_, h3⟩
    unfold labS; rw [if_neg h]; exact h2.rv
theorem lit_own (V : World) (B : Nat) (hB : B ≤ V.heap.size) (l : List Nat) (hl : l.length ≤ 1000) : (V.alloc (.cells (l.map b8).toArray 5)).ownsRow B 5 1 (.slice (some ⟨V.heap.size, 0, none⟩) l.length l.length) l.length (l.map b8) :=
  ⟨by simp, .inr ⟨V.heap.size, l.length, (l.map b8).toArray, rfl, hB, Obj.new V _ _, Nat.le_refl _, by unfold maxLen; omega, by simp, by simp [List.take_of_length_le]⟩⟩

set_option maxRecDepth 100000 in
set_option maxHeartbeats 400000 in
theorem rlabel_no (s : List Nat) (lab : ByteArray) (n : Int) (w : World) (h1 : 60 < lab.size ∨ n < 0 ∨ 255 < n) (h2 : lab.size ≤ maxLen) :
    Calls Tryd.prog 18 #[.agg (cellsK .u8 s), .string lab, .int .i64 n] w fun e w' => e = .returned (.slice none 0 0) ∧ Below w.heap.size w w' := by
  unfold maxLen at h2
  by_cases g1 : 60 < lab.size
  · have d1 : decide (60 < (lab.size : Int)) = true := by simp; omega
    go_enter Tryd.func18, Tryd.ntmps18
    go_wp2
    go_ret
    exact ⟨rfl, (Below.refl _ _).alloc (Nat.le_refl _) _⟩
  · have d1 : decide (60 < (lab.size : Int)) = false := by simp; omega
    by_cases g2 : n < 0
    · have d2 : decide (n < 0) = true := by simp; omega
      go_enter Tryd.func18, Tryd.ntmps18
      go_wp2
      go_ret
      exact ⟨rfl, (Below.refl _ _).alloc (Nat.le_refl _) _⟩
    · have d2 : decide (n < 0) = false := by simp; omega
      have d3 : decide (255 < n) = true := by simp; omega
      go_enter Tryd.func18, Tryd.ntmps18
      go_wp2
      go_ret
      exact ⟨rfl, (Below.refl _ _).alloc (Nat.le_refl _) _⟩

set_option maxRecDepth 100000 in
set_option maxHeartbeats 8000000 in
theorem rlabel_any (s : List Nat) (lab : ByteArray) (n : Nat) (w : World) (ht : Tabs w) (hs : s.length = 32) (hs2 : ∀ x ∈ s, x < 256) (hlab : lab.size ≤ 60) (hn : n ≤ 255) :
    Calls Tryd.prog 18 #[.agg (cellsK .u8 s), .string lab, .int .i64 (n : Int)] w fun e w' => ∃ v, e = .returned v ∧ RV (exS s (infoL (bl lab) 0 n) (n : Int)) v w' ∧ Below w.heap.size w w' := by
  have HT := Lib.hid ht
  have HS := Lib.hid hs
  have HS2 := Lib.hid hs2
  have e1 : IntKind.u8.wrap (n : Int) = (n : Int) := by rw [IntKind.wrap_u8]; omega
  have d1 : decide (60 < (lab.size : Int)) = false := by simp; omega
  have d2 : decide ((n : Int) < 0) = false := by simp
  have d3 : decide (255 < (n : Int)) = false := by simp; omega
  obtain ⟨full, hfull⟩ : ∃ f, full6 lab = f := ⟨_, rfl⟩
  have HFU : Hid ((⟨#[116, 108, 115, 49, 51, 32]⟩ : ByteArray) ++ lab = full) := hfull
  have hfu : (⟨#[116, 108, 115, 49, 51, 32]⟩ : ByteArray) ++ lab = full := hfull
  obtain ⟨x2, hx2⟩ : ∃ x, full.size = x := ⟨_, rfl⟩
  have hx2e : x2 = 6 + lab.size := by rw [← hx2, ← hfull, full6_size]
  have b2 : x2 ≤ 66 := by omega
  have e2 : IntKind.u8.wrap (x2 : Int) = (x2 : Int) := by rw [IntKind.wrap_u8]; omega
  have e3 : 6 + (lab.size : Int) = (x2 : Int) := by omega
  have hcv : ∀ w : World, (convert 9 22 (.string full)).run Tryd.prog w = .ok (.slice (some ⟨w.heap.size, 0, none⟩) x2 (grownCap w x2 0 5))
      (w.drew.alloc (.cells (bytesRow full (grownCap w x2 0 5)) 5 ((bytesRow full (grownCap w x2 0 5)).size, (bytesRow full (grownCap w x2 0 5)).size + 1))) := fun w => by
    rw [← hx2]
    exact run_bytes_of_string w _ _ _ full Tryd.underlying9 Tryd.underlying22 Tryd.underlying5
  have HBL : Hid ((bl full).length = x2) := by unfold Hid; rw [bl_len]; exact hx2
  have HINF : Hid ([0, n, x2] ++ bl full ++ [0] = infoL (bl lab) 0 n) := by
    unfold Hid infoL
    rw [← hx2, ← hfull, full6_size, full6_bl, bl_len]
  have HBI : Hid (∀ x ∈ [0, n, x2] ++ bl full ++ [0], x < 256) := fun x hx => by
    rcases List.mem_append.1 hx with hx | hx
    · rcases List.mem_append.1 hx with hx | hx
      · simp at hx; omega
      · exact bl_lt _ x hx
    · simp at hx; omega
  have HSX := Lib.hid hx2
  obtain ⟨wr, hwr⟩ : ∃ wr, w.alloc (.cells (cellsK .u8 s) 25) = wr := ⟨_, rfl⟩
  have HE0 : Hid (LbP w w.heap.size s wr) := hwr ▸ ⟨Obj.new w _ _, (Below.refl _ w).alloc (Nat.le_refl _) _⟩
  have HSZ := Lib.hid (sizeH hs)
  -- what region 3 makes
  obtain ⟨cp, hcp⟩ : ∃ cp, grownCap (wr.alloc (.cells #[.int .u8 0, .int .u8 (n : Int), .int .u8 (x2 : Int)] 5)) x2 0 5 = cp := ⟨_, rfl⟩
  have hlt := HE0.out.sO.lt
  have ho1 := lit_own wr (w.heap.size + 1) hlt [0, n, x2] (by simp)
  have ho2 := ownsRow_kept ho1 (drew_alloc_below _ (.cells (bytesRow full cp) 5 ((bytesRow full cp).size, (bytesRow full cp).size + 1)))
  have hE1 := HE0.out.kept (((Below.refl _ wr).alloc (Nat.le_refl _) (.cells ([0, n, x2].map b8).toArray 5)))
  have hE2 := hE1.kept (drew_alloc_below _ (.cells (bytesRow full cp) 5 ((bytesRow full cp).size, (bytesRow full cp).size + 1)))
  obtain ⟨v3, w3, hr3, ho3, hg3⟩ := own_app _ 22 ho2 (some ⟨wr.heap.size + 1, 0, none⟩) x2 cp (bl full) HBL.out (by
    have := bytes_rb (wr.alloc (.cells ([0, n, x2].map b8).toArray 5)) full cp ((bytesRow full cp).size, (bytesRow full cp).size + 1)
    rw [World.size_alloc] at this
    exact this) (by simp; omega) hE2.sO.lt
  have hE3 : LbP w w.heap.size s w3 := ⟨(hg3.block _ hE2.sO.lt (fun e => by have := (ho2.lt _ e.symm).1; omega)).trans hE2.sO, hE2.bel.grown hg3 (Nat.le_of_lt hE2.sO.lt) (fun q e => by have := (ho2.lt q e).1; omega)⟩
  obtain ⟨A3, c3, rfl, _, _, _, _, _⟩ := own_rb ho3
  -- what region 4 makes
  have hE4 : LbP w w.heap.size s w3.drew := hE3.kept (Below.refl _ w3).drew
  have ho4 := ownsRow_kept ho3 (Below.refl _ w3).drew
  have hE5 := hE4.kept ((Below.refl _ w3.drew).alloc (Nat.le_refl _) (.cells #[.int .u8 0] 5))
  have ho5 := ownsRow_kept ho4 ((Below.refl _ w3.drew).alloc (Nat.le_refl _) (.cells #[.int .u8 0] 5))
  obtain ⟨v6, w6, hr6, ho6, hg6⟩ := own_app _ 22 ho5 (some ⟨w3.heap.size, 0, none⟩) 1 1 [0] rfl (litL_rb w3.drew [0]) (by simp; omega) hE5.sO.lt
  have hE6 : LbP w w.heap.size s w6 := ⟨(hg6.block _ hE5.sO.lt (fun e => by have := (ho5.lt _ e.symm).1; omega)).trans hE5.sO, hE5.bel.grown hg6 (Nat.le_of_lt hE5.sO.lt) (fun q e => by have := (ho5.lt q e).1; omega)⟩
  obtain ⟨A6, c6, rfl, hl6, _, _, hR6, _⟩ := own_rb ho6
  obtain ⟨n3, hn3⟩ : ∃ n3, [0, n, x2].length + x2 = n3 := ⟨_, rfl⟩
  have hn3b : n3 ≤ 80 := by rw [← hn3]; simp; omega
  rw [hn3] at hr3 hr6 hl6
  have HEX : Hid (Calls Tryd.prog 16 #[.agg (cellsK .u8 s), .slice A6 (n3 + 1) c6, .int .i64 (n : Int)] w6 fun e w' => ∃ v, e = .returned v ∧ RV (exS s (infoL (bl lab) 0 n) (n : Int)) v w' ∧ Below w6.heap.size w6 w') := by
    rw [← HINF.out]
    exact rexpand_all s _ A6 (n3 + 1) c6 (n : Int) w6 (HT.out.below hE6.bel) HS.out HS2.out hR6 hl6 HBI.out (by omega)
  have HR3 := Lib.hid hr3
  have HR6 := Lib.hid hr6
  have HO4 := Lib.hid hE4.sO
  have HO5 := Lib.hid hE5.sO
  have HE6 := Lib.hid hE6
  clear ht hs hs2 hfull hx2 hx2e hlt ho1 ho2 hE1 hE2 hr3 ho3 hg3 hE3 hE4 ho4 hE5 ho5 hr6 ho6 hg6 hE6 hl6 hR6 hn3
  have hxs : full.size = x2 := HSX.out
  go_enter Tryd.func18, Tryd.ntmps18
  go_wp2_with (at_builtin; refine Lib.wpList_append_run _ rfl (.tmp 25) (.tmp 28) _ _ rfl _ _ rfl rfl _ _ HR3.out ?_)
  refine wp_region_held_drew (S := (fun wq => Obj wq w.heap.size 25 (cellsK .u8 s))) (by kernel_rfl) HO4.out (fun hHeld => ?_)
  refine wpAnyH_take (i := 0) (oi := ?_) (v := ?_) ?_ ?_ ?_ ?_ ?_ ?_ (by assumption) ?_
  rotate_left 2
  · simp only [List.getElem?_toArray, List.getElem?_cons_zero, List.getElem?_cons_succ]
    rfl
  · kernel_rfl
  · kernel_rfl
  · kernel_rfl
  · exact fun _ _ _ h => h
  · refine yieldsIf_load_row (g := w.heap.size) (t := 25) (cs := (cellsK .u8 s)) (ty := 25) (x := (.tmp 3)) ?_ ?_ ?_ ?_ Tryd.underlying25 rfl HSZ.out
    · rfl
    · rfl
    · rfl
    · exact fun w hSw => hSw
  simp only [Act.put, List.setIfInBounds_toArray, List.set_cons_zero, List.set_cons_succ]
  refine wpAnyH_take (i := 1) (oi := ?_) (v := ?_) ?_ ?_ ?_ ?_ ?_ ?_ (by assumption) ?_
  rotate_left 2
  · simp only [List.getElem?_toArray, List.getElem?_cons_zero, List.getElem?_cons_succ]
    rfl
  · kernel_rfl
  · kernel_rfl
  · kernel_rfl
  · exact fun _ _ _ h => h
  · refine Or.inl ⟨by rfl, ?_⟩
    intro w hSw
    (try dsimp only at hSw)
    go_simp
    all_goals with_reducible rfl
  simp only [Act.put, List.setIfInBounds_toArray, List.set_cons_zero, List.set_cons_succ]
  refine wpAnyH_take (i := 4) (oi := ?_) (v := ?_) ?_ ?_ ?_ ?_ ?_ ?_ (by assumption) ?_
  rotate_left 2
  · simp only [List.getElem?_toArray, List.getElem?_cons_zero, List.getElem?_cons_succ]
    rfl
  · kernel_rfl
  · kernel_rfl
  · kernel_rfl
  · exact fun _ _ _ h => h
  · refine Or.inl ⟨by rfl, ?_⟩
    intro w hSw
    (try dsimp only at hSw)
    go_simp
    all_goals with_reducible rfl
  simp only [Act.put, List.setIfInBounds_toArray, List.set_cons_zero, List.set_cons_succ]
  refine wpAnyH_ready (rs := [2]) (by kernel_rfl) (by simp) ?_
  refine AllReadyH.cons (o := ?_) ?_ (fun KK hKK => ?_) AllReadyH.nil
  rotate_left
  · simp only [List.getElem?_toArray, List.getElem?_cons_zero, List.getElem?_cons_succ]
    rfl
  go_simp
  refine hKK.out _ _ ?_ (fun hh1 => ?_)
  · (try dsimp only)
    exact HO5.out
  clear hKK KK
  try simp only [Act.put, List.setIfInBounds_toArray, List.set_cons_zero, List.set_cons_succ]
  refine wpAnyH_ready (rs := [3]) (by kernel_rfl) (by simp) ?_
  refine AllReadyH.cons (o := ?_) ?_ (fun KK hKK => ?_) AllReadyH.nil
  rotate_left
  · simp only [List.getElem?_toArray, List.getElem?_cons_zero, List.getElem?_cons_succ]
    rfl
  rw [if_pos (by rfl)]
  refine Lib.wp_append_run _ _ _ _ _ rfl _ _ rfl rfl _ _ HR6.out ?_
  refine hKK.out _ _ ?_ (fun hh2 => ?_)
  · (try dsimp only)
    exact HE6.out.sO
  clear hKK KK
  try simp only [Act.put, List.setIfInBounds_toArray, List.set_cons_zero, List.set_cons_succ]
  refine wpAnyH_ready (rs := [5]) (by kernel_rfl) (by simp) ?_
  refine AllReadyH.cons (o := ?_) ?_ (fun KK hKK => ?_) AllReadyH.nil
  rotate_left
  · simp only [List.getElem?_toArray, List.getElem?_cons_zero, List.getElem?_cons_succ]
    rfl
  go_simp
  refine HEX.out.mono ?_; rintro e w7 ⟨v7, rfl, hv7, hb7⟩
  try go_wp2_with fail
  have HE7 := Lib.hid (HE6.out.kept hb7)
  refine hKK.out _ _ ?_ (fun hh3 => ?_)
  · (try dsimp only)
    exact HE7.out.sO
  clear hKK KK
  try simp only [Act.put, List.setIfInBounds_toArray, List.set_cons_zero, List.set_cons_succ]
  refine wpAnyH_ready (rs := [6]) (by kernel_rfl) (by simp) ?_
  refine AllReadyH.cons (o := ?_) ?_ (fun KK hKK => ?_) AllReadyH.nil
  rotate_left
  · simp only [List.getElem?_toArray, List.getElem?_cons_zero, List.getElem?_cons_succ]
    rfl
  go_simp
  refine hKK.out _ _ ?_ (fun hh4 => ?_)
  · (try dsimp only)
    exact HE7.out.sO
  clear hKK KK
  try simp only [Act.put, List.setIfInBounds_toArray, List.set_cons_zero, List.set_cons_succ]
  refine wpAnyH_done (by kernel_rfl) ?_ _
  go_wp2
  go_ret
  exact ⟨_, rfl, hv7, HE7.out.bel⟩
end Go.Proofs.YtanigdadhldceaaDoor
