/- Layer 16's reasm, walked: Put, Final, Has. -/
import Derived.Test.YtdloeakmoaoalaaRows
import Derived.Test.YtdloeakmoaoalaaAid
import Derived.Test.YtdloeakmoaoalaaPlainRs
import Derived.Test.YtdloeakmoaoalaaRsW
import Derived.Test.YtdloeakmoaoalaaRsA
import Derived.Test.YtdloeakmoaoalaaRsF
import Derived.Test.YtdloeakmoaoalaaRsC
import Derived.Test.YtdloeakmoaoalaaRsD
import Derived.WalkKit
import Derived.OwnWalk
import Derived.Laws.Rows
import Derived.Laws.Tables
import Derived.WalkSpells
import Derived.WalkLawsBesides
import Derived.BigQuiet
import Derived.Handy
import Derived.Maps.OwnSet
import Derived.Lib.Hide
import Derived.IntWalk
namespace Go.Proofs.Ytdloeakmoaoalaa.Rm
open Go.RowKit Go.Maps
set_option linter.unusedVariables false
set_option linter.unusedSimpArgs false

theorem Bs.drewN {w : World} {a mb : Nat} {x : Rs.S} (h : Bs w a mb x) (q : Nat) : Bs (w.drewN q) a mb x := ⟨h.1.drewN q, h.2.to rfl⟩
theorem Upd2.drewN (a b : Nat) (w : World) (q : Nat) : Upd2 a b w (w.drewN q) := ⟨rfl, rfl, rfl, Nat.le_refl _, fun _ _ _ _ => rfl⟩
theorem cK_le (x : Rs.S) (off : Nat) : ∀ k, Rs.cK x off k ≤ x.cnt + k
  | 0 => Nat.le_refl _
  | k + 1 => by have := cK_le x off k; rw [Rs.cK_succ]; split <;> omega
theorem MpAt.not_cells {w : World} {mb b o : Nat} {f : Nat → Option Nat} {sz : Nat} {v : Value} (h : MpAt w mb f sz) (hc : w.cell? ⟨b, o, none⟩ = some v) : b ≠ mb := by
  rintro rfl
  obtain ⟨D, ⟨es, clock, h2, _⟩, _⟩ := h
  simp [World.cell?, h2] at hc
def MM : Nat := 4611686018427387903
theorem put_arg (a mb off m c : Nat) (A : Option Addr) (last : Bool) (w : World) (hm : m ≤ 100000) (hoff : off < 18446744073709551616) (h : 4611686018427387903 < off ∨ 4611686018427387903 < off + m) :
    Calls Try.prog 33 #[.pointer (some ⟨a, 0, none⟩), .int .u64 (off : Int), .slice A m c, .bool last] w fun e w' => e = .returned (.int .i64 1) ∧ w = w' := by
  have hw0 : IntKind.u64.wrap (m : Int) = (m : Int) := by rw [IntKind.wrap_u64]; omega
  obtain ⟨E, hE⟩ : ∃ E : Int, IntKind.u64.wrap ((off : Int) + (m : Int)) = E := ⟨_, rfl⟩
  by_cases h1 : 4611686018427387903 < off
  · have hd : decide ((4611686018427387903 : Int) < (off : Int)) = true := by simp; omega
    clear h h1 hoff hm
    go_enter Try.func33, Try.ntmps33
    go_wp2
    go_ret
    exact ⟨rfl, rfl⟩
  · have hd : decide ((4611686018427387903 : Int) < (off : Int)) = false := by simp; omega
    have he : decide ((4611686018427387903 : Int) < E) = true := by rw [← hE, IntKind.wrap_u64]; simp; omega
    clear h h1 hoff hm
    go_enter Try.func33, Try.ntmps33
    go_wp2
    go_ret
    exact ⟨rfl, rfl⟩
theorem put_flow (a mb off m c : Nat) (A : Option Addr) (last : Bool) (x : Rs.S) (w : World) (hm : m ≤ 100000) (hx : Bs w a mb x) (hok : Rs.Ok x) (h1 : off + m ≤ 4611686018427387903) (h2 : x.rd + x.win < off + m) :
    Calls Try.prog 33 #[.pointer (some ⟨a, 0, none⟩), .int .u64 (off : Int), .slice A m c, .bool last] w fun e w' => e = .returned (.int .i64 9) ∧ ∃ q, w' = w.drewN q := by
  have hw0 : IntKind.u64.wrap (m : Int) = (m : Int) := by rw [IntKind.wrap_u64]; omega
  have hwE : IntKind.u64.wrap ((off : Int) + (m : Int)) = ((off + m : Nat) : Int) := by rw [IntKind.wrap_u64]; omega
  obtain ⟨E, hE⟩ : ∃ E, off + m = E := ⟨_, rfl⟩
  rw [hE] at hwE
  have hd1 : decide ((4611686018427387903 : Int) < (off : Int)) = false := by simp; omega
  have hd2 : decide ((4611686018427387903 : Int) < (E : Int)) = false := by simp; omega
  have HLM := Lib.hid (limit_any a mb x w hx hok)
  have hd3 : decide (Rs.limit x < E) = true := by unfold Rs.limit; simp; omega
  clear hE h1 h2 hm hx hok
  generalize Rs.limit x = L at *
  go_enter Try.func33, Try.ntmps33
  go_wp2_with fail
  refine HLM.out.mono ?_
  rintro e w' ⟨rfl, q0, rfl⟩
  go_wp2
  go_ret
  exact ⟨rfl, _, rfl⟩
set_option maxHeartbeats 4000000 in
theorem put_fin (a mb off m c : Nat) (A : Option Addr) (last : Bool) (x : Rs.S) (w : World) (hm : m ≤ 100000) (hx : Bs w a mb x) (hok : Rs.Ok x) (h1 : off + m ≤ 4611686018427387903) (h2 : off + m ≤ x.rd + x.win)
    (h3 : (x.known = true ∧ (x.size < off + m ∨ (last = true ∧ off + m ≠ x.size))) ∨ (last = true ∧ off + m < x.top)) :
    Calls Try.prog 33 #[.pointer (some ⟨a, 0, none⟩), .int .u64 (off : Int), .slice A m c, .bool last] w fun e w' => e = .returned (.int .i64 10) ∧ ∃ q, w' = w.drewN q := by
  have hw0 : IntKind.u64.wrap (m : Int) = (m : Int) := by rw [IntKind.wrap_u64]; omega
  have hwE : IntKind.u64.wrap ((off : Int) + (m : Int)) = ((off + m : Nat) : Int) := by rw [IntKind.wrap_u64]; omega
  obtain ⟨E, hE⟩ : ∃ E, off + m = E := ⟨_, rfl⟩
  rw [hE] at hwE
  have hd1 : decide ((4611686018427387903 : Int) < (off : Int)) = false := by simp; omega
  have hd2 : decide ((4611686018427387903 : Int) < (E : Int)) = false := by simp; omega
  have HLM := Lib.hid (limit_any a mb x w hx hok)
  have hd3 : decide (Rs.limit x < E) = false := by unfold Rs.limit; simp; omega
  have f2 : w.cell? ⟨a, 2, none⟩ = some (.int .u64 (x.top : Int)) := by rw [hx.1.cell]; rfl
  have f3 : w.cell? ⟨a, 3, none⟩ = some (.int .u64 (x.size : Int)) := by rw [hx.1.cell]; rfl
  have f4 : w.cell? ⟨a, 4, none⟩ = some (.bool x.known) := by rw [hx.1.cell]; rfl
  rw [hE] at h3
  clear hE h1 h2 hm hx hok
  generalize Rs.limit x = L at *
  generalize x.known = kn at *
  generalize x.size = sz at *
  generalize x.top = tp at *
  by_cases hc1 : kn = true ∧ sz < E
  · obtain ⟨rfl, hs⟩ := hc1
    have hd4 : decide (sz < E) = true := by simp; omega
    clear h3 hs
    go_enter Try.func33, Try.ntmps33
    go_wp2_with fail
    refine HLM.out.mono ?_
    rintro e w' ⟨rfl, q0, rfl⟩
    go_wp2
    go_ret
    exact ⟨rfl, _, by first | rfl | (rw [World.drewN_drewN])⟩
  · by_cases hc2 : kn = true ∧ last = true ∧ E ≠ sz
    · obtain ⟨rfl, rfl, hs⟩ := hc2
      have hs0 : ¬ sz < E := fun h => hc1 ⟨rfl, h⟩
      have hd4 : decide (sz < E) = false := by simp; omega
      have hd5 : (E == sz) = false := by simpa using hs
      have hd6 : (E != sz) = true := by simpa using hs
      have hd8 : ((E : Int) != (sz : Int)) = true := by rw [bne_iff_ne]; omega
      clear h3 hs hs0 hc1
      go_enter Try.func33, Try.ntmps33
      go_wp2_with fail
      refine HLM.out.mono ?_
      rintro e w' ⟨rfl, q0, rfl⟩
      go_wp2
      go_ret
      exact ⟨rfl, _, by first | rfl | (rw [World.drewN_drewN])⟩
    · have hl : last = true ∧ E < tp := by
        rcases h3 with ⟨e, h | ⟨h, h'⟩⟩ | h
        · exact absurd ⟨e, h⟩ hc1
        · exact absurd ⟨e, h, h'⟩ hc2
        · exact h
      obtain ⟨rfl, ht⟩ := hl
      have hd7 : decide (E < tp) = true := by simp; omega
      cases kn with
      | false =>
        clear h3 ht hc1 hc2
        go_enter Try.func33, Try.ntmps33
        go_wp2_with fail
        refine HLM.out.mono ?_
        rintro e w' ⟨rfl, q0, rfl⟩
        go_wp2
        go_ret
        exact ⟨rfl, _, by first | rfl | (rw [World.drewN_drewN])⟩
      | true =>
        have he : E = sz := by
          by_cases e : E = sz
          · exact e
          · exact absurd ⟨rfl, rfl, e⟩ hc2
        subst he
        clear h3 ht hc1 hc2
        go_enter Try.func33, Try.ntmps33
        go_wp2_with fail
        refine HLM.out.mono ?_
        rintro e w' ⟨rfl, q0, rfl⟩
        go_wp2
        go_ret
        exact ⟨rfl, _, by first | rfl | (rw [World.drewN_drewN])⟩
set_option maxRecDepth 100000 in
set_option maxHeartbeats 8000000 in
theorem put_ok (a mb off c : Nat) (A : Option Addr) (d : List Nat) (last : Bool) (x : Rs.S) (w : World) (hA : Rb w A d) (hb : ∀ c ∈ d, c < 256) (hl : d.length ≤ 100000) (hlc : d.length ≤ c ∧ c ≤ maxLen) (hx : Bs w a mb x) (hok : Rs.Ok x) (he0 : Rs.err x off d.length last = 0) :
    Calls Try.prog 33 #[.pointer (some ⟨a, 0, none⟩), .int .u64 (off : Int), .slice A d.length c, .bool last] w fun e w' => e = .returned (.int .i64 0) ∧ Bs w' a mb (Rs.put x off d last) ∧ Upd2 a mb w w' := by
  obtain ⟨h2, h1⟩ := Rs.err_lim he0
  have h3 : ¬ ((x.known = true ∧ (x.size < off + d.length ∨ (last = true ∧ off + d.length ≠ x.size))) ∨ (last = true ∧ off + d.length < x.top)) := by
    intro h
    unfold Rs.err at he0
    rw [if_neg (by omega), if_neg (by omega), if_pos h] at he0
    cases he0
  have hput : Rs.put x off d last = { x with m := Rs.mK x off d d.length, cnt := Rs.cK x off d.length, top := max x.top (off + d.length), size := if last then off + d.length else x.size, known := x.known || last } := by unfold Rs.put; rw [if_pos he0]
  have HD : Hid (∀ k, k < d.length → ∃ b o, A = some ⟨b, o, none⟩ ∧ ∃ v, v < 256 ∧ d.getD k 0 = v ∧ ∀ wr, Upd2 a mb w wr → wr.cell? ⟨b, o + k, none⟩ = some (.int .u8 (v : Int))) := fun k hk => by
    obtain ⟨b, o, e, hbl, hc⟩ := hA (by omega)
    have hck := hc k hk
    refine ⟨b, o, e, d.getD k 0, ?_, rfl, fun wr hu => ?_⟩
    · rw [List.getD_eq_getElem?_getD, List.getElem?_eq_getElem hk]; exact hb _ (List.getElem_mem hk)
    · have n1 := hx.2.not_cells hck
      have n2 : b ≠ a := by
        rintro rfl
        have := (hx.1.cell (o + k)).symm.trans hck
        generalize o + k = i at this
        rcases i with _ | _ | _ | _ | _ | _ | i <;> simp [b8] at this
      exact (World.cell?_of_block (hu.block b hbl n2 n1)).trans hck
  have HS := Lib.hid (Rs.mK_step x off d)
  have HCN : Hid (∀ k, k ≤ d.length → Rs.cK x off k < 1000000) := fun k hk => by have := cK_le x off k; have := hok.held; have := hok.win; omega
  have HZ : Hid (Rs.mK x off d 0 = x.m ∧ Rs.cK x off 0 = x.cnt) := ⟨Rs.mK_zero x off d, rfl⟩
  have hrd := hok.rd
  have hab := hx.ne
  obtain ⟨m, hm⟩ : ∃ m, d.length = m := ⟨_, rfl⟩
  rw [hm] at h1 h2 h3 hl hlc HD HCN hput ⊢
  have hci : m ≤ c ∧ c ≤ 9223372036854775807 := ⟨hlc.1, by have := hlc.2; simp only [maxLen] at this; omega⟩
  have hm' : m ≤ 100000 := hl
  have hw0 : IntKind.u64.wrap (m : Int) = (m : Int) := by rw [IntKind.wrap_u64]; omega
  have hwE : IntKind.u64.wrap ((off : Int) + (m : Int)) = ((off + m : Nat) : Int) := by rw [IntKind.wrap_u64]; omega
  obtain ⟨E, hE⟩ : ∃ E, off + m = E := ⟨_, rfl⟩
  rw [hE] at hwE
  have hd1 : decide ((4611686018427387903 : Int) < (off : Int)) = false := by simp; omega
  have hd2 : decide ((4611686018427387903 : Int) < (E : Int)) = false := by simp; omega
  have HLM := Lib.hid (limit_any a mb x w hx hok)
  have hd3 : decide (Rs.limit x < E) = false := by unfold Rs.limit; simp; omega
  rw [hE] at h3 hput
  have HE : Hid (off + m = E ∧ E ≤ 4611686018427387903) := ⟨hE, by omega⟩
  have HAB := Lib.hid hab
  have HX := Lib.hid hx
  have HFIN : Hid (∀ w1 w2 w3 : World, Obj w1 a 72 #[.int .i64 (x.win : Int), .int .u64 (x.rd : Int), .int .u64 (x.top : Int), .int .u64 (x.size : Int), .bool x.known, .map (some mb)] → MpAt w1 mb (Rs.mK x off d m) (Rs.cK x off m) → Upd2 a mb w w1 →
      w2 = w1.setCell ⟨a, 2, none⟩ (.int .u64 ((max x.top E : Nat) : Int)) → w3 = (if last = true then (w2.setCell ⟨a, 3, none⟩ (.int .u64 (E : Int))).setCell ⟨a, 4, none⟩ (.bool true) else w2) →
      Bs w3 a mb (Rs.put x off d last) ∧ Upd2 a mb w w3) := by
    rw [hput]
    intro w1 w2 w3 ho hmp hu e2 e3
    have o2 := ho.set 2 (.int .u64 ((max x.top E : Nat) : Int))
    have u2 : Upd a w1 w2 := e2 ▸ (Upd.refl a w1).set 2 _
    rw [← e2] at o2
    have m2 := hmp.upd u2 (fun e => hab e.symm)
    cases last with
    | false =>
      rw [if_neg (by simp)] at e3
      subst e3
      exact ⟨⟨o2.as (by simp), m2⟩, hu.trans (Upd2.left u2 mb)⟩
    | true =>
      rw [if_pos rfl] at e3
      have o3 := (o2.set 3 (.int .u64 (E : Int))).set 4 (.bool true)
      have u3 : Upd a w2 w3 := e3 ▸ ((Upd.refl a w2).set 3 _).set 4 _
      rw [← e3] at o3
      exact ⟨⟨o3.as (by simp), m2.upd u3 (fun e => hab e.symm)⟩, hu.trans ((Upd2.left u2 mb).trans (Upd2.left u3 mb))⟩
  have HC : Hid ((x.known = false ∧ last = false) ∨ (x.known = false ∧ last = true ∧ x.top ≤ E) ∨ (x.known = true ∧ last = false ∧ E ≤ x.size) ∨ (x.known = true ∧ last = true ∧ E = x.size ∧ x.top ≤ E)) := by
    unfold Hid
    cases hk : x.known <;> cases last <;> simp_all <;> omega
  generalize Rs.put x off d last = y at HFIN ⊢
  clear hput he0 hA hb h1 h2 h3 hE hm hlc hab hx hok hl
  go_enter Try.func33, Try.ntmps33
  go_wp2_with fail
  refine HLM.out.mono ?_
  rintro e w' ⟨rfl, q0, rfl⟩
  have hu0 := Upd2.drewN a mb w q0
  have hx0 := HX.out.drewN q0
  obtain ⟨W, hW⟩ : ∃ W, w.drewN q0 = W := ⟨_, rfl⟩
  rw [hW] at hu0 hx0 ⊢
  clear hW HLM
  have f1 : W.cell? ⟨a, 1, none⟩ = some (.int .u64 (x.rd : Int)) := by rw [hx0.1.cell]; rfl
  have f2 : W.cell? ⟨a, 2, none⟩ = some (.int .u64 (x.top : Int)) := by rw [hx0.1.cell]; rfl
  have f3 : W.cell? ⟨a, 3, none⟩ = some (.int .u64 (x.size : Int)) := by rw [hx0.1.cell]; rfl
  have f4 : W.cell? ⟨a, 4, none⟩ = some (.bool x.known) := by rw [hx0.1.cell]; rfl
  have HU0 := Lib.hid hu0
  have HX0 := Lib.hid hx0
  clear hu0 hx0
  obtain ⟨tp, htp⟩ : ∃ tp, x.top = tp := ⟨_, rfl⟩
  obtain ⟨sz, hsz⟩ : ∃ sz, x.size = sz := ⟨_, rfl⟩
  obtain ⟨kn, hkn⟩ : ∃ kn, x.known = kn := ⟨_, rfl⟩
  obtain ⟨rd, hrd'⟩ : ∃ rd, x.rd = rd := ⟨_, rfl⟩
  have HXX : Hid (x.top = tp ∧ x.size = sz ∧ x.known = kn ∧ x.rd = rd) := ⟨htp, hsz, hkn, hrd'⟩
  rw [htp] at f2
  rw [hsz] at f3
  rw [hkn] at f4
  rw [hrd'] at f1 hrd
  have hcc := HC.out
  rw [htp, hsz, hkn] at hcc
  clear htp hsz hkn hrd' HC
  generalize Rs.limit x = L at *
  rcases hcc with ⟨rfl, rfl⟩ | ⟨rfl, rfl, ht⟩ | ⟨rfl, rfl, hs⟩ | ⟨rfl, rfl, rfl, ht⟩
  · skip
    go_wp2
    clear f2 f3 f4 hd1 hd2 hd3 hw0 hwE
    go_loopw [67] (fun i wr => ∃ k : Nat, k ≤ m ∧ i = .int .i64 k ∧ Obj wr a 72 #[.int .i64 (x.win : Int), .int .u64 (x.rd : Int), .int .u64 (x.top : Int), .int .u64 (x.size : Int), .bool x.known, .map (some mb)] ∧ MpAt wr mb (Rs.mK x off d k) (Rs.cK x off k) ∧ Upd2 a mb w wr) (fun i _ => m - (intOf i).toNat)
    case atStart => exact ⟨0, Nat.zero_le _, rfl, HX0.out.1, by rw [HZ.out.1, HZ.out.2]; exact HX0.out.2, HU0.out⟩
    case round =>
      obtain ⟨k, hk, rfl, hO, hM, hU⟩ := hrel
      have HO := Lib.hid hO
      have HM := Lib.hid hM
      have HU := Lib.hid hU
      have g1 : wr.cell? ⟨a, 1, none⟩ = some (.int .u64 (rd : Int)) := by rw [hO.cell, ← HXX.out.2.2.2]; rfl
      have g2 : wr.cell? ⟨a, 2, none⟩ = some (.int .u64 (tp : Int)) := by rw [hO.cell, ← HXX.out.1]; rfl
      have g5 : wr.cell? ⟨a, 5, none⟩ = some (.map (some mb)) := by rw [hO.cell]; rfl
      have g3 : wr.cell? ⟨a, 3, none⟩ = some (.int .u64 (x.size : Int)) := by rw [hO.cell]; rfl
      have g4 : wr.cell? ⟨a, 4, none⟩ = some (.bool x.known) := by rw [hO.cell]; rfl
      have z2 := hO.free 2
      have z3 := hO.free 3
      have z4 := hO.free 4
      clear hO hM hU
      by_cases hlt : k < m
      · obtain ⟨b, o, rfl, v, hv, hdv, hcell⟩ := HD.out k hlt
        have gd := hcell wr HU.out
        have HDV := Lib.hid hdv
        obtain ⟨p, hp⟩ : ∃ p, off + k = p := ⟨_, rfl⟩
        have hp64 : p < 18446744073709551616 := by have := HE.out; omega
        have hpm : p < 4611686018427387904 := by have := HE.out; omega
        have hwk : IntKind.u64.wrap (k : Int) = (k : Int) := by rw [IntKind.wrap_u64]; omega
        have hwp : IntKind.u64.wrap ((off : Int) + (k : Int)) = (p : Int) := by rw [IntKind.wrap_u64]; omega
        have hki : (k : Int) < (m : Int) := by omega
        obtain ⟨s1, s2, s3⟩ := HS.out k
        rw [hp] at s1 s2 s3
        have HS2 := Lib.hid s2
        have HS3 := Lib.hid s3
        have HP := Lib.hid hp
        have hck := HCN.out k (by omega)
        have HR := HXX.out.2.2.2
        rw [HR] at s2 s3
        have HNX : Hid (∀ wr', MpAt wr' mb (Rs.mK x off d (k + 1)) (Rs.cK x off (k + 1)) → Upd mb wr wr' → Obj wr' a 72 #[.int .i64 (x.win : Int), .int .u64 (x.rd : Int), .int .u64 (x.top : Int), .int .u64 (x.size : Int), .bool x.known, .map (some mb)] ∧ MpAt wr' mb (Rs.mK x off d (k + 1)) (Rs.cK x off (k + 1)) ∧ Upd2 a mb w wr') := fun wr' h h' => ⟨HO.out.upd h' HAB.out, h, HU.out.trans (Upd2.right h' a)⟩
        clear hcell hdv hp s2 s3
        generalize hN : Rs.mK x off d k = f at *
        generalize hM' : Rs.cK x off k = sz' at *
        have HN' := Lib.hid hN
        have HM' := Lib.hid hM'
        clear hN hM'
        cases hxp : x.m p with
        | some c0 =>
          rw [hxp] at s1
          have HF := Lib.hid s1
          have hn := HS3.out (by rw [hxp]; simp)
          have HN := Lib.hid hn
          clear s1 hn hxp HR
          go_wp2_with (refine wpList_mlook _ rfl _ _ rfl rfl HM.out p hp64 rfl ?_; rw [HF.out])
          go_roundw
          case rel => exact ⟨k + 1, by omega, by go_num, HNX.out _ (by rw [HN.out.1, HN.out.2]; exact HM.out) (Upd.refl _ _)⟩
          case measure => simp [intOf]; omega
        | none =>
          rw [hxp] at s1
          have HF := Lib.hid s1
          by_cases hpr : rd ≤ p
          · have hd : decide (rd ≤ p) = true := by simpa using hpr
            have hn := HS2.out (by rw [HR]; exact hpr) hxp
            rw [HDV.out] at hn
            have HN := Lib.hid hn
            clear s1 hn hxp HR
            go_wp2_with (first | (refine wpList_mlook _ rfl _ _ rfl rfl HM.out p hp64 rfl ?_; rw [HF.out]) | (refine wpList_mput _ rfl _ _ _ rfl rfl HM.out hck p hp64 rfl v hv rfl HF.out ?_; intro w5 hm5 hu5))
            have HM5 := Lib.hid hm5
            have HU5 := Lib.hid hu5
            clear hm5 hu5
            go_roundw
            case rel => exact ⟨k + 1, by omega, by go_num, HNX.out _ (by rw [HN.out.1, HN.out.2]; exact HM5.out) HU5.out⟩
            case measure => simp [intOf]; omega
          · have hd : decide (rd ≤ p) = false := by simpa using hpr
            have hn := HS3.out (by rw [HR]; exact fun h => hpr h.1)
            have HN := Lib.hid hn
            clear s1 hn hxp HR
            go_wp2_with (refine wpList_mlook _ rfl _ _ rfl rfl HM.out p hp64 rfl ?_; rw [HF.out])
            go_roundw
            case rel => exact ⟨k + 1, by omega, by go_num, HNX.out _ (by rw [HN.out.1, HN.out.2]; exact HM.out) (Upd.refl _ _)⟩
            case measure => simp [intOf]; omega
      · obtain rfl : k = m := by omega
        clear HD HS HCN
        by_cases htE : tp < E
        · have HMX : Hid (max x.top E = E) := by unfold Hid; rw [HXX.out.1]; omega
          go_wp2
          go_ret
          exact ⟨rfl, HFIN.out _ _ _ HO.out HM.out HU.out rfl (by simp [HMX.out])⟩
        · have HMX : Hid (max x.top E = tp) := by unfold Hid; rw [HXX.out.1]; omega
          go_wp2
          go_ret
          exact ⟨rfl, HFIN.out _ _ _ HO.out HM.out HU.out rfl (by simp [HMX.out])⟩
  · have hd7 : decide (E < tp) = false := by simp; omega
    clear ht
    go_wp2
    clear f2 f3 f4 hd1 hd2 hd3 hw0 hwE
    go_loopw [67] (fun i wr => ∃ k : Nat, k ≤ m ∧ i = .int .i64 k ∧ Obj wr a 72 #[.int .i64 (x.win : Int), .int .u64 (x.rd : Int), .int .u64 (x.top : Int), .int .u64 (x.size : Int), .bool x.known, .map (some mb)] ∧ MpAt wr mb (Rs.mK x off d k) (Rs.cK x off k) ∧ Upd2 a mb w wr) (fun i _ => m - (intOf i).toNat)
    case atStart => exact ⟨0, Nat.zero_le _, rfl, HX0.out.1, by rw [HZ.out.1, HZ.out.2]; exact HX0.out.2, HU0.out⟩
    case round =>
      obtain ⟨k, hk, rfl, hO, hM, hU⟩ := hrel
      have HO := Lib.hid hO
      have HM := Lib.hid hM
      have HU := Lib.hid hU
      have g1 : wr.cell? ⟨a, 1, none⟩ = some (.int .u64 (rd : Int)) := by rw [hO.cell, ← HXX.out.2.2.2]; rfl
      have g2 : wr.cell? ⟨a, 2, none⟩ = some (.int .u64 (tp : Int)) := by rw [hO.cell, ← HXX.out.1]; rfl
      have g5 : wr.cell? ⟨a, 5, none⟩ = some (.map (some mb)) := by rw [hO.cell]; rfl
      have g3 : wr.cell? ⟨a, 3, none⟩ = some (.int .u64 (x.size : Int)) := by rw [hO.cell]; rfl
      have g4 : wr.cell? ⟨a, 4, none⟩ = some (.bool x.known) := by rw [hO.cell]; rfl
      have z2 := hO.free 2
      have z3 := hO.free 3
      have z4 := hO.free 4
      clear hO hM hU
      by_cases hlt : k < m
      · obtain ⟨b, o, rfl, v, hv, hdv, hcell⟩ := HD.out k hlt
        have gd := hcell wr HU.out
        have HDV := Lib.hid hdv
        obtain ⟨p, hp⟩ : ∃ p, off + k = p := ⟨_, rfl⟩
        have hp64 : p < 18446744073709551616 := by have := HE.out; omega
        have hpm : p < 4611686018427387904 := by have := HE.out; omega
        have hwk : IntKind.u64.wrap (k : Int) = (k : Int) := by rw [IntKind.wrap_u64]; omega
        have hwp : IntKind.u64.wrap ((off : Int) + (k : Int)) = (p : Int) := by rw [IntKind.wrap_u64]; omega
        have hki : (k : Int) < (m : Int) := by omega
        obtain ⟨s1, s2, s3⟩ := HS.out k
        rw [hp] at s1 s2 s3
        have HS2 := Lib.hid s2
        have HS3 := Lib.hid s3
        have HP := Lib.hid hp
        have hck := HCN.out k (by omega)
        have HR := HXX.out.2.2.2
        rw [HR] at s2 s3
        have HNX : Hid (∀ wr', MpAt wr' mb (Rs.mK x off d (k + 1)) (Rs.cK x off (k + 1)) → Upd mb wr wr' → Obj wr' a 72 #[.int .i64 (x.win : Int), .int .u64 (x.rd : Int), .int .u64 (x.top : Int), .int .u64 (x.size : Int), .bool x.known, .map (some mb)] ∧ MpAt wr' mb (Rs.mK x off d (k + 1)) (Rs.cK x off (k + 1)) ∧ Upd2 a mb w wr') := fun wr' h h' => ⟨HO.out.upd h' HAB.out, h, HU.out.trans (Upd2.right h' a)⟩
        clear hcell hdv hp s2 s3
        generalize hN : Rs.mK x off d k = f at *
        generalize hM' : Rs.cK x off k = sz' at *
        have HN' := Lib.hid hN
        have HM' := Lib.hid hM'
        clear hN hM'
        cases hxp : x.m p with
        | some c0 =>
          rw [hxp] at s1
          have HF := Lib.hid s1
          have hn := HS3.out (by rw [hxp]; simp)
          have HN := Lib.hid hn
          clear s1 hn hxp HR
          go_wp2_with (refine wpList_mlook _ rfl _ _ rfl rfl HM.out p hp64 rfl ?_; rw [HF.out])
          go_roundw
          case rel => exact ⟨k + 1, by omega, by go_num, HNX.out _ (by rw [HN.out.1, HN.out.2]; exact HM.out) (Upd.refl _ _)⟩
          case measure => simp [intOf]; omega
        | none =>
          rw [hxp] at s1
          have HF := Lib.hid s1
          by_cases hpr : rd ≤ p
          · have hd : decide (rd ≤ p) = true := by simpa using hpr
            have hn := HS2.out (by rw [HR]; exact hpr) hxp
            rw [HDV.out] at hn
            have HN := Lib.hid hn
            clear s1 hn hxp HR
            go_wp2_with (first | (refine wpList_mlook _ rfl _ _ rfl rfl HM.out p hp64 rfl ?_; rw [HF.out]) | (refine wpList_mput _ rfl _ _ _ rfl rfl HM.out hck p hp64 rfl v hv rfl HF.out ?_; intro w5 hm5 hu5))
            have HM5 := Lib.hid hm5
            have HU5 := Lib.hid hu5
            clear hm5 hu5
            go_roundw
            case rel => exact ⟨k + 1, by omega, by go_num, HNX.out _ (by rw [HN.out.1, HN.out.2]; exact HM5.out) HU5.out⟩
            case measure => simp [intOf]; omega
          · have hd : decide (rd ≤ p) = false := by simpa using hpr
            have hn := HS3.out (by rw [HR]; exact fun h => hpr h.1)
            have HN := Lib.hid hn
            clear s1 hn hxp HR
            go_wp2_with (refine wpList_mlook _ rfl _ _ rfl rfl HM.out p hp64 rfl ?_; rw [HF.out])
            go_roundw
            case rel => exact ⟨k + 1, by omega, by go_num, HNX.out _ (by rw [HN.out.1, HN.out.2]; exact HM.out) (Upd.refl _ _)⟩
            case measure => simp [intOf]; omega
      · obtain rfl : k = m := by omega
        clear HD HS HCN
        by_cases htE : tp < E
        · have HMX : Hid (max x.top E = E) := by unfold Hid; rw [HXX.out.1]; omega
          go_wp2
          go_ret
          exact ⟨rfl, HFIN.out _ _ _ HO.out HM.out HU.out rfl (by simp [HMX.out])⟩
        · have HMX : Hid (max x.top E = tp) := by unfold Hid; rw [HXX.out.1]; omega
          go_wp2
          go_ret
          exact ⟨rfl, HFIN.out _ _ _ HO.out HM.out HU.out rfl (by simp [HMX.out])⟩
  · have hd4 : decide (sz < E) = false := by simp; omega
    clear hs
    go_wp2
    clear f2 f3 f4 hd1 hd2 hd3 hw0 hwE
    go_loopw [67] (fun i wr => ∃ k : Nat, k ≤ m ∧ i = .int .i64 k ∧ Obj wr a 72 #[.int .i64 (x.win : Int), .int .u64 (x.rd : Int), .int .u64 (x.top : Int), .int .u64 (x.size : Int), .bool x.known, .map (some mb)] ∧ MpAt wr mb (Rs.mK x off d k) (Rs.cK x off k) ∧ Upd2 a mb w wr) (fun i _ => m - (intOf i).toNat)
    case atStart => exact ⟨0, Nat.zero_le _, rfl, HX0.out.1, by rw [HZ.out.1, HZ.out.2]; exact HX0.out.2, HU0.out⟩
    case round =>
      obtain ⟨k, hk, rfl, hO, hM, hU⟩ := hrel
      have HO := Lib.hid hO
      have HM := Lib.hid hM
      have HU := Lib.hid hU
      have g1 : wr.cell? ⟨a, 1, none⟩ = some (.int .u64 (rd : Int)) := by rw [hO.cell, ← HXX.out.2.2.2]; rfl
      have g2 : wr.cell? ⟨a, 2, none⟩ = some (.int .u64 (tp : Int)) := by rw [hO.cell, ← HXX.out.1]; rfl
      have g5 : wr.cell? ⟨a, 5, none⟩ = some (.map (some mb)) := by rw [hO.cell]; rfl
      have g3 : wr.cell? ⟨a, 3, none⟩ = some (.int .u64 (x.size : Int)) := by rw [hO.cell]; rfl
      have g4 : wr.cell? ⟨a, 4, none⟩ = some (.bool x.known) := by rw [hO.cell]; rfl
      have z2 := hO.free 2
      have z3 := hO.free 3
      have z4 := hO.free 4
      clear hO hM hU
      by_cases hlt : k < m
      · obtain ⟨b, o, rfl, v, hv, hdv, hcell⟩ := HD.out k hlt
        have gd := hcell wr HU.out
        have HDV := Lib.hid hdv
        obtain ⟨p, hp⟩ : ∃ p, off + k = p := ⟨_, rfl⟩
        have hp64 : p < 18446744073709551616 := by have := HE.out; omega
        have hpm : p < 4611686018427387904 := by have := HE.out; omega
        have hwk : IntKind.u64.wrap (k : Int) = (k : Int) := by rw [IntKind.wrap_u64]; omega
        have hwp : IntKind.u64.wrap ((off : Int) + (k : Int)) = (p : Int) := by rw [IntKind.wrap_u64]; omega
        have hki : (k : Int) < (m : Int) := by omega
        obtain ⟨s1, s2, s3⟩ := HS.out k
        rw [hp] at s1 s2 s3
        have HS2 := Lib.hid s2
        have HS3 := Lib.hid s3
        have HP := Lib.hid hp
        have hck := HCN.out k (by omega)
        have HR := HXX.out.2.2.2
        rw [HR] at s2 s3
        have HNX : Hid (∀ wr', MpAt wr' mb (Rs.mK x off d (k + 1)) (Rs.cK x off (k + 1)) → Upd mb wr wr' → Obj wr' a 72 #[.int .i64 (x.win : Int), .int .u64 (x.rd : Int), .int .u64 (x.top : Int), .int .u64 (x.size : Int), .bool x.known, .map (some mb)] ∧ MpAt wr' mb (Rs.mK x off d (k + 1)) (Rs.cK x off (k + 1)) ∧ Upd2 a mb w wr') := fun wr' h h' => ⟨HO.out.upd h' HAB.out, h, HU.out.trans (Upd2.right h' a)⟩
        clear hcell hdv hp s2 s3
        generalize hN : Rs.mK x off d k = f at *
        generalize hM' : Rs.cK x off k = sz' at *
        have HN' := Lib.hid hN
        have HM' := Lib.hid hM'
        clear hN hM'
        cases hxp : x.m p with
        | some c0 =>
          rw [hxp] at s1
          have HF := Lib.hid s1
          have hn := HS3.out (by rw [hxp]; simp)
          have HN := Lib.hid hn
          clear s1 hn hxp HR
          go_wp2_with (refine wpList_mlook _ rfl _ _ rfl rfl HM.out p hp64 rfl ?_; rw [HF.out])
          go_roundw
          case rel => exact ⟨k + 1, by omega, by go_num, HNX.out _ (by rw [HN.out.1, HN.out.2]; exact HM.out) (Upd.refl _ _)⟩
          case measure => simp [intOf]; omega
        | none =>
          rw [hxp] at s1
          have HF := Lib.hid s1
          by_cases hpr : rd ≤ p
          · have hd : decide (rd ≤ p) = true := by simpa using hpr
            have hn := HS2.out (by rw [HR]; exact hpr) hxp
            rw [HDV.out] at hn
            have HN := Lib.hid hn
            clear s1 hn hxp HR
            go_wp2_with (first | (refine wpList_mlook _ rfl _ _ rfl rfl HM.out p hp64 rfl ?_; rw [HF.out]) | (refine wpList_mput _ rfl _ _ _ rfl rfl HM.out hck p hp64 rfl v hv rfl HF.out ?_; intro w5 hm5 hu5))
            have HM5 := Lib.hid hm5
            have HU5 := Lib.hid hu5
            clear hm5 hu5
            go_roundw
            case rel => exact ⟨k + 1, by omega, by go_num, HNX.out _ (by rw [HN.out.1, HN.out.2]; exact HM5.out) HU5.out⟩
            case measure => simp [intOf]; omega
          · have hd : decide (rd ≤ p) = false := by simpa using hpr
            have hn := HS3.out (by rw [HR]; exact fun h => hpr h.1)
            have HN := Lib.hid hn
            clear s1 hn hxp HR
            go_wp2_with (refine wpList_mlook _ rfl _ _ rfl rfl HM.out p hp64 rfl ?_; rw [HF.out])
            go_roundw
            case rel => exact ⟨k + 1, by omega, by go_num, HNX.out _ (by rw [HN.out.1, HN.out.2]; exact HM.out) (Upd.refl _ _)⟩
            case measure => simp [intOf]; omega
      · obtain rfl : k = m := by omega
        clear HD HS HCN
        by_cases htE : tp < E
        · have HMX : Hid (max x.top E = E) := by unfold Hid; rw [HXX.out.1]; omega
          go_wp2
          go_ret
          exact ⟨rfl, HFIN.out _ _ _ HO.out HM.out HU.out rfl (by simp [HMX.out])⟩
        · have HMX : Hid (max x.top E = tp) := by unfold Hid; rw [HXX.out.1]; omega
          go_wp2
          go_ret
          exact ⟨rfl, HFIN.out _ _ _ HO.out HM.out HU.out rfl (by simp [HMX.out])⟩
  · have hd7 : decide (E < tp) = false := by simp; omega
    clear ht
    go_wp2
    clear f2 f3 f4 hd1 hd2 hd3 hw0 hwE
    go_loopw [67] (fun i wr => ∃ k : Nat, k ≤ m ∧ i = .int .i64 k ∧ Obj wr a 72 #[.int .i64 (x.win : Int), .int .u64 (x.rd : Int), .int .u64 (x.top : Int), .int .u64 (x.size : Int), .bool x.known, .map (some mb)] ∧ MpAt wr mb (Rs.mK x off d k) (Rs.cK x off k) ∧ Upd2 a mb w wr) (fun i _ => m - (intOf i).toNat)
    case atStart => exact ⟨0, Nat.zero_le _, rfl, HX0.out.1, by rw [HZ.out.1, HZ.out.2]; exact HX0.out.2, HU0.out⟩
    case round =>
      obtain ⟨k, hk, rfl, hO, hM, hU⟩ := hrel
      have HO := Lib.hid hO
      have HM := Lib.hid hM
      have HU := Lib.hid hU
      have g1 : wr.cell? ⟨a, 1, none⟩ = some (.int .u64 (rd : Int)) := by rw [hO.cell, ← HXX.out.2.2.2]; rfl
      have g2 : wr.cell? ⟨a, 2, none⟩ = some (.int .u64 (tp : Int)) := by rw [hO.cell, ← HXX.out.1]; rfl
      have g5 : wr.cell? ⟨a, 5, none⟩ = some (.map (some mb)) := by rw [hO.cell]; rfl
      have g3 : wr.cell? ⟨a, 3, none⟩ = some (.int .u64 (x.size : Int)) := by rw [hO.cell]; rfl
      have g4 : wr.cell? ⟨a, 4, none⟩ = some (.bool x.known) := by rw [hO.cell]; rfl
      have z2 := hO.free 2
      have z3 := hO.free 3
      have z4 := hO.free 4
      clear hO hM hU
      by_cases hlt : k < m
      · obtain ⟨b, o, rfl, v, hv, hdv, hcell⟩ := HD.out k hlt
        have gd := hcell wr HU.out
        have HDV := Lib.hid hdv
        obtain ⟨p, hp⟩ : ∃ p, off + k = p := ⟨_, rfl⟩
        have hp64 : p < 18446744073709551616 := by have := HE.out; omega
        have hpm : p < 4611686018427387904 := by have := HE.out; omega
        have hwk : IntKind.u64.wrap (k : Int) = (k : Int) := by rw [IntKind.wrap_u64]; omega
        have hwp : IntKind.u64.wrap ((off : Int) + (k : Int)) = (p : Int) := by rw [IntKind.wrap_u64]; omega
        have hki : (k : Int) < (m : Int) := by omega
        obtain ⟨s1, s2, s3⟩ := HS.out k
        rw [hp] at s1 s2 s3
        have HS2 := Lib.hid s2
        have HS3 := Lib.hid s3
        have HP := Lib.hid hp
        have hck := HCN.out k (by omega)
        have HR := HXX.out.2.2.2
        rw [HR] at s2 s3
        have HNX : Hid (∀ wr', MpAt wr' mb (Rs.mK x off d (k + 1)) (Rs.cK x off (k + 1)) → Upd mb wr wr' → Obj wr' a 72 #[.int .i64 (x.win : Int), .int .u64 (x.rd : Int), .int .u64 (x.top : Int), .int .u64 (x.size : Int), .bool x.known, .map (some mb)] ∧ MpAt wr' mb (Rs.mK x off d (k + 1)) (Rs.cK x off (k + 1)) ∧ Upd2 a mb w wr') := fun wr' h h' => ⟨HO.out.upd h' HAB.out, h, HU.out.trans (Upd2.right h' a)⟩
        clear hcell hdv hp s2 s3
        generalize hN : Rs.mK x off d k = f at *
        generalize hM' : Rs.cK x off k = sz' at *
        have HN' := Lib.hid hN
        have HM' := Lib.hid hM'
        clear hN hM'
        cases hxp : x.m p with
        | some c0 =>
          rw [hxp] at s1
          have HF := Lib.hid s1
          have hn := HS3.out (by rw [hxp]; simp)
          have HN := Lib.hid hn
          clear s1 hn hxp HR
          go_wp2_with (refine wpList_mlook _ rfl _ _ rfl rfl HM.out p hp64 rfl ?_; rw [HF.out])
          go_roundw
          case rel => exact ⟨k + 1, by omega, by go_num, HNX.out _ (by rw [HN.out.1, HN.out.2]; exact HM.out) (Upd.refl _ _)⟩
          case measure => simp [intOf]; omega
        | none =>
          rw [hxp] at s1
          have HF := Lib.hid s1
          by_cases hpr : rd ≤ p
          · have hd : decide (rd ≤ p) = true := by simpa using hpr
            have hn := HS2.out (by rw [HR]; exact hpr) hxp
            rw [HDV.out] at hn
            have HN := Lib.hid hn
            clear s1 hn hxp HR
            go_wp2_with (first | (refine wpList_mlook _ rfl _ _ rfl rfl HM.out p hp64 rfl ?_; rw [HF.out]) | (refine wpList_mput _ rfl _ _ _ rfl rfl HM.out hck p hp64 rfl v hv rfl HF.out ?_; intro w5 hm5 hu5))
            have HM5 := Lib.hid hm5
            have HU5 := Lib.hid hu5
            clear hm5 hu5
            go_roundw
            case rel => exact ⟨k + 1, by omega, by go_num, HNX.out _ (by rw [HN.out.1, HN.out.2]; exact HM5.out) HU5.out⟩
            case measure => simp [intOf]; omega
          · have hd : decide (rd ≤ p) = false := by simpa using hpr
            have hn := HS3.out (by rw [HR]; exact fun h => hpr h.1)
            have HN := Lib.hid hn
            clear s1 hn hxp HR
            go_wp2_with (refine wpList_mlook _ rfl _ _ rfl rfl HM.out p hp64 rfl ?_; rw [HF.out])
            go_roundw
            case rel => exact ⟨k + 1, by omega, by go_num, HNX.out _ (by rw [HN.out.1, HN.out.2]; exact HM.out) (Upd.refl _ _)⟩
            case measure => simp [intOf]; omega
      · obtain rfl : k = m := by omega
        clear HD HS HCN
        by_cases htE : tp < E
        · have HMX : Hid (max x.top E = E) := by unfold Hid; rw [HXX.out.1]; omega
          go_wp2
          go_ret
          exact ⟨rfl, HFIN.out _ _ _ HO.out HM.out HU.out rfl (by simp [HMX.out])⟩
        · have HMX : Hid (max x.top E = tp) := by unfold Hid; rw [HXX.out.1]; omega
          go_wp2
          go_ret
          exact ⟨rfl, HFIN.out _ _ _ HO.out HM.out HU.out rfl (by simp [HMX.out])⟩
end Go.Proofs.Ytdloeakmoaoalaa.Rm
