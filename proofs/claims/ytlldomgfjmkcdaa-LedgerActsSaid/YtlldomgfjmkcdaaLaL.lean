/- Layer 15: what an act does to both ledgers, ready for the law's walk. -/
import Derived.Test.YtlldomgfjmkcdaaRows
import Derived.Test.YtlldomgfjmkcdaaAid
import Derived.Test.YtlldomgfjmkcdaaLgU
import Derived.Test.YtlldomgfjmkcdaaLgG2
import Derived.Test.YtlldomgfjmkcdaaLaI
import Derived.Test.YtlldomgfjmkcdaaLaJ
import Derived.Lib.Hide
namespace Go.Proofs.Ytlldomgfjmkcdaa
open Go Go.RowKit Rm
set_option linter.unusedVariables false
set_option linter.unusedSimpArgs false

/-- Both ledgers, and the act. -/
def St (w0 : World) (B D T : Nat) (a : Act15) (ks : List KF) (nx ak : Nat) (js : List KF) (mx mk : Nat) (W : World) : Prop :=
  (∃ v vd x y, LV w0 B D v vd x y ks js mx mk W ∧ x.next = nx ∧ x.acked = ak) ∧ Obj W T 35 (acells a).toArray
/-- What is known of the keys. -/
structure KO (w0 : World) (ks : List KF) (nx ak : Nat) : Prop where
  ob : OnceB (ks.map Prod.fst) nx ak
  ff : ∀ k ∈ ks, FF w0 k.2
theorem St.kept {w0 W W' : World} {B D T nx ak mx mk : Nat} {a : Act15} {ks js : List KF} (h : St w0 B D T a ks nx ak js mx mk W) (hb : Below W.heap.size W W') : St w0 B D T a ks nx ak js mx mk W' := by
  obtain ⟨⟨v, vd, x, y, h1, h2⟩, h3⟩ := h
  exact ⟨⟨v, vd, x, y, h1.kept hb, h2⟩, h3.kept hb⟩
theorem filter_fst (ks : List KF) (f : Key → Bool) : (ks.filter fun k => f k.1).map Prod.fst = (ks.map Prod.fst).filter f := by rw [List.filter_map]; rfl
theorem KO.filter {w0 : World} {ks : List KF} {nx ak : Nat} (h : KO w0 ks nx ak) (f : Key → Bool) : KO w0 (ks.filter fun k => f k.1) nx ak := ⟨by rw [filter_fst]; exact h.ob.filter f, fun k hk => h.ff k (List.mem_filter.1 hk).1⟩
theorem KO.ack {w0 : World} {ks : List KF} {nx ak : Nat} (h : KO w0 ks nx ak) (f g : Key → Bool) : KO w0 (ks.filter fun k => f k.1) nx (ackMK ak ((ks.filter fun k => g k.1).map Prod.fst)) := ⟨by rw [filter_fst, filter_fst]; exact h.ob.ack f g, fun k hk => h.ff k (List.mem_filter.1 hk).1⟩
theorem KO.send {w0 : World} {ks : List KF} {nx ak tm sz : Nat} {ask : Bool} {fs : List Frm} (h : KO w0 ks nx ak) (hl : ks.length < 64) (ht : tm ≤ 18446744073709551615) (hs : sz ≤ 1200) (hf : FF w0 fs) : KO w0 (ks ++ [(⟨nx, tm, sz, ask⟩, fs)]) (nx + 1) ak :=
  ⟨by rw [List.map_append]; exact h.ob.send (by rw [List.length_map]; exact hl) ht hs, fun k hk => by
    rcases List.mem_append.1 hk with hk | hk
    · exact h.ff k hk
    · simp only [List.mem_singleton] at hk; subst hk; exact hf⟩
theorem KO.len {w0 : World} {ks : List KF} {nx ak : Nat} (h : KO w0 ks nx ak) : ks.length ≤ 64 := by have := h.ob.1; rwa [List.length_map] at this

section
variable {w0 : World} {B D T nx ak : Nat} {ks : List KF}
def sendAgg (a : Act15) : Value := .agg #[.int .i64 a.num, .int .u64 (a.tm : Int), .int .i64 a.sz, .bool a.ask, .slice a.fA a.fn a.fc]
theorem st_send (a : Act15) (hK : KO w0 ks nx ak) (hn : nx ≤ 1000) (ha : AOk w0 a) (hf : FewA a) :
    ∃ (n1 n2 : Int) (ks' : List KF) (nx' : Nat), (∀ W, St w0 B D T a ks nx ak ks nx ak W → Calls Try.prog 9 #[.pointer (some ⟨B, 0, none⟩), .agg #[.int .i64 a.num, .int .u64 (a.tm : Int), .int .i64 a.sz, .bool a.ask, .slice a.fA a.fn a.fc]] W fun e w' => e = .returned (.tuple #[.int .i64 n1, .int .i64 n2]) ∧ St w0 B D T a ks' nx' ak ks nx ak w') ∧
      (∀ W, St w0 B D T a ks' nx' ak ks nx ak W → Calls Try.prog 19 #[.pointer (some ⟨D, 0, none⟩), .agg #[.int .i64 a.num, .int .u64 (a.tm : Int), .int .i64 a.sz, .bool a.ask, .slice a.fA a.fn a.fc]] W fun e w' => e = .returned (.tuple #[.int .i64 n1, .int .i64 n2]) ∧ St w0 B D T a ks' nx' ak ks' nx' ak w') ∧
      KO w0 ks' nx' ak ∧ nx' ≤ nx + 1 := by
  by_cases hs : a.sz < 0 ∨ 1200 < a.sz
  · refine ⟨0, 1, ks, nx, fun W h => ?_, fun W h => ?_, hK, by omega⟩
    · exact (send_arg B a.num a.tm a.sz a.ask a.fA a.fn a.fc W hs).mono fun e w' ⟨h1, h2⟩ => ⟨h1, h.kept h2⟩
    · exact (rsend_arg D a.num a.tm a.sz a.ask a.fA a.fn a.fc W hs).mono fun e w' ⟨h1, h2⟩ => ⟨h1, h.kept h2⟩
  · obtain ⟨s, hs2⟩ : ∃ s : Nat, a.sz = (s : Int) := ⟨a.sz.toNat, by omega⟩
    by_cases hl : ks.length < 64
    · refine ⟨(nx : Int), 0, ks ++ [(⟨nx, a.tm, s, a.ask⟩, a.frs)], nx + 1, fun W h => ?_, fun W h => ?_, hK.send hl ha.tm (by omega) (ha.ff hf), by omega⟩
      · obtain ⟨⟨v, vd, x, y, h1, rfl, rfl⟩, h3⟩ := h
        refine (jp_send h1 hl hn a ha hf s (by omega) hs2).mono ?_
        rintro e w' ⟨he, v', x', q1, q2, q3, q4⟩
        exact ⟨he, ⟨v', vd, x', y, q1, q2, q3⟩, q4.obj h3 (by decide) (by decide) (by decide)⟩
      · obtain ⟨⟨v, vd, x, y, h1, h2, h2'⟩, h3⟩ := h
        refine (jd_send h1 hl hn a ha s (by omega) hs2).mono ?_
        rintro e w' ⟨he, vd', y', q1, q4⟩
        exact ⟨he, ⟨v, vd', x, y', q1, h2, h2'⟩, q4.obj h3 (by decide) (by decide) (by decide)⟩
    · have hkl := hK.len
      refine ⟨0, 5, ks, nx, fun W h => ?_, fun W h => ?_, hK, by omega⟩
      · obtain ⟨⟨v, vd, x, y, h1, h2⟩, h3⟩ := h
        have hxl := h1.xlen
        have := send_full B (D + 1) v x a.num a.tm s a.ask a.fA a.fn a.fc W h1.st (by omega) (by omega) (by omega)
        rw [← hs2] at this
        exact this.mono fun e w' ⟨q1, q2⟩ => ⟨q1, St.kept ⟨⟨v, vd, x, y, h1, h2⟩, h3⟩ q2⟩
      · obtain ⟨⟨v, vd, x, y, h1, h2⟩, h3⟩ := h
        have hyl := h1.ylen
        have := rsend_full D nx ak vd y a.num a.tm s a.ask a.fA a.fn a.fc W h1.ds (by omega) (by omega) (by omega)
        rw [← hs2] at this
        exact this.mono fun e w' ⟨q1, q2⟩ => ⟨q1, St.kept ⟨⟨v, vd, x, y, h1, h2⟩, h3⟩ q2⟩
theorem gp_nil (W : World) : GP W D (.slice none 0 0) [] [] := ⟨World.ownsRow_nil _ _ _ _, trivial, fun p hp => by cases hp⟩
theorem gd_nil (W : World) : GD w0 W D (.slice none 0 0) [] [] := ⟨World.ownsRow_nil _ _ _ _, trivial⟩
theorem st_ack (a : Act15) (hK : KO w0 ks nx ak) (hn : nx ≤ 1000) (ha : AOk w0 a) (hf : FewA a) :
    ∃ (n2 : Int) (ks' gs : List KF) (ak' : Nat), (∀ W, St w0 B D T a ks nx ak ks nx ak W → Calls Try.prog 10 #[.pointer (some ⟨B, 0, none⟩), .slice a.rA a.rn a.rc] W fun e w' => ∃ gv, e = .returned (.tuple #[gv, .int .i64 n2]) ∧ St w0 B D T a ks' nx ak' ks nx ak w' ∧ ∃ G, GP w' D gv G gs) ∧
      (∀ W, St w0 B D T a ks' nx ak' ks nx ak W → Calls Try.prog 20 #[.pointer (some ⟨D, 0, none⟩), .slice a.rA a.rn a.rc] W fun e w' => ∃ gd, e = .returned (.tuple #[gd, .int .i64 n2]) ∧ St w0 B D T a ks' nx ak' ks' nx ak' w' ∧ (∃ H, GD w0 w' D gd H gs) ∧ ∀ gp G, GP W D gp G gs → GP w' D gp G gs) ∧
      KO w0 ks' nx ak' ∧ KO w0 gs nx ak := by
  cases hok : a.rngs.any (badR nx) with
  | true =>
    refine ⟨3, ks, [], ak, fun W h => ?_, fun W h => ?_, hK, ⟨⟨by simp, hK.ob.2.1, fun p hp => by cases hp⟩, fun k hk => by cases hk⟩⟩
    · obtain ⟨⟨v, vd, x, y, h1, rfl, rfl⟩, h3⟩ := h
      refine (jp_ackbad h1 hK.ob hn a ha hf hok).mono ?_
      rintro e w' ⟨he, hb⟩
      exact ⟨_, he, St.kept ⟨⟨v, vd, x, y, h1, rfl, rfl⟩, h3⟩ hb, _, gp_nil w'⟩
    · obtain ⟨⟨v, vd, x, y, h1, h2⟩, h3⟩ := h
      refine (jd_ackbad h1 hK.ob hn a ha hf hok).mono ?_
      rintro e w' ⟨he, hb⟩
      exact ⟨_, he, St.kept ⟨⟨v, vd, x, y, h1, h2⟩, h3⟩ hb, ⟨_, gd_nil w'⟩, fun gp G hG => hG.kept hb⟩
  | false =>
    refine ⟨0, ks.filter fun k => !inRsK a.rngs k.1, ks.filter fun k => inRsK a.rngs k.1, ackMK ak ((ks.filter fun k => inRsK a.rngs k.1).map Prod.fst), fun W h => ?_, fun W h => ?_, hK.ack (fun k => !inRsK a.rngs k) (inRsK a.rngs), hK.filter (inRsK a.rngs)⟩
    · obtain ⟨⟨v, vd, x, y, h1, rfl, rfl⟩, h3⟩ := h
      refine (jp_ack h1 hK.ob hn a ha hf hok).mono ?_
      rintro e w' ⟨gv, he, G, v', x', q1, q2, q3, q4, q5⟩
      exact ⟨gv, he, ⟨⟨v', vd, x', y, q2, q3, q4⟩, q5.obj h3 (by decide) (by decide) (by decide)⟩, G, q1⟩
    · obtain ⟨⟨v, vd, x, y, h1, h2⟩, h3⟩ := h
      refine (jd_ack h1 hK.ob hn a ha hf hok).mono ?_
      rintro e w' ⟨gd, he, H, vd', y', q1, q2, q3, q4⟩
      exact ⟨gd, he, ⟨⟨v, vd', x, y', q2, h2⟩, q3.obj h3 (by decide) (by decide) (by decide)⟩, ⟨H, q1⟩, fun gp G hG => q4 gp G _ hG⟩
theorem st_lost (a : Act15) (nw : Nat) (hK : KO w0 ks nx ak) (hn : nx ≤ 1000) (ha : AOk w0 a) :
    ∃ (ks' gs : List KF), (∀ W, St w0 B D T a ks nx ak ks nx ak W → Calls Try.prog 11 #[.pointer (some ⟨B, 0, none⟩), .int .u64 (nw : Int), .int .u64 (a.d : Int)] W fun e w' => ∃ gv, e = .returned gv ∧ St w0 B D T a ks' nx ak ks nx ak w' ∧ ∃ G, GP w' D gv G gs) ∧
      (∀ W, St w0 B D T a ks' nx ak ks nx ak W → Calls Try.prog 22 #[.pointer (some ⟨D, 0, none⟩), .int .u64 (nw : Int), .int .u64 (a.d : Int)] W fun e w' => ∃ gd, e = .returned gd ∧ St w0 B D T a ks' nx ak ks' nx ak w' ∧ (∃ H, GD w0 w' D gd H gs) ∧ ∀ gp G, GP W D gp G gs → GP w' D gp G gs) ∧
      KO w0 ks' nx ak ∧ KO w0 gs nx ak := by
  refine ⟨ks.filter fun k => !lostK ak a.d nw k.1, ks.filter fun k => lostK ak a.d nw k.1, fun W h => ?_, fun W h => ?_, hK.filter (fun k => !lostK ak a.d nw k), hK.filter (lostK ak a.d nw)⟩
  · obtain ⟨⟨v, vd, x, y, h1, rfl, rfl⟩, h3⟩ := h
    refine (jp_lost h1 hK.ob hn nw a.d ha.d).mono ?_
    rintro e w' ⟨gv, he, G, v', x', q1, q2, q3, q4, q5⟩
    exact ⟨gv, he, ⟨⟨v', vd, x', y, q2, q3, q4⟩, q5.obj h3 (by decide) (by decide) (by decide)⟩, G, q1⟩
  · obtain ⟨⟨v, vd, x, y, h1, h2⟩, h3⟩ := h
    refine (jd_lost h1 hK.ob hn nw a.d ha.d).mono ?_
    rintro e w' ⟨gd, he, H, vd', y', q1, q2, q3, q4⟩
    exact ⟨gd, he, ⟨⟨v, vd', x, y', q2, h2⟩, q3.obj h3 (by decide) (by decide) (by decide)⟩, ⟨H, q1⟩, fun gp G hG => q4 gp G _ hG⟩
theorem st_same {W : World} {mx mk p q : Nat} {js gs : List KF} {a : Act15} {gv gd : Value} {G H : List PS} (h : St w0 B D T a ks nx ak js mx mk W) (hg : KO w0 gs p q) (hG : GP W D gv G gs) (hD : GD w0 W D gd H gs) :
    Calls Try.prog 21 #[gv, gd] W fun e w' => e = .returned (.bool true) ∧ Below W.heap.size W w' := by
  obtain ⟨⟨v, vd, x, y, h1, h2⟩, h3⟩ := h
  exact same_gone hG hD h1.bel hg.ff (by have := hg.len; omega)
end
end Go.Proofs.Ytlldomgfjmkcdaa
