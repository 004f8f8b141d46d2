/- Layer 17's outflow, walked: due. -/
import Derived.Test.YtdloeakmoaoalaaRows
import Derived.Test.YtdloeakmoaoalaaAid
import Derived.Test.YtdloeakmoaoalaaPlainOf
import Derived.Test.YtdloeakmoaoalaaOfW
import Derived.Test.YtdloeakmoaoalaaOfX
import Derived.Test.YtdloeakmoaoalaaOfA
import Derived.Test.YtdloeakmoaoalaaOfC
import Derived.Test.YtdloeakmoaoalaaOfD
import Derived.WalkKit
import Derived.OwnWalk
import Derived.Laws.Rows
import Derived.Laws.Tables
import Derived.WalkSpells
import Derived.WalkLawsBesides
import Derived.BigQuiet
import Derived.Handy
import Derived.Lib.Hide
import Derived.IntWalk
import Derived.WalkMore
namespace Go.Proofs.Ytdloeakmoaoalaa
open Go.RowKit
set_option linter.unusedVariables false
set_option linter.unusedSimpArgs false

theorem results_tmp4 {fn : Func} {t u v y : Tmp} (h : fn.results = #[.tmp t, .tmp u, .tmp v, .tmp y]) (tmps : Array Value) (P : Program) (w : World) :
    (results fn tmps).run P w = .ok (.tuple #[tmps.getD t undef, tmps.getD u undef, tmps.getD v undef, tmps.getD y undef]) w := by
  simp [results, h]
theorem below_draws (w : World) (n : Nat) : Below w.heap.size w (w.drewN n) := ⟨rfl, rfl, rfl, Nat.le_refl _, fun _ _ => rfl⟩
/-- What due tells, as values. -/
def dueV (d : Nat × Nat × Bool × Bool) : Value := .tuple #[.int .i64 (d.1 : Int), .int .i64 (d.2.1 : Int), .bool d.2.2.1, .bool d.2.2.2]

set_option maxHeartbeats 4000000 in
theorem due_any (a gb gs many : Nat) (x : Of.B) (w : World) (h : Bf w a gb gs x) (hok : Of.Ok x) (hm : many ≤ 9223372036854775807) :
    Calls Try.prog 39 #[.pointer (some ⟨a, 0, none⟩), .int .i64 (many : Int)] w fun e w' => e = .returned (dueV (Of.due x many)) ∧ ∃ q, w' = w.drewN q := by
  have hr := fun (w : World) (h : Bf w a gb gs x) (cs top : Nat) (ht : top ≤ x.s.length) (hc : cs ≤ 3) => run_any a gb gs cs top many x w h hok ht hc hm
  have hop := open_any a gb gs x w h hok
  have hH2 := fun q => h.kept (below_draws w q)
  have hsl : x.s.length ≤ 2000 := by have := hok.len; have := hok.cap; omega
  have hst := hok.st
  have h2 := hr w h 2 x.s.length (Nat.le_refl _) (by omega)
  rw [List.take_length] at h2
  have hob : Of.openB x ≤ x.s.length := by unfold Of.openB; omega
  have h0 := fun q => hr _ (hH2 q) 0 (Of.openB x) hob (by omega)
  have htl : (x.s.take (Of.openB x)).length = Of.openB x := by rw [List.length_take]; omega
  obtain ⟨vb, vs, hO, hb, hs, hsep⟩ := id h
  obtain ⟨base, c, rfl, hlc, hcm, _, hcell⟩ := hs.form
  have hcc : c ≤ 9223372036854775807 := by simp only [maxLen] at hcm; omega
  have f1 : w.cell? ⟨a, 1, none⟩ = some (.slice base x.s.length c) := by rw [hO.cell]; rfl
  have f2 : w.cell? ⟨a, 2, none⟩ = some (.bool x.fin) := by rw [hO.cell]; rfl
  have f3 : w.cell? ⟨a, 3, none⟩ = some (.int .u8 (x.en : Int)) := by rw [hO.cell]; rfl
  have HI : Hid (∀ q, Calls Try.prog 41 #[.slice base x.s.length c, .int .u8 (0 : Int)] (w.drewN q) fun e w' => e = .returned (.int .i64 (idx 0 x.s)) ∧ w.drewN q = w') := fun q => by
    have := idx_any gs x.s.length c 0 base x.s (w.drewN q) (hs.kept (below_draws w q)) (Nat.le_refl _) (by omega) (fun y hy => by have := hst y hy; omega)
    rw [List.take_length] at this
    exact this
  have HOP := Lib.hid hop
  clear hO hb hs hsep hcell hr
  obtain ⟨fin, hfin⟩ : ∃ fin, x.fin = fin := ⟨_, rfl⟩
  obtain ⟨en, hen⟩ : ∃ en, x.en = en := ⟨_, rfl⟩
  obtain ⟨E, hE⟩ : ∃ E, Of.ended x = E := ⟨_, rfl⟩
  have hE' : (fin && (en == 0 || en == 2)) = E := by rw [← hE, ← hfin, ← hen]; rfl
  have hen3 : en ≤ 3 := hen ▸ hok.en
  rw [hfin] at f2
  rw [hen] at f3
  have hc4 : (fin = false ∧ E = false) ∨ (fin = true ∧ en = 0 ∧ E = true) ∨ (fin = true ∧ en = 2 ∧ E = true) ∨ (fin = true ∧ (en : Int) ≠ 0 ∧ (en : Int) ≠ 2 ∧ E = false) := by
    cases fin with
    | false => exact Or.inl ⟨rfl, by rw [← hE']; rfl⟩
    | true =>
      by_cases e0 : en = 0
      · exact Or.inr (Or.inl ⟨rfl, e0, by rw [← hE', e0]; rfl⟩)
      · by_cases e2 : en = 2
        · exact Or.inr (Or.inr (Or.inl ⟨rfl, e2, by rw [← hE', e2]; rfl⟩))
        · refine Or.inr (Or.inr (Or.inr ⟨rfl, by omega, by omega, ?_⟩))
          rw [← hE']
          have h1 : (en == 0) = false := by simpa using e0
          have h2 : (en == 2) = false := by simpa using e2
          rw [h1, h2]; rfl
  obtain ⟨l, hl⟩ : ∃ l, Of.fst 2 x.s = l := ⟨_, rfl⟩
  obtain ⟨f, hf⟩ : ∃ f, Of.fst 0 (x.s.take (Of.openB x)) = f := ⟨_, rfl⟩
  obtain ⟨g, hg⟩ : ∃ g, Of.fst 0 x.s = g := ⟨_, rfl⟩
  have hll : l ≤ x.s.length := hl ▸ Of.fst_le 2 x.s
  have hfl : f ≤ Of.openB x := by
    have := Of.fst_le 0 (x.s.take (Of.openB x))
    rw [htl, hf] at this
    exact this
  have hgl : g ≤ x.s.length := hg ▸ Of.fst_le 0 x.s
  have hidx : idx 0 x.s = if g < x.s.length then (g : Int) else -1 := by unfold idx; rw [hg]
  have hdue : Of.due x many = if l < x.s.length then (l, l + Of.runs 2 (x.s.drop l) many, E && (l + Of.runs 2 (x.s.drop l) many == x.s.length), true) else
      if f < Of.openB x then (f, f + Of.runs 0 ((x.s.take (Of.openB x)).drop f) many, E && (f + Of.runs 0 ((x.s.take (Of.openB x)).drop f) many == x.s.length), true)
      else if (E && (g == x.s.length)) = true then (x.s.length, x.s.length, true, true) else (0, 0, false, false) := by
    unfold Of.due
    simp only [hl, hf, hg, hE]
  unfold runV at h2 h0
  rw [htl] at h0
  simp only [hl, hf] at h2 h0
  by_cases hlm : l < x.s.length
  · obtain ⟨tt, htt⟩ : ∃ tt, l + Of.runs 2 (x.s.drop l) many = tt := ⟨_, rfl⟩
    have httm : tt ≤ x.s.length := by
      have := (Of.runs_le 2 (x.s.drop l) many).2
      rw [List.length_drop] at this
      omega
    rw [if_pos hlm] at hdue h2
    rw [htt] at hdue h2
    have H2 := Lib.hid h2
    have HD := Lib.hid hdue
    clear h2 h0 hdue hop h hok hH2 hst htl hob HOP HI hidx hE hfin hen hl hf hg htt
    generalize x.s.length = m at *
    obtain ⟨bb, hbb⟩ : ∃ bb, ((tt : Int) == (m : Int)) = bb := ⟨_, rfl⟩
    have hbn : (tt == m) = bb := by
      rw [← hbb]
      by_cases h : tt = m
      · subst h; simp
      · have h1 : ¬ (tt : Int) = (m : Int) := by omega
        have h2 : ((tt : Int) == (m : Int)) = false := by simpa using h1
        rw [h2]; simpa using h
    rw [hbn] at HD
    have HBB := Lib.hid hbb
    clear hbb hbn
    go_enter Try.func39, Try.ntmps39
    rcases hc4 with ⟨rfl, rfl⟩ | ⟨rfl, rfl, rfl⟩ | ⟨rfl, rfl, rfl⟩ | ⟨rfl, hz0, hz2, rfl⟩
    all_goals
      go_wp2_with fail
      refine H2.out.mono ?_
      rintro e w1 ⟨rfl, rfl⟩
      go_wp2
      go_quiet (fail)
      go_wp2
      ((try simp only [Exit.inBlock, Exit.then]); refine bodyPost_ret (results_tmp4 rfl _ _ _) rfl ?_)
      rw [HD.out]
      try rw [← HBB.out]
      refine ⟨rfl, ?_⟩
      first | exact ⟨_, rfl⟩ | exact ⟨_, World.drewN_drewN _ _ _⟩
  · rw [if_neg hlm] at hdue h2
    have H2 := Lib.hid h2
    have HLM : Hid (l = x.s.length) := by unfold Hid; omega
    clear h2 hlm
    by_cases hfo : f < Of.openB x
    · obtain ⟨tt, htt⟩ : ∃ tt, f + Of.runs 0 ((x.s.take (Of.openB x)).drop f) many = tt := ⟨_, rfl⟩
      have httm : tt ≤ Of.openB x := by
        have := (Of.runs_le 0 ((x.s.take (Of.openB x)).drop f) many).2
        rw [List.length_drop, htl] at this
        omega
      rw [if_pos hfo] at hdue h0
      rw [htt] at hdue h0
      have H0 : Hid (∀ q, _) := h0
      have HD := Lib.hid hdue
      clear h0 hdue hop h hok hH2 hst htl HI hidx hE hfin hen hl hf hg htt
      generalize x.s.length = m at *
      generalize Of.openB x = o at *
      obtain ⟨bb, hbb⟩ : ∃ bb, ((tt : Int) == (m : Int)) = bb := ⟨_, rfl⟩
      have hbn : (tt == m) = bb := by
        rw [← hbb]
        by_cases h : tt = m
        · subst h; simp
        · have h1 : ¬ (tt : Int) = (m : Int) := by omega
          have h2 : ((tt : Int) == (m : Int)) = false := by simpa using h1
          rw [h2]; simpa using h
      rw [hbn] at HD
      have HBB := Lib.hid hbb
      clear hbb hbn
      go_enter Try.func39, Try.ntmps39
      rcases hc4 with ⟨rfl, rfl⟩ | ⟨rfl, rfl, rfl⟩ | ⟨rfl, rfl, rfl⟩ | ⟨rfl, hz0, hz2, rfl⟩
      all_goals
        go_wp2_with fail
        refine H2.out.mono ?_
        rintro e w1 ⟨rfl, rfl⟩
        go_wp2_with fail
        refine HOP.out.mono ?_
        rintro e w1 ⟨rfl, q1, rfl⟩
        go_wp2_with fail
        refine (H0.out q1).mono ?_
        rintro e w2 ⟨rfl, rfl⟩
        go_wp2
        go_quiet (fail)
        go_wp2
        ((try simp only [Exit.inBlock, Exit.then]); refine bodyPost_ret (results_tmp4 rfl _ _ _) rfl ?_)
        rw [HD.out]
        try rw [← HBB.out]
        refine ⟨rfl, ?_⟩
        first | exact ⟨_, rfl⟩ | exact ⟨_, World.drewN_drewN _ _ _⟩
    · rw [if_neg hfo] at hdue h0
      have H0 : Hid (∀ q, _) := h0
      rcases hc4 with ⟨rfl, rfl⟩ | ⟨rfl, rfl, rfl⟩ | ⟨rfl, rfl, rfl⟩ | ⟨rfl, hz0, hz2, rfl⟩
      · rw [if_neg (by simp)] at hdue
        have HD := Lib.hid hdue
        clear h0 hdue hop h hok hH2 hst htl HI hidx hE hfin hen hl hf hg
        generalize x.s.length = m at *
        generalize Of.openB x = o at *
        go_enter Try.func39, Try.ntmps39
        go_wp2_with fail
        refine H2.out.mono ?_
        rintro e w1 ⟨rfl, rfl⟩
        go_wp2_with fail
        refine HOP.out.mono ?_
        rintro e w1 ⟨rfl, q1, rfl⟩
        go_wp2_with fail
        refine (H0.out q1).mono ?_
        rintro e w2 ⟨rfl, rfl⟩
        go_wp2
        ((try simp only [Exit.inBlock, Exit.then]); refine bodyPost_ret (results_tmp4 rfl _ _ _) rfl ?_)
        rw [HD.out]
        refine ⟨rfl, ?_⟩
        first | exact ⟨_, rfl⟩ | exact ⟨_, World.drewN_drewN _ _ _⟩
      · by_cases hgm : g < x.s.length
        · have hne : (g == x.s.length) = false := by simp; omega
          rw [if_pos hgm] at hidx
          rw [hne, if_neg (by simp)] at hdue
          rw [hidx] at HI
          have HD := Lib.hid hdue
          clear h0 hdue hop h hok hH2 hst htl hidx hE hfin hen hl hf hg hne
          generalize x.s.length = m at *
          generalize Of.openB x = o at *
          go_enter Try.func39, Try.ntmps39
          go_wp2_with fail
          refine H2.out.mono ?_
          rintro e w1 ⟨rfl, rfl⟩
          go_wp2_with fail
          refine HOP.out.mono ?_
          rintro e w1 ⟨rfl, q1, rfl⟩
          go_wp2_with fail
          refine (H0.out q1).mono ?_
          rintro e w2 ⟨rfl, rfl⟩
          go_wp2_with fail
          refine (HI.out q1).mono ?_
          rintro e w3 ⟨rfl, rfl⟩
          go_wp2
          ((try simp only [Exit.inBlock, Exit.then]); refine bodyPost_ret (results_tmp4 rfl _ _ _) rfl ?_)
          rw [HD.out]
          refine ⟨rfl, ?_⟩
          first | exact ⟨_, rfl⟩ | exact ⟨_, World.drewN_drewN _ _ _⟩
        · have hne : (g == x.s.length) = true := by simp; omega
          rw [if_neg hgm] at hidx
          rw [hne, if_pos (by simp)] at hdue
          rw [hidx] at HI
          have HD := Lib.hid hdue
          clear h0 hdue hop h hok hH2 hst htl hidx hE hfin hen hl hf hg hne
          generalize x.s.length = m at *
          generalize Of.openB x = o at *
          go_enter Try.func39, Try.ntmps39
          go_wp2_with fail
          refine H2.out.mono ?_
          rintro e w1 ⟨rfl, rfl⟩
          go_wp2_with fail
          refine HOP.out.mono ?_
          rintro e w1 ⟨rfl, q1, rfl⟩
          go_wp2_with fail
          refine (H0.out q1).mono ?_
          rintro e w2 ⟨rfl, rfl⟩
          go_wp2_with fail
          refine (HI.out q1).mono ?_
          rintro e w3 ⟨rfl, rfl⟩
          go_wp2
          go_quiet (fail)
          go_wp2
          ((try simp only [Exit.inBlock, Exit.then]); refine bodyPost_ret (results_tmp4 rfl _ _ _) rfl ?_)
          rw [HD.out]
          refine ⟨rfl, ?_⟩
          first | exact ⟨_, rfl⟩ | exact ⟨_, World.drewN_drewN _ _ _⟩
      · by_cases hgm : g < x.s.length
        · have hne : (g == x.s.length) = false := by simp; omega
          rw [if_pos hgm] at hidx
          rw [hne, if_neg (by simp)] at hdue
          rw [hidx] at HI
          have HD := Lib.hid hdue
          clear h0 hdue hop h hok hH2 hst htl hidx hE hfin hen hl hf hg hne
          generalize x.s.length = m at *
          generalize Of.openB x = o at *
          go_enter Try.func39, Try.ntmps39
          go_wp2_with fail
          refine H2.out.mono ?_
          rintro e w1 ⟨rfl, rfl⟩
          go_wp2_with fail
          refine HOP.out.mono ?_
          rintro e w1 ⟨rfl, q1, rfl⟩
          go_wp2_with fail
          refine (H0.out q1).mono ?_
          rintro e w2 ⟨rfl, rfl⟩
          go_wp2_with fail
          refine (HI.out q1).mono ?_
          rintro e w3 ⟨rfl, rfl⟩
          go_wp2
          ((try simp only [Exit.inBlock, Exit.then]); refine bodyPost_ret (results_tmp4 rfl _ _ _) rfl ?_)
          rw [HD.out]
          refine ⟨rfl, ?_⟩
          first | exact ⟨_, rfl⟩ | exact ⟨_, World.drewN_drewN _ _ _⟩
        · have hne : (g == x.s.length) = true := by simp; omega
          rw [if_neg hgm] at hidx
          rw [hne, if_pos (by simp)] at hdue
          rw [hidx] at HI
          have HD := Lib.hid hdue
          clear h0 hdue hop h hok hH2 hst htl hidx hE hfin hen hl hf hg hne
          generalize x.s.length = m at *
          generalize Of.openB x = o at *
          go_enter Try.func39, Try.ntmps39
          go_wp2_with fail
          refine H2.out.mono ?_
          rintro e w1 ⟨rfl, rfl⟩
          go_wp2_with fail
          refine HOP.out.mono ?_
          rintro e w1 ⟨rfl, q1, rfl⟩
          go_wp2_with fail
          refine (H0.out q1).mono ?_
          rintro e w2 ⟨rfl, rfl⟩
          go_wp2_with fail
          refine (HI.out q1).mono ?_
          rintro e w3 ⟨rfl, rfl⟩
          go_wp2
          go_quiet (fail)
          go_wp2
          ((try simp only [Exit.inBlock, Exit.then]); refine bodyPost_ret (results_tmp4 rfl _ _ _) rfl ?_)
          rw [HD.out]
          refine ⟨rfl, ?_⟩
          first | exact ⟨_, rfl⟩ | exact ⟨_, World.drewN_drewN _ _ _⟩
      · rw [if_neg (by simp)] at hdue
        have HD := Lib.hid hdue
        clear h0 hdue hop h hok hH2 hst htl HI hidx hE hfin hen hl hf hg
        generalize x.s.length = m at *
        generalize Of.openB x = o at *
        go_enter Try.func39, Try.ntmps39
        go_wp2_with fail
        refine H2.out.mono ?_
        rintro e w1 ⟨rfl, rfl⟩
        go_wp2_with fail
        refine HOP.out.mono ?_
        rintro e w1 ⟨rfl, q1, rfl⟩
        go_wp2_with fail
        refine (H0.out q1).mono ?_
        rintro e w2 ⟨rfl, rfl⟩
        go_wp2
        ((try simp only [Exit.inBlock, Exit.then]); refine bodyPost_ret (results_tmp4 rfl _ _ _) rfl ?_)
        rw [HD.out]
        refine ⟨rfl, ?_⟩
        first | exact ⟨_, rfl⟩ | exact ⟨_, World.drewN_drewN _ _ _⟩
end Go.Proofs.Ytdloeakmoaoalaa
