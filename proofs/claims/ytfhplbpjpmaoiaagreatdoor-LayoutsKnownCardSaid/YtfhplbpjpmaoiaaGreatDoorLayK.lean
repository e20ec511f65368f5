/- An evaluator of the program and contracts proved over it: the texts LayLf LayLg LayLh LayLi. -/
import Derived.Test.YtfhplbpjpmaoiaaGreatDoorLayJ
set_option linter.unusedSimpArgs false
set_option linter.unusedVariables false
set_option linter.constructorNameAsVariable false
/- LayoutsSee: a round. -/
namespace Go.Ev.Lay
set_option maxRecDepth 4000
def Sv (env : T V) (b fb : Nat) (v : V) (s : Int) (j : Nat) : Prop := env.get 2 = some (.int .i64 s) ∧ env.get 7 = some v ∧ env.get 8 = some (.ptr b 0) ∧ env.get 9 = some (.ptr fb 0) ∧ env.get 10 = some (.int .i64 (j : Int))
structure Hp (h : Heap) (b fb : Nat) (v : V) (L : List (Int × Bool × Bool)) (view over : Int) : Prop where
  wf : WF h
  glb : Glb h
  lo : Lo h b (sz L) (ky L) (sy L)
  fo : Own h fb [.int .i64 view, .int .i64 over, .bool false]
  rw : Rws h v L
  good : Good L
  v1 : 1 ≤ view
  v2 : view ≤ 300
  o0 : 0 ≤ over
  o1 : over ≤ 16
theorem Hp.fr {h h' : Heap} {b fb : Nat} {v : V} {L : List (Int × Bool × Bool)} {view over : Int} (H : Hp h b fb v L view over) (F : Fr [] h h') : Hp h' b fb v L view over :=
  ⟨F.wf, H.glb.fr F, H.lo.fr F, F.get H.fo, Recs.fr H.rw F, H.good, H.v1, H.v2, H.o0, H.o1⟩
theorem see4_ok {h : Heap} {b fb j : Nat} {v : V} {L : List (Int × Bool × Bool)} {view over s hr e pl top : Int} {env : T V} {Q : Ex → T V → Heap → Prop} (H : Hp h b fb v L view over) (S : Sv env b fb v s j)
    (g21 : env.get 21 = some (.int .i64 hr)) (g22 : env.get 22 = some (.int .i64 e)) (g23 : env.get 23 = some (.int .i64 pl)) (g24 : env.get 24 = some (.int .i64 e)) (g29 : env.get 29 = some (.int .i64 e)) (g30 : env.get 30 = some (.int .i64 top))
    (c : (e ≠ 0 ∧ hr = 0 ∧ pl = 0) ∨ (e = 0 ∧ ∃ p : Nat, top = p ∧ hr = p ∧ p < L.length ∧ 0 ≤ s ∧ s ≤ 4611686018427387904 ∧ ∀ r', PlR (sz L) (sy L) s p r' → pl = r'))
    (K : ∀ env' h', Fr [] h h' → Sv env' b fb v s j → Q .norm env' h') : W go see4 env h Q := by
  obtain ⟨g2, g7, g8, g9, g10⟩ := S
  rcases c with ⟨c, rfl, rfl⟩ | ⟨rfl, p, rfl, rfl, hp, s0, s1, hpl⟩
  · simp (disch := omega) only [evs, ↓reduceIte, Nat.reduceEqDiff, Nat.reduceAdd, Nat.reduceMul, Nat.reduceLeDiff, Nat.reduceLT, Int.reduceNeg, DF, eff, Nat.reduceSub, fwrap_i64, see4, g21, g22, g23, g24, g29, g30, eq_false c]
    exact K _ _ (Fr.refl H.wf) ⟨(by simp [T.get_set, g2]), (by simp [T.get_set, g7]), (by simp [T.get_set, g8]), (by simp [T.get_set, g9]), (by simp [T.get_set, g10])⟩
  · simp (disch := omega) only [evs, ↓reduceIte, Nat.reduceEqDiff, Nat.reduceAdd, Nat.reduceMul, Nat.reduceLeDiff, Nat.reduceLT, Int.reduceNeg, DF, eff, Nat.reduceSub, fwrap_i64, see4, g21, g22, g23, g24, g29, g30, g2, g7]
    refine OQ_does (rPlace_ok H.rw H.good.fit s0 s1 hp) ?_
    rintro _ _ ⟨⟨r', rfl, hr'⟩, hh⟩
    replace hh := hh.symm
    subst hh
    have := hpl r' hr'
    subst this
    simp (disch := omega) only [evs, ↓reduceIte, Nat.reduceEqDiff, Nat.reduceAdd, Nat.reduceMul, Nat.reduceLeDiff, Nat.reduceLT, Int.reduceNeg, DF, eff, Nat.reduceSub, fwrap_i64]
    exact K _ _ (Fr.refl H.wf) ⟨(by simp [T.get_set, g2]), (by simp [T.get_set, g7]), (by simp [T.get_set, g8]), (by simp [T.get_set, g9]), (by simp [T.get_set, g10])⟩
end Go.Ev.Lay

/- LayoutsSee: a round, the second half. -/
namespace Go.Ev.Lay
set_option maxRecDepth 4000
theorem Good.len_pos {L : List (Int × Bool × Bool)} (g : Good L) (h : L ≠ []) : 1 ≤ (sz L).sum := pos_sum g.pos (by intro e; apply h; have := congrArg List.length e; rw [sz_len] at this; exact List.length_eq_zero_iff.1 this)
theorem see3_ok {h : Heap} {b fb j : Nat} {v : V} {L : List (Int × Bool × Bool)} {view over s : Int} {env : T V} {Q : Ex → T V → Heap → Prop} (H : Hp h b fb v L view over) (S : Sv env b fb v s j)
    (s0 : -9223372036854775808 ≤ s) (s1 : s ≤ 9223372036854775807)
    (K : ∀ env' h', Fr [] h h' → Sv env' b fb v s j → Q .norm env' h') : W go see3 env h Q := by
  obtain ⟨g2, g7, g8, g9, g10⟩ := S
  have fit := H.good.fit
  have f2 := fit.2.1
  have f3 := H.good.len
  simp (disch := omega) only [evs, ↓reduceIte, Nat.reduceEqDiff, Nat.reduceAdd, Nat.reduceMul, Nat.reduceLeDiff, Nat.reduceLT, Int.reduceNeg, DF, eff, Nat.reduceSub, fwrap_i64, see3, g8, g2]
  refine OQ_does (LHead_ok H.wf H.glb H.lo s0 s1) ?_
  rintro _ h1 ⟨⟨hr, he, rfl, hs⟩, F1⟩
  have H1 := H.fr F1
  simp (disch := omega) only [evs, ↓reduceIte, Nat.reduceEqDiff, Nat.reduceAdd, Nat.reduceMul, Nat.reduceLeDiff, Nat.reduceLT, Int.reduceNeg, DF, eff, Nat.reduceSub, fwrap_i64, g8, g2]
  refine OQ_does (LPlace_ok H1.wf H1.glb H1.lo s0 s1) ?_
  rintro _ h2 ⟨⟨pr, pe, rfl, ps⟩, F2⟩
  have H2 := H1.fr F2
  have F02 := F1.then F2
  simp (disch := omega) only [evs, ↓reduceIte, Nat.reduceEqDiff, Nat.reduceAdd, Nat.reduceMul, Nat.reduceLeDiff, Nat.reduceLT, Int.reduceNeg, DF, eff, Nat.reduceSub, fwrap_i64, g8, g2]
  refine OQ_does (LAt_ok H2.wf H2.lo s0 s1) ?_
  rintro _ h3 ⟨rfl, F3⟩
  have H3 := H2.fr F3
  have F03 := F02.then F3
  have hal := H3.rw.len
  obtain ⟨hr', he', hs', ps'⟩ := ps
  by_cases c1 : 0 ≤ s ∧ s < (sz L).sum
  · rw [if_pos c1]
    have hne : sz L ≠ [] := by intro e; rw [e] at c1; simp at c1; omega
    have sp := locate_spec c1.1 c1.2
    have lt := locate_lt c1.1 c1.2
    rw [sz_len] at lt
    rw [sp.2.2]
    simp (disch := omega) only [evs, ↓reduceIte, Nat.reduceEqDiff, Nat.reduceAdd, Nat.reduceMul, Nat.reduceLeDiff, Nat.reduceLT, Int.reduceNeg, DF, eff, Nat.reduceSub, fwrap_i64, g7, g2]
    refine OQ_does (rAt_ok H3.rw fit) ?_
    rintro _ _ ⟨rfl, hh⟩
    replace hh := hh.symm
    subst hh
    rw [atL, if_pos c1]
    obtain ⟨i, hi⟩ : ∃ i, i = (locate (sz L) s).1 := ⟨_, rfl⟩
    rw [← hi] at sp lt ⊢
    have t1 := take_le fit i
    have n1 : ¬ (i : Int) < 0 := by omega
    have n2 : (0 : Int) ≤ i := by omega
    simp (disch := omega) only [evs, ↓reduceIte, Nat.reduceEqDiff, Nat.reduceAdd, Nat.reduceMul, Nat.reduceLeDiff, Nat.reduceLT, Int.reduceNeg, DF, eff, Nat.reduceSub, fwrap_i64, g7, g2, eq_false n1, eq_true n2]
    refine OQ_does (rTop_ok H3.rw fit (by omega)) ?_
    rintro _ _ ⟨rfl, hh⟩
    replace hh := hh.symm
    subst hh
    simp (disch := omega) only [evs, ↓reduceIte, Nat.reduceEqDiff, Nat.reduceAdd, Nat.reduceMul, Nat.reduceLeDiff, Nat.reduceLT, Int.reduceNeg, DF, eff, Nat.reduceSub, fwrap_i64, g7, g2]
    refine OQ_does (rHead_ok H3.rw fit) ?_
    rintro _ _ ⟨⟨hd, rfl, hhd⟩, hh⟩
    replace hh := hh.symm
    subst hh
    rw [← sz_len] at hhd
    rcases head_eq fit (by rw [sy_len, sz_len]) c1.1 c1.2 hne hs hhd with ⟨x1, x2, x3⟩ | ⟨p, x1, x2, x3, x4, x5, x6⟩
    · rcases head_eq fit (by rw [sy_len, sz_len]) c1.1 c1.2 hne hs' hhd with ⟨y1, y2, y3⟩ | ⟨p', y1, y2, y3, y4, y5, y6⟩
      · rw [if_neg (by omega)] at ps'
        obtain ⟨z1, z2⟩ := ps'
        subst x1 x2 x3 y2 z1 z2
        simp (disch := omega) only [evs, ↓reduceIte, Nat.reduceEqDiff, Nat.reduceAdd, Nat.reduceMul, Nat.reduceLeDiff, Nat.reduceLT, Int.reduceNeg, DF, eff, Nat.reduceSub, fwrap_i64, g7, g2, eq_false n1, eq_true n2, eq_true (show (-1 : Int) < 0 by omega)]
        exact see4_ok (hr := 0) (e := 11) (pl := 0) (top := -1) H3 ⟨(by simp [T.get_set, g2]), (by simp [T.get_set, g7]), (by simp [T.get_set, g8]), (by simp [T.get_set, g9]), (by simp [T.get_set, g10])⟩ (by simp [T.get_set]) (by simp [T.get_set]) (by simp [T.get_set]) (by simp [T.get_set]) (by simp [T.get_set]) (by simp [T.get_set]) (.inl ⟨by omega, rfl, rfl⟩) (fun env' h' F' S' => K _ _ (F03.then F') S')
      · omega
    · rcases head_eq fit (by rw [sy_len, sz_len]) c1.1 c1.2 hne hs' hhd with ⟨y1, y2, y3⟩ | ⟨p', y1, y2, y3, y4, y5, y6⟩
      · omega
      · rw [if_pos y3] at ps'
        obtain ⟨z1, p2, z2, z3⟩ := ps'
        have ep : p2 = p := by omega
        subst x1 x2 x3 z1 ep
        have n3 : ¬ (p2 : Int) < 0 := by omega
        simp (disch := omega) only [evs, ↓reduceIte, Nat.reduceEqDiff, Nat.reduceAdd, Nat.reduceMul, Nat.reduceLeDiff, Nat.reduceLT, Int.reduceNeg, DF, eff, Nat.reduceSub, fwrap_i64, g7, g2, eq_false n1, eq_true n2, eq_false n3]
        exact see4_ok (hr := p2) (e := 0) (pl := pr) (top := p2) H3 ⟨(by simp [T.get_set, g2]), (by simp [T.get_set, g7]), (by simp [T.get_set, g8]), (by simp [T.get_set, g9]), (by simp [T.get_set, g10])⟩ (by simp [T.get_set]) (by simp [T.get_set]) (by simp [T.get_set]) (by simp [T.get_set]) (by simp [T.get_set]) (by simp [T.get_set]) (.inr ⟨rfl, p2, rfl, rfl, by rw [← sz_len]; exact x4, c1.1, by omega, fun r' hr' => place_eq x6 (by rw [sy_len, ← sz_len]; exact x4) z3 hr'⟩) (fun env' h' F' S' => K _ _ (F03.then F') S')
  · rw [if_neg c1]
    simp (disch := omega) only [evs, ↓reduceIte, Nat.reduceEqDiff, Nat.reduceAdd, Nat.reduceMul, Nat.reduceLeDiff, Nat.reduceLT, Int.reduceNeg, DF, eff, Nat.reduceSub, fwrap_i64, g7, g2]
    refine OQ_does (rAt_ok H3.rw fit) ?_
    rintro _ _ ⟨rfl, hh⟩
    replace hh := hh.symm
    subst hh
    rw [atL, if_neg c1]
    simp (disch := omega) only [evs, ↓reduceIte, Nat.reduceEqDiff, Nat.reduceAdd, Nat.reduceMul, Nat.reduceLeDiff, Nat.reduceLT, Int.reduceNeg, DF, eff, Nat.reduceSub, fwrap_i64, g7, g2, eq_true (show (-1 : Int) < 0 by omega), eq_false (show ¬ (0 : Int) ≤ -1 by omega)]
    refine OQ_does (rHead_ok H3.rw fit) ?_
    rintro _ _ ⟨⟨hd, rfl, hhd⟩, hh⟩
    replace hh := hh.symm
    subst hh
    by_cases c2 : L = [] ∧ s = 0
    · obtain ⟨c2, c3⟩ := c2
      have e0 : sz L = [] := by rw [c2]; rfl
      unfold HeadS at hs hs'
      rw [if_pos ⟨e0, c3⟩] at hs hs'
      rw [if_neg (by omega)] at ps'
      obtain ⟨x1, x2⟩ := hs
      obtain ⟨y1, y2⟩ := hs'
      obtain ⟨z1, z2⟩ := ps'
      have hd1 : hd = -1 := by
        rcases hhd with ⟨q, _⟩ | ⟨p, _, q, _⟩
        · exact q
        · rw [c2] at q; simp at q
      have hl : aP .lenS [v] = some (.int .i64 0) := by rw [hal, c2]; rfl
      rw [y2] at z2
      subst x1 x2 z1 z2 hd1 c3
      simp (disch := omega) only [evs, ↓reduceIte, Nat.reduceEqDiff, Nat.reduceAdd, Nat.reduceMul, Nat.reduceLeDiff, Nat.reduceLT, Int.reduceNeg, DF, eff, Nat.reduceSub, fwrap_i64, g7, g2, eq_true (show (-1 : Int) < 0 by omega), hl, eq_false (show ¬ (0 : Int) < 0 by omega)]
      exact see4_ok (hr := 0) (e := 11) (pl := 0) (top := -1) H3 ⟨(by simp [T.get_set, g2]), (by simp [T.get_set, g7]), (by simp [T.get_set, g8]), (by simp [T.get_set, g9]), (by simp [T.get_set, g10])⟩ (by simp [T.get_set]) (by simp [T.get_set]) (by simp [T.get_set]) (by simp [T.get_set]) (by simp [T.get_set]) (by simp [T.get_set]) (.inl ⟨by omega, rfl, rfl⟩) (fun env' h' F' S' => K _ _ (F03.then F') S')
    · have c3 : ¬ s = 0 := by
        intro e
        have : L ≠ [] := fun x => c2 ⟨x, e⟩
        have := H.good.len_pos this
        omega
      have c4 : ¬ (sz L = [] ∧ s = 0) := fun x => c3 x.2
      unfold HeadS at hs hs'
      rw [if_neg c4, if_neg c1] at hs hs'
      rw [if_neg (by omega)] at ps'
      obtain ⟨x1, x2⟩ := hs
      obtain ⟨y1, y2⟩ := hs'
      obtain ⟨z1, z2⟩ := ps'
      rw [y2] at z2
      subst x1 x2 z1 z2
      simp (disch := omega) only [evs, ↓reduceIte, Nat.reduceEqDiff, Nat.reduceAdd, Nat.reduceMul, Nat.reduceLeDiff, Nat.reduceLT, Int.reduceNeg, DF, eff, Nat.reduceSub, fwrap_i64, g7, g2, eq_true (show (-1 : Int) < 0 by omega), eq_false c3]
      exact see4_ok (hr := 0) (e := 4) (pl := 0) (top := hd) H3 ⟨(by simp [T.get_set, g2]), (by simp [T.get_set, g7]), (by simp [T.get_set, g8]), (by simp [T.get_set, g9]), (by simp [T.get_set, g10])⟩ (by simp [T.get_set]) (by simp [T.get_set]) (by simp [T.get_set]) (by simp [T.get_set]) (by simp [T.get_set]) (by simp [T.get_set]) (.inl ⟨by omega, rfl, rfl⟩) (fun env' h' F' S' => K _ _ (F03.then F') S')
end Go.Ev.Lay

/- LayoutsSee: a round, the first half. -/
namespace Go.Ev.Lay
set_option maxRecDepth 4000
theorem attR_le (f t hd : Int) (n : Nat) : (attR f t hd n).length ≤ n := by
  unfold attR
  rw [List.length_map]
  exact Nat.le_trans (List.length_filter_le _ _) (by simp)
/-- what Window and Attached said -/
def Got (h : Heap) (L : List (Int × Bool × Bool)) (view over s fr to' g : Int) (all : V) : Prop :=
  (clampL (sz L) view s = s ∧ L = [] ∧ fr = 0 ∧ to' = 0 ∧ g = 0 ∧ all = .nils) ∨
  (clampL (sz L) view s = s ∧ L ≠ [] ∧ fr = (winL (sz L) view over s).1 ∧ to' = (winL (sz L) view over s).2 ∧ g = 0 ∧ ∃ A c, all = .slice c 0 A.length A.length ∧ Own h c (A.map (V.int .i64)) ∧ AttS (sz L) (sy L) view over s A) ∨
  (clampL (sz L) view s ≠ s ∧ fr = 0 ∧ to' = 0 ∧ g = 4 ∧ all = .nils)
theorem see2_ok {h : Heap} {b fb j : Nat} {v all : V} {L : List (Int × Bool × Bool)} {view over s fr to' g : Int} {env : T V} {Q : Ex → T V → Heap → Prop} (H : Hp h b fb v L view over) (S : Sv env b fb v s j)
    (s0 : -9223372036854775808 ≤ s) (s1 : s ≤ 9223372036854775807) (g11 : env.get 11 = some (.int .i64 (clampL (sz L) view s))) (g14 : env.get 14 = some (.int .i64 fr)) (g15 : env.get 15 = some (.int .i64 to')) (g16 : env.get 16 = some (.int .i64 g)) (g17 : env.get 17 = some all)
    (c : Got h L view over s fr to' g all)
    (K : ∀ env' h', Fr [] h h' → Sv env' b fb v s j → Q .norm env' h') : W go see2 env h Q := by
  obtain ⟨g2, g7, g8, g9, g10⟩ := S
  have fit := H.good.fit
  have f2 := fit.2.1
  have f3 := H.good.len
  have v1 := H.v1
  have v2 := H.v2
  have o0 := H.o0
  have o1 := H.o1
  rcases c with ⟨c1, c2, rfl, rfl, rfl, rfl⟩ | ⟨c1, c2, rfl, rfl, rfl, A, c, rfl, oc, att⟩ | ⟨c1, rfl, rfl, rfl, rfl⟩
  · have hs : s = 0 := by rw [c2] at c1; simp [clampL, sz] at c1; omega
    subst hs
    simp (disch := omega) only [evs, ↓reduceIte, Nat.reduceEqDiff, Nat.reduceAdd, Nat.reduceMul, Nat.reduceLeDiff, Nat.reduceLT, Int.reduceNeg, DF, eff, Nat.reduceSub, fwrap_i64, see2, g11, g2, eq_true c1, g9, H.fo.ld1, g7]
    refine OQ_does (rWindow_ok H.rw fit v1 (by omega) o0 o1 (by omega) (.inr c2) (by omega)) ?_
    rintro _ _ ⟨rfl, hh⟩
    replace hh := hh.symm
    subst hh
    rw [if_pos c2]
    simp (disch := omega) only [evs, ↓reduceIte, Nat.reduceEqDiff, Nat.reduceAdd, Nat.reduceMul, Nat.reduceLeDiff, Nat.reduceLT, Int.reduceNeg, DF, eff, Nat.reduceSub, fwrap_i64, g9, H.fo.ld1, g7, g14, g15, g17, g2]
    refine OQ_does (rAtt_ok H.wf H.rw fit v1 (by omega) o0 o1 (by omega) (.inr c2) (by omega)) ?_
    rintro u h1 ⟨F1, hd, hhd, iu⟩
    rw [if_pos c2] at iu
    simp (disch := omega) only [evs, ↓reduceIte, Nat.reduceEqDiff, Nat.reduceAdd, Nat.reduceMul, Nat.reduceLeDiff, Nat.reduceLT, Int.reduceNeg, DF, eff, Nat.reduceSub, fwrap_i64]
    refine OQ_does (ints_ok (A := []) (show Sl _ 1 _ _ _ from Recs.nil (f := ic)) iu (by simp)) ?_
    rintro _ _ ⟨rfl, hh⟩
    replace hh := hh.symm
    subst hh
    simp (disch := omega) only [evs, ↓reduceIte, Nat.reduceEqDiff, Nat.reduceAdd, Nat.reduceMul, Nat.reduceLeDiff, Nat.reduceLT, Int.reduceNeg, DF, eff, Nat.reduceSub, fwrap_i64, g17, eq_false (show ¬ (1 : Int) = 0 by omega)]
    exact see3_ok (H.fr F1) ⟨(by simp [T.get_set, g2]), (by simp [T.get_set, g7]), (by simp [T.get_set, g8]), (by simp [T.get_set, g9]), (by simp [T.get_set, g10])⟩ s0 s1 (fun env' h' F' S' => K _ _ (F1.then F') S')
  · have hp := H.good.len_pos c2
    have hs : 0 ≤ s ∧ s < (sz L).sum := by unfold clampL at c1; omega
    have hne : sz L ≠ [] := by intro e; rw [e] at hs; simp at hs; omega
    simp (disch := omega) only [evs, ↓reduceIte, Nat.reduceEqDiff, Nat.reduceAdd, Nat.reduceMul, Nat.reduceLeDiff, Nat.reduceLT, Int.reduceNeg, DF, eff, Nat.reduceSub, fwrap_i64, see2, g11, g2, eq_true c1, g9, H.fo.ld1, g7]
    refine OQ_does (rWindow_ok H.rw fit v1 (by omega) o0 o1 hs.1 (.inl hs.2) (by omega)) ?_
    rintro _ _ ⟨rfl, hh⟩
    replace hh := hh.symm
    subst hh
    rw [if_neg c2]
    simp (disch := omega) only [evs, ↓reduceIte, Nat.reduceEqDiff, Nat.reduceAdd, Nat.reduceMul, Nat.reduceLeDiff, Nat.reduceLT, Int.reduceNeg, DF, eff, Nat.reduceSub, fwrap_i64, g9, H.fo.ld1, g7, g14, g15, g17, g2]
    refine OQ_does (rAtt_ok H.wf H.rw fit v1 (by omega) o0 o1 hs.1 (.inl hs.2) (by omega)) ?_
    rintro u h1 ⟨F1, hd, hhd, iu⟩
    rw [if_neg c2] at iu
    rw [← sz_len] at hhd iu
    have ea := att_eq fit (by rw [sy_len, sz_len]) hs.1 hs.2 hne v1 o0 att hhd
    rw [← ea] at iu
    have al : A.length ≤ 1024 := by rw [ea]; have := attR_le (winL (sz L) view over s).1 (winL (sz L) view over s).2 hd (sz L).length; rw [sz_len] at this ⊢; omega
    have ia : Ints h1 (.slice c 0 A.length A.length) A := Sl.lit (F1.get oc) (by simp)
    simp (disch := omega) only [evs, ↓reduceIte, Nat.reduceEqDiff, Nat.reduceAdd, Nat.reduceMul, Nat.reduceLeDiff, Nat.reduceLT, Int.reduceNeg, DF, eff, Nat.reduceSub, fwrap_i64]
    refine OQ_does (ints_ok ia iu (by omega)) ?_
    rintro _ _ ⟨rfl, hh⟩
    replace hh := hh.symm
    subst hh
    simp (disch := omega) only [evs, ↓reduceIte, Nat.reduceEqDiff, Nat.reduceAdd, Nat.reduceMul, Nat.reduceLeDiff, Nat.reduceLT, Int.reduceNeg, DF, eff, Nat.reduceSub, fwrap_i64, g17, eq_false (show ¬ (1 : Int) = 0 by omega)]
    exact see3_ok (H.fr F1) ⟨(by simp [T.get_set, g2]), (by simp [T.get_set, g7]), (by simp [T.get_set, g8]), (by simp [T.get_set, g9]), (by simp [T.get_set, g10])⟩ s0 s1 (fun env' h' F' S' => K _ _ (F1.then F') S')
  · simp (disch := omega) only [evs, ↓reduceIte, Nat.reduceEqDiff, Nat.reduceAdd, Nat.reduceMul, Nat.reduceLeDiff, Nat.reduceLT, Int.reduceNeg, DF, eff, Nat.reduceSub, fwrap_i64, see2, g11, g2, eq_false c1, g9, g14, g15, g16, g17, eq_false (show ¬ (0 : Int) < 0 by omega)]
    exact see3_ok H ⟨(by simp [T.get_set, g2]), (by simp [T.get_set, g7]), (by simp [T.get_set, g8]), (by simp [T.get_set, g9]), (by simp [T.get_set, g10])⟩ s0 s1 K
theorem see1_ok {h : Heap} {b fb j : Nat} {v : V} {L : List (Int × Bool × Bool)} {view over s : Int} {env : T V} {Q : Ex → T V → Heap → Prop} (H : Hp h b fb v L view over) (S : Sv env b fb v s j)
    (s0 : -9223372036854775808 ≤ s) (s1 : s ≤ 9223372036854775807)
    (K : ∀ env' h', Fr [] h h' → Sv env' b fb v s j → Q .norm env' h') : W go see1 env h Q := by
  obtain ⟨g2, g7, g8, g9, g10⟩ := S
  have fit := H.good.fit
  have v1 := H.v1
  have v2 := H.v2
  have o0 := H.o0
  have o1 := H.o1
  have ok : okF view over := ⟨v1, by omega, o0, o1⟩
  simp (disch := omega) only [evs, ↓reduceIte, Nat.reduceEqDiff, Nat.reduceAdd, Nat.reduceMul, Nat.reduceLeDiff, Nat.reduceLT, Int.reduceNeg, DF, eff, Nat.reduceSub, fwrap_i64, see1, g9, H.fo.ld1, g7, g2]
  refine OQ_does (rClamp_ok H.rw fit v1 (by omega)) ?_
  rintro _ _ ⟨rfl, hh⟩
  replace hh := hh.symm
  subst hh
  simp (disch := omega) only [evs, ↓reduceIte, Nat.reduceEqDiff, Nat.reduceAdd, Nat.reduceMul, Nat.reduceLeDiff, Nat.reduceLT, Int.reduceNeg, DF, eff, Nat.reduceSub, fwrap_i64, g9, H.fo.ld, g8, g2]
  refine OQ_does (LClamp_ok H.wf H.lo) ?_
  rintro _ h1 ⟨rfl, F1⟩
  have H1 := H.fr F1
  rw [if_pos ok]
  simp (disch := omega) only [evs, ↓reduceIte, Nat.reduceEqDiff, Nat.reduceAdd, Nat.reduceMul, Nat.reduceLeDiff, Nat.reduceLT, Int.reduceNeg, DF, eff, Nat.reduceSub, fwrap_i64, g9, H1.fo.ld, g8, g2]
  refine OQ_does (LWindow_ok H1.wf H1.lo H.good.pos s0 s1) ?_
  rintro _ h2 ⟨rfl, F2⟩
  have H2 := H1.fr F2
  have F02 := F1.then F2
  obtain ⟨fr, to', g, e1, e2⟩ : ∃ fr to' g : Int, winE (sz L) view over s = .tup [.int .i64 fr, .int .i64 to', .int .i64 g] ∧ ((clampL (sz L) view s = s ∧ L = [] ∧ fr = 0 ∧ to' = 0 ∧ g = 0) ∨
      (clampL (sz L) view s = s ∧ L ≠ [] ∧ fr = (winL (sz L) view over s).1 ∧ to' = (winL (sz L) view over s).2 ∧ g = 0) ∨ (clampL (sz L) view s ≠ s ∧ fr = 0 ∧ to' = 0 ∧ g = 4)) := by
    unfold winE
    rw [if_pos ok]
    by_cases c : clampL (sz L) view s = s
    · rw [if_pos c]
      by_cases c2 : L = []
      · rw [if_pos (by rw [c2]; rfl)]; exact ⟨0, 0, 0, rfl, .inl ⟨c, c2, rfl, rfl, rfl⟩⟩
      · rw [if_neg (by intro e; apply c2; have := congrArg List.length e; rw [sz_len] at this; exact List.length_eq_zero_iff.1 this)]; exact ⟨_, _, 0, rfl, .inr (.inl ⟨c, c2, rfl, rfl, rfl⟩)⟩
    · rw [if_neg c]; exact ⟨0, 0, 4, rfl, .inr (.inr ⟨c, rfl, rfl, rfl⟩)⟩
  rw [e1]
  simp (disch := omega) only [evs, ↓reduceIte, Nat.reduceEqDiff, Nat.reduceAdd, Nat.reduceMul, Nat.reduceLeDiff, Nat.reduceLT, Int.reduceNeg, DF, eff, Nat.reduceSub, fwrap_i64, g9, H2.fo.ld, g8, g2]
  refine OQ_does (LAtt_ok H2.wf H2.glb H2.lo H.good.pos s0 s1) ?_
  rintro u h3 ⟨F3, hu⟩
  have H3 := H2.fr F3
  have F03 := F02.then F3
  rw [if_pos ok] at hu
  obtain ⟨all, eu, got⟩ : ∃ all, u = .tup [all, .int .i64 g] ∧ Got h3 L view over s fr to' g all := by
    rcases e2 with ⟨c1, c2, x1, x2, x3⟩ | ⟨c1, c2, x1, x2, x3⟩ | ⟨c1, x1, x2, x3⟩
    · rw [if_pos c1, if_pos (by rw [c2]; rfl)] at hu
      exact ⟨.nils, by rw [hu, x3], .inl ⟨c1, c2, x1, x2, x3, rfl⟩⟩
    · rw [if_pos c1, if_neg (by intro e; apply c2; have := congrArg List.length e; rw [sz_len] at this; exact List.length_eq_zero_iff.1 this)] at hu
      obtain ⟨A, c, q1, q2, q3, q4⟩ := hu
      exact ⟨_, by rw [q1, x3], .inr (.inl ⟨c1, c2, x1, x2, x3, A, c, rfl, q2, q4⟩)⟩
    · rw [if_neg c1] at hu
      exact ⟨.nils, by rw [hu, x3], .inr (.inr ⟨c1, x1, x2, x3, rfl⟩)⟩
  subst eu
  have key : (g = 0 ∧ clampL (sz L) view s = s) ∨ (g = 4 ∧ ¬ clampL (sz L) view s = s) := by
    rcases e2 with ⟨c1, c2, x1, x2, x3⟩ | ⟨c1, c2, x1, x2, x3⟩ | ⟨c1, x1, x2, x3⟩
    · exact .inl ⟨x3, c1⟩
    · exact .inl ⟨x3, c1⟩
    · exact .inr ⟨x3, c1⟩
  rcases key with ⟨rfl, kc⟩ | ⟨rfl, kc⟩
  case' inl => simp (disch := omega) only [evs, ↓reduceIte, Nat.reduceEqDiff, Nat.reduceAdd, Nat.reduceMul, Nat.reduceLeDiff, Nat.reduceLT, Int.reduceNeg, DF, eff, Nat.reduceSub, fwrap_i64, g2, eq_true kc]
  case' inr => simp (disch := omega) only [evs, ↓reduceIte, Nat.reduceEqDiff, Nat.reduceAdd, Nat.reduceMul, Nat.reduceLeDiff, Nat.reduceLT, Int.reduceNeg, DF, eff, Nat.reduceSub, fwrap_i64, g2, eq_false kc, eq_false (show ¬ (4 : Int) = 0 by omega)]
  all_goals
    refine see2_ok H3 ⟨(by simp [T.get_set, g2]), (by simp [T.get_set, g7]), (by simp [T.get_set, g8]), (by simp [T.get_set, g9]), (by simp [T.get_set, g10])⟩ s0 s1 ?_ ?_ ?_ ?_ ?_ got (fun env' h' F' S' => K _ _ (F03.then F') S')
    all_goals (by_cases q : 0 = 0 <;> simp [T.get_set])
end Go.Ev.Lay

/- LayoutsSee. -/
namespace Go.Ev.Lay
set_option maxRecDepth 4000
theorem lives_ok {h : Heap} (g : Glb h) : Does go 20 [] h fun u h' => u = .bool true ∧ h' = h :=
  ⟨.bool true, h, ev_ov noLives (by unfold lov; rw [if_pos ⟨rfl, rfl, g⟩]), rfl, rfl⟩
theorem remu16 (a n : Nat) (b : Int) (hb : b = n) (h0 : 0 < n) : aP (.ib .rem) [.int .u16 (a : Int), .int .u16 b] = some (.int .u16 ((a % n : Nat) : Int)) := by
  subst hb
  rw [aP_rem _ _ _ (by omega), show Int.tmod (a : Int) n = ((a % n : Nat) : Int) from (Int.ofNat_tmod a n).symm]
theorem sum_le : ∀ (l : List Int) (k : Int), (∀ x ∈ l, x ≤ k) → l.sum ≤ l.length * k
  | [], k, _ => by simp
  | x :: l, k, h => by
    have h1 := h x (by simp)
    have h2 := sum_le l k fun y hy => h y (by simp [hy])
    simp only [List.sum_cons, List.length_cons]
    rw [show ((l.length + 1 : Nat) : Int) = (l.length : Int) + 1 by omega, Int.add_mul]; omega
theorem good_rows (ps : List (Nat × Nat)) : Good ((ps.take 30).map mkRow) := by
  have hl : ((ps.take 30).map mkRow).length ≤ 30 := by simp; omega
  refine ⟨by omega, ?_, ?_⟩
  · intro r hr
    simp only [List.mem_map] at hr
    obtain ⟨p, _, rfl⟩ := hr
    simp only [mkRow]
    omega
  · have := sum_le (sz ((ps.take 30).map mkRow)) 128 (fun x hx => by
      simp only [sz, List.mem_map] at hx
      obtain ⟨r, ⟨p, _, rfl⟩, rfl⟩ := hx
      simp only [mkRow]
      omega)
    rw [sz_len] at this
    omega
theorem tmod_i64 (a b : Int) (h : b ≠ 0) : aP (.ib .rem) [.int .i64 a, .int .i64 b] = some (.int .i64 (a.tmod b)) := aP_rem _ _ _ h
theorem tabc_noflc : ∀ n m ws, ws.length = 64 → tabc ≠ flc n m ws := by
  intro n m ws hl e
  have := congrArg List.length e
  simp [flc, hl, tabc] at this
  exact absurd this (by decide)
theorem Glb.frF {h h' : Heap} {b : Nat} (g : Glb h) (f : FrF b h h') (hb : 0 ≠ b) : Glb h' := f.pl _ _ hb tabc_noflc g
theorem See_ok {h : Heap} {v : V} {ps : List (Nat × Nat)} {z0 z1 : Nat} {s : Int} (w : WF h) (g : Glb h) (hn : 0 < h.next) (a : Recs uc 2 h v ps) (hp : ∀ p ∈ ps, p.1 < 256 ∧ p.2 < 256) (hz0 : z0 < 65536) (hz1 : z1 < 65536) (s0 : -9223372036854775808 ≤ s) (s1 : s ≤ 9223372036854775807) :
    Does go 4 [.agg [v], .agg [.int .u16 (z0 : Int), .int .u16 (z1 : Int)], .int .i64 s] h fun u h' => u = .bool true ∧ ∃ b, h.next ≤ b ∧ FrF b h h' := by
  have v1 := cells_one (Sl.one a)
  have G := good_rows ps
  obtain ⟨L, hL⟩ : ∃ L, L = (ps.take 30).map mkRow := ⟨_, rfl⟩
  rw [← hL] at G
  obtain ⟨h1, e_h1⟩ : ∃ h1, h1 = halloc h [v] := ⟨_, rfl⟩
  have F_h1 : Fr [] h h1 := e_h1 ▸ Fr.halloc w _
  have o_h1 : Own h1 h.next [v] := e_h1 ▸ Own.new w _
  obtain ⟨h2, e_h2⟩ : ∃ h2, h2 = halloc h1 [.int .u16 (z0 : Int), .int .u16 (z1 : Int)] := ⟨_, rfl⟩
  have F_h2 : Fr [] h1 h2 := e_h2 ▸ Fr.halloc F_h1.wf _
  have o_h2 : Own h2 h1.next [.int .u16 (z0 : Int), .int .u16 (z1 : Int)] := e_h2 ▸ Own.new F_h1.wf _
  have F02 := F_h1.then F_h2
  refine does_fn g4x rfl ?_
  simp (disch := omega) only [evs, ↓reduceIte, Nat.reduceEqDiff, Nat.reduceAdd, Nat.reduceMul, Nat.reduceLeDiff, Nat.reduceLT, Int.reduceNeg, DF, eff, Nat.reduceSub, fwrap_i64, fn4x, v1, ← e_h1, ← e_h2, (F_h2.get o_h1).ld, (F_h2.get o_h1).ld1]
  refine OQ_does (Rows_ok F02.wf (Recs.fr a F02) hp) ?_
  rintro u h3 ⟨gr, F3⟩
  rw [← hL] at gr
  have rf := GRecs.rwf gr
  have F03 := F02.then F3
  simp (disch := omega) only [evs, ↓reduceIte, Nat.reduceEqDiff, Nat.reduceAdd, Nat.reduceMul, Nat.reduceLeDiff, Nat.reduceLT, Int.reduceNeg, DF, eff, Nat.reduceSub, fwrap_i64]
  refine OQ_does (Lay_ok F3.wf rf G) ?_
  rintro _ h4 ⟨b, rfl, hb, lo, F4⟩
  have rf4 := rf.frF' F4 F3.wf hb
  have hb0 : h.next ≤ b := Nat.le_trans F03.next hb
  have o4 : Own h4 h1.next [.int .u16 (z0 : Int), .int .u16 (z1 : Int)] := F4.own _ _ (by have := (F3.get o_h2).lt F3.wf; omega) (fun n m ws hl e => by have := congrArg List.length e; simp [flc, hl] at this) (F3.get o_h2)
  have glb4 : Glb h4 := (g.fr F03).frF F4 (by omega)
  have F04 : FrF b h h4 := (frF F03).trans F4
  have i0 := aP_ixa 1 h1.next 0 2 .i64 0 (by omega) (by omega)
  have i1 := aP_ixa 1 h1.next 0 2 .i64 1 (by omega) (by omega)
  have m1 := remu16 z0 300 300 rfl (by omega)
  have m2 := remu16 z1 17 17 rfl (by omega)
  rw [show 0 + (0 : Int).toNat * 1 = 0 by simp] at i0
  rw [show 0 + (1 : Int).toNat * 1 = 1 by simp] at i1
  obtain ⟨view, hview⟩ : ∃ view : Int, view = 1 + ((z0 % 300 : Nat) : Int) := ⟨_, rfl⟩
  obtain ⟨over, hover⟩ : ∃ over : Int, over = ((z1 % 17 : Nat) : Int) := ⟨_, rfl⟩
  obtain ⟨h5, e_h5⟩ : ∃ h5, h5 = halloc h4 [.int .i64 0, .int .i64 0, .bool false] := ⟨_, rfl⟩
  have F_h5 : Fr [] h4 h5 := e_h5 ▸ Fr.halloc F4.wf _
  have o_h5 : Own h5 h4.next [.int .i64 0, .int .i64 0, .bool false] := e_h5 ▸ Own.new F4.wf _
  simp (disch := omega) only [evs, ↓reduceIte, Nat.reduceEqDiff, Nat.reduceAdd, Nat.reduceMul, Nat.reduceLeDiff, Nat.reduceLT, Int.reduceNeg, DF, eff, Nat.reduceSub, fwrap_i64, i0, i1, m1, m2, o4.ld1, ← e_h5, ← hview, ← hover]
  refine store_step (c' := [.int .i64 view, .int .i64 over, .bool false]) F_h5.wf o_h5 rfl (by first | rfl | simp [onesB, V.cells, pv_one, *]) rfl ?_
  rintro h6 o_h6 F_h6 n_h6
  have F46 : Fr [] h4 h6 := F_h5.fresh F_h6 F4.wf (Nat.le_refl _)
  have H6 : Hp h6 b h4.next u L view over := ⟨F46.wf, glb4.fr F46, lo.fr F46, o_h6, Recs.fr rf4.rws F46, G, by omega, by omega, by omega, by omega⟩
  have F06 : FrF b h h6 := F04.trans (frF F46)
  simp (disch := omega) only [evs, ↓reduceIte, Nat.reduceEqDiff, Nat.reduceAdd, Nat.reduceMul, Nat.reduceLeDiff, Nat.reduceLT, Int.reduceNeg, DF, eff, Nat.reduceSub, fwrap_i64]
  refine W_loop (fun k env hh => ∃ (j : Nat) (s : Int), Hp hh b h4.next u L view over ∧ FrF b h hh ∧ Sv env b h4.next u s j ∧ (-9223372036854775808 ≤ s ∧ s ≤ 9223372036854775807) ∧ j ≤ 2 ∧ k = 2 - j) 2 (by omega) ?_ ?_
  · exact ⟨0, s, H6, F06, ⟨(by simp [T.get_set]), (by simp [T.get_set]), (by simp [T.get_set]), (by simp [T.get_set]), (by simp [T.get_set])⟩, ⟨s0, s1⟩, by omega, rfl⟩
  clear s0 s1 s
  rintro k env hh ⟨j, s, H, FF, ⟨g2, g7, g8, g9, g10⟩, ⟨s0, s1⟩, hj, rfl⟩
  by_cases hlt : (j : Int) < 2
  · have K : ∀ (s' : Int), (-9223372036854775808 ≤ s' ∧ s' ≤ 9223372036854775807) → ∀ env' h', Fr [] hh h' → Sv env' b h4.next u s' j → W go (.ops [⟨none, .p .mv [.v 10], none⟩, ⟨none, .p (.ib .add) [.l 0, .c (.int .i64 1)], none⟩, ⟨none, .p .mv [.l 0], some 10⟩]) env' h' (roundQ (fun k env hh => ∃ (j : Nat) (s : Int), Hp hh b h4.next u L view over ∧ FrF b h hh ∧ Sv env b h4.next u s j ∧ (-9223372036854775808 ≤ s ∧ s ≤ 9223372036854775807) ∧ j ≤ 2 ∧ k = 2 - j) (2 - j) (blockQ 0 (thenQ go (.seq (.ops [⟨none, .cf 17 [.v 8, .v 7], none⟩, ⟨none, .p (.ib .eql) [.l 0, .c (.int .i64 1)], none⟩, ⟨(some (.l 0, true)), .cf 20 [], none⟩, ⟨none, .p .pick [.l 1, .l 0, .c (.bool false)], none⟩, ⟨none, .p .mv [.l 0], some 6⟩]) .ret) (RetQ [.t 6] fun u h' => u = .bool true ∧ ∃ b, h.next ≤ b ∧ FrF b h h')))) := by
      rintro s' bs env' h' F' ⟨k2, k7, k8, k9, k10⟩
      simp (disch := omega) only [evs, ↓reduceIte, Nat.reduceEqDiff, Nat.reduceAdd, Nat.reduceMul, Nat.reduceLeDiff, Nat.reduceLT, Int.reduceNeg, DF, eff, Nat.reduceSub, fwrap_i64, k10]
      refine (roundQ_norm _ _ _).2 ⟨2 - (j + 1), by omega, j + 1, s', H.fr F', FF.trans (frF F'), ⟨(by simp [T.get_set, k2]), (by simp [T.get_set, k7]), (by simp [T.get_set, k8]), (by simp [T.get_set, k9]), (by simp [T.get_set])⟩, bs, by omega, rfl⟩
    have hal := H.rw.len
    by_cases c0 : (0 : Int) < j
    · by_cases cL : (0 : Int) < L.length
      · have hL0 : L ≠ [] := by intro e; rw [e] at cL; simp at cL
        have hp1 := H.good.len_pos hL0
        have hp2 := H.good.fit.2.1
        obtain ⟨q, hq⟩ : ∃ q, q = Int.tmod s (sz L).sum := ⟨_, rfl⟩
        have q1 : -(sz L).sum < q ∧ q < (sz L).sum := by
          rw [hq]
          have t1 := Int.tmod_lt_of_pos s (b := (sz L).sum) (by omega)
          have t2 := Int.lt_tmod_of_pos s (b := (sz L).sum) (by omega)
          omega
        obtain ⟨r, hr⟩ : ∃ r, r = Int.tmod (q + (sz L).sum) (sz L).sum := ⟨_, rfl⟩
        have r1 : 0 ≤ r ∧ r < (sz L).sum := by
          rw [hr]
          have t1 := Int.tmod_lt_of_pos (q + (sz L).sum) (b := (sz L).sum) (by omega)
          have t2 := Int.tmod_nonneg (a := q + (sz L).sum) (sz L).sum (by omega)
          omega
        have m3 := tmod_i64 s (sz L).sum (by omega)
        have m4 := tmod_i64 (q + (sz L).sum) (sz L).sum (by omega)
        rw [← hq] at m3
        rw [← hr] at m4
        simp (disch := omega) only [evs, ↓reduceIte, Nat.reduceEqDiff, Nat.reduceAdd, Nat.reduceMul, Nat.reduceLeDiff, Nat.reduceLT, Int.reduceNeg, DF, eff, Nat.reduceSub, fwrap_i64, g10, eq_true hlt, eq_true c0, g7, hal, eq_true cL, g2]
        refine OQ_does (rTotal_ok H.rw H.good.fit) ?_
        rintro _ _ ⟨rfl, hh⟩
        replace hh := hh.symm
        subst hh
        simp (disch := omega) only [evs, ↓reduceIte, Nat.reduceEqDiff, Nat.reduceAdd, Nat.reduceMul, Nat.reduceLeDiff, Nat.reduceLT, Int.reduceNeg, DF, eff, Nat.reduceSub, fwrap_i64, m3, g7]
        refine OQ_does (rTotal_ok H.rw H.good.fit) ?_
        rintro _ _ ⟨rfl, hh⟩
        replace hh := hh.symm
        subst hh
        simp (disch := omega) only [evs, ↓reduceIte, Nat.reduceEqDiff, Nat.reduceAdd, Nat.reduceMul, Nat.reduceLeDiff, Nat.reduceLT, Int.reduceNeg, DF, eff, Nat.reduceSub, fwrap_i64, m3, g7]
        refine OQ_does (rTotal_ok H.rw H.good.fit) ?_
        rintro _ _ ⟨rfl, hh⟩
        replace hh := hh.symm
        subst hh
        simp (disch := omega) only [evs, ↓reduceIte, Nat.reduceEqDiff, Nat.reduceAdd, Nat.reduceMul, Nat.reduceLeDiff, Nat.reduceLT, Int.reduceNeg, DF, eff, Nat.reduceSub, fwrap_i64, m4, g7]
        exact see1_ok H ⟨(by simp [T.get_set]), (by simp [T.get_set, g7]), (by simp [T.get_set, g8]), (by simp [T.get_set, g9]), (by simp [T.get_set, g10])⟩ (by omega) (by omega) (fun env' h' F' S' => K r (by omega) env' h' F' S')
      · simp (disch := omega) only [evs, ↓reduceIte, Nat.reduceEqDiff, Nat.reduceAdd, Nat.reduceMul, Nat.reduceLeDiff, Nat.reduceLT, Int.reduceNeg, DF, eff, Nat.reduceSub, fwrap_i64, g10, eq_true hlt, eq_true c0, g7, hal, eq_false cL]
        exact see1_ok H ⟨(by simp [T.get_set, g2]), (by simp [T.get_set, g7]), (by simp [T.get_set, g8]), (by simp [T.get_set, g9]), (by simp [T.get_set, g10])⟩ s0 s1 (fun env' h' F' S' => K s ⟨s0, s1⟩ env' h' F' S')
    · simp (disch := omega) only [evs, ↓reduceIte, Nat.reduceEqDiff, Nat.reduceAdd, Nat.reduceMul, Nat.reduceLeDiff, Nat.reduceLT, Int.reduceNeg, DF, eff, Nat.reduceSub, fwrap_i64, g10, eq_true hlt, eq_false c0]
      exact see1_ok H ⟨(by simp [T.get_set, g2]), (by simp [T.get_set, g7]), (by simp [T.get_set, g8]), (by simp [T.get_set, g9]), (by simp [T.get_set, g10])⟩ s0 s1 (fun env' h' F' S' => K s ⟨s0, s1⟩ env' h' F' S')
  · simp (disch := omega) only [evs, ↓reduceIte, Nat.reduceEqDiff, Nat.reduceAdd, Nat.reduceMul, Nat.reduceLeDiff, Nat.reduceLT, Int.reduceNeg, DF, eff, Nat.reduceSub, fwrap_i64, g10, eq_false hlt, g8, g7]
    refine OQ_does (same_ok H.wf H.lo H.rw H.good) ?_
    rintro _ h7 ⟨rfl, F7⟩
    simp (disch := omega) only [evs, ↓reduceIte, Nat.reduceEqDiff, Nat.reduceAdd, Nat.reduceMul, Nat.reduceLeDiff, Nat.reduceLT, Int.reduceNeg, DF, eff, Nat.reduceSub, fwrap_i64, eq_true (show (1 : Int) = 1 by rfl)]
    refine OQ_does (lives_ok (H.glb.fr F7)) ?_
    rintro _ _ ⟨rfl, hh⟩
    replace hh := hh.symm
    subst hh
    simp (disch := omega) only [evs, ↓reduceIte, Nat.reduceEqDiff, Nat.reduceAdd, Nat.reduceMul, Nat.reduceLeDiff, Nat.reduceLT, Int.reduceNeg, DF, eff, Nat.reduceSub, fwrap_i64]
    exact ⟨b, hb0, FF.trans (frF F7)⟩
end Go.Ev.Lay
