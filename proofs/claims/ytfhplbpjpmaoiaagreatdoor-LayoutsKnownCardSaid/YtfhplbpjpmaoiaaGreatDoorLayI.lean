/- An evaluator of the program and contracts proved over it: the texts LayRa LayRb. -/
import Derived.Test.YtfhplbpjpmaoiaaGreatDoorLayH
set_option linter.unusedSimpArgs false
set_option linter.unusedVariables false
set_option linter.constructorNameAsVariable false
/- The definition: Top, Total, At, Clamp, Seen, Window, Head, Place. -/
namespace Go.Ev.Lay
set_option maxRecDepth 4000
def rc (r : Int × Bool × Bool) : List V := [.int .i64 r.1, .bool r.2.1, .bool r.2.2]
theorem rc_len (r : Int × Bool × Bool) : (rc r).length = 3 := rfl
theorem rc_ones (r : Int × Bool × Bool) : onesB (rc r) = true := rfl
abbrev Rws (h : Heap) (v : V) (L : List (Int × Bool × Bool)) : Prop := Recs rc 3 h v L
def sz (L : List (Int × Bool × Bool)) : List Int := L.map fun r => r.1
def ky (L : List (Int × Bool × Bool)) : List Bool := L.map fun r => r.2.1
def sy (L : List (Int × Bool × Bool)) : List Bool := L.map fun r => r.2.2
theorem sz_len (L : List (Int × Bool × Bool)) : (sz L).length = L.length := by simp [sz]
theorem ky_len (L : List (Int × Bool × Bool)) : (ky L).length = L.length := by simp [ky]
theorem sy_len (L : List (Int × Bool × Bool)) : (sy L).length = L.length := by simp [sy]
theorem Rws.ix {h : Heap} {v : V} {L : List (Int × Bool × Bool)} (a : Rws h v L) (i : Nat) (h1 : (i : Int) < L.length) :
    ∃ b o r, aP (.ixs 3) [v, .int .i64 i] = some (.ptr b o) ∧ hload1 h b o = some (.int .i64 r.1) ∧ hload1 h b (o + 1) = some (.bool r.2.1) ∧ hload1 h b (o + 2) = some (.bool r.2.2) ∧ hload h b o 3 = some [.int .i64 r.1, .bool r.2.1, .bool r.2.2] ∧ L[i]? = some r := by
  obtain ⟨b, o, s, e, g, g2, e3⟩ := Recs.ix rc_len a .i64 i (by omega) h1
  exact ⟨b, o, s, e, by simpa [rc] using g 0 (by omega), by simpa [rc] using g 1 (by omega), by simpa [rc] using g 2 (by omega), g2, by simpa using e3⟩
theorem sz_get {L : List (Int × Bool × Bool)} {i : Nat} {r : Int × Bool × Bool} (h : L[i]? = some r) : (sz L)[i]? = some r.1 := by simp [sz, h]
theorem take_sum {l : List Int} {i : Nat} {x : Int} (h : l[i]? = some x) : (l.take (i + 1)).sum = (l.take i).sum + x := by rw [List.take_add_one, h]; simp
theorem take_le {l : List Int} (f : Fit l) (i : Nat) : 0 ≤ (l.take i).sum ∧ (l.take i).sum ≤ l.sum := by
  have h1 := (f.sub (List.take_sublist i l)).nn
  have h2 := List.sum_append (l₁ := l.take i) (l₂ := l.drop i)
  rw [List.take_append_drop] at h2
  have := (f.sub (List.drop_sublist i l)).nn
  omega
theorem take_mono {l : List Int} (f : Fit l) {i j : Nat} (h : i ≤ j) : (l.take i).sum ≤ (l.take j).sum := by
  have := take_le (f.sub (List.take_sublist j l)) i
  rw [List.take_take, Nat.min_eq_left h] at this
  exact this.2
theorem rTop_ok {h : Heap} {v : V} {L : List (Int × Bool × Bool)} {i : Nat} (a : Rws h v L) (f : Fit (sz L)) (hi : i ≤ L.length) : Does go 30 [v, .int .i64 (i : Int)] h fun u h' => u = .int .i64 ((sz L).take i).sum ∧ h' = h := by
  have f3 := f.2.2
  rw [sz_len] at f3
  refine does_fn g30 rfl ?_
  simp (disch := omega) only [fn30, evs, ↓reduceIte, Nat.reduceEqDiff, Nat.reduceAdd, Nat.reduceMul, Nat.reduceLeDiff, Nat.reduceLT, Int.reduceNeg, DF, eff, Nat.reduceSub, fwrap_i64]
  refine W_loop (fun k env hh => h = hh ∧ ∃ j : Nat, env.get 6 = some (.int .i64 j) ∧ env.get 5 = some (.int .i64 ((sz L).take j).sum) ∧ env.get 0 = some v ∧ env.get 1 = some (.int .i64 i) ∧ j ≤ i ∧ k = i - j) i (by omega) ?_ ?_
  · exact ⟨rfl, 0, (by simp [T.get_set]), (by simp [T.get_set]), (by simp [T.get_set]), (by simp [T.get_set]), by omega, rfl⟩
  · rintro k env hh ⟨rfl, j, g6, g5, g0, g1, hj, rfl⟩
    by_cases hlt : (j : Int) < i
    · obtain ⟨b, o, r, e1, e2, e3, e4, e5, e6⟩ := Rws.ix a j (by omega)
      have ts := take_sum (sz_get e6)
      have t1 := take_le f j
      have t2 := take_le f (j + 1)
      have f2 := f.2.1
      simp (disch := omega) only [evs, ↓reduceIte, Nat.reduceEqDiff, Nat.reduceAdd, Nat.reduceMul, Nat.reduceLeDiff, Nat.reduceLT, Int.reduceNeg, DF, eff, Nat.reduceSub, fwrap_i64, g6, g5, g0, g1, hlt, e1, e2]
      refine (roundQ_norm _ _ _).2 ⟨i - (j + 1), by omega, rfl, j + 1, (by simp [T.get_set]), (by simp [T.get_set, ts]), (by simp [T.get_set, g0]), (by simp [T.get_set, g1]), by omega, rfl⟩
      done
    · simp (disch := omega) only [evs, ↓reduceIte, Nat.reduceEqDiff, Nat.reduceAdd, Nat.reduceMul, Nat.reduceLeDiff, Nat.reduceLT, Int.reduceNeg, DF, eff, Nat.reduceSub, fwrap_i64, g6, g5, g0, g1, hlt]
      rw [show j = i by omega]
theorem rTotal_ok {h : Heap} {v : V} {L : List (Int × Bool × Bool)} (a : Rws h v L) (f : Fit (sz L)) : Does go 22 [v] h fun u h' => u = .int .i64 (sz L).sum ∧ h' = h := by
  refine does_fn g22 rfl ?_
  simp (disch := omega) only [fn22, evs, ↓reduceIte, Nat.reduceEqDiff, Nat.reduceAdd, Nat.reduceMul, Nat.reduceLeDiff, Nat.reduceLT, Int.reduceNeg, DF, eff, Nat.reduceSub, fwrap_i64, a.len]
  refine OQ_does (rTop_ok a f (Nat.le_refl _)) ?_
  rintro _ _ ⟨rfl, hh⟩
  replace hh := hh.symm
  subst hh
  simp (disch := omega) only [evs, ↓reduceIte, Nat.reduceEqDiff, Nat.reduceAdd, Nat.reduceMul, Nat.reduceLeDiff, Nat.reduceLT, Int.reduceNeg, DF, eff, Nat.reduceSub, fwrap_i64]
  rw [List.take_of_length_le (by rw [sz_len]; omega)]
/-- the place of an offset -/
theorem locate_spec : ∀ {l : List Int} {x : Int}, 0 ≤ x → x < l.sum → (l.take (locate l x).1).sum ≤ x ∧ x < (l.take ((locate l x).1 + 1)).sum ∧ (locate l x).2 = x - (l.take (locate l x).1).sum
  | [], x, h0, h1 => by simp at h1; omega
  | s :: l, x, h0, h1 => by
    simp only [locate]
    by_cases c : x < s
    · simp only [if_pos c]; simp; omega
    · simp only [if_neg c]
      have := locate_spec (l := l) (x := x - s) (by omega) (by simp at h1; omega)
      simp only [List.take_succ_cons, List.sum_cons]
      omega
theorem loc_le {l : List Int} (f : Fit l) {x : Int} (h0 : 0 ≤ x) (h1 : x < l.sum) (i : Nat) : (l.take i).sum ≤ x ↔ i ≤ (locate l x).1 := by
  obtain ⟨a, b, _⟩ := locate_spec h0 h1
  constructor
  · intro h
    rcases Nat.lt_or_ge (locate l x).1 i with c | c
    · have := take_mono f (show (locate l x).1 + 1 ≤ i by omega); omega
    · exact c
  · intro h
    have := take_mono f h; omega
def atL (l : List Int) (x : Int) : Int := if 0 ≤ x ∧ x < l.sum then (locate l x).1 else -1
theorem at_iff {l : List Int} (f : Fit l) {x y : Int} {i : Nat} (e : l[i]? = some y) : ((l.take i).sum ≤ x ∧ x < (l.take i).sum + y) ↔ atL l x = i := by
  have ts := take_sum e
  have t1 := take_le f i
  have t2 := take_le f (i + 1)
  unfold atL
  constructor
  · rintro ⟨h1, h2⟩
    rw [if_pos (by omega)]
    have a := (loc_le f (x := x) (by omega) (by omega) i).1 h1
    have b : ¬ i + 1 ≤ (locate l x).1 := fun h => by have := (loc_le f (x := x) (by omega) (by omega) (i + 1)).2 h; omega
    omega
  · intro h
    by_cases c : 0 ≤ x ∧ x < l.sum
    · rw [if_pos c] at h
      have h : (locate l x).1 = i := by omega
      obtain ⟨a, b, _⟩ := locate_spec c.1 c.2
      rw [h] at a b
      omega
    · rw [if_neg c] at h; omega
theorem rAt_ok {h : Heap} {v : V} {L : List (Int × Bool × Bool)} {x : Int} (a : Rws h v L) (f : Fit (sz L)) : Does go 29 [v, .int .i64 x] h fun u h' => u = .int .i64 (atL (sz L) x) ∧ h' = h := by
  have f3 := f.2.2
  rw [sz_len] at f3
  refine does_fn g29 rfl ?_
  simp (disch := omega) only [fn29, evs, ↓reduceIte, Nat.reduceEqDiff, Nat.reduceAdd, Nat.reduceMul, Nat.reduceLeDiff, Nat.reduceLT, Int.reduceNeg, DF, eff, Nat.reduceSub, fwrap_i64]
  refine W_loop (fun k env hh => h = hh ∧ ∃ j : Nat, env.get 5 = some (.int .i64 j) ∧ env.get 0 = some v ∧ env.get 1 = some (.int .i64 x) ∧ j ≤ L.length ∧ (∀ i : Nat, i < j → atL (sz L) x ≠ i) ∧ k = L.length - j) L.length (by omega) ?_ ?_
  · exact ⟨rfl, 0, (by simp [T.get_set]), (by simp [T.get_set]), (by simp [T.get_set]), by omega, by omega, rfl⟩
  · rintro k env hh ⟨rfl, j, g5, g0, g1, hj, hno, rfl⟩
    by_cases hlt : (j : Int) < L.length
    · obtain ⟨b, o, r, e1, e2, e3, e4, e5, e6⟩ := Rws.ix a j (by omega)
      have ai := at_iff f (x := x) (sz_get e6)
      have ts := take_sum (sz_get e6)
      have t1 := take_le f j
      have t2 := take_le f (j + 1)
      have f2 := f.2.1
      have fin : atL (sz L) x ≠ j → ∀ i : Nat, i < j + 1 → atL (sz L) x ≠ i := fun hh i hi => by
        rcases Nat.lt_or_ge i j with c | c
        · exact hno i c
        · rw [show i = j by omega]; exact hh
      simp (disch := omega) only [evs, ↓reduceIte, Nat.reduceEqDiff, Nat.reduceAdd, Nat.reduceMul, Nat.reduceLeDiff, Nat.reduceLT, Int.reduceNeg, DF, eff, Nat.reduceSub, fwrap_i64, g5, g0, g1, a.len, hlt]
      refine OQ_does (rTop_ok a f (by omega)) ?_
      rintro _ _ ⟨rfl, hh⟩
      replace hh := hh.symm
      subst hh
      by_cases c1 : ((sz L).take j).sum ≤ x
      · simp (disch := omega) only [evs, ↓reduceIte, Nat.reduceEqDiff, Nat.reduceAdd, Nat.reduceMul, Nat.reduceLeDiff, Nat.reduceLT, Int.reduceNeg, DF, eff, Nat.reduceSub, fwrap_i64, g5, g0, g1, c1]
        refine OQ_does (rTop_ok a f (by omega)) ?_
        rintro _ _ ⟨rfl, hh⟩
        replace hh := hh.symm
        subst hh
        by_cases c2 : x < ((sz L).take j).sum + r.1
        · simp (disch := omega) only [evs, ↓reduceIte, Nat.reduceEqDiff, Nat.reduceAdd, Nat.reduceMul, Nat.reduceLeDiff, Nat.reduceLT, Int.reduceNeg, DF, eff, Nat.reduceSub, fwrap_i64, g5, g0, g1, c1, c2, e1, e2]
          rw [ai.1 ⟨c1, c2⟩]
        · simp (disch := omega) only [evs, ↓reduceIte, Nat.reduceEqDiff, Nat.reduceAdd, Nat.reduceMul, Nat.reduceLeDiff, Nat.reduceLT, Int.reduceNeg, DF, eff, Nat.reduceSub, fwrap_i64, g5, g0, g1, c1, c2, e1, e2]
          refine (roundQ_norm _ _ _).2 ⟨L.length - (j + 1), by omega, rfl, j + 1, (by simp [T.get_set]), (by simp [T.get_set, g0]), (by simp [T.get_set, g1]), by omega, fin (fun h => by have := ai.2 h; omega), rfl⟩
          done
      · simp (disch := omega) only [evs, ↓reduceIte, Nat.reduceEqDiff, Nat.reduceAdd, Nat.reduceMul, Nat.reduceLeDiff, Nat.reduceLT, Int.reduceNeg, DF, eff, Nat.reduceSub, fwrap_i64, g5, g0, g1, c1, e1, e2]
        refine (roundQ_norm _ _ _).2 ⟨L.length - (j + 1), by omega, rfl, j + 1, (by simp [T.get_set]), (by simp [T.get_set, g0]), (by simp [T.get_set, g1]), by omega, fin (fun h => by have := ai.2 h; omega), rfl⟩
        done
    · simp (disch := omega) only [evs, ↓reduceIte, Nat.reduceEqDiff, Nat.reduceAdd, Nat.reduceMul, Nat.reduceLeDiff, Nat.reduceLT, Int.reduceNeg, DF, eff, Nat.reduceSub, fwrap_i64, g5, g0, g1, a.len, hlt]
      unfold atL at hno ⊢
      by_cases c : 0 ≤ x ∧ x < (sz L).sum
      · exfalso
        have := locate_lt c.1 c.2
        rw [sz_len] at this
        exact hno (locate (sz L) x).1 (by omega) (by rw [if_pos c])
      · rw [if_neg c]
theorem rClamp_ok {h : Heap} {v : V} {L : List (Int × Bool × Bool)} {x view : Int} (a : Rws h v L) (f : Fit (sz L)) (h1 : 1 ≤ view) (h2 : view ≤ 2147483648) : Does go 23 [v, .int .i64 view, .int .i64 x] h fun u h' => u = .int .i64 (clampL (sz L) view x) ∧ h' = h := by
  have f1 := f.nn
  have f2 := f.2.1
  unfold clampL
  refine does_fn g23 rfl ?_
  simp (disch := omega) only [fn23, evs, ↓reduceIte, Nat.reduceEqDiff, Nat.reduceAdd, Nat.reduceMul, Nat.reduceLeDiff, Nat.reduceLT, Int.reduceNeg, DF, eff, Nat.reduceSub, fwrap_i64]
  refine OQ_does (rTotal_ok a f) ?_
  rintro _ _ ⟨rfl, hh⟩
  replace hh := hh.symm
  subst hh
  by_cases c1 : (sz L).sum - view < x
  · simp (disch := omega) only [evs, ↓reduceIte, Nat.reduceEqDiff, Nat.reduceAdd, Nat.reduceMul, Nat.reduceLeDiff, Nat.reduceLT, Int.reduceNeg, DF, eff, Nat.reduceSub, fwrap_i64, c1]
    refine OQ_does (rTotal_ok a f) ?_
    rintro _ _ ⟨rfl, hh⟩
    replace hh := hh.symm
    subst hh
    by_cases c2 : (sz L).sum - view < 0
    · simp (disch := omega) only [evs, ↓reduceIte, Nat.reduceEqDiff, Nat.reduceAdd, Nat.reduceMul, Nat.reduceLeDiff, Nat.reduceLT, Int.reduceNeg, DF, eff, Nat.reduceSub, fwrap_i64, c2]
      rw [show min (max x 0) (max 0 ((sz L).sum - view)) = 0 by omega]
    · simp (disch := omega) only [evs, ↓reduceIte, Nat.reduceEqDiff, Nat.reduceAdd, Nat.reduceMul, Nat.reduceLeDiff, Nat.reduceLT, Int.reduceNeg, DF, eff, Nat.reduceSub, fwrap_i64, c2]
      rw [show min (max x 0) (max 0 ((sz L).sum - view)) = (sz L).sum - view by omega]
  · by_cases c2 : x < 0
    · simp (disch := omega) only [evs, ↓reduceIte, Nat.reduceEqDiff, Nat.reduceAdd, Nat.reduceMul, Nat.reduceLeDiff, Nat.reduceLT, Int.reduceNeg, DF, eff, Nat.reduceSub, fwrap_i64, c1, c2]
      rw [show min (max x 0) (max 0 ((sz L).sum - view)) = 0 by omega]
    · simp (disch := omega) only [evs, ↓reduceIte, Nat.reduceEqDiff, Nat.reduceAdd, Nat.reduceMul, Nat.reduceLeDiff, Nat.reduceLT, Int.reduceNeg, DF, eff, Nat.reduceSub, fwrap_i64, c1, c2]
      rw [show min (max x 0) (max 0 ((sz L).sum - view)) = x by omega]
end Go.Ev.Lay

/- The definition: Seen, Window, Head, Place, Attached. -/
namespace Go.Ev.Lay
set_option maxRecDepth 4000
theorem rSeen_ok {h : Heap} {v : V} {L : List (Int × Bool × Bool)} {view s : Int} {i : Nat} (a : Rws h v L) (f : Fit (sz L)) (h1 : 1 ≤ view) (h2 : view ≤ 2147483648) (s0 : 0 ≤ s) (s1 : s ≤ 4611686018427387904) (hi : i < L.length) :
    Does go 67 [v, .int .i64 view, .int .i64 s, .int .i64 (i : Int)] h fun u h' => u = .bool (decide (((sz L).take i).sum < s + view ∧ s < ((sz L).take (i + 1)).sum)) ∧ h' = h := by
  have f2 := f.2.1
  obtain ⟨b, o, r, e1, e2, e3, e4, e5, e6⟩ := Rws.ix a i (by omega)
  have ts := take_sum (sz_get e6)
  have t1 := take_le f i
  have t2 := take_le f (i + 1)
  rw [ts]
  refine does_fn g67 rfl ?_
  simp (disch := omega) only [fn67, evs, ↓reduceIte, Nat.reduceEqDiff, Nat.reduceAdd, Nat.reduceMul, Nat.reduceLeDiff, Nat.reduceLT, Int.reduceNeg, DF, eff, Nat.reduceSub, fwrap_i64]
  refine OQ_does (rTop_ok a f (by omega)) ?_
  rintro _ _ ⟨rfl, hh⟩
  replace hh := hh.symm
  subst hh
  by_cases c1 : ((sz L).take i).sum < s + view
  · simp (disch := omega) only [evs, ↓reduceIte, Nat.reduceEqDiff, Nat.reduceAdd, Nat.reduceMul, Nat.reduceLeDiff, Nat.reduceLT, Int.reduceNeg, DF, eff, Nat.reduceSub, fwrap_i64, c1]
    refine OQ_does (rTop_ok a f (by omega)) ?_
    rintro _ _ ⟨rfl, hh⟩
    replace hh := hh.symm
    subst hh
    by_cases c2 : s < ((sz L).take i).sum + r.1
    · simp (disch := omega) only [evs, ↓reduceIte, Nat.reduceEqDiff, Nat.reduceAdd, Nat.reduceMul, Nat.reduceLeDiff, Nat.reduceLT, Int.reduceNeg, DF, eff, Nat.reduceSub, fwrap_i64, c1, c2, e1, e2]
    · simp (disch := omega) only [evs, ↓reduceIte, Nat.reduceEqDiff, Nat.reduceAdd, Nat.reduceMul, Nat.reduceLeDiff, Nat.reduceLT, Int.reduceNeg, DF, eff, Nat.reduceSub, fwrap_i64, c1, c2, e1, e2]
      try simp
  · simp (disch := omega) only [evs, ↓reduceIte, Nat.reduceEqDiff, Nat.reduceAdd, Nat.reduceMul, Nat.reduceLeDiff, Nat.reduceLT, Int.reduceNeg, DF, eff, Nat.reduceSub, fwrap_i64, c1, e1, e2]
    try simp
theorem seen_iff {l : List Int} (f : Fit l) {view s : Int} {i : Nat} (h1 : 1 ≤ view) (s0 : 0 ≤ s) (s1 : s < l.sum) (hi : i < l.length) :
    ((l.take i).sum < s + view ∧ s < (l.take (i + 1)).sum) ↔ (locate l s).1 ≤ i ∧ (i : Int) ≤ lastL l view s := by
  have a := loc_le f s0 s1 (i + 1)
  have b : (l.take i).sum < s + view ↔ (i : Int) ≤ lastL l view s := by
    unfold lastL
    by_cases c : s + view - 1 < l.sum
    · rw [if_pos c]
      have := loc_le f (x := s + view - 1) (by omega) c i
      omega
    · rw [if_neg c]
      have := take_le f i
      omega
  rw [b]
  omega
theorem rWindow_ok {h : Heap} {v : V} {L : List (Int × Bool × Bool)} {view over s : Int} (a : Rws h v L) (f : Fit (sz L)) (h1 : 1 ≤ view) (h2 : view ≤ 2147483648) (o0 : 0 ≤ over) (o1 : over ≤ 16) (s0 : 0 ≤ s) (s1 : s < (sz L).sum ∨ L = []) (hs : s ≤ 4611686018427387904) :
    Does go 25 [v, .int .i64 view, .int .i64 over, .int .i64 s] h fun u h' => (u = if L = [] then .tup [.int .i64 0, .int .i64 0] else .tup [.int .i64 (winL (sz L) view over s).1, .int .i64 (winL (sz L) view over s).2]) ∧ h' = h := by
  have f3 := f.2.2
  rw [sz_len] at f3
  by_cases e0 : L = []
  · subst e0
    rw [if_pos rfl]
    have hz : aP .lenS [v] = some (.int .i64 0) := a.len
    refine does_fn g25 rfl ?_
    simp (disch := omega) only [fn25, evs, ↓reduceIte, Nat.reduceEqDiff, Nat.reduceAdd, Nat.reduceMul, Nat.reduceLeDiff, Nat.reduceLT, Int.reduceNeg, DF, eff, Nat.reduceSub, fwrap_i64]
    refine W_loop (fun k env hh => h = hh ∧ env.get 12 = some (.int .i64 0) ∧ env.get 10 = some (.int .i64 (-1)) ∧ env.get 0 = some v) 0 (by omega) ⟨rfl, (by simp [T.get_set]), (by simp [T.get_set]), (by simp [T.get_set])⟩ ?_
    rintro k env hh ⟨rfl, g12, g10, g0⟩
    simp (disch := omega) only [evs, ↓reduceIte, Nat.reduceEqDiff, Nat.reduceAdd, Nat.reduceMul, Nat.reduceLeDiff, Nat.reduceLT, Int.reduceNeg, DF, eff, Nat.reduceSub, fwrap_i64, g12, g10, g0, hz, show ¬ (0 : Int) < 0 by omega, show (-1 : Int) < 0 by omega]
  · have s1 := s1.resolve_right e0
    rw [if_neg e0]
    have lt1 := locate_lt s0 s1
    rw [sz_len] at lt1
    obtain ⟨F, hF⟩ : ∃ F, F = (locate (sz L) s).1 := ⟨_, rfl⟩
    obtain ⟨Tl, hT⟩ : ∃ Tl, Tl = lastL (sz L) view s := ⟨_, rfl⟩
    have hl := List.length_pos_iff.2 e0
    have bT : (F : Int) ≤ Tl ∧ Tl < L.length := by
      rw [hT, hF]
      unfold lastL
      split
      · have := locate_mono (sz L) (x := s) (y := s + view - 1) (by omega)
        have := locate_lt (l := sz L) (x := s + view - 1) (by omega) (by assumption)
        rw [sz_len] at this; omega
      · rw [sz_len]; omega
    have e1 : (winL (sz L) view over s) = (max 0 ((F : Int) - over), min (L.length : Int) (Tl + 1 + over)) := by unfold winL; rw [← hF, ← hT, sz_len]
    rw [e1]
    rw [← hF] at lt1
    refine does_fn g25 rfl ?_
    simp (disch := omega) only [fn25, evs, ↓reduceIte, Nat.reduceEqDiff, Nat.reduceAdd, Nat.reduceMul, Nat.reduceLeDiff, Nat.reduceLT, Int.reduceNeg, DF, eff, Nat.reduceSub, fwrap_i64]
    refine W_loop (fun k env hh => h = hh ∧ ∃ j : Nat, env.get 12 = some (.int .i64 j) ∧ env.get 10 = some (.int .i64 (if F < j then (F : Int) else -1)) ∧ env.get 11 = some (.int .i64 (if F < j then min (j : Int) (Tl + 1) else 0)) ∧ env.get 0 = some v ∧ env.get 1 = some (.int .i64 view) ∧
      env.get 2 = some (.int .i64 over) ∧ env.get 3 = some (.int .i64 s) ∧ j ≤ L.length ∧ k = L.length - j) L.length (by omega) ?_ ?_
    · exact ⟨rfl, 0, (by simp [T.get_set]), (by simp [T.get_set]), (by simp [T.get_set]), (by simp [T.get_set]), (by simp [T.get_set]), (by simp [T.get_set]), (by simp [T.get_set]), by omega, rfl⟩
    · rintro k env hh ⟨rfl, j, g12, g10, g11, g0, g1, g2, g3, hj, rfl⟩
      by_cases hlt : (j : Int) < L.length
      · have si := seen_iff f (view := view) (i := j) h1 s0 s1 (by rw [sz_len]; omega)
        rw [← hF, ← hT] at si
        simp (disch := omega) only [evs, ↓reduceIte, Nat.reduceEqDiff, Nat.reduceAdd, Nat.reduceMul, Nat.reduceLeDiff, Nat.reduceLT, Int.reduceNeg, DF, eff, Nat.reduceSub, fwrap_i64, g12, g10, g11, g0, g1, g2, g3, a.len, hlt]
        refine OQ_does (rSeen_ok a f h1 h2 s0 hs (by omega)) ?_
        rintro _ _ ⟨rfl, hh⟩
        replace hh := hh.symm
        subst hh
        by_cases c : F ≤ j ∧ (j : Int) ≤ Tl
        · have cc := si.2 c
          by_cases d : F < j
          · rw [if_pos d] at g10 g11
            simp (disch := omega) only [evs, ↓reduceIte, Nat.reduceEqDiff, Nat.reduceAdd, Nat.reduceMul, Nat.reduceLeDiff, Nat.reduceLT, Int.reduceNeg, DF, eff, Nat.reduceSub, fwrap_i64, eq_true cc, g12, g10, g11, show ¬ (F : Int) < 0 by omega]
            refine (roundQ_norm _ _ _).2 ⟨L.length - (j + 1), by omega, rfl, j + 1, (by simp [T.get_set]), (by simp [T.get_set, g10]; omega), (by simp [T.get_set]; omega), (by simp [T.get_set, g0]), (by simp [T.get_set, g1]), (by simp [T.get_set, g2]), (by simp [T.get_set, g3]), by omega, rfl⟩
            done
          · rw [if_neg d] at g10 g11
            have ej : j = F := by omega
            simp (disch := omega) only [evs, ↓reduceIte, Nat.reduceEqDiff, Nat.reduceAdd, Nat.reduceMul, Nat.reduceLeDiff, Nat.reduceLT, Int.reduceNeg, DF, eff, Nat.reduceSub, fwrap_i64, eq_true cc, g12, g10, g11, show (-1 : Int) < 0 by omega]
            refine (roundQ_norm _ _ _).2 ⟨L.length - (j + 1), by omega, rfl, j + 1, (by simp [T.get_set]), (by simp [T.get_set, ej]), (by simp [T.get_set]; omega), (by simp [T.get_set, g0]), (by simp [T.get_set, g1]), (by simp [T.get_set, g2]), (by simp [T.get_set, g3]), by omega, rfl⟩
            done
        · have cc : ¬ (((sz L).take j).sum < s + view ∧ s < ((sz L).take (j + 1)).sum) := fun x => c (si.1 x)
          simp (disch := omega) only [evs, ↓reduceIte, Nat.reduceEqDiff, Nat.reduceAdd, Nat.reduceMul, Nat.reduceLeDiff, Nat.reduceLT, Int.reduceNeg, DF, eff, Nat.reduceSub, fwrap_i64, eq_false cc, g12, g10, g11]
          refine (roundQ_norm _ _ _).2 ⟨L.length - (j + 1), by omega, rfl, j + 1, (by simp [T.get_set]), (by simp [T.get_set, g10]; split <;> split <;> omega), (by simp [T.get_set, g11]; split <;> split <;> omega), (by simp [T.get_set, g0]), (by simp [T.get_set, g1]), (by simp [T.get_set, g2]), (by simp [T.get_set, g3]), by omega, rfl⟩
          done
      · have ej : j = L.length := by omega
        subst ej
        rw [if_pos (by omega)] at g10 g11
        simp (disch := omega) only [evs, ↓reduceIte, Nat.reduceEqDiff, Nat.reduceAdd, Nat.reduceMul, Nat.reduceLeDiff, Nat.reduceLT, Int.reduceNeg, DF, eff, Nat.reduceSub, fwrap_i64, g12, g10, g11, g0, g1, g2, g3, a.len, hlt, show ¬ (F : Int) < 0 by omega]
        rw [show min (L.length : Int) (Tl + 1) = Tl + 1 by omega]
/-- the last header that lies at an offset, or ahead of it, among the first ones -/
def HdR (l : List Int) (bs : List Bool) (s : Int) (j : Nat) (r : Int) : Prop := (r = -1 ∧ ∀ i : Nat, i < j → bs.getD i false = true → s < (l.take i).sum) ∨
  ∃ p : Nat, r = p ∧ p < j ∧ bs.getD p false = true ∧ (l.take p).sum ≤ s ∧ ∀ i : Nat, p < i → i < j → bs.getD i false = true → s < (l.take i).sum
theorem sy_get {L : List (Int × Bool × Bool)} {i : Nat} {r : Int × Bool × Bool} (h : L[i]? = some r) : (sy L).getD i false = r.2.2 := by simp [sy, List.getD, h]
theorem HdR.skip {l : List Int} {bs : List Bool} {s r : Int} {j : Nat} (a : HdR l bs s j r) (h : bs.getD j false = true → s < (l.take j).sum) : HdR l bs s (j + 1) r := by
  rcases a with ⟨e, a⟩ | ⟨p, e, h1, h2, h3, h4⟩
  · refine .inl ⟨e, fun i hi hb => ?_⟩
    rcases Nat.lt_or_ge i j with c | c
    · exact a i c hb
    · rw [show i = j by omega] at hb ⊢; exact h hb
  · refine .inr ⟨p, e, by omega, h2, h3, fun i hp hi hb => ?_⟩
    rcases Nat.lt_or_ge i j with c | c
    · exact h4 i hp c hb
    · rw [show i = j by omega] at hb ⊢; exact h hb
theorem rHead_ok {h : Heap} {v : V} {L : List (Int × Bool × Bool)} {s : Int} (a : Rws h v L) (f : Fit (sz L)) : Does go 31 [v, .int .i64 s] h fun u h' => (∃ r, u = .int .i64 r ∧ HdR (sz L) (sy L) s L.length r) ∧ h' = h := by
  have f3 := f.2.2
  rw [sz_len] at f3
  refine does_fn g31 rfl ?_
  simp (disch := omega) only [fn31, evs, ↓reduceIte, Nat.reduceEqDiff, Nat.reduceAdd, Nat.reduceMul, Nat.reduceLeDiff, Nat.reduceLT, Int.reduceNeg, DF, eff, Nat.reduceSub, fwrap_i64]
  refine W_loop (fun k env hh => h = hh ∧ ∃ (j : Nat) (r : Int), env.get 6 = some (.int .i64 j) ∧ env.get 5 = some (.int .i64 r) ∧ env.get 0 = some v ∧ env.get 1 = some (.int .i64 s) ∧ j ≤ L.length ∧ HdR (sz L) (sy L) s j r ∧ k = L.length - j) L.length (by omega) ?_ ?_
  · exact ⟨rfl, 0, -1, (by simp [T.get_set]), (by simp [T.get_set]), (by simp [T.get_set]), (by simp [T.get_set]), by omega, .inl ⟨rfl, by omega⟩, rfl⟩
  · rintro k env hh ⟨rfl, j, r, g6, g5, g0, g1, hj, hd, rfl⟩
    by_cases hlt : (j : Int) < L.length
    · obtain ⟨b, o, q, e1, e2, e3, e4, e5, e6⟩ := Rws.ix a j (by omega)
      have sg := sy_get e6
      cases hq : q.2.2
      · rw [hq] at e4 sg
        simp (disch := omega) only [evs, ↓reduceIte, Nat.reduceEqDiff, Nat.reduceAdd, Nat.reduceMul, Nat.reduceLeDiff, Nat.reduceLT, Int.reduceNeg, DF, eff, Nat.reduceSub, fwrap_i64, g6, g5, g0, g1, a.len, hlt, e1, e4]
        refine (roundQ_norm _ _ _).2 ⟨L.length - (j + 1), by omega, rfl, j + 1, r, (by simp [T.get_set]), (by simp [T.get_set, g5]), (by simp [T.get_set, g0]), (by simp [T.get_set, g1]), by omega, hd.skip (fun h => by rw [sg] at h; cases h), rfl⟩
        done
      · rw [hq] at e4 sg
        simp (disch := omega) only [evs, ↓reduceIte, Nat.reduceEqDiff, Nat.reduceAdd, Nat.reduceMul, Nat.reduceLeDiff, Nat.reduceLT, Int.reduceNeg, DF, eff, Nat.reduceSub, fwrap_i64, g6, g5, g0, g1, a.len, hlt, e1, e4]
        refine OQ_does (rTop_ok a f (by omega)) ?_
        rintro _ _ ⟨rfl, hh⟩
        replace hh := hh.symm
        subst hh
        by_cases c : ((sz L).take j).sum ≤ s
        · simp (disch := omega) only [evs, ↓reduceIte, Nat.reduceEqDiff, Nat.reduceAdd, Nat.reduceMul, Nat.reduceLeDiff, Nat.reduceLT, Int.reduceNeg, DF, eff, Nat.reduceSub, fwrap_i64, g6, g5, g0, g1, c]
          refine (roundQ_norm _ _ _).2 ⟨L.length - (j + 1), by omega, rfl, j + 1, j, (by simp [T.get_set]), (by simp [T.get_set]), (by simp [T.get_set, g0]), (by simp [T.get_set, g1]), by omega, .inr ⟨j, rfl, by omega, sg, c, by omega⟩, rfl⟩
          done
        · simp (disch := omega) only [evs, ↓reduceIte, Nat.reduceEqDiff, Nat.reduceAdd, Nat.reduceMul, Nat.reduceLeDiff, Nat.reduceLT, Int.reduceNeg, DF, eff, Nat.reduceSub, fwrap_i64, g6, g5, g0, g1, c]
          refine (roundQ_norm _ _ _).2 ⟨L.length - (j + 1), by omega, rfl, j + 1, r, (by simp [T.get_set]), (by simp [T.get_set, g5]), (by simp [T.get_set, g0]), (by simp [T.get_set, g1]), by omega, hd.skip (fun _ => by omega), rfl⟩
          done
    · simp (disch := omega) only [evs, ↓reduceIte, Nat.reduceEqDiff, Nat.reduceAdd, Nat.reduceMul, Nat.reduceLeDiff, Nat.reduceLT, Int.reduceNeg, DF, eff, Nat.reduceSub, fwrap_i64, g6, g5, g0, g1, a.len, hlt]
      rw [show L.length = j by omega]
      exact ⟨r, rfl, hd⟩
def PlR (l : List Int) (bs : List Bool) (s : Int) (p : Nat) (r : Int) : Prop := (r = 0 ∧ ∀ i : Nat, p < i → i < bs.length → bs.getD i false = false) ∨
  ∃ q : Nat, p < q ∧ q < bs.length ∧ bs.getD q false = true ∧ (∀ i : Nat, p < i → i < q → bs.getD i false = false) ∧ r = min 0 ((l.take q).sum - s - l.getD p 0)
theorem rPlace_ok {h : Heap} {v : V} {L : List (Int × Bool × Bool)} {s : Int} {p : Nat} (a : Rws h v L) (f : Fit (sz L)) (s0 : 0 ≤ s) (s1 : s ≤ 4611686018427387904) (hp : p < L.length) : Does go 32 [v, .int .i64 s, .int .i64 (p : Int)] h fun u h' => (∃ r, u = .int .i64 r ∧ PlR (sz L) (sy L) s p r) ∧ h' = h := by
  have f3 := f.2.2
  have f2 := f.2.1
  rw [sz_len] at f3
  refine does_fn g32 rfl ?_
  simp (disch := omega) only [fn32, evs, ↓reduceIte, Nat.reduceEqDiff, Nat.reduceAdd, Nat.reduceMul, Nat.reduceLeDiff, Nat.reduceLT, Int.reduceNeg, DF, eff, Nat.reduceSub, fwrap_i64]
  refine W_loop (fun k env hh => h = hh ∧ ∃ (j : Nat), env.get 7 = some (.int .i64 j) ∧ env.get 0 = some v ∧ env.get 1 = some (.int .i64 s) ∧ env.get 2 = some (.int .i64 p) ∧ j ≤ L.length ∧ p < j ∧ (∀ i : Nat, p < i → i < j → (sy L).getD i false = false) ∧ k = L.length - j) (L.length - (p + 1)) (by omega) ?_ ?_
  · exact ⟨rfl, p + 1, (by simp [T.get_set]), (by simp [T.get_set]), (by simp [T.get_set]), (by simp [T.get_set]), by omega, by omega, by omega, rfl⟩
  · rintro k env hh ⟨rfl, j, g7, g0, g1, g2, hj, hpj, hno, rfl⟩
    by_cases hlt : (j : Int) < L.length
    · obtain ⟨b, o, q, e1, e2, e3, e4, e5, e6⟩ := Rws.ix a j (by omega)
      have sg := sy_get e6
      cases hq : q.2.2
      · rw [hq] at e4 sg
        simp (disch := omega) only [evs, ↓reduceIte, Nat.reduceEqDiff, Nat.reduceAdd, Nat.reduceMul, Nat.reduceLeDiff, Nat.reduceLT, Int.reduceNeg, DF, eff, Nat.reduceSub, fwrap_i64, g7, g0, g1, g2, a.len, hlt, e1, e4]
        refine (roundQ_norm _ _ _).2 ⟨L.length - (j + 1), by omega, rfl, j + 1, (by simp [T.get_set]), (by simp [T.get_set, g0]), (by simp [T.get_set, g1]), (by simp [T.get_set, g2]), by omega, by omega, ?_, rfl⟩
        intro i h1 h2
        rcases Nat.lt_or_ge i j with c | c
        · exact hno i h1 c
        · rw [show i = j by omega]; exact sg
      · rw [hq] at e4 sg
        obtain ⟨b2, o2, q2, d1, d2, d3, d4, d5, d6⟩ := Rws.ix a p (by omega)
        have t1 := take_le f j
        have t3 := getD_le (i := p) f.1
        have gp : (sz L).getD p 0 = q2.1 := by have := sz_get d6; simp [List.getD, this]
        rw [gp] at t3
        simp (disch := omega) only [evs, ↓reduceIte, Nat.reduceEqDiff, Nat.reduceAdd, Nat.reduceMul, Nat.reduceLeDiff, Nat.reduceLT, Int.reduceNeg, DF, eff, Nat.reduceSub, fwrap_i64, g7, g0, g1, g2, a.len, hlt, e1, e4]
        refine OQ_does (rTop_ok a f (by omega)) ?_
        rintro _ _ ⟨rfl, hh⟩
        replace hh := hh.symm
        subst hh
        simp (disch := omega) only [evs, ↓reduceIte, Nat.reduceEqDiff, Nat.reduceAdd, Nat.reduceMul, Nat.reduceLeDiff, Nat.reduceLT, Int.reduceNeg, DF, eff, Nat.reduceSub, fwrap_i64, g7, g0, g1, g2, d1, d2]
        exact ⟨_, rfl, .inr ⟨j, hpj, by rw [sy_len]; omega, sg, hno, by rw [gp]⟩⟩
    · simp (disch := omega) only [evs, ↓reduceIte, Nat.reduceEqDiff, Nat.reduceAdd, Nat.reduceMul, Nat.reduceLeDiff, Nat.reduceLT, Int.reduceNeg, DF, eff, Nat.reduceSub, fwrap_i64, g7, g0, g1, g2, a.len, hlt]
      exact ⟨0, rfl, .inl ⟨rfl, fun i h1 h2 => hno i h1 (by rw [sy_len] at h2; omega)⟩⟩
/-- the rows of the window, and the head -/
def attR (f t hd : Int) (n : Nat) : List Int := ((List.range n).filter fun (i : Nat) => decide ((f ≤ (i : Int) ∧ (i : Int) < t) ∨ (i : Int) = hd)).map fun (i : Nat) => (i : Int)
theorem attR_succ (f t hd : Int) (n : Nat) : attR f t hd (n + 1) = attR f t hd n ++ if (f ≤ (n : Int) ∧ (n : Int) < t) ∨ (n : Int) = hd then [(n : Int)] else [] := by
  unfold attR
  rw [List.range_succ, List.filter_append, List.map_append]
  congr 1
  by_cases c : (f ≤ (n : Int) ∧ (n : Int) < t) ∨ (n : Int) = hd
  · rw [if_pos c]; simp [List.filter_cons, c]
  · rw [if_neg c]; simp [List.filter_cons, c]
theorem attR_len (f t hd : Int) (n : Nat) : (attR f t hd n).length ≤ n := by
  unfold attR; rw [List.length_map]; exact Nat.le_trans (List.length_filter_le _ _) (by simp)
def ic (x : Int) : List V := [.int .i64 x]
theorem ic_len (x : Int) : (ic x).length = 1 := rfl
theorem ic_flat (A : List Int) : A.flatMap ic = A.map (V.int .i64) := by induction A with
  | nil => rfl
  | cons x A ih => simp [List.flatMap_cons, ic, ih]
theorem rAtt_ok {h : Heap} {v : V} {L : List (Int × Bool × Bool)} {view over s : Int} (w : WF h) (a : Rws h v L) (f : Fit (sz L)) (h1 : 1 ≤ view) (h2 : view ≤ 2147483648) (o0 : 0 ≤ over) (o1 : over ≤ 16) (s0 : 0 ≤ s) (s1 : s < (sz L).sum ∨ L = []) (hs : s ≤ 4611686018427387904) :
    Does go 26 [v, .int .i64 view, .int .i64 over, .int .i64 s] h fun u h' => Fr [] h h' ∧ ∃ hd, HdR (sz L) (sy L) s L.length hd ∧ Ints h' u (if L = [] then [] else attR (winL (sz L) view over s).1 (winL (sz L) view over s).2 hd L.length) := by
  have f3 := f.2.2
  rw [sz_len] at f3
  refine does_fn g26 rfl ?_
  simp (disch := omega) only [fn26, evs, ↓reduceIte, Nat.reduceEqDiff, Nat.reduceAdd, Nat.reduceMul, Nat.reduceLeDiff, Nat.reduceLT, Int.reduceNeg, DF, eff, Nat.reduceSub, fwrap_i64]
  refine OQ_does (rWindow_ok a f h1 h2 o0 o1 s0 s1 hs) ?_
  rintro _ _ ⟨rfl, hh⟩
  replace hh := hh.symm
  subst hh
  obtain ⟨fr, to', efr⟩ : ∃ fr to' : Int, (if L = [] then V.tup [.int .i64 0, .int .i64 0] else .tup [.int .i64 (winL (sz L) view over s).1, .int .i64 (winL (sz L) view over s).2]) = .tup [.int .i64 fr, .int .i64 to'] ∧ (L ≠ [] → fr = (winL (sz L) view over s).1 ∧ to' = (winL (sz L) view over s).2) := by
    by_cases e : L = []
    · rw [if_pos e]; exact ⟨0, 0, rfl, fun x => absurd e x⟩
    · rw [if_neg e]; exact ⟨_, _, rfl, fun _ => ⟨rfl, rfl⟩⟩
  rw [efr.1]
  simp (disch := omega) only [evs, ↓reduceIte, Nat.reduceEqDiff, Nat.reduceAdd, Nat.reduceMul, Nat.reduceLeDiff, Nat.reduceLT, Int.reduceNeg, DF, eff, Nat.reduceSub, fwrap_i64]
  refine OQ_does (rHead_ok a f) ?_
  rintro _ _ ⟨⟨hd, rfl, hhd⟩, hh⟩
  replace hh := hh.symm
  subst hh
  simp (disch := omega) only [evs, ↓reduceIte, Nat.reduceEqDiff, Nat.reduceAdd, Nat.reduceMul, Nat.reduceLeDiff, Nat.reduceLT, Int.reduceNeg, DF, eff, Nat.reduceSub, fwrap_i64]
  refine W_loop (fun k env hh => ∃ (j : Nat) (vo : V), Fr [] h hh ∧ env.get 13 = some (.int .i64 j) ∧ env.get 9 = some (.int .i64 fr) ∧ env.get 10 = some (.int .i64 to') ∧ env.get 11 = some (.int .i64 hd) ∧ env.get 12 = some vo ∧ env.get 0 = some v ∧ j ≤ L.length ∧
    GRecs ic 1 hh h.next vo (attR fr to' hd j) ∧ k = L.length - j) L.length (by omega) ?_ ?_
  · exact ⟨0, .nils, Fr.refl w, (by simp [T.get_set]), (by simp [T.get_set]), (by simp [T.get_set]), (by simp [T.get_set]), (by simp [T.get_set]), (by simp [T.get_set]), by omega, GRecs.nil, rfl⟩
  · rintro k env hh ⟨j, vo, F, g13, g9, g10, g11, g12, g0, hj, gO, rfl⟩
    by_cases hlt : (j : Int) < L.length
    · have al := attR_len fr to' hd j
      have asucc := attR_succ fr to' hd j
      by_cases c : (fr ≤ (j : Int) ∧ (j : Int) < to') ∨ (j : Int) = hd
      · rw [if_pos c] at asucc
        obtain ⟨h5, e_h5⟩ : ∃ h5, h5 = halloc hh [.int .i64 (j : Int)] := ⟨_, rfl⟩
        have F_h5 : Fr [] hh h5 := e_h5 ▸ Fr.halloc F.wf _
        have o_h5 : Own h5 hh.next [.int .i64 (j : Int)] := e_h5 ▸ Own.new F.wf _
        have three : (fr ≤ (j : Int) ∧ (j : Int) < to') ∨ (fr ≤ (j : Int) ∧ ¬ (j : Int) < to' ∧ (j : Int) = hd) ∨ (¬ fr ≤ (j : Int) ∧ (j : Int) = hd) := by omega
        rcases three with t1 | t1 | t1
        case' inl => simp (disch := omega) only [evs, ↓reduceIte, Nat.reduceEqDiff, Nat.reduceAdd, Nat.reduceMul, Nat.reduceLeDiff, Nat.reduceLT, Int.reduceNeg, DF, eff, Nat.reduceSub, fwrap_i64, g13, g9, g10, g11, g12, g0, (a.fr F).len, hlt, eq_true t1.1, eq_true t1.2, ← e_h5]
        case' inr.inl => simp (disch := omega) only [evs, ↓reduceIte, Nat.reduceEqDiff, Nat.reduceAdd, Nat.reduceMul, Nat.reduceLeDiff, Nat.reduceLT, Int.reduceNeg, DF, eff, Nat.reduceSub, fwrap_i64, g13, g9, g10, g11, g12, g0, (a.fr F).len, hlt, eq_true t1.1, eq_false t1.2.1, eq_true t1.2.2, ← e_h5]
        case' inr.inr => simp (disch := omega) only [evs, ↓reduceIte, Nat.reduceEqDiff, Nat.reduceAdd, Nat.reduceMul, Nat.reduceLeDiff, Nat.reduceLT, Int.reduceNeg, DF, eff, Nat.reduceSub, fwrap_i64, g13, g9, g10, g11, g12, g0, (a.fr F).len, hlt, eq_false t1.1, eq_true t1.2, ← e_h5]
        all_goals
          refine GRecs.append (x := (j : Int)) F_h5.wf (gO.fr F_h5) ic_len rfl (by omega) o_h5 (Nat.le_trans F.next F_h5.next) (by omega) ?_
          intro v' h6 g6 F6
          have U6 := Gs.up (gO.fr F_h5) F6
          simp (disch := omega) only [evs, ↓reduceIte, Nat.reduceEqDiff, Nat.reduceAdd, Nat.reduceMul, Nat.reduceLeDiff, Nat.reduceLT, Int.reduceNeg, DF, eff, Nat.reduceSub, fwrap_i64, g13, g9, g10, g11, g12, g0]
          refine (roundQ_norm _ _ _).2 ⟨L.length - (j + 1), by omega, j + 1, v', (F.then F_h5).ups w U6, (by simp [T.get_set]), (by simp [T.get_set, g9]), (by simp [T.get_set, g10]), (by simp [T.get_set, g11]), (by simp [T.get_set]), (by simp [T.get_set, g0]), by omega, by rw [asucc]; exact g6, rfl⟩
          done
      · rw [if_neg c, List.append_nil] at asucc
        have two : (fr ≤ (j : Int) ∧ ¬ (j : Int) < to' ∧ ¬ (j : Int) = hd) ∨ (¬ fr ≤ (j : Int) ∧ ¬ (j : Int) = hd) := by omega
        rcases two with t1 | t1
        case' inl => simp (disch := omega) only [evs, ↓reduceIte, Nat.reduceEqDiff, Nat.reduceAdd, Nat.reduceMul, Nat.reduceLeDiff, Nat.reduceLT, Int.reduceNeg, DF, eff, Nat.reduceSub, fwrap_i64, g13, g9, g10, g11, g12, g0, (a.fr F).len, hlt, eq_true t1.1, eq_false t1.2.1, eq_false t1.2.2]
        case' inr => simp (disch := omega) only [evs, ↓reduceIte, Nat.reduceEqDiff, Nat.reduceAdd, Nat.reduceMul, Nat.reduceLeDiff, Nat.reduceLT, Int.reduceNeg, DF, eff, Nat.reduceSub, fwrap_i64, g13, g9, g10, g11, g12, g0, (a.fr F).len, hlt, eq_false t1.1, eq_false t1.2]
        all_goals
          refine (roundQ_norm _ _ _).2 ⟨L.length - (j + 1), by omega, j + 1, vo, F, (by simp [T.get_set]), (by simp [T.get_set, g9]), (by simp [T.get_set, g10]), (by simp [T.get_set, g11]), (by simp [T.get_set, g12]), (by simp [T.get_set, g0]), by omega, by rw [asucc]; exact gO, rfl⟩
          done
    · simp (disch := omega) only [evs, ↓reduceIte, Nat.reduceEqDiff, Nat.reduceAdd, Nat.reduceMul, Nat.reduceLeDiff, Nat.reduceLT, Int.reduceNeg, DF, eff, Nat.reduceSub, fwrap_i64, g13, g9, g10, g11, g12, g0, (a.fr F).len, hlt]
      refine ⟨F, hd, hhd, ?_⟩
      have ej : j = L.length := by omega
      subst ej
      have := gO.recs ic_len (by omega)
      by_cases e : L = []
      · subst e
        rw [if_pos rfl]
        exact this
      · obtain ⟨e1, e2⟩ := efr.2 e
        rw [if_neg e, ← e1, ← e2]
        show Sl _ 1 _ _ _
        rw [← ic_flat]
        exact this
end Go.Ev.Lay
