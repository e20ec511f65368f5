/- An evaluator of the program and contracts proved over it: the texts LayK LayL. -/
import Derived.Test.YtfhplbpjpmaoiaaGreatDoorLayB
set_option linter.unusedSimpArgs false
set_option linter.unusedVariables false
set_option linter.constructorNameAsVariable false
/- Spans: merged, Union, Without, Insert. -/
namespace Go.Ev.Lay
set_option maxRecDepth 4000
theorem edge_ok {h : Heap} {s : Int × Int} {a : Int} (w : WF h) : Does go 129 [.agg [.int .i64 s.1, .int .i64 s.2], .int .i64 a] h fun u h' => u = .int .i64 (if a < s.1 then s.1 else s.2) ∧ Fr [] h h' := by
  obtain ⟨h1, e_h1⟩ : ∃ h1, h1 = halloc h [.int .i64 s.1, .int .i64 s.2] := ⟨_, rfl⟩
  have F_h1 : Fr [] h h1 := e_h1 ▸ Fr.halloc w _
  have o_h1 : Own h1 h.next [.int .i64 s.1, .int .i64 s.2] := e_h1 ▸ Own.new w _
  by_cases c : a < s.1
  · refine does_fn g129 rfl ?_
    simp (disch := omega) only [fn129, evs, ↓reduceIte, Nat.reduceEqDiff, Nat.reduceAdd, Nat.reduceMul, Nat.reduceLeDiff, Nat.reduceLT, Int.reduceNeg, DF, eff, Nat.reduceSub, fwrap_i64, ← e_h1, o_h1.ld1, c]
    exact F_h1
  · refine does_fn g129 rfl ?_
    simp (disch := omega) only [fn129, evs, ↓reduceIte, Nat.reduceEqDiff, Nat.reduceAdd, Nat.reduceMul, Nat.reduceLeDiff, Nat.reduceLT, Int.reduceNeg, DF, eff, Nat.reduceSub, fwrap_i64, ← e_h1, o_h1.ld1, c]
    exact F_h1
theorem both_ok {h : Heap} {u v : V} {A B : List (Int × Int)} (w : WF h) (a : Sp h u A) (b : Sp h v B) (oka : SOK A (-1)) (okb : SOK B (-1)) (ha : A.length ≤ 4096) (hb : B.length ≤ 4096) :
    Does go 128 [u, v] h fun u h' => u = .int .i64 0 ∧ Fr [] h h' := by
  refine does_fn g128 rfl ?_
  simp (disch := omega) only [fn128, evs, ↓reduceIte, Nat.reduceEqDiff, Nat.reduceAdd, Nat.reduceMul, Nat.reduceLeDiff, Nat.reduceLT, Int.reduceNeg, DF, eff, Nat.reduceSub, fwrap_i64]
  refine OQ_does (SCheck_ok w a oka ha) ?_
  rintro _ h1 ⟨rfl, F1⟩
  simp (disch := omega) only [evs, ↓reduceIte, Nat.reduceEqDiff, Nat.reduceAdd, Nat.reduceMul, Nat.reduceLeDiff, Nat.reduceLT, Int.reduceNeg, DF, eff, Nat.reduceSub, fwrap_i64]
  refine OQ_does (SCheck_ok F1.wf (b.fr F1) okb hb) ?_
  rintro _ h2 ⟨rfl, F2⟩
  simp (disch := omega) only [evs, ↓reduceIte, Nat.reduceEqDiff, Nat.reduceAdd, Nat.reduceMul, Nat.reduceLeDiff, Nat.reduceLT, Int.reduceNeg, DF, eff, Nat.reduceSub, fwrap_i64]
  exact F1.then F2
/-- how many ends lie behind a place -/
def cnt (A : List (Int × Int)) (a : Int) : Nat := (A.map fun s => (if a < s.1 then 1 else 0) + (if a < s.2 then 1 else 0)).sum
theorem cnt_cons (s : Int × Int) (A : List (Int × Int)) (a : Int) : cnt (s :: A) a = (if a < s.1 then 1 else 0) + (if a < s.2 then 1 else 0) + cnt A a := by simp [cnt]
theorem cnt_le : ∀ (A : List (Int × Int)) {a e : Int}, a ≤ e → cnt A e ≤ cnt A a
  | [], _, _, _ => Nat.le_refl _
  | s :: A, a, e, h => by
    have := cnt_le A h
    rw [cnt_cons, cnt_cons]
    by_cases c1 : e < s.1 <;> by_cases c2 : e < s.2 <;> by_cases c3 : a < s.1 <;> by_cases c4 : a < s.2 <;> simp [c1, c2, c3, c4] <;> omega
theorem cnt_lt : ∀ (A : List (Int × Int)) {a e : Int} {s : Int × Int}, a < e → s ∈ A → (s.1 = e ∨ s.2 = e) → cnt A e < cnt A a
  | t :: A, a, e, s, h, hs, hse => by
    rw [cnt_cons, cnt_cons]
    have hle := cnt_le A (Int.le_of_lt h)
    rcases List.mem_cons.1 hs with rfl | hs
    · by_cases c1 : e < s.1 <;> by_cases c2 : e < s.2 <;> by_cases c3 : a < s.1 <;> by_cases c4 : a < s.2 <;> simp [c1, c2, c3, c4] <;> omega
    · have := cnt_lt A h hs hse
      by_cases c1 : e < t.1 <;> by_cases c2 : e < t.2 <;> by_cases c3 : a < t.1 <;> by_cases c4 : a < t.2 <;> simp [c1, c2, c3, c4] <;> omega
theorem cnt_max (A : List (Int × Int)) (a : Int) : cnt A a ≤ 2 * A.length := by
  induction A with
  | nil => simp [cnt]
  | cons s A ih => rw [cnt_cons]; simp only [List.length_cons]; by_cases c3 : a < s.1 <;> by_cases c4 : a < s.2 <;> simp [c3, c4] <;> omega
/-- what a set is like from a place on, up to the next end -/
def hdIn (D : List (Int × Int)) (a : Int) : Bool := match D with
  | [] => false
  | s :: _ => decide (s.1 ≤ a)
def hdEnd (D : List (Int × Int)) (a : Int) : Int := match D with
  | [] => 1073741824
  | s :: _ => if a < s.1 then s.1 else s.2
theorem seg {D : List (Int × Int)} {last a x : Int} (ok : SOK D last) (hx : a ≤ x) (hD : ∀ s D', D = s :: D' → a < s.2) (he : x < hdEnd D a) : inS D x = hdIn D a := by
  cases D with
  | nil => rfl
  | cons s D =>
    obtain ⟨h1, h2, h3, h4, h5⟩ := ok
    have := hD s D rfl
    simp only [hdEnd] at he
    rw [inS_cons, SOK.below h5 (by split at he <;> omega), Bool.or_false]
    simp only [hdIn]
    rw [Bool.eq_iff_iff]
    simp
    split at he <;> omega
theorem inS_split {A : List (Int × Int)} {i : Nat} {a x : Int} (h : ∀ s ∈ A.take i, s.2 ≤ a) (hx : a ≤ x) : inS A x = inS (A.drop i) x := by
  conv => lhs; rw [← List.take_append_drop i A]
  rw [inS_app]
  have : inS (A.take i) x = false := by
    simp only [inS, List.any_eq_false, Bool.and_eq_true, decide_eq_true_eq]
    intro s hs
    have := h s hs
    omega
  rw [this, Bool.false_or]
theorem take_mem {A : List (Int × Int)} {i : Nat} {s : Int × Int} {a : Int} (h : ∀ s ∈ A.take i, s.2 ≤ a) (e : A[i]? = some s) (hs : s.2 ≤ a) : ∀ s ∈ A.take (i + 1), s.2 ≤ a := by
  intro t ht
  rw [List.take_add_one, e] at ht
  simp at ht
  rcases ht with ht | rfl
  · exact h t ht
  · exact hs
/-- skipping what lies below a place: slot x of the index, slot z of the test -/
theorem skip_ok {h : Heap} {v : V} {A : List (Int × Int)} {env : T V} {at' : Int} {i : Nat} {Q : Ex → T V → Heap → Prop} {c : IC} (sv sx sz : Nat) (hA : A.length ≤ 4096) (h10 : sx ≠ 10 ∧ sz ≠ 10 ∧ sv ≠ sx ∧ sv ≠ sz ∧ sx ≠ sz) (id : Nat)
    (a : Sp h v A) (gv : env.get sv = some v) (g10 : env.get 10 = some (.int .i64 at')) (gx : env.get sx = some (.int .i64 i)) (hi : i ≤ A.length) (hb : ∀ s ∈ A.take i, s.2 ≤ at')
    (body : ∀ (env : T V) (i : Nat) (Q : Ex → T V → Heap → Prop), env.get sv = some v → env.get 10 = some (.int .i64 at') → env.get sx = some (.int .i64 i) → i ≤ A.length →
      (∀ env', env'.get sx = some (.int .i64 ((i : Int) + 1)) → (∀ s, s ≠ sx → s ≠ sz → env'.get s = env.get s) → (∃ s, A[i]? = some s ∧ s.2 ≤ at') → Q .norm env' h) →
      (∀ env', (∀ s, s ≠ sz → env'.get s = env.get s) → (∀ s, A[i]? = some s → at' < s.2) → Q (.exit id) env' h) → W go c env h Q)
    (k : ∀ env' (j : Nat), env'.get sx = some (.int .i64 j) → (∀ s, s ≠ sx → s ≠ sz → env'.get s = env.get s) → j ≤ A.length → (∀ s ∈ A.take j, s.2 ≤ at') → (∀ s, A[j]? = some s → at' < s.2) → Q (.exit id) env' h) :
    W go (.loop c) env h Q := by
  refine W_loop (fun k env' hh => hh = h ∧ (∀ s, s ≠ sx → s ≠ sz → env'.get s = env.get s) ∧ ∃ j : Nat, env'.get sx = some (.int .i64 j) ∧ j ≤ A.length ∧ (∀ s ∈ A.take j, s.2 ≤ at') ∧ k = A.length - j) (A.length - i) (by omega) ?_ ?_
  · exact ⟨rfl, fun _ _ _ => rfl, i, gx, hi, hb, rfl⟩
  · rintro k' env1 hh ⟨rfl, same, j, gj, hj, hbj, rfl⟩
    refine body env1 j _ ((same sv h10.2.2.1 h10.2.2.2.1).trans gv) ((same 10 (Ne.symm h10.1) (Ne.symm h10.2.1)).trans g10) gj hj ?_ ?_
    · rintro env2 e1 e2 ⟨s, es, hs⟩
      have hlt : j < A.length := by
        rcases Nat.lt_or_ge j A.length with y | y
        · exact y
        · rw [List.getElem?_eq_none y] at es; cases es
      exact (roundQ_norm _ _ _).2 ⟨A.length - (j + 1), by omega, rfl, fun s a1 a2 => (e2 s a1 a2).trans (same s a1 a2), j + 1, by simpa using e1, by omega, take_mem hbj es hs, rfl⟩
    · intro env2 e2 hs
      exact (roundQ_exit _ _ _ _).2 (k env2 j ((e2 sx h10.2.2.2.2).trans gj) (fun s a1 a2 => (e2 s a2).trans (same s a1 a2)) hj hbj hs)
/-- what merging keeps -/
structure Keep (kf : V) (keep : Bool → Bool → Bool) : Prop where
  fn : ∃ g, kf = .func (.func g) [] [] ∧ ∀ h a b, Does go g [.bool a, .bool b] h fun u h' => u = .bool (keep a b) ∧ h' = h
  ff : keep false false = false
theorem merged_ok {h : Heap} {u v kf : V} {A B : List (Int × Int)} {keep : Bool → Bool → Bool} (w : WF h) (a : Sp h u A) (b : Sp h v B) (oka : SOK A (-1)) (okb : SOK B (-1)) (ha : A.length ≤ 4096) (hb : B.length ≤ 4096)
    (hk : Keep kf keep) (m : Int) (hm : m ≤ 8000) (hma : ∀ s ∈ A, s.2 ≤ m) (hmb : ∀ s ∈ B, s.2 ≤ m) :
    Does go 120 [u, v, kf] h fun z h' => Fr [] h h' ∧ ∃ y L, z = .tup [y, .int .i64 0] ∧ y.one = true ∧ SpF h' y L ∧ SOK L (-1) ∧ (∀ x, inS L x = keep (inS A x) (inS B x)) ∧ ∀ s ∈ L, s.2 ≤ max m 0 := by
  refine does_fn g120 rfl ?_
  simp (disch := omega) only [fn120, evs, ↓reduceIte, Nat.reduceEqDiff, Nat.reduceAdd, Nat.reduceMul, Nat.reduceLeDiff, Nat.reduceLT, Int.reduceNeg, DF, eff, Nat.reduceSub, fwrap_i64]
  refine W_scope0 ?_
  simp (disch := omega) only [evs, ↓reduceIte, Nat.reduceEqDiff, Nat.reduceAdd, Nat.reduceMul, Nat.reduceLeDiff, Nat.reduceLT, Int.reduceNeg, DF, eff, Nat.reduceSub, fwrap_i64]
  refine OQ_does (both_ok w a b oka okb ha hb) ?_
  rintro _ h1 ⟨rfl, F1⟩
  simp (disch := omega) only [evs, ↓reduceIte, Nat.reduceEqDiff, Nat.reduceAdd, Nat.reduceMul, Nat.reduceLeDiff, Nat.reduceLT, Int.reduceNeg, DF, eff, Nat.reduceSub, fwrap_i64]
  obtain ⟨g, rfl, hkf⟩ := hk.fn
  have below : ∀ (O : List (Int × Int)) {c : Int}, (∀ s ∈ O, s.2 ≤ c) → ∀ x, c ≤ x → inS O x = false := by
    intro O c hO x hx
    simp only [inS, List.any_eq_false, Bool.and_eq_true, decide_eq_true_eq]
    intro s hs
    have := hO s hs
    omega
  refine W_loop (fun k env hh => ∃ (i j : Nat) (at' : Int) (vo : V) (O : List (Int × Int)), Fr [] h hh ∧ env.get 0 = some u ∧ env.get 1 = some v ∧ env.get 2 = some (.func (.func g) [] []) ∧ env.get 9 = some vo ∧
    env.get 10 = some (.int .i64 at') ∧ env.get 11 = some (.int .i64 i) ∧ env.get 12 = some (.int .i64 j) ∧ i ≤ A.length ∧ j ≤ B.length ∧ 0 ≤ at' ∧ at' ≤ max m 0 ∧ (∀ s ∈ A.take i, s.2 ≤ at') ∧ (∀ s ∈ B.take j, s.2 ≤ at') ∧
    GRecs sp 2 hh h.next vo O ∧ SOK O (-1) ∧ (∀ s ∈ O, s.2 ≤ at') ∧ (∀ x, x < at' → inS O x = keep (inS A x) (inS B x)) ∧ k = cnt A at' + cnt B at') (cnt A 0 + cnt B 0) (by have := cnt_max A 0; have := cnt_max B 0; omega) ?_ ?_
  · refine ⟨0, 0, 0, .nils, [], F1, (by simp [T.get_set]), (by simp [T.get_set]), (by simp [T.get_set]), (by simp [T.get_set]), (by simp [T.get_set]), (by simp [T.get_set]), (by simp [T.get_set]), by omega, by omega, by omega, by omega, by simp, by simp, GRecs.nil, trivial, by simp, ?_, rfl⟩
    intro x hx
    rw [oka.below (by omega), okb.below (by omega), hk.ff]; rfl
  · rintro k env hh ⟨i, j, at', vo, O, F, g0, g1, g2, g9, g10, g11, g12, hi, hj, at0, atm, hbi, hbj, gO, okO, mO, sO, rfl⟩
    simp (disch := omega) only [evs, ↓reduceIte, Nat.reduceEqDiff, Nat.reduceAdd, Nat.reduceMul, Nat.reduceLeDiff, Nat.reduceLT, Int.reduceNeg, DF, eff, Nat.reduceSub, fwrap_i64]
    refine skip_ok 0 11 34 ha (by omega) 2 (a.fr F) g0 g10 g11 hi hbi ?_ ?_
    · intro env i Q g0 g10 g11 hi hn hx
      by_cases hlt : (i : Int) < A.length
      · obtain ⟨bb, oo, s, e1, e2, e3, e4, e5⟩ := Sp.ix (a.fr F) i hlt
        by_cases hs : s.2 ≤ at'
        · simp (disch := omega) only [evs, ↓reduceIte, Nat.reduceEqDiff, Nat.reduceAdd, Nat.reduceMul, Nat.reduceLeDiff, Nat.reduceLT, Int.reduceNeg, DF, eff, Nat.reduceSub, fwrap_i64, g0, g10, g11, (a.fr F).len, hlt, e1, e3, hs]
          exact hn _ (by simp [T.get_set]) (fun s h1 h2 => by simp [T.get_set, h1, h2]) ⟨s, e5, hs⟩
        · simp (disch := omega) only [evs, ↓reduceIte, Nat.reduceEqDiff, Nat.reduceAdd, Nat.reduceMul, Nat.reduceLeDiff, Nat.reduceLT, Int.reduceNeg, DF, eff, Nat.reduceSub, fwrap_i64, g0, g10, g11, (a.fr F).len, hlt, e1, e3, hs]
          exact hx _ (fun s h1 => by simp [T.get_set, h1]) (fun t ht => by rw [e5] at ht; cases ht; omega)
      · simp (disch := omega) only [evs, ↓reduceIte, Nat.reduceEqDiff, Nat.reduceAdd, Nat.reduceMul, Nat.reduceLeDiff, Nat.reduceLT, Int.reduceNeg, DF, eff, Nat.reduceSub, fwrap_i64, g0, g10, g11, (a.fr F).len, hlt]
        exact hx _ (fun s h1 => by simp [T.get_set, h1]) (fun t ht => by rw [List.getElem?_eq_none (by omega)] at ht; cases ht)
    intro env1 i1 g11' same1 hi1 hb1 hs1
    have g0' := (same1 0 (by omega) (by omega)).trans g0
    have g1' := (same1 1 (by omega) (by omega)).trans g1
    have g2' := (same1 2 (by omega) (by omega)).trans g2
    have g9' := (same1 9 (by omega) (by omega)).trans g9
    have g10' := (same1 10 (by omega) (by omega)).trans g10
    have g12' := (same1 12 (by omega) (by omega)).trans g12
    simp (disch := omega) only [evs, ↓reduceIte, Nat.reduceEqDiff, Nat.reduceAdd, Nat.reduceMul, Nat.reduceLeDiff, Nat.reduceLT, Int.reduceNeg, DF, eff, Nat.reduceSub, fwrap_i64]
    refine skip_ok 1 12 49 hb (by omega) 4 (b.fr F) g1' g10' g12' hj hbj ?_ ?_
    · intro env i Q g0 g10 g11 hi hn hx
      by_cases hlt : (i : Int) < B.length
      · obtain ⟨bb, oo, s, e1, e2, e3, e4, e5⟩ := Sp.ix (b.fr F) i hlt
        by_cases hs : s.2 ≤ at'
        · simp (disch := omega) only [evs, ↓reduceIte, Nat.reduceEqDiff, Nat.reduceAdd, Nat.reduceMul, Nat.reduceLeDiff, Nat.reduceLT, Int.reduceNeg, DF, eff, Nat.reduceSub, fwrap_i64, g0, g10, g11, (b.fr F).len, hlt, e1, e3, hs]
          exact hn _ (by simp [T.get_set]) (fun s h1 h2 => by simp [T.get_set, h1, h2]) ⟨s, e5, hs⟩
        · simp (disch := omega) only [evs, ↓reduceIte, Nat.reduceEqDiff, Nat.reduceAdd, Nat.reduceMul, Nat.reduceLeDiff, Nat.reduceLT, Int.reduceNeg, DF, eff, Nat.reduceSub, fwrap_i64, g0, g10, g11, (b.fr F).len, hlt, e1, e3, hs]
          exact hx _ (fun s h1 => by simp [T.get_set, h1]) (fun t ht => by rw [e5] at ht; cases ht; omega)
      · simp (disch := omega) only [evs, ↓reduceIte, Nat.reduceEqDiff, Nat.reduceAdd, Nat.reduceMul, Nat.reduceLeDiff, Nat.reduceLT, Int.reduceNeg, DF, eff, Nat.reduceSub, fwrap_i64, g0, g10, g11, (b.fr F).len, hlt]
        exact hx _ (fun s h1 => by simp [T.get_set, h1]) (fun t ht => by rw [List.getElem?_eq_none (by omega)] at ht; cases ht)
    intro env2 j1 g12'' same2 hj1 hb2 hs2
    have n0 := (same2 0 (by omega) (by omega)).trans g0'
    have n1 := (same2 1 (by omega) (by omega)).trans g1'
    have n2 := (same2 2 (by omega) (by omega)).trans g2'
    have n9 := (same2 9 (by omega) (by omega)).trans g9'
    have n10 := (same2 10 (by omega) (by omega)).trans g10'
    have n11 := (same2 11 (by omega) (by omega)).trans g11'
    clear same1 same2 g0' g1' g2' g9' g10' g11' g12' g0 g1 g2 g9 g10 g11 g12 hbi hbj hi hj env env1
    obtain ⟨ca, okA⟩ := oka.drop i1
    obtain ⟨cb, okB⟩ := okb.drop j1
    have segA : ∀ x, at' ≤ x → x < hdEnd (A.drop i1) at' → inS A x = hdIn (A.drop i1) at' := fun x h1 h2 => by
      rw [inS_split hb1 h1, seg okA h1 (fun s D' e => hs1 s (by rw [← List.head?_drop, e]; rfl)) h2]
    have segB : ∀ x, at' ≤ x → x < hdEnd (B.drop j1) at' → inS B x = hdIn (B.drop j1) at' := fun x h1 h2 => by
      rw [inS_split hb2 h1, seg okB h1 (fun s D' e => hs2 s (by rw [← List.head?_drop, e]; rfl)) h2]
    by_cases cA : (i1 : Int) < A.length
    · obtain ⟨bA, oA, s, eA1, eA2, eA3, eA4, eA5⟩ := Sp.ix (a.fr F) i1 cA
      have eD := drop_cons eA5
      rw [eD] at segA okA
      simp only [hdEnd, hdIn] at segA
      have sm := hma s (List.mem_of_getElem? eA5)
      have s2 := hs1 s eA5
      obtain ⟨q1, q2, q3, q4, _⟩ := okA
      simp (disch := omega) only [evs, ↓reduceIte, Nat.reduceEqDiff, Nat.reduceAdd, Nat.reduceMul, Nat.reduceLeDiff, Nat.reduceLT, Int.reduceNeg, DF, eff, Nat.reduceSub, fwrap_i64, n0, n1, n2, n9, n10, n11, g12'', (a.fr F).len, (b.fr F).len, cA, eA1, eA2, eA4]
      refine OQ_does (edge_ok F.wf) ?_
      rintro _ h3 ⟨rfl, F3⟩
      have FH := F.then F3
      obtain ⟨eA, heA⟩ : ∃ eA, eA = if at' < s.1 then s.1 else s.2 := ⟨_, rfl⟩
      rw [← heA] at segA ⊢
      have leA : at' < eA ∧ eA ≤ m ∧ eA ≤ 1073741824 ∧ (s.1 = eA ∨ s.2 = eA) := by rw [heA]; split <;> omega
      by_cases cB : (j1 : Int) < B.length
      · obtain ⟨bB, oB, t, eB1, eB2, eB3, eB4, eB5⟩ := Sp.ix (b.fr FH) j1 cB
        have eE := drop_cons eB5
        rw [eE] at segB okB
        simp only [hdEnd, hdIn] at segB
        have tm := hmb t (List.mem_of_getElem? eB5)
        have t2 := hs2 t eB5
        obtain ⟨r1, r2, r3, r4, _⟩ := okB
        simp (disch := omega) only [evs, ↓reduceIte, Nat.reduceEqDiff, Nat.reduceAdd, Nat.reduceMul, Nat.reduceLeDiff, Nat.reduceLT, Int.reduceNeg, DF, eff, Nat.reduceSub, fwrap_i64, n0, n1, n2, n9, n10, n11, g12'', (a.fr FH).len, (b.fr FH).len, cB, eB1, eB2, eB4]
        refine OQ_does (edge_ok F3.wf) ?_
        rintro _ h4 ⟨rfl, F4⟩
        have FH := FH.then F4
        have gO' := gO.fr (F3.then F4)
        obtain ⟨eB, heB⟩ : ∃ eB, eB = if at' < t.1 then t.1 else t.2 := ⟨_, rfl⟩
        rw [← heB] at segB ⊢
        have leB : at' < eB ∧ eB ≤ m ∧ eB ≤ 1073741824 ∧ (t.1 = eB ∨ t.2 = eB) := by rw [heB]; split <;> omega
        simp (disch := omega) only [evs, ↓reduceIte, Nat.reduceEqDiff, Nat.reduceAdd, Nat.reduceMul, Nat.reduceLeDiff, Nat.reduceLT, Int.reduceNeg, DF, eff, Nat.reduceSub, fwrap_i64, n0, n1, n2, n9, n10, n11, g12'', (a.fr FH).len, (b.fr FH).len, show ¬ (i1 : Int) = A.length by omega]
        obtain ⟨e, he⟩ : ∃ e, e = min (min 1073741824 eA) eB := ⟨_, rfl⟩
        rw [← he]
        have hA : ∀ x, at' ≤ x → x < e → inS A x = decide (s.1 ≤ at') := fun x h1 h2 => segA x h1 (by omega)
        have hB : ∀ x, at' ≤ x → x < e → inS B x = decide (t.1 ≤ at') := fun x h1 h2 => segB x h1 (by omega)
        have heM : e ≤ max m 0 := by omega
        have hcnt : cnt A e + cnt B e < cnt A at' + cnt B at' := by
          by_cases c : eA ≤ eB
          · have := cnt_lt A (a := at') (e := e) (by omega) (List.mem_of_getElem? eA5) (by omega); have := cnt_le B (a := at') (e := e) (by omega); omega
          · have := cnt_lt B (a := at') (e := e) (by omega) (List.mem_of_getElem? eB5) (by omega); have := cnt_le A (a := at') (e := e) (by omega); omega
        have cO := okO.count at' mO (by omega)
        refine OQ_does (hkf _ _ _) ?_
        rintro _ _ ⟨rfl, hhh⟩
        subst hhh
        cases hkeep : keep (decide (s.1 ≤ at')) (decide (t.1 ≤ at'))
        · simp (disch := omega) only [evs, ↓reduceIte, Nat.reduceEqDiff, Nat.reduceAdd, Nat.reduceMul, Nat.reduceLeDiff, Nat.reduceLT, Int.reduceNeg, DF, eff, Nat.reduceSub, fwrap_i64, hkeep, n0, n1, n2, n9, n10, n11, g12'']
          refine (roundQ_norm _ _ _).2 ⟨cnt A e + cnt B e, hcnt, i1, j1, e, vo, O, FH, (by simp [T.get_set, n0]), (by simp [T.get_set, n1]), (by simp [T.get_set, n2]), (by simp [T.get_set, n9]), (by simp [T.get_set]), (by simp [T.get_set, n11]), (by simp [T.get_set, g12'']), hi1, hj1, by omega, heM, fun s hs => by have := hb1 s hs; omega, fun s hs => by have := hb2 s hs; omega, gO', okO, fun s hs => by have := mO s hs; omega, ?_, rfl⟩
          intro x hx
          by_cases hxa : x < at'
          · exact sO x hxa
          · rw [hA x (by omega) hx, hB x (by omega) hx, hkeep, below O mO x (by omega)]
        · simp (disch := omega) only [evs, ↓reduceIte, Nat.reduceEqDiff, Nat.reduceAdd, Nat.reduceMul, Nat.reduceLeDiff, Nat.reduceLT, Int.reduceNeg, DF, eff, Nat.reduceSub, fwrap_i64, hkeep, n0, n1, n2, n9, n10, n11, g12'']
          refine OQ_does (add_ok FH.wf gO' FH.next (by omega)) ?_
          rintro vo' h9 ⟨g9, U9⟩
          replace U9 := Gs.up gO' U9
          simp (disch := omega) only [evs, ↓reduceIte, Nat.reduceEqDiff, Nat.reduceAdd, Nat.reduceMul, Nat.reduceLeDiff, Nat.reduceLT, Int.reduceNeg, DF, eff, Nat.reduceSub, fwrap_i64, n1]
          obtain ⟨s1, s2, s3⟩ := addS_spec (a := at') (b := e) okO (fun _ => mO) at0 (by omega)
          refine (roundQ_norm _ _ _).2 ⟨cnt A e + cnt B e, hcnt, i1, j1, e, vo', addS O at' e, FH.ups w U9, (by simp [T.get_set, n0]), (by simp [T.get_set, n1]), (by simp [T.get_set, n2]), (by simp [T.get_set]), (by simp [T.get_set]), (by simp [T.get_set, n11]), (by simp [T.get_set, g12'']), hi1, hj1, by omega, heM, fun s hs => by have := hb1 s hs; omega, fun s hs => by have := hb2 s hs; omega, g9, s1, s3 e (fun s hs => by have := mO s hs; omega) (fun _ => Int.le_refl _), ?_, rfl⟩
          intro x hx
          rw [s2 x]
          by_cases hxa : x < at'
          · rw [sO x hxa, show decide (at' ≤ x) = false by simp; omega]; simp
          · rw [hA x (by omega) hx, hB x (by omega) hx, hkeep, below O mO x (by omega)]; simp; omega
      · have gO' := gO.fr F3
        rw [List.drop_of_length_le (by omega)] at segB
        simp only [hdEnd, hdIn] at segB
        simp (disch := omega) only [evs, ↓reduceIte, Nat.reduceEqDiff, Nat.reduceAdd, Nat.reduceMul, Nat.reduceLeDiff, Nat.reduceLT, Int.reduceNeg, DF, eff, Nat.reduceSub, fwrap_i64, n0, n1, n2, n9, n10, n11, g12'', (a.fr FH).len, (b.fr FH).len, cB, show ¬ (i1 : Int) = A.length by omega]
        obtain ⟨e, he⟩ : ∃ e, e = min 1073741824 eA := ⟨_, rfl⟩
        rw [← he]
        have hA : ∀ x, at' ≤ x → x < e → inS A x = decide (s.1 ≤ at') := fun x h1 h2 => segA x h1 (by omega)
        have hB : ∀ x, at' ≤ x → x < e → inS B x = false := fun x h1 h2 => segB x h1 (by omega)
        have heM : e ≤ max m 0 := by omega
        have hcnt : cnt A e + cnt B e < cnt A at' + cnt B at' := by
          have := cnt_lt A (a := at') (e := e) (by omega) (List.mem_of_getElem? eA5) (by omega); have := cnt_le B (a := at') (e := e) (by omega); omega
        have cO := okO.count at' mO (by omega)
        refine OQ_does (hkf _ _ _) ?_
        rintro _ _ ⟨rfl, hhh⟩
        subst hhh
        cases hkeep : keep (decide (s.1 ≤ at')) (false)
        · simp (disch := omega) only [evs, ↓reduceIte, Nat.reduceEqDiff, Nat.reduceAdd, Nat.reduceMul, Nat.reduceLeDiff, Nat.reduceLT, Int.reduceNeg, DF, eff, Nat.reduceSub, fwrap_i64, hkeep, n0, n1, n2, n9, n10, n11, g12'']
          refine (roundQ_norm _ _ _).2 ⟨cnt A e + cnt B e, hcnt, i1, j1, e, vo, O, FH, (by simp [T.get_set, n0]), (by simp [T.get_set, n1]), (by simp [T.get_set, n2]), (by simp [T.get_set, n9]), (by simp [T.get_set]), (by simp [T.get_set, n11]), (by simp [T.get_set, g12'']), hi1, hj1, by omega, heM, fun s hs => by have := hb1 s hs; omega, fun s hs => by have := hb2 s hs; omega, gO', okO, fun s hs => by have := mO s hs; omega, ?_, rfl⟩
          intro x hx
          by_cases hxa : x < at'
          · exact sO x hxa
          · rw [hA x (by omega) hx, hB x (by omega) hx, hkeep, below O mO x (by omega)]
        · simp (disch := omega) only [evs, ↓reduceIte, Nat.reduceEqDiff, Nat.reduceAdd, Nat.reduceMul, Nat.reduceLeDiff, Nat.reduceLT, Int.reduceNeg, DF, eff, Nat.reduceSub, fwrap_i64, hkeep, n0, n1, n2, n9, n10, n11, g12'']
          refine OQ_does (add_ok FH.wf gO' FH.next (by omega)) ?_
          rintro vo' h9 ⟨g9, U9⟩
          replace U9 := Gs.up gO' U9
          simp (disch := omega) only [evs, ↓reduceIte, Nat.reduceEqDiff, Nat.reduceAdd, Nat.reduceMul, Nat.reduceLeDiff, Nat.reduceLT, Int.reduceNeg, DF, eff, Nat.reduceSub, fwrap_i64, n1]
          obtain ⟨s1, s2, s3⟩ := addS_spec (a := at') (b := e) okO (fun _ => mO) at0 (by omega)
          refine (roundQ_norm _ _ _).2 ⟨cnt A e + cnt B e, hcnt, i1, j1, e, vo', addS O at' e, FH.ups w U9, (by simp [T.get_set, n0]), (by simp [T.get_set, n1]), (by simp [T.get_set, n2]), (by simp [T.get_set]), (by simp [T.get_set]), (by simp [T.get_set, n11]), (by simp [T.get_set, g12'']), hi1, hj1, by omega, heM, fun s hs => by have := hb1 s hs; omega, fun s hs => by have := hb2 s hs; omega, g9, s1, s3 e (fun s hs => by have := mO s hs; omega) (fun _ => Int.le_refl _), ?_, rfl⟩
          intro x hx
          rw [s2 x]
          by_cases hxa : x < at'
          · rw [sO x hxa, show decide (at' ≤ x) = false by simp; omega]; simp
          · rw [hA x (by omega) hx, hB x (by omega) hx, hkeep, below O mO x (by omega)]; simp; omega
    · rw [List.drop_of_length_le (by omega)] at segA
      simp only [hdEnd, hdIn] at segA
      have FH := F
      by_cases cB : (j1 : Int) < B.length
      · obtain ⟨bB, oB, t, eB1, eB2, eB3, eB4, eB5⟩ := Sp.ix (b.fr FH) j1 cB
        have eE := drop_cons eB5
        rw [eE] at segB okB
        simp only [hdEnd, hdIn] at segB
        have tm := hmb t (List.mem_of_getElem? eB5)
        have t2 := hs2 t eB5
        obtain ⟨r1, r2, r3, r4, _⟩ := okB
        simp (disch := omega) only [evs, ↓reduceIte, Nat.reduceEqDiff, Nat.reduceAdd, Nat.reduceMul, Nat.reduceLeDiff, Nat.reduceLT, Int.reduceNeg, DF, eff, Nat.reduceSub, fwrap_i64, n0, n1, n2, n9, n10, n11, g12'', (a.fr FH).len, (b.fr FH).len, cA, cB, eB1, eB2, eB4]
        refine OQ_does (edge_ok FH.wf) ?_
        rintro _ h4 ⟨rfl, F4⟩
        have FH := FH.then F4
        have gO' := gO.fr F4
        obtain ⟨eB, heB⟩ : ∃ eB, eB = if at' < t.1 then t.1 else t.2 := ⟨_, rfl⟩
        rw [← heB] at segB ⊢
        have leB : at' < eB ∧ eB ≤ m ∧ eB ≤ 1073741824 ∧ (t.1 = eB ∨ t.2 = eB) := by rw [heB]; split <;> omega
        simp (disch := omega) only [evs, ↓reduceIte, Nat.reduceEqDiff, Nat.reduceAdd, Nat.reduceMul, Nat.reduceLeDiff, Nat.reduceLT, Int.reduceNeg, DF, eff, Nat.reduceSub, fwrap_i64, n0, n1, n2, n9, n10, n11, g12'', (a.fr FH).len, (b.fr FH).len, eq_true (show (i1 : Int) = A.length by omega), show ¬ (j1 : Int) = B.length by omega]
        obtain ⟨e, he⟩ : ∃ e, e = min 1073741824 eB := ⟨_, rfl⟩
        rw [← he]
        have hA : ∀ x, at' ≤ x → x < e → inS A x = false := fun x h1 h2 => segA x h1 (by omega)
        have hB : ∀ x, at' ≤ x → x < e → inS B x = decide (t.1 ≤ at') := fun x h1 h2 => segB x h1 (by omega)
        have heM : e ≤ max m 0 := by omega
        have hcnt : cnt A e + cnt B e < cnt A at' + cnt B at' := by
          have := cnt_lt B (a := at') (e := e) (by omega) (List.mem_of_getElem? eB5) (by omega); have := cnt_le A (a := at') (e := e) (by omega); omega
        have cO := okO.count at' mO (by omega)
        refine OQ_does (hkf _ _ _) ?_
        rintro _ _ ⟨rfl, hhh⟩
        subst hhh
        cases hkeep : keep (false) (decide (t.1 ≤ at'))
        · simp (disch := omega) only [evs, ↓reduceIte, Nat.reduceEqDiff, Nat.reduceAdd, Nat.reduceMul, Nat.reduceLeDiff, Nat.reduceLT, Int.reduceNeg, DF, eff, Nat.reduceSub, fwrap_i64, hkeep, n0, n1, n2, n9, n10, n11, g12'']
          refine (roundQ_norm _ _ _).2 ⟨cnt A e + cnt B e, hcnt, i1, j1, e, vo, O, FH, (by simp [T.get_set, n0]), (by simp [T.get_set, n1]), (by simp [T.get_set, n2]), (by simp [T.get_set, n9]), (by simp [T.get_set]), (by simp [T.get_set, n11]), (by simp [T.get_set, g12'']), hi1, hj1, by omega, heM, fun s hs => by have := hb1 s hs; omega, fun s hs => by have := hb2 s hs; omega, gO', okO, fun s hs => by have := mO s hs; omega, ?_, rfl⟩
          intro x hx
          by_cases hxa : x < at'
          · exact sO x hxa
          · rw [hA x (by omega) hx, hB x (by omega) hx, hkeep, below O mO x (by omega)]
        · simp (disch := omega) only [evs, ↓reduceIte, Nat.reduceEqDiff, Nat.reduceAdd, Nat.reduceMul, Nat.reduceLeDiff, Nat.reduceLT, Int.reduceNeg, DF, eff, Nat.reduceSub, fwrap_i64, hkeep, n0, n1, n2, n9, n10, n11, g12'']
          refine OQ_does (add_ok FH.wf gO' FH.next (by omega)) ?_
          rintro vo' h9 ⟨g9, U9⟩
          replace U9 := Gs.up gO' U9
          simp (disch := omega) only [evs, ↓reduceIte, Nat.reduceEqDiff, Nat.reduceAdd, Nat.reduceMul, Nat.reduceLeDiff, Nat.reduceLT, Int.reduceNeg, DF, eff, Nat.reduceSub, fwrap_i64, n1]
          obtain ⟨s1, s2, s3⟩ := addS_spec (a := at') (b := e) okO (fun _ => mO) at0 (by omega)
          refine (roundQ_norm _ _ _).2 ⟨cnt A e + cnt B e, hcnt, i1, j1, e, vo', addS O at' e, FH.ups w U9, (by simp [T.get_set, n0]), (by simp [T.get_set, n1]), (by simp [T.get_set, n2]), (by simp [T.get_set]), (by simp [T.get_set]), (by simp [T.get_set, n11]), (by simp [T.get_set, g12'']), hi1, hj1, by omega, heM, fun s hs => by have := hb1 s hs; omega, fun s hs => by have := hb2 s hs; omega, g9, s1, s3 e (fun s hs => by have := mO s hs; omega) (fun _ => Int.le_refl _), ?_, rfl⟩
          intro x hx
          rw [s2 x]
          by_cases hxa : x < at'
          · rw [sO x hxa, show decide (at' ≤ x) = false by simp; omega]; simp
          · rw [hA x (by omega) hx, hB x (by omega) hx, hkeep, below O mO x (by omega)]; simp; omega
      · rw [List.drop_of_length_le (by omega)] at segB
        simp only [hdEnd, hdIn] at segB
        simp (disch := omega) only [evs, ↓reduceIte, Nat.reduceEqDiff, Nat.reduceAdd, Nat.reduceMul, Nat.reduceLeDiff, Nat.reduceLT, Int.reduceNeg, DF, eff, Nat.reduceSub, fwrap_i64, n0, n1, n2, n9, n10, n11, g12'', (a.fr FH).len, (b.fr FH).len, cA, cB, eq_true (show (i1 : Int) = A.length by omega), eq_true (show (j1 : Int) = B.length by omega)]
        have cO := okO.count at' mO (by omega)
        refine OQ_does (done_ok gO (by omega)) ?_
        rintro _ _ ⟨z, rfl, sz, oz, hhh⟩
        subst hhh
        simp (disch := omega) only [evs, ↓reduceIte, Nat.reduceEqDiff, Nat.reduceAdd, Nat.reduceMul, Nat.reduceLeDiff, Nat.reduceLT, Int.reduceNeg, DF, eff, Nat.reduceSub, fwrap_i64]
        refine ⟨FH, z, O, rfl, oz, sz, okO, fun x => ?_, fun s hs => by have := mO s hs; omega⟩
        by_cases hxa : x < at'
        · exact sO x hxa
        · rw [below O mO x (by omega), inS_split hb1 (show at' ≤ x by omega), inS_split hb2 (show at' ≤ x by omega), List.drop_of_length_le (by omega), List.drop_of_length_le (by omega)]
          simp [inS, hk.ff]
end Go.Ev.Lay

/- Spans: Union, Without, Insert; sizes: marked, with. -/
namespace Go.Ev.Lay
set_option maxRecDepth 4000
theorem keep_or : Keep (.func (.func 122) [] []) (fun a b => a || b) := by
  refine ⟨⟨122, rfl, fun h a b => ?_⟩, rfl⟩
  cases a
  · refine does_fn g122 rfl ?_
    simp (disch := omega) only [fn122, evs, ↓reduceIte, Nat.reduceEqDiff, Nat.reduceAdd, Nat.reduceMul, Nat.reduceLeDiff, Nat.reduceLT, Int.reduceNeg, DF, eff, Nat.reduceSub, fwrap_i64]
    cases b <;> rfl
  · refine does_fn g122 rfl ?_
    simp (disch := omega) only [fn122, evs, ↓reduceIte, Nat.reduceEqDiff, Nat.reduceAdd, Nat.reduceMul, Nat.reduceLeDiff, Nat.reduceLT, Int.reduceNeg, DF, eff, Nat.reduceSub, fwrap_i64]
    rfl
theorem keep_not : Keep (.func (.func 121) [] []) (fun a b => a && !b) := by
  refine ⟨⟨121, rfl, fun h a b => ?_⟩, rfl⟩
  cases a
  · refine does_fn g121 rfl ?_
    simp (disch := omega) only [fn121, evs, ↓reduceIte, Nat.reduceEqDiff, Nat.reduceAdd, Nat.reduceMul, Nat.reduceLeDiff, Nat.reduceLT, Int.reduceNeg, DF, eff, Nat.reduceSub, fwrap_i64]
    rfl
  · refine does_fn g121 rfl ?_
    simp (disch := omega) only [fn121, evs, ↓reduceIte, Nat.reduceEqDiff, Nat.reduceAdd, Nat.reduceMul, Nat.reduceLeDiff, Nat.reduceLT, Int.reduceNeg, DF, eff, Nat.reduceSub, fwrap_i64]
    cases b <;> rfl
theorem Union_ok {h : Heap} {u v : V} {A B : List (Int × Int)} (w : WF h) (a : Sp h u A) (b : Sp h v B) (oka : SOK A (-1)) (okb : SOK B (-1)) (ha : A.length ≤ 4096) (hb : B.length ≤ 4096)
    (m : Int) (hm : m ≤ 8000) (hma : ∀ s ∈ A, s.2 ≤ m) (hmb : ∀ s ∈ B, s.2 ≤ m) :
    Does go 109 [u, v] h fun z h' => Fr [] h h' ∧ ∃ y L, z = .tup [y, .int .i64 0] ∧ y.one = true ∧ SpF h' y L ∧ SOK L (-1) ∧ (∀ x, inS L x = (inS A x || inS B x)) ∧ ∀ s ∈ L, s.2 ≤ max m 0 := by
  refine does_fn g109 rfl ?_
  simp (disch := omega) only [fn109, evs, ↓reduceIte, Nat.reduceEqDiff, Nat.reduceAdd, Nat.reduceMul, Nat.reduceLeDiff, Nat.reduceLT, Int.reduceNeg, DF, eff, Nat.reduceSub, fwrap_i64]
  refine OQ_does (merged_ok w a b oka okb ha hb keep_or m hm hma hmb) ?_
  rintro _ h1 ⟨F, y, L, rfl, r⟩
  simp (disch := omega) only [evs, ↓reduceIte, Nat.reduceEqDiff, Nat.reduceAdd, Nat.reduceMul, Nat.reduceLeDiff, Nat.reduceLT, Int.reduceNeg, DF, eff, Nat.reduceSub, fwrap_i64]
  exact ⟨F, y, L, rfl, r⟩
theorem Without_ok {h : Heap} {u v : V} {A B : List (Int × Int)} (w : WF h) (a : Sp h u A) (b : Sp h v B) (oka : SOK A (-1)) (okb : SOK B (-1)) (ha : A.length ≤ 4096) (hb : B.length ≤ 4096)
    (m : Int) (hm : m ≤ 8000) (hma : ∀ s ∈ A, s.2 ≤ m) (hmb : ∀ s ∈ B, s.2 ≤ m) :
    Does go 108 [u, v] h fun z h' => Fr [] h h' ∧ ∃ y L, z = .tup [y, .int .i64 0] ∧ y.one = true ∧ SpF h' y L ∧ SOK L (-1) ∧ (∀ x, inS L x = (inS A x && !inS B x)) ∧ ∀ s ∈ L, s.2 ≤ max m 0 := by
  refine does_fn g108 rfl ?_
  simp (disch := omega) only [fn108, evs, ↓reduceIte, Nat.reduceEqDiff, Nat.reduceAdd, Nat.reduceMul, Nat.reduceLeDiff, Nat.reduceLT, Int.reduceNeg, DF, eff, Nat.reduceSub, fwrap_i64]
  refine OQ_does (merged_ok w a b oka okb ha hb keep_not m hm hma hmb) ?_
  rintro _ h1 ⟨F, y, L, rfl, r⟩
  simp (disch := omega) only [evs, ↓reduceIte, Nat.reduceEqDiff, Nat.reduceAdd, Nat.reduceMul, Nat.reduceLeDiff, Nat.reduceLT, Int.reduceNeg, DF, eff, Nat.reduceSub, fwrap_i64]
  exact ⟨F, y, L, rfl, r⟩
theorem SOK.len {L : List (Int × Int)} (ok : SOK L (-1)) {m : Int} (hm : m ≤ 8000) (h : ∀ s ∈ L, s.2 ≤ m) : L.length ≤ 4096 := by
  have := ok.count (max m 0) (fun s hs => by have := h s hs; omega) (by omega)
  omega
theorem marked_ok {h : Heap} {v : V} {L : List (Int × Int)} {f t m : Int} {kn : Bool} (w : WF h) (af : SpF h v L) (ok : SOK L (-1)) (hm : m ≤ 8000) (hL : ∀ s ∈ L, s.2 ≤ m) (hf : 0 ≤ f) (hft : f ≤ t) (ht : t ≤ m) :
    Does go 83 [v, .int .i64 f, .int .i64 t, .bool kn] h fun y h' => Fr [] h h' ∧ ∃ L', y.one = true ∧ SpF h' y L' ∧ SOK L' (-1) ∧ (∀ x, inS L' x = if f ≤ x ∧ x < t then kn else inS L x) ∧ ∀ s ∈ L', s.2 ≤ m := by
  have a := af.slc
  by_cases e : f = t
  · refine does_fn g83 rfl ?_
    simp (disch := omega) only [fn83, evs, ↓reduceIte, Nat.reduceEqDiff, Nat.reduceAdd, Nat.reduceMul, Nat.reduceLeDiff, Nat.reduceLT, Int.reduceNeg, DF, eff, Nat.reduceSub, fwrap_i64, eq_true e]
    exact ⟨Fr.refl w, L, Sl.one a, af, ok, fun x => by rw [if_neg (by omega)], hL⟩
  · have hlen := ok.len hm hL
    obtain ⟨h1, e_h1⟩ : ∃ h1, h1 = halloc h (sp (f, t)) := ⟨_, rfl⟩
    have F_h1 : Fr [] h h1 := e_h1 ▸ Fr.halloc w _
    have o_h1 : Own h1 h.next (sp (f, t)) := e_h1 ▸ Own.new w _
    have e_h2 : halloc h [.int .i64 f, .int .i64 t] = h1 := e_h1.symm
    have ok1 : SOK [(f, t)] (-1) := ⟨by simp; omega, hf, by simp; omega, by simp; omega, trivial⟩
    have s1 : Sp h1 (.slice h.next 0 1 1) [(f, t)] := Sl.lit (n := 1) o_h1 rfl
    have mx : max m 0 = m := by omega
    cases kn
    · refine does_fn g83 rfl ?_
      simp (disch := omega) only [fn83, evs, ↓reduceIte, Nat.reduceEqDiff, Nat.reduceAdd, Nat.reduceMul, Nat.reduceLeDiff, Nat.reduceLT, Int.reduceNeg, DF, eff, Nat.reduceSub, fwrap_i64, eq_false e, e_h2]
      refine OQ_does (Without_ok F_h1.wf (a.fr F_h1) s1 ok ok1 hlen (by simp) m hm hL (by simp; exact ht)) ?_
      rintro _ h2 ⟨F2, y, L', rfl, o1, sL, okL, iL, mL⟩
      simp (disch := omega) only [evs, ↓reduceIte, Nat.reduceEqDiff, Nat.reduceAdd, Nat.reduceMul, Nat.reduceLeDiff, Nat.reduceLT, Int.reduceNeg, DF, eff, Nat.reduceSub, fwrap_i64]
      rw [mx] at mL
      refine ⟨F_h1.then F2, L', o1, sL, okL, fun x => ?_, mL⟩
      rw [iL, inS_cons, inS_nil]
      by_cases c : f ≤ x ∧ x < t
      · rw [if_pos c]; simp [c]
      · rw [if_neg c]
        have : (decide (f ≤ x) && decide (x < t)) = false := by simp; omega
        simp [this]
    · refine does_fn g83 rfl ?_
      simp (disch := omega) only [fn83, evs, ↓reduceIte, Nat.reduceEqDiff, Nat.reduceAdd, Nat.reduceMul, Nat.reduceLeDiff, Nat.reduceLT, Int.reduceNeg, DF, eff, Nat.reduceSub, fwrap_i64, eq_false e, e_h2]
      refine OQ_does (Union_ok F_h1.wf (a.fr F_h1) s1 ok ok1 hlen (by simp) m hm hL (by simp; exact ht)) ?_
      rintro _ h2 ⟨F2, y, L', rfl, o1, sL, okL, iL, mL⟩
      simp (disch := omega) only [evs, ↓reduceIte, Nat.reduceEqDiff, Nat.reduceAdd, Nat.reduceMul, Nat.reduceLeDiff, Nat.reduceLT, Int.reduceNeg, DF, eff, Nat.reduceSub, fwrap_i64]
      rw [mx] at mL
      refine ⟨F_h1.then F2, L', o1, sL, okL, fun x => ?_, mL⟩
      rw [iL, inS_cons, inS_nil]
      by_cases c : f ≤ x ∧ x < t
      · rw [if_pos c]; simp [c]
      · rw [if_neg c]
        have : (decide (f ≤ x) && decide (x < t)) = false := by simp; omega
        simp [this]
theorem with_ok {h : Heap} {c vk : V} {e : Int} (w : WF h) (hc : c.one = true) (hk : vk.one = true) :
    Does go 82 [.agg [c], vk, .int .i64 e] h fun z h' => Fr [] h h' ∧ z = if e = 0 then .tup [.agg [c, vk], .int .i64 0] else .tup [.agg [.nilp, .nils], .int .i64 e] := by
  obtain ⟨h1, e_h1⟩ : ∃ h1, h1 = halloc h [c] := ⟨_, rfl⟩
  have F_h1 : Fr [] h h1 := e_h1 ▸ Fr.halloc w _
  have o_h1 : Own h1 h.next [c] := e_h1 ▸ Own.new w _
  obtain ⟨h2, e_h2⟩ : ∃ h2, h2 = halloc h1 [.nilp, .nils] := ⟨_, rfl⟩
  have F_h2 : Fr [] h1 h2 := e_h2 ▸ Fr.halloc F_h1.wf _
  have o_h2 : Own h2 h1.next [.nilp, .nils] := e_h2 ▸ Own.new F_h1.wf _
  have F12 := F_h1.then F_h2
  by_cases e0 : e = 0
  · subst e0
    refine does_fn g82 rfl ?_
    simp (disch := omega) only [fn82, evs, ↓reduceIte, Nat.reduceEqDiff, Nat.reduceAdd, Nat.reduceMul, Nat.reduceLeDiff, Nat.reduceLT, Int.reduceNeg, DF, eff, Nat.reduceSub, fwrap_i64, ← e_h1, ← e_h2, (F_h2.get o_h1).ld, cells_one hc, cells_one hk]
    refine store_step (c' := [c, vk]) F_h2.wf o_h2 rfl (by first | rfl | simp [onesB, V.cells, pv_one, *]) rfl ?_
    rintro h3 o_h3 F_h3 n_h3
    simp (disch := omega) only [evs, ↓reduceIte, Nat.reduceEqDiff, Nat.reduceAdd, Nat.reduceMul, Nat.reduceLeDiff, Nat.reduceLT, Int.reduceNeg, DF, eff, Nat.reduceSub, fwrap_i64, o_h3.ld]
    exact F12.fresh F_h3 w F_h1.next
  · refine does_fn g82 rfl ?_
    simp (disch := omega) only [fn82, evs, ↓reduceIte, Nat.reduceEqDiff, Nat.reduceAdd, Nat.reduceMul, Nat.reduceLeDiff, Nat.reduceLT, Int.reduceNeg, DF, eff, Nat.reduceSub, fwrap_i64, ← e_h1, ← e_h2, eq_false e0]
    refine store_step (c' := [.nilp, .nils]) F_h2.wf o_h2 rfl (by first | rfl | simp [onesB, V.cells, pv_one, *]) rfl ?_
    rintro h3 o_h3 F_h3 n_h3
    simp (disch := omega) only [evs, ↓reduceIte, Nat.reduceEqDiff, Nat.reduceAdd, Nat.reduceMul, Nat.reduceLeDiff, Nat.reduceLT, Int.reduceNeg, DF, eff, Nat.reduceSub, fwrap_i64, o_h3.ld]
    exact F12.fresh F_h3 w F_h1.next
theorem ranged_ok {h : Heap} {v : V} {L : List (Int × Int)} {a n : Int} (w : WF h) (s : Sp h v L) (ok : SOK L (-1)) (hl : L.length ≤ 4096) (ha : 0 ≤ a) (ha1 : a ≤ 1073741824) (hn : 0 ≤ n) (hn1 : n ≤ 1073741824) :
    Does go 105 [v, .int .i64 a, .int .i64 n] h fun u h' => u = .int .i64 0 ∧ Fr [] h h' := by
  refine does_fn g105 rfl ?_
  simp (disch := omega) only [fn105, evs, ↓reduceIte, Nat.reduceEqDiff, Nat.reduceAdd, Nat.reduceMul, Nat.reduceLeDiff, Nat.reduceLT, Int.reduceNeg, DF, eff, Nat.reduceSub, fwrap_i64]
  refine OQ_does (SCheck_ok w s ok hl) ?_
  rintro _ h1 ⟨rfl, F⟩
  simp (disch := omega) only [evs, ↓reduceIte, Nat.reduceEqDiff, Nat.reduceAdd, Nat.reduceMul, Nat.reduceLeDiff, Nat.reduceLT, Int.reduceNeg, DF, eff, Nat.reduceSub, fwrap_i64, show ¬ a < 0 by omega, show ¬ 1073741824 < a by omega, show ¬ n < 0 by omega, show ¬ 1073741824 < n by omega]
  exact F
/-- where the places are behind an insertion -/
def shf (a n : Int) (f : Int → Bool) (x : Int) : Bool := if x < a then f x else if x < a + n then false else f (x - n)
theorem inS_bound {L : List (Int × Int)} {m x : Int} (h : ∀ s ∈ L, s.2 ≤ m) (hx : m ≤ x) : inS L x = false := by
  simp only [inS, List.any_eq_false, Bool.and_eq_true, decide_eq_true_eq]
  intro s hs
  have := h s hs
  omega
theorem SIns_ok {h : Heap} {v : V} {L : List (Int × Int)} {a n m : Int} (w : WF h) (s : Sp h v L) (ok : SOK L (-1)) (hm : m + n ≤ 8000) (hL : ∀ s ∈ L, s.2 ≤ m) (hm0 : 0 ≤ m) (ha : 0 ≤ a) (ha1 : a ≤ m) (hn : 0 ≤ n) :
    Does go 81 [v, .int .i64 a, .int .i64 n] h fun z h' => Fr [] h h' ∧ ∃ y L', z = .tup [y, .int .i64 0] ∧ y.one = true ∧ SpF h' y L' ∧ SOK L' (-1) ∧ (∀ x, inS L' x = shf a n (inS L) x) ∧ ∀ s ∈ L', s.2 ≤ m + n := by
  have hlen := ok.len (by omega) hL
  refine does_fn g81 rfl ?_
  simp (disch := omega) only [fn81, evs, ↓reduceIte, Nat.reduceEqDiff, Nat.reduceAdd, Nat.reduceMul, Nat.reduceLeDiff, Nat.reduceLT, Int.reduceNeg, DF, eff, Nat.reduceSub, fwrap_i64]
  refine OQ_does (ranged_ok w s ok hlen ha (by omega) hn (by omega)) ?_
  rintro _ h1 ⟨rfl, F1⟩
  have s1 := s.fr F1
  by_cases e : L = []
  · subst e
    have hz : aP .lenS [v] = some (.int .i64 0) := s.len
    simp (disch := omega) only [evs, ↓reduceIte, Nat.reduceEqDiff, Nat.reduceAdd, Nat.reduceMul, Nat.reduceLeDiff, Nat.reduceLT, Int.reduceNeg, DF, eff, Nat.reduceSub, fwrap_i64, hz, show ¬ (0 : Int) ≤ 0 - 1 by omega]
    refine W_loop (fun _ env hh => hh = h1 ∧ env.get 10 = some .nils ∧ env.get 46 = some (.int .i64 0) ∧ env.get 45 = some (.int .i64 0)) 0 (by omega) ⟨rfl, (by simp [T.get_set]), (by simp [T.get_set]), (by simp [T.get_set])⟩ ?_
    rintro k env hh ⟨rfl, g10, g46, g45⟩
    simp (disch := omega) only [evs, ↓reduceIte, Nat.reduceEqDiff, Nat.reduceAdd, Nat.reduceMul, Nat.reduceLeDiff, Nat.reduceLT, Int.reduceNeg, DF, eff, Nat.reduceSub, fwrap_i64, g10, g46, g45, show ¬ (0 : Int) < 0 by omega]
    refine OQ_does (done_ok (B := 0) GRecs.nil (by simp)) ?_
    rintro _ _ ⟨z, rfl, sz, oz, hh⟩
    subst hh
    simp (disch := omega) only [evs, ↓reduceIte, Nat.reduceEqDiff, Nat.reduceAdd, Nat.reduceMul, Nat.reduceLeDiff, Nat.reduceLT, Int.reduceNeg, DF, eff, Nat.reduceSub, fwrap_i64]
    exact ⟨F1, z, [], rfl, oz, sz, trivial, fun x => by simp [shf, inS], by simp⟩
  · have pos : 0 < L.length := List.length_pos_iff.2 e
    obtain ⟨bb, oo, t, e1, e2, e3, e4, e5⟩ := Sp.ix s1 (L.length - 1) (by omega)
    have el : ((L.length - 1 : Nat) : Int) = (L.length : Int) - 1 := by omega
    rw [el] at e1
    have tm := hL t (List.mem_of_getElem? e5)
    have c : a < t.2 ∨ ¬ a < t.2 := by omega
    rcases c with c | c
    all_goals
      simp (disch := omega) only [evs, ↓reduceIte, Nat.reduceEqDiff, Nat.reduceAdd, Nat.reduceMul, Nat.reduceLeDiff, Nat.reduceLT, Int.reduceNeg, DF, eff, Nat.reduceSub, fwrap_i64, s1.len, show (0 : Int) ≤ (L.length : Int) - 1 by omega, e1, e3, c, show ¬ 1073741824 < t.2 + n by omega]
      refine W_loop (fun k env hh => ∃ (i : Nat) (vo : V) (O : List (Int × Int)) (last : Int), Fr [] h hh ∧ env.get 44 = some v ∧ env.get 45 = some (.int .i64 L.length) ∧ env.get 46 = some (.int .i64 i) ∧ env.get 10 = some vo ∧
        env.get 1 = some (.int .i64 a) ∧ env.get 2 = some (.int .i64 n) ∧ i ≤ L.length ∧ GRecs sp 2 hh h.next vo O ∧ SOK O (-1) ∧ SOK (L.drop i) last ∧ (∀ s ∈ O, s.2 ≤ if last ≤ a then last else last + n) ∧ last ≤ m ∧
        (∀ x, inS O x = shf a n (inS (L.take i)) x) ∧ k = L.length - i) L.length (by omega) ?_ ?_
      · exact ⟨0, .nils, [], -1, F1, (by simp [T.get_set]), (by simp [T.get_set]), (by simp [T.get_set]), (by simp [T.get_set]), (by simp [T.get_set]), (by simp [T.get_set]), by omega, GRecs.nil, trivial, ok, by simp, by omega, fun x => by simp [shf, inS], rfl⟩
      · rintro k env hh ⟨i, vo, O, last, F, g44, g45, g46, g10, g1, g2, hi, gO, okO, okL, mO, lm, sO, rfl⟩
        have cO := okO.count (m + n) (fun s hs => by have := mO s hs; split at this <;> omega) (by omega)
        by_cases hlt : (i : Int) < L.length
        · obtain ⟨bb, oo, s, e1, e2, e3, e4, e5⟩ := Sp.ix (Recs.fr (L := L) ‹Sp h v L› F) i hlt
          have sm := hL s (List.mem_of_getElem? e5)
          rw [drop_cons e5] at okL
          obtain ⟨k1, k2, k3, k4, k5⟩ := okL
          obtain ⟨h2, e_h2⟩ : ∃ h2, h2 = halloc hh [.int .i64 0, .int .i64 0] := ⟨_, rfl⟩
          have F_h2 : Fr [] hh h2 := e_h2 ▸ Fr.halloc F.wf _
          have o_h2 : Own h2 hh.next [.int .i64 0, .int .i64 0] := e_h2 ▸ Own.new F.wf _
          simp (disch := omega) only [evs, ↓reduceIte, Nat.reduceEqDiff, Nat.reduceAdd, Nat.reduceMul, Nat.reduceLeDiff, Nat.reduceLT, Int.reduceNeg, DF, eff, Nat.reduceSub, fwrap_i64, g44, g45, g46, g10, g1, g2, hlt, e1, e4, ← e_h2]
          refine store_step (c' := [.int .i64 s.1, .int .i64 s.2]) F_h2.wf o_h2 rfl (by first | rfl | simp [onesB, V.cells, pv_one, *]) rfl ?_
          rintro h3 o_h3 F_h3 n_h3
          have F23 : Fr [] hh h3 := F_h2.fresh F_h3 F.wf (Nat.le_refl _)
          have F3 := F.then F23
          have b3 : h.next ≤ h3.next := F3.next
          have bk : h.next ≤ hh.next := F.next
          simp (disch := omega) only [evs, ↓reduceIte, Nat.reduceEqDiff, Nat.reduceAdd, Nat.reduceMul, Nat.reduceLeDiff, Nat.reduceLT, Int.reduceNeg, DF, eff, Nat.reduceSub, fwrap_i64, g44, g45, g46, g10, g1, g2, o_h3.ld1]
          refine OQ_does (add_ok F3.wf (gO.fr F23) b3 (by omega)) ?_
          rintro v1 h4 ⟨gO1, U4⟩
          obtain ⟨p1, p2, p3⟩ := addS_spec (a := s.1) (b := min s.2 a) okO (fun hh s' hs' => by have := mO s' hs'; split at this <;> omega) k2 (by omega)
          have mO1 : ∀ s' ∈ addS O s.1 (min s.2 a), s'.2 ≤ if s.2 ≤ a then s.2 else s.2 + n := p3 _ (fun s' hs' => by have := mO s' hs'; split at this <;> split <;> omega) (fun _ => by split <;> omega)
          have mO1' : ∀ s' ∈ addS O s.1 (min s.2 a), s'.2 ≤ max s.1 a + n := p3 _ (fun s' hs' => by have := mO s' hs'; split at this <;> omega) (fun _ => by omega)
          have cO1 := p1.count (m + n) (fun s hs => by have := mO1 s hs; split at this <;> omega) (by omega)
          have oo3 : Own h4 hh.next [.int .i64 s.1, .int .i64 s.2] := by
            refine U4.own _ _ ?_ o_h3
            rcases gO with ⟨rfl, _⟩ | ⟨b, n', rfl, _, _, _, og⟩
            · simp [vb]
            · have := og.lt F.wf; simp [vb]; omega
          have U4' := Gs.up (gO.fr F23) U4
          simp (disch := omega) only [evs, ↓reduceIte, Nat.reduceEqDiff, Nat.reduceAdd, Nat.reduceMul, Nat.reduceLeDiff, Nat.reduceLT, Int.reduceNeg, DF, eff, Nat.reduceSub, fwrap_i64, g44, g45, g46, g10, g1, g2, oo3.ld1]
          refine OQ_does (add_ok U4.wf gO1 (Nat.le_trans b3 U4.next) (by omega)) ?_
          rintro v2 h5 ⟨gO2, U5⟩
          have U5' := Gs.up gO1 U5
          obtain ⟨q1, q2, q3⟩ := addS_spec (a := max s.1 a + n) (b := s.2 + n) p1 (fun _ => mO1') (by omega) (by omega)
          simp (disch := omega) only [evs, ↓reduceIte, Nat.reduceEqDiff, Nat.reduceAdd, Nat.reduceMul, Nat.reduceLeDiff, Nat.reduceLT, Int.reduceNeg, DF, eff, Nat.reduceSub, fwrap_i64, g44, g45, g46, g10, g1, g2]
          refine (roundQ_norm _ _ _).2 ⟨L.length - (i + 1), by omega, i + 1, v2, _, s.2, F3.ups w (U4'.trans U5'), (by simp [T.get_set, g44]), (by simp [T.get_set, g45]), (by simp [T.get_set]), (by simp [T.get_set]), (by simp [T.get_set, g1]), (by simp [T.get_set, g2]), by omega, gO2, q1, k5, q3 _ mO1 (fun _ => by split <;> omega), sm, ?_, rfl⟩
          intro x
          rw [q2, p2, sO, List.take_add_one, e5]
          simp only [Option.toList_some, shf, inS_app, inS_cons, inS_nil, Bool.or_false]
          by_cases c1 : x < a
          · simp only [if_pos c1, Bool.or_assoc]; congr 1
            rw [Bool.eq_iff_iff]; simp; omega
          · by_cases c2 : x < a + n
            · simp only [if_neg c1, if_pos c2, Bool.false_or]
              rw [Bool.eq_iff_iff]; simp; omega
            · simp only [if_neg c1, if_neg c2, Bool.or_assoc]; congr 1
              rw [Bool.eq_iff_iff]; simp; omega
        · simp (disch := omega) only [evs, ↓reduceIte, Nat.reduceEqDiff, Nat.reduceAdd, Nat.reduceMul, Nat.reduceLeDiff, Nat.reduceLT, Int.reduceNeg, DF, eff, Nat.reduceSub, fwrap_i64, g44, g45, g46, g10, g1, g2, hlt]
          refine OQ_does (done_ok gO (by omega)) ?_
          rintro _ _ ⟨z, rfl, sz, oz, hh⟩
          subst hh
          simp (disch := omega) only [evs, ↓reduceIte, Nat.reduceEqDiff, Nat.reduceAdd, Nat.reduceMul, Nat.reduceLeDiff, Nat.reduceLT, Int.reduceNeg, DF, eff, Nat.reduceSub, fwrap_i64]
          refine ⟨F, z, O, rfl, oz, sz, okO, fun x => by rw [sO, List.take_of_length_le (by omega)], fun s hs => by have := mO s hs; split at this <;> omega⟩
end Go.Ev.Lay
