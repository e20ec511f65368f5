/- An evaluator of the program and contracts proved over it: the texts LayL LayM LayN LayP LayQ LayR. -/
import Derived.Test.YtfhplbpjpmaoiaaGreatDoorP11
import Derived.Test.YtfhplbpjpmaoiaaGreatDoorP08
set_option linter.unusedSimpArgs false
set_option linter.unusedVariables false
set_option linter.constructorNameAsVariable false
/- Spans: Union, Without, Insert; sizes: marked, with. -/
namespace Go.Ev.Lay
set_option maxRecDepth 4000
theorem keep_or : Keep (.func (.func 122) [] []) (fun a b => a || b) := by
  refine ⟨⟨122, rfl, by decide, fun h a b => ?_⟩, rfl⟩
  cases a
  · refine does_fn g122 rfl ?_
    simp (disch := omega) only [fn122, evs, ↓reduceIte, Nat.reduceEqDiff, Nat.reduceAdd, Nat.reduceMul, Nat.reduceLeDiff, Nat.reduceLT, Int.reduceNeg, DF, eff, Nat.reduceSub, fwrap_i64]
    cases b <;> rfl
  · refine does_fn g122 rfl ?_
    simp (disch := omega) only [fn122, evs, ↓reduceIte, Nat.reduceEqDiff, Nat.reduceAdd, Nat.reduceMul, Nat.reduceLeDiff, Nat.reduceLT, Int.reduceNeg, DF, eff, Nat.reduceSub, fwrap_i64]
    rfl
theorem keep_not : Keep (.func (.func 121) [] []) (fun a b => a && !b) := by
  refine ⟨⟨121, rfl, by decide, fun h a b => ?_⟩, rfl⟩
  cases a
  · refine does_fn g121 rfl ?_
    simp (disch := omega) only [fn121, evs, ↓reduceIte, Nat.reduceEqDiff, Nat.reduceAdd, Nat.reduceMul, Nat.reduceLeDiff, Nat.reduceLT, Int.reduceNeg, DF, eff, Nat.reduceSub, fwrap_i64]
    rfl
  · refine does_fn g121 rfl ?_
    simp (disch := omega) only [fn121, evs, ↓reduceIte, Nat.reduceEqDiff, Nat.reduceAdd, Nat.reduceMul, Nat.reduceLeDiff, Nat.reduceLT, Int.reduceNeg, DF, eff, Nat.reduceSub, fwrap_i64]
    cases b <;> rfl
theorem Union_ok {h : Heap} {u v : V} {A B : List (Int × Int)} (w : WF h) (a : Sp h u A) (b : Sp h v B) (oka : SOK A (-1)) (okb : SOK B (-1)) (ha : A.length ≤ 4096) (hb : B.length ≤ 4096)
    (m : Int) (hm : m ≤ 8000) (hma : ∀ s ∈ A, s.2 ≤ m) (hmb : ∀ s ∈ B, s.2 ≤ m) :
    Does go 109 [u, v] h fun z h' => Fr [] h h' ∧ ∃ y L, z = .tup [y, .int .i64 0] ∧ y.one = true ∧ SpF h' y L ∧ SOK L (-1) ∧ (∀ x, inS L x = (inS A x || inS B x)) ∧ ∀ s ∈ L, s.2 ≤ max m 0 := by
  refine does_fn g109 rfl ?_
  simp (disch := omega) only [fn109, evs, ↓reduceIte, Nat.reduceEqDiff, Nat.reduceAdd, Nat.reduceMul, Nat.reduceLeDiff, Nat.reduceLT, Int.reduceNeg, DF, eff, Nat.reduceSub, fwrap_i64]
  refine OQ_does (merged_ok w a b oka okb ha hb keep_or m hm hma hmb) ?_
  rintro _ h1 ⟨F, y, L, rfl, r⟩
  simp (disch := omega) only [evs, ↓reduceIte, Nat.reduceEqDiff, Nat.reduceAdd, Nat.reduceMul, Nat.reduceLeDiff, Nat.reduceLT, Int.reduceNeg, DF, eff, Nat.reduceSub, fwrap_i64]
  exact ⟨F, y, L, rfl, r⟩
theorem Without_ok {h : Heap} {u v : V} {A B : List (Int × Int)} (w : WF h) (a : Sp h u A) (b : Sp h v B) (oka : SOK A (-1)) (okb : SOK B (-1)) (ha : A.length ≤ 4096) (hb : B.length ≤ 4096)
    (m : Int) (hm : m ≤ 8000) (hma : ∀ s ∈ A, s.2 ≤ m) (hmb : ∀ s ∈ B, s.2 ≤ m) :
    Does go 108 [u, v] h fun z h' => Fr [] h h' ∧ ∃ y L, z = .tup [y, .int .i64 0] ∧ y.one = true ∧ SpF h' y L ∧ SOK L (-1) ∧ (∀ x, inS L x = (inS A x && !inS B x)) ∧ ∀ s ∈ L, s.2 ≤ max m 0 := by
  refine does_fn g108 rfl ?_
  simp (disch := omega) only [fn108, evs, ↓reduceIte, Nat.reduceEqDiff, Nat.reduceAdd, Nat.reduceMul, Nat.reduceLeDiff, Nat.reduceLT, Int.reduceNeg, DF, eff, Nat.reduceSub, fwrap_i64]
  refine OQ_does (merged_ok w a b oka okb ha hb keep_not m hm hma hmb) ?_
  rintro _ h1 ⟨F, y, L, rfl, r⟩
  simp (disch := omega) only [evs, ↓reduceIte, Nat.reduceEqDiff, Nat.reduceAdd, Nat.reduceMul, Nat.reduceLeDiff, Nat.reduceLT, Int.reduceNeg, DF, eff, Nat.reduceSub, fwrap_i64]
  exact ⟨F, y, L, rfl, r⟩
theorem SOK.len {L : List (Int × Int)} (ok : SOK L (-1)) {m : Int} (hm : m ≤ 8000) (h : ∀ s ∈ L, s.2 ≤ m) : L.length ≤ 4096 := by
  have := ok.count (max m 0) (fun s hs => by have := h s hs; omega) (by omega)
  omega
theorem marked_ok {h : Heap} {v : V} {L : List (Int × Int)} {f t m : Int} {kn : Bool} (w : WF h) (af : SpF h v L) (ok : SOK L (-1)) (hm : m ≤ 8000) (hL : ∀ s ∈ L, s.2 ≤ m) (hf : 0 ≤ f) (hft : f ≤ t) (ht : t ≤ m) :
    Does go 83 [v, .int .i64 f, .int .i64 t, .bool kn] h fun y h' => Fr [] h h' ∧ ∃ L', y.one = true ∧ SpF h' y L' ∧ SOK L' (-1) ∧ (∀ x, inS L' x = if f ≤ x ∧ x < t then kn else inS L x) ∧ ∀ s ∈ L', s.2 ≤ m := by
  have a := af.slc
  by_cases e : f = t
  · refine does_fn g83 rfl ?_
    simp (disch := omega) only [fn83, evs, ↓reduceIte, Nat.reduceEqDiff, Nat.reduceAdd, Nat.reduceMul, Nat.reduceLeDiff, Nat.reduceLT, Int.reduceNeg, DF, eff, Nat.reduceSub, fwrap_i64, eq_true e]
    exact ⟨Fr.refl w, L, Sl.one a, af, ok, fun x => by rw [if_neg (by omega)], hL⟩
  · have hlen := ok.len hm hL
    obtain ⟨h1, e_h1⟩ : ∃ h1, h1 = halloc h (sp (f, t)) := ⟨_, rfl⟩
    have F_h1 : Fr [] h h1 := e_h1 ▸ Fr.halloc w _
    have o_h1 : Own h1 h.next (sp (f, t)) := e_h1 ▸ Own.new w _
    have e_h2 : halloc h [.int .i64 f, .int .i64 t] = h1 := e_h1.symm
    have ok1 : SOK [(f, t)] (-1) := ⟨by simp; omega, hf, by simp; omega, by simp; omega, trivial⟩
    have s1 : Sp h1 (.slice h.next 0 1 1) [(f, t)] := Sl.lit (n := 1) o_h1 rfl
    have mx : max m 0 = m := by omega
    cases kn
    · refine does_fn g83 rfl ?_
      simp (disch := omega) only [fn83, evs, ↓reduceIte, Nat.reduceEqDiff, Nat.reduceAdd, Nat.reduceMul, Nat.reduceLeDiff, Nat.reduceLT, Int.reduceNeg, DF, eff, Nat.reduceSub, fwrap_i64, eq_false e, e_h2]
      refine OQ_does (Without_ok F_h1.wf (a.fr F_h1) s1 ok ok1 hlen (by simp) m hm hL (by simp; exact ht)) ?_
      rintro _ h2 ⟨F2, y, L', rfl, o1, sL, okL, iL, mL⟩
      simp (disch := omega) only [evs, ↓reduceIte, Nat.reduceEqDiff, Nat.reduceAdd, Nat.reduceMul, Nat.reduceLeDiff, Nat.reduceLT, Int.reduceNeg, DF, eff, Nat.reduceSub, fwrap_i64]
      rw [mx] at mL
      refine ⟨F_h1.then F2, L', o1, sL, okL, fun x => ?_, mL⟩
      rw [iL, inS_cons, inS_nil]
      by_cases c : f ≤ x ∧ x < t
      · rw [if_pos c]; simp [c]
      · rw [if_neg c]
        have : (decide (f ≤ x) && decide (x < t)) = false := by simp; omega
        simp [this]
    · refine does_fn g83 rfl ?_
      simp (disch := omega) only [fn83, evs, ↓reduceIte, Nat.reduceEqDiff, Nat.reduceAdd, Nat.reduceMul, Nat.reduceLeDiff, Nat.reduceLT, Int.reduceNeg, DF, eff, Nat.reduceSub, fwrap_i64, eq_false e, e_h2]
      refine OQ_does (Union_ok F_h1.wf (a.fr F_h1) s1 ok ok1 hlen (by simp) m hm hL (by simp; exact ht)) ?_
      rintro _ h2 ⟨F2, y, L', rfl, o1, sL, okL, iL, mL⟩
      simp (disch := omega) only [evs, ↓reduceIte, Nat.reduceEqDiff, Nat.reduceAdd, Nat.reduceMul, Nat.reduceLeDiff, Nat.reduceLT, Int.reduceNeg, DF, eff, Nat.reduceSub, fwrap_i64]
      rw [mx] at mL
      refine ⟨F_h1.then F2, L', o1, sL, okL, fun x => ?_, mL⟩
      rw [iL, inS_cons, inS_nil]
      by_cases c : f ≤ x ∧ x < t
      · rw [if_pos c]; simp [c]
      · rw [if_neg c]
        have : (decide (f ≤ x) && decide (x < t)) = false := by simp; omega
        simp [this]
theorem with_ok {h : Heap} {c vk : V} {e : Int} (w : WF h) (hc : c.one = true) (hk : vk.one = true) :
    Does go 82 [.agg [c], vk, .int .i64 e] h fun z h' => Fr [] h h' ∧ z = if e = 0 then .tup [.agg [c, vk], .int .i64 0] else .tup [.agg [.nilp, .nils], .int .i64 e] := by
  obtain ⟨h1, e_h1⟩ : ∃ h1, h1 = halloc h [c] := ⟨_, rfl⟩
  have F_h1 : Fr [] h h1 := e_h1 ▸ Fr.halloc w _
  have o_h1 : Own h1 h.next [c] := e_h1 ▸ Own.new w _
  obtain ⟨h2, e_h2⟩ : ∃ h2, h2 = halloc h1 [.nilp, .nils] := ⟨_, rfl⟩
  have F_h2 : Fr [] h1 h2 := e_h2 ▸ Fr.halloc F_h1.wf _
  have o_h2 : Own h2 h1.next [.nilp, .nils] := e_h2 ▸ Own.new F_h1.wf _
  have F12 := F_h1.then F_h2
  by_cases e0 : e = 0
  · subst e0
    refine does_fn g82 rfl ?_
    simp (disch := omega) only [fn82, evs, ↓reduceIte, Nat.reduceEqDiff, Nat.reduceAdd, Nat.reduceMul, Nat.reduceLeDiff, Nat.reduceLT, Int.reduceNeg, DF, eff, Nat.reduceSub, fwrap_i64, ← e_h1, ← e_h2, (F_h2.get o_h1).ld, cells_one hc, cells_one hk]
    refine store_step (c' := [c, vk]) F_h2.wf o_h2 rfl (by first | rfl | simp [onesB, V.cells, pv_one, *]) rfl ?_
    rintro h3 o_h3 F_h3 n_h3
    simp (disch := omega) only [evs, ↓reduceIte, Nat.reduceEqDiff, Nat.reduceAdd, Nat.reduceMul, Nat.reduceLeDiff, Nat.reduceLT, Int.reduceNeg, DF, eff, Nat.reduceSub, fwrap_i64, o_h3.ld]
    exact F12.fresh F_h3 w F_h1.next
  · refine does_fn g82 rfl ?_
    simp (disch := omega) only [fn82, evs, ↓reduceIte, Nat.reduceEqDiff, Nat.reduceAdd, Nat.reduceMul, Nat.reduceLeDiff, Nat.reduceLT, Int.reduceNeg, DF, eff, Nat.reduceSub, fwrap_i64, ← e_h1, ← e_h2, eq_false e0]
    refine store_step (c' := [.nilp, .nils]) F_h2.wf o_h2 rfl (by first | rfl | simp [onesB, V.cells, pv_one, *]) rfl ?_
    rintro h3 o_h3 F_h3 n_h3
    simp (disch := omega) only [evs, ↓reduceIte, Nat.reduceEqDiff, Nat.reduceAdd, Nat.reduceMul, Nat.reduceLeDiff, Nat.reduceLT, Int.reduceNeg, DF, eff, Nat.reduceSub, fwrap_i64, o_h3.ld]
    exact F12.fresh F_h3 w F_h1.next
theorem ranged_ok {h : Heap} {v : V} {L : List (Int × Int)} {a n : Int} (w : WF h) (s : Sp h v L) (ok : SOK L (-1)) (hl : L.length ≤ 4096) (ha : 0 ≤ a) (ha1 : a ≤ 1073741824) (hn : 0 ≤ n) (hn1 : n ≤ 1073741824) :
    Does go 105 [v, .int .i64 a, .int .i64 n] h fun u h' => u = .int .i64 0 ∧ Fr [] h h' := by
  refine does_fn g105 rfl ?_
  simp (disch := omega) only [fn105, evs, ↓reduceIte, Nat.reduceEqDiff, Nat.reduceAdd, Nat.reduceMul, Nat.reduceLeDiff, Nat.reduceLT, Int.reduceNeg, DF, eff, Nat.reduceSub, fwrap_i64]
  refine OQ_does (SCheck_ok w s ok hl) ?_
  rintro _ h1 ⟨rfl, F⟩
  simp (disch := omega) only [evs, ↓reduceIte, Nat.reduceEqDiff, Nat.reduceAdd, Nat.reduceMul, Nat.reduceLeDiff, Nat.reduceLT, Int.reduceNeg, DF, eff, Nat.reduceSub, fwrap_i64, show ¬ a < 0 by omega, show ¬ 1073741824 < a by omega, show ¬ n < 0 by omega, show ¬ 1073741824 < n by omega]
  exact F
/-- where the places are behind an insertion -/
def shf (a n : Int) (f : Int → Bool) (x : Int) : Bool := if x < a then f x else if x < a + n then false else f (x - n)
theorem SIns_ok {h : Heap} {v : V} {L : List (Int × Int)} {a n m : Int} (w : WF h) (s : Sp h v L) (ok : SOK L (-1)) (hm : m + n ≤ 8000) (hL : ∀ s ∈ L, s.2 ≤ m) (hm0 : 0 ≤ m) (ha : 0 ≤ a) (ha1 : a ≤ m) (hn : 0 ≤ n) :
    Does go 81 [v, .int .i64 a, .int .i64 n] h fun z h' => Fr [] h h' ∧ ∃ y L', z = .tup [y, .int .i64 0] ∧ y.one = true ∧ SpF h' y L' ∧ SOK L' (-1) ∧ (∀ x, inS L' x = shf a n (inS L) x) ∧ ∀ s ∈ L', s.2 ≤ m + n := by
  have hlen := ok.len (by omega) hL
  refine does_fn g81 rfl ?_
  simp (disch := omega) only [fn81, evs, ↓reduceIte, Nat.reduceEqDiff, Nat.reduceAdd, Nat.reduceMul, Nat.reduceLeDiff, Nat.reduceLT, Int.reduceNeg, DF, eff, Nat.reduceSub, fwrap_i64]
  refine OQ_does (ranged_ok w s ok hlen ha (by omega) hn (by omega)) ?_
  rintro _ h1 ⟨rfl, F1⟩
  have s1 := s.fr F1
  by_cases e : L = []
  · subst e
    have hz : aP .lenS [v] = some (.int .i64 0) := s.len
    simp (disch := omega) only [evs, ↓reduceIte, Nat.reduceEqDiff, Nat.reduceAdd, Nat.reduceMul, Nat.reduceLeDiff, Nat.reduceLT, Int.reduceNeg, DF, eff, Nat.reduceSub, fwrap_i64, hz, show ¬ (0 : Int) ≤ 0 - 1 by omega]
    refine W_loop (fun _ env hh => hh = h1 ∧ env.get 10 = some .nils ∧ env.get 46 = some (.int .i64 0) ∧ env.get 45 = some (.int .i64 0)) 0 (by omega) ⟨rfl, (by simp [T.get_set]), (by simp [T.get_set]), (by simp [T.get_set])⟩ ?_
    rintro k env hh ⟨rfl, g10, g46, g45⟩
    simp (disch := omega) only [evs, ↓reduceIte, Nat.reduceEqDiff, Nat.reduceAdd, Nat.reduceMul, Nat.reduceLeDiff, Nat.reduceLT, Int.reduceNeg, DF, eff, Nat.reduceSub, fwrap_i64, g10, g46, g45, show ¬ (0 : Int) < 0 by omega]
    refine OQ_does (done_ok (B := 0) GRecs.nil (by simp)) ?_
    rintro _ _ ⟨z, rfl, sz, oz, hh⟩
    subst hh
    simp (disch := omega) only [evs, ↓reduceIte, Nat.reduceEqDiff, Nat.reduceAdd, Nat.reduceMul, Nat.reduceLeDiff, Nat.reduceLT, Int.reduceNeg, DF, eff, Nat.reduceSub, fwrap_i64]
    exact ⟨F1, z, [], rfl, oz, sz, trivial, fun x => by simp [shf, inS], by simp⟩
  · have pos : 0 < L.length := List.length_pos_iff.2 e
    obtain ⟨bb, oo, t, e1, e2, e3, e4, e5⟩ := Sp.ix s1 (L.length - 1) (by omega)
    have el : ((L.length - 1 : Nat) : Int) = (L.length : Int) - 1 := by omega
    rw [el] at e1
    have tm := hL t (List.mem_of_getElem? e5)
    have c : a < t.2 ∨ ¬ a < t.2 := by omega
    rcases c with c | c
    all_goals
      simp (disch := omega) only [evs, ↓reduceIte, Nat.reduceEqDiff, Nat.reduceAdd, Nat.reduceMul, Nat.reduceLeDiff, Nat.reduceLT, Int.reduceNeg, DF, eff, Nat.reduceSub, fwrap_i64, s1.len, show (0 : Int) ≤ (L.length : Int) - 1 by omega, e1, e3, c, show ¬ 1073741824 < t.2 + n by omega]
      refine W_loop (fun k env hh => ∃ (i : Nat) (vo : V) (O : List (Int × Int)) (last : Int), Fr [] h hh ∧ env.get 44 = some v ∧ env.get 45 = some (.int .i64 L.length) ∧ env.get 46 = some (.int .i64 i) ∧ env.get 10 = some vo ∧
        env.get 1 = some (.int .i64 a) ∧ env.get 2 = some (.int .i64 n) ∧ i ≤ L.length ∧ GRecs sp 2 hh h.next vo O ∧ SOK O (-1) ∧ SOK (L.drop i) last ∧ (∀ s ∈ O, s.2 ≤ if last ≤ a then last else last + n) ∧ last ≤ m ∧
        (∀ x, inS O x = shf a n (inS (L.take i)) x) ∧ k = L.length - i) L.length (by omega) ?_ ?_
      · exact ⟨0, .nils, [], -1, F1, (by simp [T.get_set]), (by simp [T.get_set]), (by simp [T.get_set]), (by simp [T.get_set]), (by simp [T.get_set]), (by simp [T.get_set]), by omega, GRecs.nil, trivial, ok, by simp, by omega, fun x => by simp [shf, inS], rfl⟩
      · rintro k env hh ⟨i, vo, O, last, F, g44, g45, g46, g10, g1, g2, hi, gO, okO, okL, mO, lm, sO, rfl⟩
        have cO := okO.count (m + n) (fun s hs => by have := mO s hs; split at this <;> omega) (by omega)
        by_cases hlt : (i : Int) < L.length
        · obtain ⟨bb, oo, s, e1, e2, e3, e4, e5⟩ := Sp.ix (Recs.fr (L := L) ‹Sp h v L› F) i hlt
          have sm := hL s (List.mem_of_getElem? e5)
          rw [drop_cons e5] at okL
          obtain ⟨k1, k2, k3, k4, k5⟩ := okL
          obtain ⟨h2, e_h2⟩ : ∃ h2, h2 = halloc hh [.int .i64 0, .int .i64 0] := ⟨_, rfl⟩
          have F_h2 : Fr [] hh h2 := e_h2 ▸ Fr.halloc F.wf _
          have o_h2 : Own h2 hh.next [.int .i64 0, .int .i64 0] := e_h2 ▸ Own.new F.wf _
          simp (disch := omega) only [evs, ↓reduceIte, Nat.reduceEqDiff, Nat.reduceAdd, Nat.reduceMul, Nat.reduceLeDiff, Nat.reduceLT, Int.reduceNeg, DF, eff, Nat.reduceSub, fwrap_i64, g44, g45, g46, g10, g1, g2, hlt, e1, e4, ← e_h2]
          refine store_step (c' := [.int .i64 s.1, .int .i64 s.2]) F_h2.wf o_h2 rfl (by first | rfl | simp [onesB, V.cells, pv_one, *]) rfl ?_
          rintro h3 o_h3 F_h3 n_h3
          have F23 : Fr [] hh h3 := F_h2.fresh F_h3 F.wf (Nat.le_refl _)
          have F3 := F.then F23
          have b3 : h.next ≤ h3.next := F3.next
          have bk : h.next ≤ hh.next := F.next
          simp (disch := omega) only [evs, ↓reduceIte, Nat.reduceEqDiff, Nat.reduceAdd, Nat.reduceMul, Nat.reduceLeDiff, Nat.reduceLT, Int.reduceNeg, DF, eff, Nat.reduceSub, fwrap_i64, g44, g45, g46, g10, g1, g2, o_h3.ld1]
          refine OQ_does (add_ok F3.wf (gO.fr F23) b3 (by omega)) ?_
          rintro v1 h4 ⟨gO1, U4⟩
          obtain ⟨p1, p2, p3⟩ := addS_spec (a := s.1) (b := min s.2 a) okO (fun hh s' hs' => by have := mO s' hs'; split at this <;> omega) k2 (by omega)
          have mO1 : ∀ s' ∈ addS O s.1 (min s.2 a), s'.2 ≤ if s.2 ≤ a then s.2 else s.2 + n := p3 _ (fun s' hs' => by have := mO s' hs'; split at this <;> split <;> omega) (fun _ => by split <;> omega)
          have mO1' : ∀ s' ∈ addS O s.1 (min s.2 a), s'.2 ≤ max s.1 a + n := p3 _ (fun s' hs' => by have := mO s' hs'; split at this <;> omega) (fun _ => by omega)
          have cO1 := p1.count (m + n) (fun s hs => by have := mO1 s hs; split at this <;> omega) (by omega)
          have oo3 : Own h4 hh.next [.int .i64 s.1, .int .i64 s.2] := by
            refine U4.own _ _ ?_ o_h3
            rcases gO with ⟨rfl, _⟩ | ⟨b, n', rfl, _, _, _, og⟩
            · simp [vb]
            · have := og.lt F.wf; simp [vb]; omega
          have U4' := Gs.up (gO.fr F23) U4
          simp (disch := omega) only [evs, ↓reduceIte, Nat.reduceEqDiff, Nat.reduceAdd, Nat.reduceMul, Nat.reduceLeDiff, Nat.reduceLT, Int.reduceNeg, DF, eff, Nat.reduceSub, fwrap_i64, g44, g45, g46, g10, g1, g2, oo3.ld1]
          refine OQ_does (add_ok U4.wf gO1 (Nat.le_trans b3 U4.next) (by omega)) ?_
          rintro v2 h5 ⟨gO2, U5⟩
          have U5' := Gs.up gO1 U5
          obtain ⟨q1, q2, q3⟩ := addS_spec (a := max s.1 a + n) (b := s.2 + n) p1 (fun _ => mO1') (by omega) (by omega)
          simp (disch := omega) only [evs, ↓reduceIte, Nat.reduceEqDiff, Nat.reduceAdd, Nat.reduceMul, Nat.reduceLeDiff, Nat.reduceLT, Int.reduceNeg, DF, eff, Nat.reduceSub, fwrap_i64, g44, g45, g46, g10, g1, g2]
          refine (roundQ_norm _ _ _).2 ⟨L.length - (i + 1), by omega, i + 1, v2, _, s.2, F3.ups w (U4'.trans U5'), (by simp [T.get_set, g44]), (by simp [T.get_set, g45]), (by simp [T.get_set]), (by simp [T.get_set]), (by simp [T.get_set, g1]), (by simp [T.get_set, g2]), by omega, gO2, q1, k5, q3 _ mO1 (fun _ => by split <;> omega), sm, ?_, rfl⟩
          intro x
          rw [q2, p2, sO, List.take_add_one, e5]
          simp only [Option.toList_some, shf, inS_app, inS_cons, inS_nil, Bool.or_false]
          by_cases c1 : x < a
          · simp only [if_pos c1, Bool.or_assoc]; congr 1
            rw [Bool.eq_iff_iff]; simp; omega
          · by_cases c2 : x < a + n
            · simp only [if_neg c1, if_pos c2, Bool.false_or]
              rw [Bool.eq_iff_iff]; simp; omega
            · simp only [if_neg c1, if_neg c2, Bool.or_assoc]; congr 1
              rw [Bool.eq_iff_iff]; simp; omega
        · simp (disch := omega) only [evs, ↓reduceIte, Nat.reduceEqDiff, Nat.reduceAdd, Nat.reduceMul, Nat.reduceLeDiff, Nat.reduceLT, Int.reduceNeg, DF, eff, Nat.reduceSub, fwrap_i64, g44, g45, g46, g10, g1, g2, hlt]
          refine OQ_does (done_ok gO (by omega)) ?_
          rintro _ _ ⟨z, rfl, sz, oz, hh⟩
          subst hh
          simp (disch := omega) only [evs, ↓reduceIte, Nat.reduceEqDiff, Nat.reduceAdd, Nat.reduceMul, Nat.reduceLeDiff, Nat.reduceLT, Int.reduceNeg, DF, eff, Nat.reduceSub, fwrap_i64]
          refine ⟨F, z, O, rfl, oz, sz, okO, fun x => by rw [sO, List.take_of_length_le (by omega)], fun s hs => by have := mO s hs; split at this <;> omega⟩
end Go.Ev.Lay

/- Sizes: the index. -/
namespace Go.Ev.Lay
set_option maxRecDepth 4000
structure Kn (L : List (Int × Int)) (ks : List Bool) : Prop where
  ok : SOK L (-1)
  le : ∀ s ∈ L, s.2 ≤ ks.length
  eq : ∀ i : Nat, inS L i = ks.getD i false
def Ix (h : Heap) (v : V) (l : List Int) (ks : List Bool) : Prop := ∃ p vk L, v = .agg [pv p, vk] ∧ Rp h (.agg [pv p]) l ∧ SpF h vk L ∧ Kn L ks ∧ ks.length = l.length ∧ l.length ≤ 1024
theorem Ix.fr {h h' : Heap} {v : V} {l : List Int} {ks : List Bool} (a : Ix h v l ks) (f : Fr [] h h') : Ix h' v l ks := by
  obtain ⟨p, vk, L, e, r, s, x⟩ := a; exact ⟨p, vk, L, e, r.fr f, s.fr f, x⟩
theorem Ix.len {h : Heap} {v : V} {l : List Int} {ks : List Bool} (a : Ix h v l ks) : ks.length = l.length ∧ l.length ≤ 1024 := by
  obtain ⟨p, vk, L, e, r, s, _, x⟩ := a; exact x
theorem Ix.fit {h : Heap} {v : V} {l : List Int} {ks : List Bool} (a : Ix h v l ks) : Fit l := by
  obtain ⟨p, vk, L, e, r, s, _, x⟩ := a; obtain ⟨_, _, _, _, _, f⟩ := r; exact f
theorem XLen_ok {h : Heap} {v : V} {l : List Int} {ks : List Bool} (w : WF h) (a : Ix h v l ks) : Does go 75 [v] h fun u h' => u = .int .i64 l.length ∧ Fr [] h h' := by
  obtain ⟨p, vk, L, rfl, r, s, _⟩ := a
  obtain ⟨h1, e_h1⟩ : ∃ h1, h1 = halloc h [pv p, vk] := ⟨_, rfl⟩
  have F_h1 : Fr [] h h1 := e_h1 ▸ Fr.halloc w _
  have o_h1 : Own h1 h.next [pv p, vk] := e_h1 ▸ Own.new w _
  refine does_fn g75 rfl ?_
  simp (disch := omega) only [fn75, evs, ↓reduceIte, Nat.reduceEqDiff, Nat.reduceAdd, Nat.reduceMul, Nat.reduceLeDiff, Nat.reduceLT, Int.reduceNeg, DF, eff, Nat.reduceSub, fwrap_i64, ← e_h1, o_h1.ld]
  refine OQ_does (Len_ok F_h1.wf (r.fr F_h1)) ?_
  rintro _ h2 ⟨rfl, F2⟩
  simp (disch := omega) only [evs, ↓reduceIte, Nat.reduceEqDiff, Nat.reduceAdd, Nat.reduceMul, Nat.reduceLeDiff, Nat.reduceLT, Int.reduceNeg, DF, eff, Nat.reduceSub, fwrap_i64]
  exact F_h1.then F2
theorem XTop_ok {h : Heap} {v : V} {l : List Int} {ks : List Bool} {i : Int} (w : WF h) (a : Ix h v l ks) :
    Does go 57 [v, .int .i64 i] h fun u h' => (u = if 0 ≤ i ∧ i ≤ l.length then .tup [.int .i64 (l.take i.toNat).sum, .int .i64 0] else .tup [.int .i64 0, .int .i64 4]) ∧ Fr [] h h' := by
  obtain ⟨p, vk, L, rfl, r, s, _⟩ := a
  obtain ⟨h1, e_h1⟩ : ∃ h1, h1 = halloc h [pv p, vk] := ⟨_, rfl⟩
  have F_h1 : Fr [] h h1 := e_h1 ▸ Fr.halloc w _
  have o_h1 : Own h1 h.next [pv p, vk] := e_h1 ▸ Own.new w _
  refine does_fn g57 rfl ?_
  simp (disch := omega) only [fn57, evs, ↓reduceIte, Nat.reduceEqDiff, Nat.reduceAdd, Nat.reduceMul, Nat.reduceLeDiff, Nat.reduceLT, Int.reduceNeg, DF, eff, Nat.reduceSub, fwrap_i64, ← e_h1, o_h1.ld]
  refine OQ_does (Sum_ok F_h1.wf (r.fr F_h1)) ?_
  rintro _ h2 ⟨rfl, F2⟩
  by_cases c : 0 ≤ i ∧ i ≤ l.length
  · simp only [if_pos c]
    simp (disch := omega) only [evs, ↓reduceIte, Nat.reduceEqDiff, Nat.reduceAdd, Nat.reduceMul, Nat.reduceLeDiff, Nat.reduceLT, Int.reduceNeg, DF, eff, Nat.reduceSub, fwrap_i64]
    exact F_h1.then F2
  · simp only [if_neg c]
    simp (disch := omega) only [evs, ↓reduceIte, Nat.reduceEqDiff, Nat.reduceAdd, Nat.reduceMul, Nat.reduceLeDiff, Nat.reduceLT, Int.reduceNeg, DF, eff, Nat.reduceSub, fwrap_i64]
    exact F_h1.then F2
theorem XSize_ok {h : Heap} {v : V} {l : List Int} {ks : List Bool} {i : Int} (w : WF h) (a : Ix h v l ks) :
    Does go 58 [v, .int .i64 i] h fun u h' => (u = if 0 ≤ i ∧ i < l.length then .tup [.int .i64 (l.getD i.toNat 0), .int .i64 0] else .tup [.int .i64 0, .int .i64 4]) ∧ Fr [] h h' := by
  obtain ⟨p, vk, L, rfl, r, s, _⟩ := a
  obtain ⟨h1, e_h1⟩ : ∃ h1, h1 = halloc h [pv p, vk] := ⟨_, rfl⟩
  have F_h1 : Fr [] h h1 := e_h1 ▸ Fr.halloc w _
  have o_h1 : Own h1 h.next [pv p, vk] := e_h1 ▸ Own.new w _
  refine does_fn g58 rfl ?_
  simp (disch := omega) only [fn58, evs, ↓reduceIte, Nat.reduceEqDiff, Nat.reduceAdd, Nat.reduceMul, Nat.reduceLeDiff, Nat.reduceLT, Int.reduceNeg, DF, eff, Nat.reduceSub, fwrap_i64, ← e_h1, o_h1.ld]
  refine OQ_does (RAt_ok F_h1.wf (r.fr F_h1)) ?_
  rintro _ h2 ⟨rfl, F2⟩
  by_cases c : 0 ≤ i ∧ i < l.length
  · simp only [if_pos c]
    simp (disch := omega) only [evs, ↓reduceIte, Nat.reduceEqDiff, Nat.reduceAdd, Nat.reduceMul, Nat.reduceLeDiff, Nat.reduceLT, Int.reduceNeg, DF, eff, Nat.reduceSub, fwrap_i64]
    exact F_h1.then F2
  · simp only [if_neg c]
    simp (disch := omega) only [evs, ↓reduceIte, Nat.reduceEqDiff, Nat.reduceAdd, Nat.reduceMul, Nat.reduceLeDiff, Nat.reduceLT, Int.reduceNeg, DF, eff, Nat.reduceSub, fwrap_i64]
    exact F_h1.then F2
theorem Kn.len {L : List (Int × Int)} {ks : List Bool} (k : Kn L ks) (h : ks.length ≤ 1024) : L.length ≤ 4096 := k.ok.len (m := ks.length) (by omega) k.le
theorem XKnown_ok {h : Heap} {v : V} {l : List Int} {ks : List Bool} {i : Int} (w : WF h) (a : Ix h v l ks) :
    Does go 92 [v, .int .i64 i] h fun u h' => (u = if 0 ≤ i ∧ i < l.length then .tup [.bool (ks.getD i.toNat false), .int .i64 0] else .tup [.bool false, .int .i64 4]) ∧ Fr [] h h' := by
  have a0 := a
  obtain ⟨p, vk, L, rfl, r, s, kn, e1, e2⟩ := a
  obtain ⟨h1, e_h1⟩ : ∃ h1, h1 = halloc h [pv p, vk] := ⟨_, rfl⟩
  have F_h1 : Fr [] h h1 := e_h1 ▸ Fr.halloc w _
  have o_h1 : Own h1 h.next [pv p, vk] := e_h1 ▸ Own.new w _
  by_cases h0 : i < 0
  · refine does_fn g92 rfl ?_
    simp (disch := omega) only [fn92, evs, ↓reduceIte, Nat.reduceEqDiff, Nat.reduceAdd, Nat.reduceMul, Nat.reduceLeDiff, Nat.reduceLT, Int.reduceNeg, DF, eff, Nat.reduceSub, fwrap_i64, ← e_h1, o_h1.ld, o_h1.ld1, h0]
    exact ⟨by rw [if_neg (by omega)], F_h1⟩
  · refine does_fn g92 rfl ?_
    simp (disch := omega) only [fn92, evs, ↓reduceIte, Nat.reduceEqDiff, Nat.reduceAdd, Nat.reduceMul, Nat.reduceLeDiff, Nat.reduceLT, Int.reduceNeg, DF, eff, Nat.reduceSub, fwrap_i64, ← e_h1, o_h1.ld, o_h1.ld1, h0]
    refine OQ_does (XLen_ok F_h1.wf (a0.fr F_h1)) ?_
    rintro _ h2 ⟨rfl, F2⟩
    by_cases hi : (l.length : Int) ≤ i
    · simp (disch := omega) only [evs, ↓reduceIte, Nat.reduceEqDiff, Nat.reduceAdd, Nat.reduceMul, Nat.reduceLeDiff, Nat.reduceLT, Int.reduceNeg, DF, eff, Nat.reduceSub, fwrap_i64, hi, h0]
      exact ⟨by rw [if_neg (by omega)], F_h1.then F2⟩
    · simp (disch := omega) only [evs, ↓reduceIte, Nat.reduceEqDiff, Nat.reduceAdd, Nat.reduceMul, Nat.reduceLeDiff, Nat.reduceLT, Int.reduceNeg, DF, eff, Nat.reduceSub, fwrap_i64, hi, h0, (F2.get o_h1).ld1]
      refine OQ_does (Has_ok F2.wf (s.fr (F_h1.then F2)).slc kn.ok (kn.len (by omega))) ?_
      rintro _ h3 ⟨rfl, F3⟩
      simp (disch := omega) only [evs, ↓reduceIte, Nat.reduceEqDiff, Nat.reduceAdd, Nat.reduceMul, Nat.reduceLeDiff, Nat.reduceLT, Int.reduceNeg, DF, eff, Nat.reduceSub, fwrap_i64]
      refine ⟨?_, (F_h1.then F2).then F3⟩
      rw [if_pos (by omega)]
      have := kn.eq i.toNat
      rw [show ((i.toNat : Nat) : Int) = i by omega] at this
      rw [this]
theorem wrong_ok {h : Heap} {s : Int} : Does go 78 [.int .i64 s] h fun u h' => u = .bool (decide (s < 1 ∨ 2305843009213693952 < s)) ∧ h' = h := by
  by_cases c : s < 1
  · refine does_fn g78 rfl ?_
    simp (disch := omega) only [fn78, evs, ↓reduceIte, Nat.reduceEqDiff, Nat.reduceAdd, Nat.reduceMul, Nat.reduceLeDiff, Nat.reduceLT, Int.reduceNeg, DF, eff, Nat.reduceSub, fwrap_i64, c]
    simp
  · refine does_fn g78 rfl ?_
    simp (disch := omega) only [fn78, evs, ↓reduceIte, Nat.reduceEqDiff, Nat.reduceAdd, Nat.reduceMul, Nat.reduceLeDiff, Nat.reduceLT, Int.reduceNeg, DF, eff, Nat.reduceSub, fwrap_i64, c]
    simp
def xsetE (l : List Int) (i size : Int) : Int := if 0 ≤ i ∧ i < l.length then if size < 1 ∨ 2305843009213693952 < size then 12 else if 4611686018427387904 - (l.sum - l.getD i.toNat 0) < size then 13 else 0 else 4
theorem xset_eq {l : List Int} {i size : Int} (h : ¬ ((0 ≤ i ∧ i < l.length) ∧ (size < 1 ∨ 2305843009213693952 < size))) : xsetE l i size = setE l i size := by
  unfold xsetE setE
  by_cases c : 0 ≤ i ∧ i < l.length
  · rw [if_pos c, if_pos c, if_neg (show ¬ (size < 1 ∨ 2305843009213693952 < size) by omega), if_neg (show ¬ (size < 0 ∨ 2305843009213693952 < size) by omega)]
  · rw [if_neg c, if_neg c]
theorem getD_set {ks : List Bool} {i j : Nat} {b : Bool} (h : i < ks.length) : (ks.set i b).getD j false = if j = i then b else ks.getD j false := by
  simp only [List.getD_eq_getElem?_getD, List.getElem?_set]
  by_cases c : i = j
  · subst c; simp [h]
  · rw [if_neg c, if_neg (Ne.symm c)]
theorem XSet_ok {h : Heap} {v : V} {l : List Int} {ks : List Bool} {i size : Int} {kn : Bool} (w : WF h) (a : Ix h v l ks) (s0 : -9223372036854775808 ≤ size) (s1 : size ≤ 9223372036854775807) (i0 : -9223372036854775808 ≤ i) (i1 : i ≤ 9223372036854775807) :
    Does go 74 [v, .int .i64 i, .int .i64 size, .bool kn] h fun u h' => Fr [] h h' ∧ ∃ c d, u = .tup [.agg [c, d], .int .i64 (xsetE l i size)] ∧ c.one = true ∧ d.one = true ∧ (xsetE l i size = 0 → Ix h' (.agg [c, d]) (l.set i.toNat size) (ks.set i.toNat kn)) := by
  have a0 := a
  obtain ⟨p, vk, L, rfl, r, s, kn', e1, e2⟩ := a
  obtain ⟨h1, e_h1⟩ : ∃ h1, h1 = halloc h [pv p, vk] := ⟨_, rfl⟩
  have F_h1 : Fr [] h h1 := e_h1 ▸ Fr.halloc w _
  have o_h1 : Own h1 h.next [pv p, vk] := e_h1 ▸ Own.new w _
  obtain ⟨h2, e_h2⟩ : ∃ h2, h2 = halloc h1 [.nilp, .nils] := ⟨_, rfl⟩
  have F_h2 : Fr [] h1 h2 := e_h2 ▸ Fr.halloc F_h1.wf _
  have o_h2 : Own h2 h1.next [.nilp, .nils] := e_h2 ▸ Own.new F_h1.wf _
  have F12 := F_h1.then F_h2
  have o1 := F_h2.get o_h1
  have b1 : h.next ≤ h1.next := F_h1.next
  have c : i < 0 ∨ (0 ≤ i ∧ (l.length : Int) ≤ i) ∨ (0 ≤ i ∧ i < l.length ∧ ¬ (size < 1 ∨ 2305843009213693952 < size)) ∨ (0 ≤ i ∧ i < l.length ∧ (size < 1 ∨ 2305843009213693952 < size)) := by omega
  rcases c with c | c | c | c
  case' inr.inr.inr =>
    refine does_fn g74 rfl ?_
    simp (disch := omega) only [fn74, evs, ↓reduceIte, Nat.reduceEqDiff, Nat.reduceAdd, Nat.reduceMul, Nat.reduceLeDiff, Nat.reduceLT, Int.reduceNeg, DF, eff, Nat.reduceSub, fwrap_i64, ← e_h1, ← e_h2, o1.ld, eq_true c.1]
    refine OQ_does (XLen_ok F12.wf (a0.fr F12)) ?_
    rintro _ h3 ⟨rfl, F3⟩
    simp (disch := omega) only [evs, ↓reduceIte, Nat.reduceEqDiff, Nat.reduceAdd, Nat.reduceMul, Nat.reduceLeDiff, Nat.reduceLT, Int.reduceNeg, DF, eff, Nat.reduceSub, fwrap_i64, eq_true c.2.1]
    refine OQ_does wrong_ok ?_
    rintro _ _ ⟨rfl, hh⟩
    subst hh
    simp (disch := omega) only [evs, ↓reduceIte, Nat.reduceEqDiff, Nat.reduceAdd, Nat.reduceMul, Nat.reduceLeDiff, Nat.reduceLT, Int.reduceNeg, DF, eff, Nat.reduceSub, fwrap_i64, eq_true c.2.2]
    refine store_step (c' := [.nilp, .nils]) F3.wf (F3.get o_h2) rfl (by first | rfl | simp [onesB, V.cells, pv_one, *]) rfl ?_
    rintro h4 o_h4 F_h4 n_h4
    simp (disch := omega) only [evs, ↓reduceIte, Nat.reduceEqDiff, Nat.reduceAdd, Nat.reduceMul, Nat.reduceLeDiff, Nat.reduceLT, Int.reduceNeg, DF, eff, Nat.reduceSub, fwrap_i64, o_h4.ld]
    have e : xsetE l i size = 12 := by unfold xsetE; rw [if_pos ⟨c.1, c.2.1⟩, if_pos c.2.2]
    rw [e]
    exact ⟨(F12.then F3).fresh F_h4 w b1, _, _, rfl, rfl, rfl, by simp⟩
  case' inl =>
    refine does_fn g74 rfl ?_
    simp (disch := omega) only [fn74, evs, ↓reduceIte, Nat.reduceEqDiff, Nat.reduceAdd, Nat.reduceMul, Nat.reduceLeDiff, Nat.reduceLT, Int.reduceNeg, DF, eff, Nat.reduceSub, fwrap_i64, ← e_h1, ← e_h2, o1.ld, show ¬ 0 ≤ i by omega]
    obtain ⟨h3, F3, e3⟩ : ∃ h3, Fr [] h2 h3 ∧ h3 = h2 := ⟨h2, Fr.refl F12.wf, rfl⟩
    rw [← e3]
    have ee := xset_eq (l := l) (i := i) (size := size) (by omega)
  case' inr.inl =>
    refine does_fn g74 rfl ?_
    simp (disch := omega) only [fn74, evs, ↓reduceIte, Nat.reduceEqDiff, Nat.reduceAdd, Nat.reduceMul, Nat.reduceLeDiff, Nat.reduceLT, Int.reduceNeg, DF, eff, Nat.reduceSub, fwrap_i64, ← e_h1, ← e_h2, o1.ld, eq_true c.1]
    refine OQ_does (XLen_ok F12.wf (a0.fr F12)) ?_
    rintro _ h3 ⟨rfl, F3⟩
    simp (disch := omega) only [evs, ↓reduceIte, Nat.reduceEqDiff, Nat.reduceAdd, Nat.reduceMul, Nat.reduceLeDiff, Nat.reduceLT, Int.reduceNeg, DF, eff, Nat.reduceSub, fwrap_i64, show ¬ i < l.length by omega, (F3.get o1).ld]
    have ee := xset_eq (l := l) (i := i) (size := size) (by omega)
  case' inr.inr.inl =>
    refine does_fn g74 rfl ?_
    simp (disch := omega) only [fn74, evs, ↓reduceIte, Nat.reduceEqDiff, Nat.reduceAdd, Nat.reduceMul, Nat.reduceLeDiff, Nat.reduceLT, Int.reduceNeg, DF, eff, Nat.reduceSub, fwrap_i64, ← e_h1, ← e_h2, o1.ld, eq_true c.1]
    refine OQ_does (XLen_ok F12.wf (a0.fr F12)) ?_
    rintro _ h3 ⟨rfl, F3⟩
    simp (disch := omega) only [evs, ↓reduceIte, Nat.reduceEqDiff, Nat.reduceAdd, Nat.reduceMul, Nat.reduceLeDiff, Nat.reduceLT, Int.reduceNeg, DF, eff, Nat.reduceSub, fwrap_i64, eq_true c.2.1]
    refine OQ_does wrong_ok ?_
    rintro _ _ ⟨rfl, hh⟩
    subst hh
    simp (disch := omega) only [evs, ↓reduceIte, Nat.reduceEqDiff, Nat.reduceAdd, Nat.reduceMul, Nat.reduceLeDiff, Nat.reduceLT, Int.reduceNeg, DF, eff, Nat.reduceSub, fwrap_i64, eq_false c.2.2, (F3.get o1).ld]
    have ee := xset_eq (l := l) (i := i) (size := size) (by omega)
  all_goals
    clear c
    try simp (disch := omega) only [evs, ↓reduceIte, Nat.reduceEqDiff, Nat.reduceAdd, Nat.reduceMul, Nat.reduceLeDiff, Nat.reduceLT, Int.reduceNeg, DF, eff, Nat.reduceSub, (F3.get o1).ld]
    have F13 := F12.then F3
    refine OQ_does (RSet_ok F3.wf (r.fr F13) s0 s1) ?_
    rintro _ h4 ⟨F4, c4, rfl, hc4, hr⟩
    rw [ee]
    obtain ⟨h5, e_h5⟩ : ∃ h5, h5 = halloc h4 [.nilp] := ⟨_, rfl⟩
    have F_h5 : Fr [] h4 h5 := e_h5 ▸ Fr.halloc F4.wf _
    have o_h5 : Own h5 h4.next [.nilp] := e_h5 ▸ Own.new F4.wf _
    simp (disch := omega) only [evs, ↓reduceIte, Nat.reduceEqDiff, Nat.reduceAdd, Nat.reduceMul, Nat.reduceLeDiff, Nat.reduceLT, Int.reduceNeg, DF, eff, Nat.reduceSub, fwrap_i64, ← e_h5]
    refine store_step (c' := [c4]) F_h5.wf o_h5 rfl (by simp [onesB, V.cells, hc4]) rfl ?_
    rintro h6 o6 F6 n6
    have F46 : Fr [] h4 h6 := F_h5.fresh F6 F4.wf (Nat.le_refl _)
    have F36 := (F4.then F46)
    have F26 := F3.then F36
    by_cases z : setE l i size = 0
    · have hi : 0 ≤ i ∧ i < l.length := by
        unfold setE at z
        by_cases hh : 0 ≤ i ∧ i < l.length
        · exact hh
        · rw [if_neg hh] at z; omega
      simp (disch := omega) only [evs, ↓reduceIte, Nat.reduceEqDiff, Nat.reduceAdd, Nat.reduceMul, Nat.reduceLeDiff, Nat.reduceLT, Int.reduceNeg, DF, eff, Nat.reduceSub, fwrap_i64, eq_true z, o6.ld, (F26.get o1).ld1]
      refine OQ_does (marked_ok (m := ks.length) F46.wf (s.fr (F12.then F26)) kn'.ok (by omega) kn'.le (by omega) (by omega) (by omega)) ?_
      rintro vk' h7 ⟨F7, L', ov, sL, okL, iL, mL⟩
      simp (disch := omega) only [evs, ↓reduceIte, Nat.reduceEqDiff, Nat.reduceAdd, Nat.reduceMul, Nat.reduceLeDiff, Nat.reduceLT, Int.reduceNeg, DF, eff, Nat.reduceSub, fwrap_i64]
      refine OQ_does (with_ok F7.wf hc4 ov) ?_
      rintro _ h8 ⟨F8, rfl⟩
      rw [if_pos rfl]
      have F28 := (F26.then F7).then F8
      simp (disch := omega) only [evs, ↓reduceIte, Nat.reduceEqDiff, Nat.reduceAdd, Nat.reduceMul, Nat.reduceLeDiff, Nat.reduceLT, Int.reduceNeg, DF, eff, Nat.reduceSub, fwrap_i64]
      refine store_step (c' := [c4, vk']) F8.wf (F28.get o_h2) rfl (by first | rfl | simp [onesB, V.cells, pv_one, *]) rfl ?_
      rintro h9 o_h9 F_h9 n_h9
      simp (disch := omega) only [evs, ↓reduceIte, Nat.reduceEqDiff, Nat.reduceAdd, Nat.reduceMul, Nat.reduceLeDiff, Nat.reduceLT, Int.reduceNeg, DF, eff, Nat.reduceSub, fwrap_i64, o_h9.ld, o6.ld, (F26.get o1).ld1, (F7.get o6).ld]
      have rr := (hr z)
      obtain ⟨t', p', ep, at', et, ft⟩ := rr
      cases ep
      refine ⟨(F12.then F28).fresh F_h9 w b1, _, _, by rw [z], pv_one _, ov, fun _ => ⟨p', vk', L', rfl, ?_, ?_, ?_, ?_, ?_⟩⟩
      · exact (Rp.fr (l := l.set i.toNat size) ⟨t', p', rfl, at', et, ft⟩ ((F46.then F7).then F8)).frb F_h9 (F28.get o_h2) (by simp)
      · exact (sL.fr F8).frb F_h9 (F28.get o_h2) (nosp (by simp))
      · refine ⟨okL, by simpa using mL, fun j => ?_⟩
        rw [iL, getD_set (by omega), kn'.eq]
        by_cases cj : j = i.toNat
        · rw [if_pos cj, if_pos (by omega)]
        · rw [if_neg cj, if_neg (by omega)]
      · simpa using e1
      · simpa using e2
    · simp (disch := omega) only [evs, ↓reduceIte, Nat.reduceEqDiff, Nat.reduceAdd, Nat.reduceMul, Nat.reduceLeDiff, Nat.reduceLT, Int.reduceNeg, DF, eff, Nat.reduceSub, fwrap_i64, eq_false z]
      refine store_step (c' := [.nilp, .nils]) F46.wf (F26.get o_h2) rfl (by first | rfl | simp [onesB, V.cells, pv_one, *]) rfl ?_
      rintro h9 o_h9 F_h9 n_h9
      simp (disch := omega) only [evs, ↓reduceIte, Nat.reduceEqDiff, Nat.reduceAdd, Nat.reduceMul, Nat.reduceLeDiff, Nat.reduceLT, Int.reduceNeg, DF, eff, Nat.reduceSub, fwrap_i64, o_h9.ld]
      exact ⟨(F12.then F26).fresh F_h9 w b1, _, _, rfl, rfl, rfl, by simp [z]⟩
end Go.Ev.Lay

/- Sizes: Insert. -/
namespace Go.Ev.Lay
set_option maxRecDepth 4000
def sumE (t : Int) : List Int → Int
  | [] => 0
  | s :: l => if s < 1 ∨ 2305843009213693952 < s then 12 else if 4611686018427387904 < t + s then 13 else sumE (t + s) l
theorem chk_snoc : ∀ (a : List Int) (s t : Int), chk (a ++ [s]) t = if chk a t = 0 then (if s < 0 ∨ 2305843009213693952 < s then 12 else if 4611686018427387904 - (t + a.sum) < s then 13 else 0) else chk a t
  | [], s, t => by simp [chk]
  | x :: a, s, t => by
    simp only [List.cons_append, chk]
    by_cases c1 : x < 0 ∨ 2305843009213693952 < x
    · simp only [if_pos c1]; simp
    · simp only [if_neg c1]
      by_cases c2 : 4611686018427387904 - t < x
      · simp only [if_pos c2]; simp
      · simp only [if_neg c2]
        rw [chk_snoc a s (t + x)]
        simp only [List.sum_cons, show t + x + a.sum = t + (x + a.sum) by omega]
        rfl
def xinsE (l : List Int) (a : Int) (m : List Int) : Int := if 0 ≤ a ∧ a ≤ l.length then if 1024 - (l.length : Int) < m.length then 3 else if sumE 0 m = 0 then (if 4611686018427387904 - m.sum < l.sum then 13 else 0) else sumE 0 m else 4
theorem ins_getD {ks : List Bool} {a n : Nat} {kn : Bool} (ha : a ≤ ks.length) (j : Nat) :
    (ks.take a ++ List.replicate n kn ++ ks.drop a).getD j false = if j < a then ks.getD j false else if j < a + n then kn else ks.getD (j - n) false := by
  simp only [List.getD_eq_getElem?_getD]
  by_cases c1 : j < a
  · rw [if_pos c1, List.append_assoc, List.getElem?_append_left (by simp; omega), List.getElem?_take, if_pos c1]
  · rw [if_neg c1, List.append_assoc, List.getElem?_append_right (by simp; omega)]
    have hl : (ks.take a).length = a := by simp; omega
    rw [hl]
    by_cases c2 : j < a + n
    · rw [if_pos c2, List.getElem?_append_left (by simp; omega), List.getElem?_replicate, if_pos (by omega)]; rfl
    · rw [if_neg c2, List.getElem?_append_right (by simp; omega), List.length_replicate, List.getElem?_drop]
      congr 2; omega
theorem XIns_ok {h : Heap} {v u : V} {l m : List Int} {ks : List Bool} {i : Int} {kn : Bool} (w : WF h) (a : Ix h v l ks) (am : Ints h u m) (hm : m.length ≤ 1000000) (i0 : -9223372036854775808 ≤ i) (i1 : i ≤ 9223372036854775807) :
    Does go 48 [v, .int .i64 i, u, .bool kn] h fun z h' => Fr [] h h' ∧ ∃ c d, z = .tup [.agg [c, d], .int .i64 (xinsE l i m)] ∧ c.one = true ∧ d.one = true ∧
      (xinsE l i m = 0 → Ix h' (.agg [c, d]) (l.take i.toNat ++ m ++ l.drop i.toNat) (ks.take i.toNat ++ List.replicate m.length kn ++ ks.drop i.toNat)) := by
  have a0 := a
  obtain ⟨p, vk, L, rfl, r, s, kn', e1, e2⟩ := a
  obtain ⟨h1, e_h1⟩ : ∃ h1, h1 = halloc h [pv p, vk] := ⟨_, rfl⟩
  have F_h1 : Fr [] h h1 := e_h1 ▸ Fr.halloc w _
  have o_h1 : Own h1 h.next [pv p, vk] := e_h1 ▸ Own.new w _
  obtain ⟨h2, e_h2⟩ : ∃ h2, h2 = halloc h1 [.nilp, .nils] := ⟨_, rfl⟩
  have F_h2 : Fr [] h1 h2 := e_h2 ▸ Fr.halloc F_h1.wf _
  have o_h2 : Own h2 h1.next [.nilp, .nils] := e_h2 ▸ Own.new F_h1.wf _
  have F12 := F_h1.then F_h2
  have o1 := F_h2.get o_h1
  have b1 : h.next ≤ h1.next := F_h1.next
  by_cases c0 : i < 0
  · refine does_fn g48 rfl ?_
    simp (disch := omega) only [fn48, evs, ↓reduceIte, Nat.reduceEqDiff, Nat.reduceAdd, Nat.reduceMul, Nat.reduceLeDiff, Nat.reduceLT, Int.reduceNeg, DF, eff, Nat.reduceSub, fwrap_i64, ← e_h1, ← e_h2, o1.ld, c0]
    refine store_step (c' := [.nilp, .nils]) F_h2.wf o_h2 rfl (by first | rfl | simp [onesB, V.cells, pv_one, *]) rfl ?_
    rintro h4 o_h4 F_h4 n_h4
    simp (disch := omega) only [evs, ↓reduceIte, Nat.reduceEqDiff, Nat.reduceAdd, Nat.reduceMul, Nat.reduceLeDiff, Nat.reduceLT, Int.reduceNeg, DF, eff, Nat.reduceSub, fwrap_i64, o_h4.ld]
    have e : xinsE l i m = 4 := by unfold xinsE; rw [if_neg (by omega)]
    rw [e]
    exact ⟨F12.fresh F_h4 w b1, _, _, rfl, rfl, rfl, by simp⟩
  · refine does_fn g48 rfl ?_
    simp (disch := omega) only [fn48, evs, ↓reduceIte, Nat.reduceEqDiff, Nat.reduceAdd, Nat.reduceMul, Nat.reduceLeDiff, Nat.reduceLT, Int.reduceNeg, DF, eff, Nat.reduceSub, fwrap_i64, ← e_h1, ← e_h2, o1.ld, c0]
    refine OQ_does (XLen_ok F12.wf (a0.fr F12)) ?_
    rintro _ h3 ⟨rfl, F3⟩
    by_cases c1 : (l.length : Int) < i
    · simp (disch := omega) only [evs, ↓reduceIte, Nat.reduceEqDiff, Nat.reduceAdd, Nat.reduceMul, Nat.reduceLeDiff, Nat.reduceLT, Int.reduceNeg, DF, eff, Nat.reduceSub, fwrap_i64, c1]
      refine store_step (c' := [.nilp, .nils]) F3.wf (F3.get o_h2) rfl (by first | rfl | simp [onesB, V.cells, pv_one, *]) rfl ?_
      rintro h4 o_h4 F_h4 n_h4
      simp (disch := omega) only [evs, ↓reduceIte, Nat.reduceEqDiff, Nat.reduceAdd, Nat.reduceMul, Nat.reduceLeDiff, Nat.reduceLT, Int.reduceNeg, DF, eff, Nat.reduceSub, fwrap_i64, o_h4.ld]
      have e : xinsE l i m = 4 := by unfold xinsE; rw [if_neg (by omega)]
      rw [e]
      exact ⟨(F12.then F3).fresh F_h4 w b1, _, _, rfl, rfl, rfl, by simp⟩
    · have am3 := am.fr (F12.then F3)
      simp (disch := omega) only [evs, ↓reduceIte, Nat.reduceEqDiff, Nat.reduceAdd, Nat.reduceMul, Nat.reduceLeDiff, Nat.reduceLT, Int.reduceNeg, DF, eff, Nat.reduceSub, fwrap_i64, c1, am3.len, (F3.get o1).ld]
      refine OQ_does (XLen_ok F3.wf (a0.fr (F12.then F3))) ?_
      rintro _ h4 ⟨rfl, F4⟩
      have F34 := F3.then F4
      have F14 := F12.then F34
      have am4 := am.fr F14
      have hi : 0 ≤ i ∧ i ≤ l.length := by omega
      by_cases c2 : 1024 - (l.length : Int) < m.length
      · simp (disch := omega) only [evs, ↓reduceIte, Nat.reduceEqDiff, Nat.reduceAdd, Nat.reduceMul, Nat.reduceLeDiff, Nat.reduceLT, Int.reduceNeg, DF, eff, Nat.reduceSub, fwrap_i64, c2]
        refine store_step (c' := [.nilp, .nils]) F4.wf (F34.get o_h2) rfl (by first | rfl | simp [onesB, V.cells, pv_one, *]) rfl ?_
        rintro h5 o_h5 F_h5 n_h5
        simp (disch := omega) only [evs, ↓reduceIte, Nat.reduceEqDiff, Nat.reduceAdd, Nat.reduceMul, Nat.reduceLeDiff, Nat.reduceLT, Int.reduceNeg, DF, eff, Nat.reduceSub, fwrap_i64, o_h5.ld]
        have e : xinsE l i m = 3 := by unfold xinsE; rw [if_pos hi, if_pos c2]
        rw [e]
        exact ⟨F14.fresh F_h5 w b1, _, _, rfl, rfl, rfl, by simp⟩
      · simp (disch := omega) only [evs, ↓reduceIte, Nat.reduceEqDiff, Nat.reduceAdd, Nat.reduceMul, Nat.reduceLeDiff, Nat.reduceLT, Int.reduceNeg, DF, eff, Nat.reduceSub, fwrap_i64, c2, am4.len]
        have o2 := F34.get o_h2
        refine W_loop (fun k env hh => hh = h4 ∧ ∃ (j : Nat), env.get 36 = some (.int .i64 j) ∧ env.get 34 = some u ∧ env.get 35 = some (.int .i64 m.length) ∧ env.get 2 = some u ∧ env.get 1 = some (.int .i64 i) ∧ env.get 3 = some (.bool kn) ∧
          env.get 4 = some (.ptr h.next 0) ∧ env.get 8 = some (.ptr h1.next 0) ∧ j ≤ m.length ∧ chk (m.take j) 0 = 0 ∧ 0 ≤ (m.take j).sum ∧ (m.take j).sum ≤ 4611686018427387904 ∧ sumE (m.take j).sum (m.drop j) = sumE 0 m ∧ k = m.length - j) m.length (by omega) ?_ ?_
        · exact ⟨rfl, 0, (by simp [T.get_set]), (by simp [T.get_set]), (by simp [T.get_set]), (by simp [T.get_set]), (by simp [T.get_set]), (by simp [T.get_set]), (by simp [T.get_set]), (by simp [T.get_set]), by omega, by simp [chk], by simp, by simp, by simp, rfl⟩
        · rintro k env hh ⟨rfl, j, g36, g34, g35, g2, g1, g3, g4, g8, hj, ck, sn, sm, se, rfl⟩
          by_cases hlt : (j : Int) < m.length
          · obtain ⟨bb, oo, x, q1, q2, q3⟩ := am4.ix .i64 j (by omega) hlt
            simp only [Int.toNat_natCast] at q3
            rw [drop_cons q3, sumE] at se
            simp (disch := omega) only [evs, ↓reduceIte, Nat.reduceEqDiff, Nat.reduceAdd, Nat.reduceMul, Nat.reduceLeDiff, Nat.reduceLT, Int.reduceNeg, DF, eff, Nat.reduceSub, fwrap_i64, g36, g34, g35, g2, g1, g3, g4, g8, hlt, q1, q2]
            refine OQ_does wrong_ok ?_
            rintro _ _ ⟨rfl, hh⟩
            subst hh
            by_cases c3 : x < 1 ∨ 2305843009213693952 < x
            · simp (disch := omega) only [evs, ↓reduceIte, Nat.reduceEqDiff, Nat.reduceAdd, Nat.reduceMul, Nat.reduceLeDiff, Nat.reduceLT, Int.reduceNeg, DF, eff, Nat.reduceSub, fwrap_i64, eq_true c3, g36, g34, g35, g2, g1, g3, g4, g8]
              refine store_step (c' := [.nilp, .nils]) F4.wf o2 rfl (by first | rfl | simp [onesB, V.cells, pv_one, *]) rfl ?_
              rintro h5 o_h5 F_h5 n_h5
              simp (disch := omega) only [evs, ↓reduceIte, Nat.reduceEqDiff, Nat.reduceAdd, Nat.reduceMul, Nat.reduceLeDiff, Nat.reduceLT, Int.reduceNeg, DF, eff, Nat.reduceSub, fwrap_i64, o_h5.ld, g8]
              rw [if_pos c3] at se
              have e : xinsE l i m = 12 := by unfold xinsE; rw [if_pos hi, if_neg c2, if_neg (by omega), ← se]
              rw [e]
              exact ⟨F14.fresh F_h5 w b1, _, _, rfl, rfl, rfl, by simp⟩
            · rw [if_neg c3] at se
              have hv : u ≠ .sliceE := Sl.ne am4 (by omega)
              obtain ⟨u', p1, p2⟩ := am4.upto hv .i64 ((j : Int) + 1) (by omega) (by omega)
              have tk : m.take (j + 1) = m.take j ++ [x] := by rw [List.take_add_one, q3]; rfl
              rw [show ((j : Int) + 1).toNat = j + 1 by omega] at p2
              have cs : chk (m.take (j + 1)) 0 = if 4611686018427387904 < (m.take j).sum + x then 13 else 0 := by
                rw [tk, chk_snoc, if_pos ck, if_neg (by omega)]
                by_cases c4 : 4611686018427387904 < (m.take j).sum + x
                · rw [if_pos c4, if_pos (by omega)]
                · rw [if_neg c4, if_neg (by omega)]
              simp (disch := omega) only [evs, ↓reduceIte, Nat.reduceEqDiff, Nat.reduceAdd, Nat.reduceMul, Nat.reduceLeDiff, Nat.reduceLT, Int.reduceNeg, DF, eff, Nat.reduceSub, fwrap_i64, eq_false c3, g36, g34, g35, g2, g1, g3, g4, g8, p1]
              refine OQ_does (Check_ok F4.wf p2 (by simp; omega)) ?_
              rintro _ _ ⟨rfl, hh⟩
              subst hh
              rw [if_neg (by simp; omega), cs]
              by_cases c4 : 4611686018427387904 < (m.take j).sum + x
              · rw [if_pos c4] at se ⊢
                simp (disch := omega) only [evs, ↓reduceIte, Nat.reduceEqDiff, Nat.reduceAdd, Nat.reduceMul, Nat.reduceLeDiff, Nat.reduceLT, Int.reduceNeg, DF, eff, Nat.reduceSub, fwrap_i64, g36, g34, g35, g2, g1, g3, g4, g8, show ¬ (13 : Int) = 0 by omega]
                refine store_step (c' := [.nilp, .nils]) F4.wf o2 rfl (by first | rfl | simp [onesB, V.cells, pv_one, *]) rfl ?_
                rintro h5 o_h5 F_h5 n_h5
                simp (disch := omega) only [evs, ↓reduceIte, Nat.reduceEqDiff, Nat.reduceAdd, Nat.reduceMul, Nat.reduceLeDiff, Nat.reduceLT, Int.reduceNeg, DF, eff, Nat.reduceSub, fwrap_i64, o_h5.ld, g8]
                have e : xinsE l i m = 13 := by unfold xinsE; rw [if_pos hi, if_neg c2, if_neg (by omega), ← se]
                rw [e]
                exact ⟨F14.fresh F_h5 w b1, _, _, rfl, rfl, rfl, by simp⟩
              · rw [if_neg c4] at se ⊢
                simp (disch := omega) only [evs, ↓reduceIte, Nat.reduceEqDiff, Nat.reduceAdd, Nat.reduceMul, Nat.reduceLeDiff, Nat.reduceLT, Int.reduceNeg, DF, eff, Nat.reduceSub, fwrap_i64, g36, g34, g35, g2, g1, g3, g4, g8]
                have ts : (m.take (j + 1)).sum = (m.take j).sum + x := by rw [tk]; simp
                refine (roundQ_norm _ _ _).2 ⟨m.length - (j + 1), by omega, rfl, j + 1, (by simp [T.get_set]), (by simp [T.get_set, g34]), (by simp [T.get_set, g35]), (by simp [T.get_set, g2]), (by simp [T.get_set, g1]), (by simp [T.get_set, g3]), (by simp [T.get_set, g4]), (by simp [T.get_set, g8]), by omega, by rw [cs, if_neg c4], by rw [ts]; omega, by rw [ts]; omega, by rw [ts]; exact se, rfl⟩
                done
          · have ej : j = m.length := by omega
            subst ej
            simp only [List.take_length, List.drop_length, sumE] at ck se sn sm
            simp (disch := omega) only [evs, ↓reduceIte, Nat.reduceEqDiff, Nat.reduceAdd, Nat.reduceMul, Nat.reduceLeDiff, Nat.reduceLT, Int.reduceNeg, DF, eff, Nat.reduceSub, fwrap_i64, g36, g34, g35, g2, g1, g3, g4, g8, hlt, (F34.get o1).ld]
            refine OQ_does (RIns_ok F4.wf (r.fr F14) am4 hm) ?_
            rintro _ h5 ⟨F5, c5, rfl, hc5, hr⟩
            have ei : insE l i m = xinsE l i m := by
              unfold insE xinsE ofE joinE
              rw [if_pos hi, if_pos hi, if_neg (show ¬ 4096 < m.length by omega), if_pos ck, if_neg (show ¬ 4096 < l.length + m.length by omega), if_neg c2, if_pos se.symm]
            rw [ei] at hr ⊢
            obtain ⟨h6, e_h6⟩ : ∃ h6, h6 = halloc h5 [.nilp] := ⟨_, rfl⟩
            have F_h6 : Fr [] h5 h6 := e_h6 ▸ Fr.halloc F5.wf _
            have o_h6 : Own h6 h5.next [.nilp] := e_h6 ▸ Own.new F5.wf _
            simp (disch := omega) only [evs, ↓reduceIte, Nat.reduceEqDiff, Nat.reduceAdd, Nat.reduceMul, Nat.reduceLeDiff, Nat.reduceLT, Int.reduceNeg, DF, eff, Nat.reduceSub, fwrap_i64, ← e_h6]
            refine store_step (c' := [c5]) F_h6.wf o_h6 rfl (by simp [onesB, V.cells, hc5]) rfl ?_
            rintro h7 o7 F7 n7
            have F57 : Fr [] h5 h7 := F_h6.fresh F7 F5.wf (Nat.le_refl _)
            have F27 := (F34.then F5).then F57
            by_cases z : xinsE l i m = 0
            · simp (disch := omega) only [evs, ↓reduceIte, Nat.reduceEqDiff, Nat.reduceAdd, Nat.reduceMul, Nat.reduceLeDiff, Nat.reduceLT, Int.reduceNeg, DF, eff, Nat.reduceSub, fwrap_i64, eq_true z, g36, g34, g35, g2, g1, g3, g4, g8, (F27.get o1).ld1, am.len]
              refine OQ_does (SIns_ok (m := ks.length) F57.wf (s.fr (F12.then F27)).slc kn'.ok (by omega) kn'.le (by omega) (by omega) (by omega) (by omega)) ?_
              rintro _ h8 ⟨F8, vk1, L1, rfl, ov1, sL1, ok1, iL1, mL1⟩
              simp (disch := omega) only [evs, ↓reduceIte, Nat.reduceEqDiff, Nat.reduceAdd, Nat.reduceMul, Nat.reduceLeDiff, Nat.reduceLT, Int.reduceNeg, DF, eff, Nat.reduceSub, fwrap_i64, g36, g34, g35, g2, g1, g3, g4, g8, (F8.get o7).ld, am.len]
              refine OQ_does (marked_ok (m := ks.length + m.length) F8.wf sL1 ok1 (by omega) mL1 (by omega) (by omega) (by omega)) ?_
              rintro vk2 h9 ⟨F9, L2, ov2, sL2, ok2, iL2, mL2⟩
              simp (disch := omega) only [evs, ↓reduceIte, Nat.reduceEqDiff, Nat.reduceAdd, Nat.reduceMul, Nat.reduceLeDiff, Nat.reduceLT, Int.reduceNeg, DF, eff, Nat.reduceSub, fwrap_i64, g36, g34, g35, g2, g1, g3, g4, g8]
              refine OQ_does (with_ok F9.wf hc5 ov2) ?_
              rintro _ h10 ⟨F10, rfl⟩
              rw [if_pos rfl]
              have F210 := ((F27.then F8).then F9).then F10
              simp (disch := omega) only [evs, ↓reduceIte, Nat.reduceEqDiff, Nat.reduceAdd, Nat.reduceMul, Nat.reduceLeDiff, Nat.reduceLT, Int.reduceNeg, DF, eff, Nat.reduceSub, fwrap_i64, g8]
              refine store_step (c' := [c5, vk2]) F10.wf (F210.get o_h2) rfl (by first | rfl | simp [onesB, V.cells, pv_one, *]) rfl ?_
              rintro h11 o_h11 F_h11 n_h11
              simp (disch := omega) only [evs, ↓reduceIte, Nat.reduceEqDiff, Nat.reduceAdd, Nat.reduceMul, Nat.reduceLeDiff, Nat.reduceLT, Int.reduceNeg, DF, eff, Nat.reduceSub, fwrap_i64, o_h11.ld, g8, (F8.get o7).ld, ((F8.then F9).get o7).ld]
              obtain ⟨t', p', ep, at', et, ft⟩ := hr z
              cases ep
              refine ⟨(F12.then F210).fresh F_h11 w b1, _, _, by rw [z], pv_one _, ov2, fun _ => ⟨p', vk2, L2, rfl, ?_, ?_, ?_, ?_, ?_⟩⟩
              · exact (Rp.fr (l := l.take i.toNat ++ m ++ l.drop i.toNat) ⟨t', p', rfl, at', et, ft⟩ (((F57.then F8).then F9).then F10)).frb F_h11 (F210.get o_h2) (by simp)
              · exact (sL2.fr F10).frb F_h11 (F210.get o_h2) (nosp (by simp))
              · refine ⟨ok2, ?_, fun j => ?_⟩
                · intro x hx
                  have := mL2 x hx
                  simp; omega
                · rw [iL2, iL1, ins_getD (by omega)]
                  unfold shf
                  by_cases d1 : j < i.toNat
                  · rw [if_neg (by omega), if_pos (by omega), if_pos d1, kn'.eq]
                  · by_cases d2 : j < i.toNat + m.length
                    · rw [if_pos (by omega), if_neg d1, if_pos d2]
                    · rw [if_neg (by omega), if_neg (by omega), if_neg (by omega), if_neg d1, if_neg d2, ← kn'.eq]
                      congr 1; omega
              · simp; omega
              · simp; omega
            · simp (disch := omega) only [evs, ↓reduceIte, Nat.reduceEqDiff, Nat.reduceAdd, Nat.reduceMul, Nat.reduceLeDiff, Nat.reduceLT, Int.reduceNeg, DF, eff, Nat.reduceSub, fwrap_i64, eq_false z, g36, g34, g35, g2, g1, g3, g4, g8]
              refine store_step (c' := [.nilp, .nils]) F57.wf (F27.get o_h2) rfl (by first | rfl | simp [onesB, V.cells, pv_one, *]) rfl ?_
              rintro h9 o_h9 F_h9 n_h9
              simp (disch := omega) only [evs, ↓reduceIte, Nat.reduceEqDiff, Nat.reduceAdd, Nat.reduceMul, Nat.reduceLeDiff, Nat.reduceLT, Int.reduceNeg, DF, eff, Nat.reduceSub, fwrap_i64, o_h9.ld, g8]
              exact ⟨(F12.then F27).fresh F_h9 w b1, _, _, rfl, rfl, rfl, by simp [z]⟩
end Go.Ev.Lay

/- Flags: bits and words. -/
namespace Go.Ev.Lay
set_option maxRecDepth 4000
theorem aP_shrN (k : IntKind) (x : Nat) (b : Int) (n : Nat) (h : b = n) (hn : n ≤ 64) : aP (.sh false) [.int .u64 (x : Int), .int k b] = some (.int .u64 ((x / 2 ^ n : Nat) : Int)) := by
  subst h
  rw [aP_shr _ _ _ _ (by omega)]
  simp only [Int.toNat_natCast, IntKind.bits, Nat.min_eq_left hn]
  congr 2
  rw [Int.fdiv_eq_ediv_of_nonneg _ (Int.natCast_nonneg _), Int.natCast_ediv]
theorem bvand (w x y : Nat) : (BitVec.ofInt w (x : Int) &&& BitVec.ofInt w (y : Int)).toNat = (x % 2 ^ w) &&& (y % 2 ^ w) := by simp [BitVec.toNat_and]
theorem bvxor (w x y : Nat) : (BitVec.ofInt w (x : Int) ^^^ BitVec.ofInt w (y : Int)).toNat = (x % 2 ^ w) ^^^ (y % 2 ^ w) := by simp [BitVec.toNat_xor]
theorem aP_and (k : IntKind) (a b : Int) : aP (.ib .and) [.int k a, .int k b] = some (.int k (fwrap k (BitVec.toNat (BitVec.ofInt k.bits a &&& BitVec.ofInt k.bits b)))) := by simp only [aP, kbeq_self, cond_true, ibin]
theorem aP_xor (k : IntKind) (a b : Int) : aP (.ib .xor) [.int k a, .int k b] = some (.int k (fwrap k (BitVec.toNat (BitVec.ofInt k.bits a ^^^ BitVec.ofInt k.bits b)))) := by simp only [aP, kbeq_self, cond_true, ibin]
theorem p64 : 2 ^ IntKind.u64.bits = 18446744073709551616 := rfl
theorem aP_andN (x y : Nat) (a b : Int) (ha : a = x) (hb : b = y) (hx : x < 18446744073709551616) (hy : y < 18446744073709551616) : aP (.ib .and) [.int .u64 a, .int .u64 b] = some (.int .u64 ((x &&& y : Nat) : Int)) := by
  subst ha hb
  have hxy : x &&& y < 18446744073709551616 := Nat.lt_of_le_of_lt Nat.and_le_left hx
  rw [aP_and, bvand, p64, Nat.mod_eq_of_lt hx, Nat.mod_eq_of_lt hy, fwrap_u64 _ (by omega) (by omega)]
theorem aP_xorN (x y : Nat) (a b : Int) (ha : a = x) (hb : b = y) (hx : x < 18446744073709551616) (hy : y < 18446744073709551616) : aP (.ib .xor) [.int .u64 a, .int .u64 b] = some (.int .u64 ((x ^^^ y : Nat) : Int)) := by
  subst ha hb
  have hxy : x ^^^ y < 2 ^ 64 := Nat.xor_lt_two_pow (by simpa using hx) (by simpa using hy)
  rw [aP_xor, bvxor, p64, Nat.mod_eq_of_lt hx, Nat.mod_eq_of_lt hy, fwrap_u64 _ (by omega) (by omega)]
def uw (x : Nat) : V := .int .u64 (x : Int)
def flc (n m : Int) (ws : List Nat) : List V := .int .i64 n :: .int .i64 m :: ws.map uw
structure WOK (ws : List Nat) (bs : List Bool) : Prop where
  len : ws.length = 64
  w : ∀ k, k < 64 → ∃ x, ws[k]? = some x ∧ x < 18446744073709551616 ∧ ∀ j, j < 64 → x.testBit j = bs.getD (64 * k + j) false
def Fl (h : Heap) (b : Nat) (bs : List Bool) : Prop := ∃ ws, Own h b (flc bs.length (bs.count true) ws) ∧ WOK ws bs ∧ bs.length ≤ 4096
theorem Fl.fr {h h' : Heap} {b : Nat} {bs : List Bool} (a : Fl h b bs) (f : Fr [] h h') : Fl h' b bs := by
  obtain ⟨ws, o, x⟩ := a; exact ⟨ws, f.get o, x⟩
theorem flc_nth (n m : Int) (ws : List Nat) (k : Nat) : nth (flc n m ws) (2 + k) = (ws[k]?).map uw := by
  rw [nth_eq, Nat.add_comm]; simp [flc]
theorem quo64 (i : Nat) : aP (.ib .quo) [.int .i64 (i : Int), .int .i64 64] = some (.int .i64 ((i / 64 : Nat) : Int)) ∨ i > 9000000 := by
  by_cases h : i > 9000000
  · exact .inr h
  · left
    rw [aP_quo _ _ 64 (by decide), show Int.tdiv (i : Int) 64 = ((i / 64 : Nat) : Int) from (Int.ofNat_tdiv i 64).symm, fwrap_i64 _ (by omega) (by omega)]
theorem rem64 (i : Nat) : aP (.ib .rem) [.int .i64 (i : Int), .int .i64 64] = some (.int .i64 ((i % 64 : Nat) : Int)) := by
  rw [aP_rem _ _ 64 (by decide), show Int.tmod (i : Int) 64 = ((i % 64 : Nat) : Int) from (Int.ofNat_tmod i 64).symm]
theorem bitN (x j : Nat) : decide (((x / 2 ^ j &&& 1 : Nat) : Int) = 1) = x.testBit j := by
  rw [Nat.testBit_eq_decide_div_mod_eq, Nat.and_one_is_mod]
  rw [Bool.eq_iff_iff, decide_eq_true_eq, decide_eq_true_eq]; omega
theorem get_ok {h : Heap} {b : Nat} {bs : List Bool} {i : Nat} (f : Fl h b bs) (hi : i < bs.length) : Does go 100 [.ptr b 0, .int .i64 (i : Int)] h fun u h' => u = .bool (bs.getD i false) ∧ h' = h := by
  obtain ⟨ws, o, ok, hn⟩ := f
  obtain ⟨x, e1, e2, e3⟩ := ok.w (i / 64) (by omega)
  have q1 := (quo64 i).resolve_right (by omega)
  have q2 := rem64 i
  have q3 := aP_ixa 1 b 2 64 .i64 ((i / 64 : Nat) : Int) (by omega) (by omega)
  have q4 : hload1 h b (2 + (i / 64) * 1) = some (.int .u64 (x : Int)) := by rw [o.ld1, Nat.mul_one, flc_nth, e1]; rfl
  have q5 := aP_shrN .i64 x ((i % 64 : Nat) : Int) (i % 64) rfl (by omega)
  have q6 := aP_andN (x / 2 ^ (i % 64)) 1 _ 1 rfl rfl (Nat.lt_of_le_of_lt (Nat.div_le_self _ _) e2) (by omega)
  simp only [Int.toNat_natCast] at q3
  refine does_fn g100 rfl ?_
  simp (disch := omega) only [fn100, W_ret, W_seq, W_ops, thenQ_norm, thenQ_ret, WS_nil, WS_l, WS_v, op_p, PQ_some, VQ_some, op_ld, LQ_some, aload_ptr1, kl_app, kv_app, evO_l, evO_v, evO_c, evOs_nil, evOs_c, consO_some, nth_zero, nth_succ, bindA_nil, bindA_cons, T.get_set, RetQ_ret, RsQ_some, evRs_nil, evRs_t, packV_one, aP_mv, aP_nilck, aP_faddr, aP_eql, ↓reduceIte, Nat.reduceEqDiff, Nat.reduceAdd, Nat.zero_add, q1, q2, q3, q4, q5, q6, bitN]
  rw [e3 (i % 64) (by omega), show 64 * (i / 64) + i % 64 = i by omega]
  exact ⟨rfl, trivial⟩
theorem count_set : ∀ (bs : List Bool) (i : Nat) (v : Bool), i < bs.length → bs.getD i false ≠ v → ((bs.set i v).count true : Int) = bs.count true + if v = true then 1 else -1
  | b :: bs, 0, v, _, h => by cases b <;> cases v <;> simp at h ⊢ <;> omega
  | b :: bs, i + 1, v, hi, h => by
    have ih := count_set bs i v (by simpa using hi) (by simpa using h)
    simp only [List.set_cons_succ, List.count_cons]
    split at ih <;> simp_all <;> split <;> omega
theorem set_same : ∀ (bs : List Bool) (i : Nat), bs.set i (bs.getD i false) = bs
  | [], _ => rfl
  | b :: bs, 0 => by simp
  | b :: bs, i + 1 => by have := set_same bs i; simp at this ⊢; exact this
theorem WOK.flip {ws : List Nat} {bs : List Bool} (ok : WOK ws bs) {i x : Nat} {v : Bool} (hi : i < bs.length) (h4 : bs.length ≤ 4096) (hx : ws[i / 64]? = some x) (hv : bs.getD i false ≠ v) : WOK (ws.set (i / 64) (x ^^^ 2 ^ (i % 64))) (bs.set i v) := by
  refine ⟨by rw [List.length_set]; exact ok.len, fun k hk => ?_⟩
  obtain ⟨y, e1, e2, e3⟩ := ok.w k hk
  by_cases c : k = i / 64
  · subst c
    rw [hx] at e1; cases e1
    refine ⟨x ^^^ 2 ^ (i % 64), by simp [ok.len, hk], ?_, fun j hj => ?_⟩
    · have := Nat.xor_lt_two_pow (n := 64) (x := x) (y := 2 ^ (i % 64)) (by simpa using e2) (Nat.pow_lt_pow_right (by omega) (by omega))
      simpa using this
    · rw [Nat.testBit_xor, Nat.testBit_two_pow, e3 j hj, getD_set hi]
      by_cases cj : i % 64 = j
      · rw [if_pos (by omega)]
        have : 64 * (i / 64) + j = i := by omega
        rw [this]
        simp only [cj, decide_true]
        cases h1 : bs.getD i false <;> cases v <;> simp_all
      · rw [if_neg (by omega)]; simp [cj]
  · refine ⟨y, by rw [List.getElem?_set_ne (Ne.symm c)]; exact e1, e2, fun j hj => ?_⟩
    rw [e3 j hj, getD_set hi, if_neg (by omega)]
end Go.Ev.Lay

/- Flags: put, check, Get, Set, list, become, Insert. -/
namespace Go.Ev.Lay
set_option maxRecDepth 4000
theorem flc_set (n m : Int) (ws : List Nat) (k y : Nat) : (flc n m ws).set (2 + k) (.int .u64 (y : Int)) = flc n m (ws.set k y) := by
  rw [Nat.add_comm]; simp [flc, List.map_set, uw]
theorem flc_len (n m : Int) (ws : List Nat) : (flc n m ws).length = ws.length + 2 := by simp [flc]
theorem updO_nilv (l : List V) : updO l 0 [] = some l := by cases l <;> rfl
theorem flc_upd1 (n m m' : Int) (ws : List Nat) : updO (flc n m ws) 1 [.int .i64 m'] = some (flc n m' ws) := by
  show updO (.int .i64 n :: .int .i64 m :: ws.map uw) (0 + 1) [.int .i64 m'] = _
  rw [updO_succ, updO_zero_cons, updO_nilv]; rfl
theorem flc_upd0 (n n' m : Int) (ws : List Nat) : updO (flc n m ws) 0 [.int .i64 n'] = some (flc n' m ws) := by
  show updO (.int .i64 n :: .int .i64 m :: ws.map uw) 0 [.int .i64 n'] = _
  rw [updO_zero_cons, updO_nilv]; rfl
theorem one_shl (k : IntKind) (j : Nat) (hj : j < 64) : aP (.sh true) [.int .u64 1, .int k (j : Int)] = some (.int .u64 ((2 ^ j : Nat) : Int)) := by
  have h2 : 2 ^ j < 2 ^ 64 := Nat.pow_lt_pow_right (by omega) hj
  rw [aP_shl _ _ _ _ (by omega)]
  simp only [Int.toNat_natCast, IntKind.bits, Nat.min_eq_left (show j ≤ 64 by omega), Int.one_mul]
  rw [fwrap_u64 _ (Int.natCast_nonneg _) (Int.ofNat_le.2 (Nat.le_of_lt_succ (by simpa using h2)))]
theorem fput_ok {h : Heap} {b : Nat} {bs : List Bool} {i : Nat} {v : Bool} (w : WF h) (f : Fl h b bs) (hi : i < bs.length) : Does go 87 [.ptr b 0, .int .i64 (i : Int), .bool v] h fun u h' => u = .tup [] ∧ Fl h' b (bs.set i v) ∧ Fr [b] h h' ∧ h'.next = h.next := by
  have f0 := f
  obtain ⟨ws, o, ok, hn⟩ := f
  obtain ⟨x, e1, e2, e3⟩ := ok.w (i / 64) (by omega)
  have q1 := (quo64 i).resolve_right (by omega)
  have q2 := rem64 i
  have q3 := aP_ixa 1 b 2 64 .i64 ((i / 64 : Nat) : Int) (by omega) (by omega)
  simp only [Int.toNat_natCast, Nat.mul_one] at q3
  have q4 : hload1 h b (2 + i / 64) = some (.int .u64 (x : Int)) := by rw [o.ld1, flc_nth, e1]; rfl
  have q5 := one_shl .i64 (i % 64) (by omega)
  have h2 : 2 ^ (i % 64) < 2 ^ 64 := Nat.pow_lt_pow_right (by omega) (by omega)
  have q6 := aP_xorN x (2 ^ (i % 64)) _ _ rfl rfl e2 (by simpa using h2)
  have cnt_le : bs.count true ≤ bs.length := List.count_le_length
  refine does_fn g87 rfl ?_
  simp (disch := omega) only [fn87, evs, ↓reduceIte, Nat.reduceEqDiff, Nat.reduceAdd, Nat.reduceMul, Nat.reduceLeDiff, Nat.reduceLT, Int.reduceNeg, DF, eff, Nat.reduceSub]
  refine OQ_does (get_ok f0 hi) ?_
  rintro _ _ ⟨rfl, hh⟩
  subst hh
  by_cases hv : bs.getD i false = v
  · simp (disch := omega) only [evs, ↓reduceIte, Nat.reduceEqDiff, Nat.reduceAdd, Nat.reduceMul, Nat.reduceLeDiff, Nat.reduceLT, Int.reduceNeg, DF, eff, Nat.reduceSub, fwrap_i64, eq_true hv]
    rw [← hv, set_same]
    exact ⟨f0, Fr.refl w⟩
  · simp (disch := omega) only [evs, ↓reduceIte, Nat.reduceEqDiff, Nat.reduceAdd, Nat.reduceMul, Nat.reduceLeDiff, Nat.reduceLT, Int.reduceNeg, DF, eff, Nat.reduceSub, fwrap_i64, eq_false hv, q1, q2, q3, q4, q5, q6]
    refine store_step (c' := flc bs.length (bs.count true) (ws.set (i / 64) (x ^^^ 2 ^ (i % 64)))) w o rfl rfl ?_ ?_
    · rw [show V.cells (.int .u64 ((x ^^^ 2 ^ (i % 64) : Nat) : Int)) = [.int .u64 ((x ^^^ 2 ^ (i % 64) : Nat) : Int)] from rfl, updO_set1 _ _ _ (by rw [flc_len, ok.len]; omega), flc_set]
    rintro h1 o1 F1 n1
    have cs := count_set bs i v hi hv
    have okf := ok.flip hi hn e1 hv
    have ln : ((bs.set i v).length : Int) = bs.length := by simp
    cases v
    · simp (disch := omega) only [evs, ↓reduceIte, Nat.reduceEqDiff, Nat.reduceAdd, Nat.reduceMul, Nat.reduceLeDiff, Nat.reduceLT, Int.reduceNeg, DF, eff, Nat.reduceSub, fwrap_i64, q4, o1.ld1, flc]
      refine store_step (c' := flc bs.length ((bs.count true : Int) - 1) (ws.set (i / 64) (x ^^^ 2 ^ (i % 64)))) F1.wf o1 rfl rfl (flc_upd1 _ _ _ _) ?_
      rintro h2 o2 F2 n2
      simp (disch := omega) only [evs, ↓reduceIte, Nat.reduceEqDiff, Nat.reduceAdd, Nat.reduceMul, Nat.reduceLeDiff, Nat.reduceLT, Int.reduceNeg, DF, eff, Nat.reduceSub, fwrap_i64]
      simp only [Bool.false_eq_true, if_false] at cs
      refine ⟨⟨_, by rw [ln, cs, show (bs.count true : Int) + -1 = bs.count true - 1 by omega]; exact o2, okf, by simpa using hn⟩, F1.trans F2 w (fun x hx => .inl hx) (fun x hx => .inl hx), n2.trans n1⟩
    · simp (disch := omega) only [evs, ↓reduceIte, Nat.reduceEqDiff, Nat.reduceAdd, Nat.reduceMul, Nat.reduceLeDiff, Nat.reduceLT, Int.reduceNeg, DF, eff, Nat.reduceSub, fwrap_i64, q4, o1.ld1, flc]
      refine store_step (c' := flc bs.length ((bs.count true : Int) + 1) (ws.set (i / 64) (x ^^^ 2 ^ (i % 64)))) F1.wf o1 rfl rfl (flc_upd1 _ _ _ _) ?_
      rintro h2 o2 F2 n2
      simp (disch := omega) only [evs, ↓reduceIte, Nat.reduceEqDiff, Nat.reduceAdd, Nat.reduceMul, Nat.reduceLeDiff, Nat.reduceLT, Int.reduceNeg, DF, eff, Nat.reduceSub, fwrap_i64]
      simp only [if_true] at cs
      refine ⟨⟨_, by rw [ln, cs]; exact o2, okf, by simpa using hn⟩, F1.trans F2 w (fun x hx => .inl hx) (fun x hx => .inl hx), n2.trans n1⟩
/-- the error of some bits from a place on -/
def fchk (n : Nat) (a k : Int) : Int := if a < 0 ∨ k < 0 ∨ n < a ∨ n - a < k then 4 else 0
theorem fcheck_ok {h : Heap} {b : Nat} {bs : List Bool} {a k : Int} (f : Fl h b bs) (a0 : -9223372036854775808 ≤ a) (a1 : a ≤ 9223372036854775807) : Does go 84 [.ptr b 0, .int .i64 a, .int .i64 k] h fun u h' => u = .int .i64 (fchk bs.length a k) ∧ h' = h := by
  obtain ⟨ws, o, ok, hn⟩ := f
  have q : hload1 h b 0 = some (.int .i64 (bs.length : Int)) := o.ld1 0
  unfold fchk
  by_cases c1 : a < 0
  · refine does_fn g84 rfl ?_
    simp (disch := omega) only [fn84, evs, ↓reduceIte, Nat.reduceEqDiff, Nat.reduceAdd, Nat.reduceMul, Nat.reduceLeDiff, Nat.reduceLT, Int.reduceNeg, DF, eff, Nat.reduceSub, fwrap_i64, q, c1]
    simp
  · by_cases c2 : k < 0
    · refine does_fn g84 rfl ?_
      simp (disch := omega) only [fn84, evs, ↓reduceIte, Nat.reduceEqDiff, Nat.reduceAdd, Nat.reduceMul, Nat.reduceLeDiff, Nat.reduceLT, Int.reduceNeg, DF, eff, Nat.reduceSub, fwrap_i64, q, c1, c2]
      simp
    · by_cases c3 : (bs.length : Int) < a
      · refine does_fn g84 rfl ?_
        simp (disch := omega) only [fn84, evs, ↓reduceIte, Nat.reduceEqDiff, Nat.reduceAdd, Nat.reduceMul, Nat.reduceLeDiff, Nat.reduceLT, Int.reduceNeg, DF, eff, Nat.reduceSub, fwrap_i64, q, c1, c2, c3]
        simp
      · by_cases c4 : (bs.length : Int) - a < k
        · refine does_fn g84 rfl ?_
          simp (disch := omega) only [fn84, evs, ↓reduceIte, Nat.reduceEqDiff, Nat.reduceAdd, Nat.reduceMul, Nat.reduceLeDiff, Nat.reduceLT, Int.reduceNeg, DF, eff, Nat.reduceSub, fwrap_i64, q, c1, c2, c3, c4]
          simp
        · refine does_fn g84 rfl ?_
          simp (disch := omega) only [fn84, evs, ↓reduceIte, Nat.reduceEqDiff, Nat.reduceAdd, Nat.reduceMul, Nat.reduceLeDiff, Nat.reduceLT, Int.reduceNeg, DF, eff, Nat.reduceSub, fwrap_i64, q, c1, c2, c3, c4]
          simp
theorem fGet_ok {h : Heap} {b : Nat} {bs : List Bool} {i : Int} (f : Fl h b bs) (a0 : -9223372036854775808 ≤ i) (a1 : i ≤ 9223372036854775807) : Does go 76 [.ptr b 0, .int .i64 i] h fun u h' => (u = if 0 ≤ i ∧ i < bs.length then .tup [.bool (bs.getD i.toNat false), .int .i64 0] else .tup [.bool false, .int .i64 4]) ∧ h' = h := by
  refine does_fn g76 rfl ?_
  simp (disch := omega) only [fn76, evs, ↓reduceIte, Nat.reduceEqDiff, Nat.reduceAdd, Nat.reduceMul, Nat.reduceLeDiff, Nat.reduceLT, Int.reduceNeg, DF, eff, Nat.reduceSub, fwrap_i64]
  refine OQ_does (fcheck_ok f a0 a1) ?_
  rintro _ _ ⟨rfl, hh⟩
  subst hh
  by_cases c : 0 ≤ i ∧ i < bs.length
  · have e : fchk bs.length i 1 = 0 := by unfold fchk; rw [if_neg (by omega)]
    obtain ⟨j, rfl⟩ : ∃ j : Nat, i = j := ⟨i.toNat, by omega⟩
    rw [e, if_pos c]
    simp (disch := omega) only [evs, ↓reduceIte, Nat.reduceEqDiff, Nat.reduceAdd, Nat.reduceMul, Nat.reduceLeDiff, Nat.reduceLT, Int.reduceNeg, DF, eff, Nat.reduceSub, fwrap_i64]
    refine OQ_does (get_ok f (by omega)) ?_
    rintro _ _ ⟨rfl, hh⟩
    subst hh
    simp (disch := omega) only [evs, ↓reduceIte, Nat.reduceEqDiff, Nat.reduceAdd, Nat.reduceMul, Nat.reduceLeDiff, Nat.reduceLT, Int.reduceNeg, DF, eff, Nat.reduceSub, fwrap_i64, Int.toNat_natCast]
  · have e : fchk bs.length i 1 = 4 := by unfold fchk; rw [if_pos (by omega)]
    rw [e, if_neg c]
    simp (disch := omega) only [evs, ↓reduceIte, Nat.reduceEqDiff, Nat.reduceAdd, Nat.reduceMul, Nat.reduceLeDiff, Nat.reduceLT, Int.reduceNeg, DF, eff, Nat.reduceSub, fwrap_i64, show ¬ (4 : Int) = 0 by omega]
theorem fSet_ok {h : Heap} {b : Nat} {bs : List Bool} {i : Int} {v : Bool} (w : WF h) (f : Fl h b bs) (a0 : -9223372036854775808 ≤ i) (a1 : i ≤ 9223372036854775807) : Does go 51 [.ptr b 0, .int .i64 i, .bool v] h fun u h' =>
    (u = .int .i64 (if 0 ≤ i ∧ i < bs.length then 0 else 4)) ∧ Fl h' b (if 0 ≤ i ∧ i < bs.length then bs.set i.toNat v else bs) ∧ Fr [b] h h' ∧ h'.next = h.next := by
  refine does_fn g51 rfl ?_
  simp (disch := omega) only [fn51, evs, ↓reduceIte, Nat.reduceEqDiff, Nat.reduceAdd, Nat.reduceMul, Nat.reduceLeDiff, Nat.reduceLT, Int.reduceNeg, DF, eff, Nat.reduceSub, fwrap_i64]
  refine OQ_does (fcheck_ok f a0 a1) ?_
  rintro _ _ ⟨rfl, hh⟩
  subst hh
  by_cases c : 0 ≤ i ∧ i < bs.length
  · have e : fchk bs.length i 1 = 0 := by unfold fchk; rw [if_neg (by omega)]
    obtain ⟨j, rfl⟩ : ∃ j : Nat, i = j := ⟨i.toNat, by omega⟩
    rw [e, if_pos c, if_pos c]
    simp (disch := omega) only [evs, ↓reduceIte, Nat.reduceEqDiff, Nat.reduceAdd, Nat.reduceMul, Nat.reduceLeDiff, Nat.reduceLT, Int.reduceNeg, DF, eff, Nat.reduceSub, fwrap_i64]
    refine OQ_does (fput_ok w f (by omega)) ?_
    rintro _ h1 ⟨rfl, f1, F1, n1⟩
    simp (disch := omega) only [evs, ↓reduceIte, Nat.reduceEqDiff, Nat.reduceAdd, Nat.reduceMul, Nat.reduceLeDiff, Nat.reduceLT, Int.reduceNeg, DF, eff, Nat.reduceSub, fwrap_i64, Int.toNat_natCast]
    exact ⟨f1, F1, n1⟩
  · have e : fchk bs.length i 1 = 4 := by unfold fchk; rw [if_pos (by omega)]
    rw [e, if_neg c, if_neg c]
    simp (disch := omega) only [evs, ↓reduceIte, Nat.reduceEqDiff, Nat.reduceAdd, Nat.reduceMul, Nat.reduceLeDiff, Nat.reduceLT, Int.reduceNeg, DF, eff, Nat.reduceSub, fwrap_i64, show ¬ (4 : Int) = 0 by omega]
    exact ⟨f, Fr.refl w⟩
theorem zeroF (h : Heap) : WOK (List.replicate 64 0) [] := ⟨by simp, fun k hk => ⟨0, by rw [List.getElem?_replicate, if_pos hk], by omega, fun j _ => by simp⟩⟩
theorem fNew_ok {h : Heap} (w : WF h) : Does go 49 [.int .i64 0] h fun u h' => ∃ b, u = .tup [.ptr b 0, .int .i64 0] ∧ h.next ≤ b ∧ Fl h' b [] ∧ Fr [] h h' := by
  refine does_fn g49 rfl ?_
  simp (disch := omega) only [fn49, evs, ↓reduceIte, Nat.reduceEqDiff, Nat.reduceAdd, Nat.reduceMul, Nat.reduceLeDiff, Nat.reduceLT, Int.reduceNeg, DF, eff, Nat.reduceSub, fwrap_i64, show ¬ (0 : Int) < 0 by omega, show ¬ (4096 : Int) < 0 by omega]
  exact ⟨_, rfl, Nat.le_refl _, ⟨List.replicate 64 0, Own.new w _, zeroF h, by simp⟩, Fr.halloc w _⟩
end Go.Ev.Lay

/- Flags: list, become, Insert. -/
namespace Go.Ev.Lay
set_option maxRecDepth 4000
theorem Sl.frb {h h' : Heap} {esz : Nat} {v : V} {n : Nat} {cs : List V} {b : Nat} {c c' : List V} (a : Sl h esz v n cs) (f : Fr [b] h h') (o : Own h b c) (o' : Own h' b c') (hl : c'.length = c.length) (hd : cs ≠ [] → ∃ x ∈ cs, x ∉ c) : Sl h' esz v n cs := by
  obtain ⟨e1, e2⟩ := a
  have main : ∀ (bb oo : Nat), (∃ d, Own h bb d ∧ oo + n * esz ≤ d.length ∧ cs = (d.drop oo).take (n * esz)) → ∃ d, Own h' bb d ∧ oo + n * esz ≤ d.length ∧ cs = (d.drop oo).take (n * esz) := by
    rintro bb oo ⟨d, od, h1, h2⟩
    by_cases e : bb = b
    · subst e
      have := od.uniq o
      subst this
      by_cases hL : cs = []
      · subst hL
        have : n * esz = 0 := by simpa using e1.symm
        exact ⟨c', o', by omega, by simp [this]⟩
      · obtain ⟨x, hx, hn⟩ := hd hL
        rw [h2] at hx
        exact absurd (List.mem_of_mem_drop (List.mem_of_mem_take hx)) hn
    · exact ⟨d, f.own _ _ (by simpa using e) od, h1, h2⟩
  refine ⟨e1, ?_⟩
  cases v with
  | slice bb oo len cap => obtain ⟨x1, x2, x3⟩ := e2; exact ⟨x1, x2, main bb oo x3⟩
  | sliceU bb oo len cap => obtain ⟨x1, x2, x3⟩ := e2; exact ⟨x1, x2, main bb oo x3⟩
  | _ => exact e2
theorem Bools.frb {h h' : Heap} {v : V} {bs : List Bool} {b : Nat} {n m n' m' : Int} {ws ws' : List Nat} (a : Bools h v bs) (f : Fr [b] h h') (o : Own h b (flc n m ws)) (o' : Own h' b (flc n' m' ws')) (hl : ws'.length = ws.length) : Bools h' v bs := by
  refine Sl.frb a f o o' (by simp [flc_len, hl]) fun hne => ?_
  cases bs with
  | nil => simp at hne
  | cons x bs => exact ⟨.bool x, by simp, by simp [flc, uw]⟩
theorem set_mid (bs : List Bool) (i : Nat) (x : Bool) (h : bs[i]? = some x) : ((bs.take i).map V.bool ++ List.replicate (bs.length - i) (V.bool false)).set i (V.bool x) = (bs.take (i + 1)).map V.bool ++ List.replicate (bs.length - (i + 1)) (V.bool false) := by
  have hi : i < bs.length := by
    rcases Nat.lt_or_ge i bs.length with y | y
    · exact y
    · rw [List.getElem?_eq_none y] at h; cases h
  have hl : ((bs.take i).map V.bool).length = i := by simp; omega
  rw [List.set_append, if_neg (by omega), hl, Nat.sub_self, show bs.length - i = (bs.length - (i + 1)) + 1 by omega, List.replicate_succ, List.set_cons_zero, List.take_add_one, h]
  simp
theorem flist_ok {h : Heap} {b : Nat} {bs : List Bool} (w : WF h) (f : Fl h b bs) : Does go 85 [.ptr b 0] h fun u h' => Bools h' u bs ∧ (∃ c, u = .slice c 0 bs.length bs.length ∧ h.next ≤ c) ∧ Fr [] h h' := by
  have f0 := f
  obtain ⟨ws, o, ok, hn⟩ := f
  have q : hload1 h b 0 = some (.int .i64 (bs.length : Int)) := o.ld1 0
  refine does_fn g85 rfl ?_
  simp (disch := omega) only [fn85, evs, ↓reduceIte, Nat.reduceEqDiff, Nat.reduceAdd, Nat.reduceMul, Nat.reduceLeDiff, Nat.reduceLT, Int.reduceNeg, DF, eff, Nat.reduceSub, fwrap_i64, q]
  refine (amake_ok _ _ _ _ _ _ _ _ (by omega) (by omega) (by omega) (by omega)).2 ?_
  simp only [Int.toNat_natCast]
  rw [repL_one]
  obtain ⟨h1, e_h1⟩ : ∃ h1, h1 = halloc h (List.replicate bs.length (.bool false)) := ⟨_, rfl⟩
  have F_h1 : Fr [] h h1 := e_h1 ▸ Fr.halloc w _
  have o_h1 : Own h1 h.next (List.replicate bs.length (.bool false)) := e_h1 ▸ Own.new w _
  simp (disch := omega) only [evs, ↓reduceIte, Nat.reduceEqDiff, Nat.reduceAdd, Nat.reduceMul, Nat.reduceLeDiff, Nat.reduceLT, Int.reduceNeg, DF, eff, Nat.reduceSub, fwrap_i64, ← e_h1]
  refine W_loop (fun k env hh => ∃ i : Nat, env.get 12 = some (.int .i64 i) ∧ env.get 11 = some (.int .i64 bs.length) ∧ env.get 3 = some (.slice h.next 0 bs.length bs.length) ∧ env.get 0 = some (.ptr b 0) ∧ i ≤ bs.length ∧ Fr [] h hh ∧
    Own hh h.next ((bs.take i).map V.bool ++ List.replicate (bs.length - i) (.bool false)) ∧ k = bs.length - i) bs.length (by omega) ?_ ?_
  · exact ⟨0, (by simp [T.get_set]), (by simp [T.get_set]), (by simp [T.get_set]), (by simp [T.get_set]), by omega, F_h1, by simpa using o_h1, rfl⟩
  · rintro k env hh ⟨i, g12, g11, g3, g0, hi, F, oo, rfl⟩
    by_cases hlt : (i : Int) < bs.length
    · have ei : bs[i]? = some (bs.getD i false) := by simp [List.getD, show i < bs.length by omega]
      simp (disch := omega) only [evs, ↓reduceIte, Nat.reduceEqDiff, Nat.reduceAdd, Nat.reduceMul, Nat.reduceLeDiff, Nat.reduceLT, Int.reduceNeg, DF, eff, Nat.reduceSub, fwrap_i64, g12, g11, g3, g0, hlt]
      refine OQ_does (get_ok (f0.fr F) (by omega)) ?_
      rintro _ _ ⟨rfl, hh'⟩
      subst hh'
      have ix := aP_ixS 1 h.next 0 bs.length bs.length .i64 i (by omega) hlt
      simp only [Int.toNat_natCast, Nat.mul_one, Nat.zero_add] at ix
      simp (disch := omega) only [evs, ↓reduceIte, Nat.reduceEqDiff, Nat.reduceAdd, Nat.reduceMul, Nat.reduceLeDiff, Nat.reduceLT, Int.reduceNeg, DF, eff, Nat.reduceSub, fwrap_i64, g12, g11, g3, g0, ix]
      refine store_step (c' := (bs.take (i + 1)).map V.bool ++ List.replicate (bs.length - (i + 1)) (.bool false)) F.wf oo rfl rfl ?_ ?_
      · show updO _ i [.bool (bs.getD i false)] = _
        rw [updO_set1 _ _ _ (by simp; omega), set_mid bs i _ ei]
      rintro h2 o2 F2 n2
      simp (disch := omega) only [evs, ↓reduceIte, Nat.reduceEqDiff, Nat.reduceAdd, Nat.reduceMul, Nat.reduceLeDiff, Nat.reduceLT, Int.reduceNeg, DF, eff, Nat.reduceSub, fwrap_i64, g12, g11, g3, g0]
      refine (roundQ_norm _ _ _).2 ⟨bs.length - (i + 1), by omega, i + 1, (by simp [T.get_set]), (by simp [T.get_set, g11]), (by simp [T.get_set, g3]), (by simp [T.get_set, g0]), by omega, F.fresh F2 w (Nat.le_refl _), o2, rfl⟩
      done
    · simp (disch := omega) only [evs, ↓reduceIte, Nat.reduceEqDiff, Nat.reduceAdd, Nat.reduceMul, Nat.reduceLeDiff, Nat.reduceLT, Int.reduceNeg, DF, eff, Nat.reduceSub, fwrap_i64, g12, g11, g3, g0, hlt]
      have : i = bs.length := by omega
      subst this
      simp only [List.take_length, Nat.sub_self, List.replicate_zero, List.append_nil] at oo
      exact ⟨Sl.lit oo (by simp), ⟨_, rfl, Nat.le_refl _⟩, F⟩
theorem rep_set (B : List Bool) (k : Nat) (x : Bool) (h : B[k]? = some x) : (B.take k ++ List.replicate (B.length - k) false).set k x = B.take (k + 1) ++ List.replicate (B.length - (k + 1)) false := by
  have hi : k < B.length := by
    rcases Nat.lt_or_ge k B.length with y | y
    · exact y
    · rw [List.getElem?_eq_none y] at h; cases h
  have hl : (B.take k).length = k := by simp; omega
  rw [List.set_append, if_neg (by omega), hl, Nat.sub_self, show B.length - k = (B.length - (k + 1)) + 1 by omega, List.replicate_succ, List.set_cons_zero, List.take_add_one, h]
  simp
theorem Fl.falses {h : Heap} {b N : Nat} (o : Own h b (flc N 0 (List.replicate 64 0))) (hN : N ≤ 4096) : Fl h b (List.replicate N false) := by
  refine ⟨List.replicate 64 0, by simpa [List.count_replicate] using o, ⟨by simp, fun k hk => ⟨0, by rw [List.getElem?_replicate, if_pos hk], by omega, fun j _ => ?_⟩⟩, by simpa using hN⟩
  simp only [Nat.zero_testBit, List.getD_eq_getElem?_getD, List.getElem?_replicate]
  split <;> rfl
theorem Bools.noint {h : Heap} {v : V} {bs : List Bool} (a : Bools h v bs) : ∀ k n, v ≠ .int k n := by
  rintro k n rfl
  exact a.2
theorem become_ok {h : Heap} {b : Nat} {bs0 : List Bool} {vl : V} {Ls : List (V × List Bool)} (w : WF h) (f : Fl h b bs0) (a : Vals Prod.fst h vl Ls) (al : ∀ p ∈ Ls, Bools h p.1 p.2) (hN : (Ls.flatMap Prod.snd).length ≤ 4096) (hl : Ls.length ≤ 100) :
    Does go 86 [.ptr b 0, vl] h fun u h' => u = .tup [] ∧ Fl h' b (Ls.flatMap Prod.snd) ∧ Fr [b] h h' := by
  obtain ⟨ws, o, ok, hn⟩ := f
  obtain ⟨B, hB⟩ : ∃ B, B = Ls.flatMap Prod.snd := ⟨_, rfl⟩
  rw [← hB] at hN ⊢
  have stay : ∀ {hh : Heap} {n' m' : Int} {ws' : List Nat}, Fr [b] h hh → Own hh b (flc n' m' ws') → ws'.length = 64 → Vals Prod.fst hh vl Ls ∧ ∀ p ∈ Ls, Bools hh p.1 p.2 := by
    intro hh n' m' ws' F o' hl'
    refine ⟨Sl.frb a F o o' (by rw [flc_len, flc_len, hl', ok.len]) fun hne => ?_, fun p hp => Bools.frb (al p hp) F o o' (by rw [hl', ok.len])⟩
    cases Ls with
    | nil => simp at hne
    | cons p Ls =>
      refine ⟨p.1, by simp, ?_⟩
      have := (al p (by simp)).noint
      simp only [flc, List.mem_cons, List.mem_map, not_or, not_exists, not_and]
      exact ⟨this _ _, this _ _, fun x _ hx => this _ _ hx.symm⟩
  have stayF : ∀ {hh : Heap} {bs : List Bool}, Fr [b] h hh → Fl hh b bs → Vals Prod.fst hh vl Ls ∧ ∀ p ∈ Ls, Bools hh p.1 p.2 := fun F ⟨_, o', ok', _⟩ => stay F o' ok'.len
  refine does_fn g86 rfl ?_
  simp (disch := omega) only [fn86, evs, ↓reduceIte, Nat.reduceEqDiff, Nat.reduceAdd, Nat.reduceMul, Nat.reduceLeDiff, Nat.reduceLT, Int.reduceNeg, DF, eff, Nat.reduceSub, fwrap_i64]
  refine store_step (c' := flc 0 0 (List.replicate 64 0)) w o rfl rfl ?_ ?_
  · rw [updO_at _ _ _ (by rw [flc_len, ok.len]; simp [V.cells])]
    simp only [List.take_zero, List.nil_append, V.cells]
    rw [List.drop_of_length_le (by rw [flc_len, ok.len]; simp)]
    rfl
  rintro h1 o1 F1 n1
  obtain ⟨a1, al1⟩ := stay F1 o1 (by simp)
  simp (disch := omega) only [evs, ↓reduceIte, Nat.reduceEqDiff, Nat.reduceAdd, Nat.reduceMul, Nat.reduceLeDiff, Nat.reduceLT, Int.reduceNeg, DF, eff, Nat.reduceSub, fwrap_i64, a1.len]
  refine W_loop (fun k env hh => ∃ i : Nat, env.get 16 = some (.int .i64 i) ∧ env.get 15 = some (.int .i64 Ls.length) ∧ env.get 14 = some vl ∧ env.get 0 = some (.ptr b 0) ∧ env.get 1 = some vl ∧ i ≤ Ls.length ∧ Fr [b] h hh ∧
    Own hh b (flc ((Ls.take i).flatMap Prod.snd).length 0 (List.replicate 64 0)) ∧ k = Ls.length - i) Ls.length (by omega) ?_ ?_
  · exact ⟨0, (by simp [T.get_set]), (by simp [T.get_set]), (by simp [T.get_set]), (by simp [T.get_set]), (by simp [T.get_set]), by omega, F1, by simpa using o1, rfl⟩
  rintro k env hh ⟨i, g16, g15, g14, g0, g1, hi, F, oo, rfl⟩
  obtain ⟨a2, al2⟩ := stay F oo (by simp)
  by_cases hlt : (i : Int) < Ls.length
  · obtain ⟨bb, po, p, e1, e2, e3⟩ := a2.ix .i64 i (by omega) hlt
    simp only [Int.toNat_natCast] at e3
    have lp := al2 p (List.mem_of_getElem? e3)
    have tk : (Ls.take (i + 1)).flatMap Prod.snd = (Ls.take i).flatMap Prod.snd ++ p.2 := by rw [List.take_add_one, e3]; simp
    have hle : ((Ls.take (i + 1)).flatMap Prod.snd).length ≤ B.length := by
      rw [hB]
      conv => rhs; rw [← List.take_append_drop (i + 1) Ls]
      rw [List.flatMap_append, List.length_append]; omega
    rw [tk, List.length_append] at hle
    simp (disch := omega) only [evs, ↓reduceIte, Nat.reduceEqDiff, Nat.reduceAdd, Nat.reduceMul, Nat.reduceLeDiff, Nat.reduceLT, Int.reduceNeg, DF, eff, Nat.reduceSub, fwrap_i64, g16, g15, g14, g0, g1, hlt, e1, e2, oo.ld1, flc, lp.len]
    refine store_step (c' := flc ((Ls.take (i + 1)).flatMap Prod.snd).length 0 (List.replicate 64 0)) F.wf oo rfl rfl ?_ ?_
    · rw [tk, List.length_append, Int.natCast_add]
      exact flc_upd0 _ _ _ _
    rintro h2 o2 F2 n2
    simp (disch := omega) only [evs, ↓reduceIte, Nat.reduceEqDiff, Nat.reduceAdd, Nat.reduceMul, Nat.reduceLeDiff, Nat.reduceLT, Int.reduceNeg, DF, eff, Nat.reduceSub, fwrap_i64, g16, g15, g14, g0, g1]
    refine (roundQ_norm _ _ _).2 ⟨Ls.length - (i + 1), by omega, i + 1, (by simp [T.get_set]), (by simp [T.get_set, g15]), (by simp [T.get_set, g14]), (by simp [T.get_set, g0]), (by simp [T.get_set, g1]), by omega, F.trans F2 w (fun x hx => .inl hx) (fun x hx => .inl hx), o2, rfl⟩
    done
  · have : i = Ls.length := by omega
    subst this
    rw [List.take_length, ← hB] at oo
    have fl0 := Fl.falses oo hN
    simp (disch := omega) only [evs, ↓reduceIte, Nat.reduceEqDiff, Nat.reduceAdd, Nat.reduceMul, Nat.reduceLeDiff, Nat.reduceLT, Int.reduceNeg, DF, eff, Nat.reduceSub, fwrap_i64, g16, g15, g14, g0, g1, hlt, a2.len]
    refine W_loop (fun k env hh => ∃ j : Nat, env.get 32 = some (.int .i64 j) ∧ env.get 31 = some (.int .i64 Ls.length) ∧ env.get 30 = some vl ∧ env.get 0 = some (.ptr b 0) ∧
      env.get 6 = some (.int .i64 ((Ls.take j).flatMap Prod.snd).length) ∧ j ≤ Ls.length ∧ Fr [b] h hh ∧ Fl hh b (B.take ((Ls.take j).flatMap Prod.snd).length ++ List.replicate (B.length - ((Ls.take j).flatMap Prod.snd).length) false) ∧ k = Ls.length - j) Ls.length (by omega) ?_ ?_
    · exact ⟨0, (by simp [T.get_set]), (by simp [T.get_set]), (by simp [T.get_set]), (by simp [T.get_set, g0]), (by simp [T.get_set]), by omega, F, by simpa using fl0, rfl⟩
    rintro k env hh ⟨j, g32, g31, g30, g0, g6, hj, F, fj, rfl⟩
    obtain ⟨a3, al3⟩ := stayF F fj
    by_cases hlt : (j : Int) < Ls.length
    · obtain ⟨bb, po, p, e1, e2, e3⟩ := a3.ix .i64 j (by omega) hlt
      simp only [Int.toNat_natCast] at e3
      have lp := al3 p (List.mem_of_getElem? e3)
      obtain ⟨K, hK⟩ : ∃ K, K = ((Ls.take j).flatMap Prod.snd).length := ⟨_, rfl⟩
      rw [← hK] at g6 fj
      have tk : ((Ls.take (j + 1)).flatMap Prod.snd).length = K + p.2.length := by rw [List.take_add_one, e3, hK]; simp
      have eB : B = (Ls.take j).flatMap Prod.snd ++ (p.2 ++ (Ls.drop (j + 1)).flatMap Prod.snd) := by
        rw [hB]
        conv => lhs; rw [← List.take_append_drop j Ls, drop_cons e3]
        rw [List.flatMap_append, List.flatMap_cons]
      have lB : K + p.2.length ≤ B.length := by rw [eB, List.length_append, List.length_append]; omega
      have nB : ∀ q, q < p.2.length → B[K + q]? = p.2[q]? := fun q hq => by
        rw [eB, List.getElem?_append_right (by omega), List.getElem?_append_left (by omega)]; congr 1; omega
      simp (disch := omega) only [evs, ↓reduceIte, Nat.reduceEqDiff, Nat.reduceAdd, Nat.reduceMul, Nat.reduceLeDiff, Nat.reduceLT, Int.reduceNeg, DF, eff, Nat.reduceSub, fwrap_i64, g32, g31, g30, g0, g6, hlt, e1, e2, lp.len]
      refine W_loop (fun k env' hh => (∀ s, s = 32 ∨ s = 31 ∨ s = 30 ∨ s = 0 → env'.get s = env.get s) ∧ ∃ q : Nat, env'.get 38 = some (.int .i64 q) ∧ env'.get 37 = some (.int .i64 p.2.length) ∧ env'.get 36 = some p.1 ∧ env'.get 6 = some (.int .i64 ((K + q : Nat) : Int)) ∧ q ≤ p.2.length ∧ Fr [b] h hh ∧
        Fl hh b (B.take (K + q) ++ List.replicate (B.length - (K + q)) false) ∧ k = p.2.length - q) p.2.length (by omega) ?_ ?_
      · exact ⟨fun s hs => by rcases hs with rfl | rfl | rfl | rfl <;> simp [T.get_set], 0, (by simp [T.get_set]), (by simp [T.get_set]), (by simp [T.get_set]), (by simp [T.get_set, g6]), by omega, F, by simpa using fj, rfl⟩
      rintro k env1 hh ⟨same, q, g38, g37, g36, g6', hq, F, fq, rfl⟩
      have n32 := (same 32 (by simp)).trans g32
      have n31 := (same 31 (by simp)).trans g31
      have n30 := (same 30 (by simp)).trans g30
      have n0 := (same 0 (by simp)).trans g0
      obtain ⟨a4, al4⟩ := stayF F fq
      have lp4 := al4 p (List.mem_of_getElem? e3)
      by_cases hlt2 : (q : Int) < p.2.length
      · obtain ⟨b5, p5, x, d1, d2, d3⟩ := lp4.ix .i64 q (by omega) hlt2
        simp only [Int.toNat_natCast] at d3
        simp (disch := omega) only [evs, ↓reduceIte, Nat.reduceEqDiff, Nat.reduceAdd, Nat.reduceMul, Nat.reduceLeDiff, Nat.reduceLT, Int.reduceNeg, DF, eff, Nat.reduceSub, fwrap_i64, n32, n31, n30, n0, g38, g37, g36, g6', hlt2, d1, d2]
        refine OQ_does (fput_ok F.wf fq (by simp; omega)) ?_
        rintro _ h5 ⟨rfl, f5, F5, n5⟩
        rw [rep_set B (K + q) x ((nB q (by omega)).trans d3)] at f5
        simp (disch := omega) only [evs, ↓reduceIte, Nat.reduceEqDiff, Nat.reduceAdd, Nat.reduceMul, Nat.reduceLeDiff, Nat.reduceLT, Int.reduceNeg, DF, eff, Nat.reduceSub, fwrap_i64, n32, n31, n30, n0, g38, g37, g36, g6']
        refine (roundQ_norm _ _ _).2 ⟨p.2.length - (q + 1), by omega, fun s hs => by rcases hs with rfl | rfl | rfl | rfl <;> simp [T.get_set, n32, n31, n30, n0, g32, g31, g30, g0], q + 1, (by simp [T.get_set]), (by simp [T.get_set, g37]), (by simp [T.get_set, g36]), (by simp [T.get_set]; omega), by omega, F.trans F5 w (fun x hx => .inl hx) (fun x hx => .inl hx), f5, rfl⟩
        done
      · have : q = p.2.length := by omega
        subst this
        simp (disch := omega) only [evs, ↓reduceIte, Nat.reduceEqDiff, Nat.reduceAdd, Nat.reduceMul, Nat.reduceLeDiff, Nat.reduceLT, Int.reduceNeg, DF, eff, Nat.reduceSub, fwrap_i64, n32, n31, n30, n0, g38, g37, g36, g6', hlt2]
        refine (roundQ_norm _ _ _).2 ⟨Ls.length - (j + 1), by omega, j + 1, (by simp [T.get_set]), (by simp [T.get_set, n31]), (by simp [T.get_set, n30]), (by simp [T.get_set, n0]), (by simp [T.get_set, g6', tk]), by omega, F, by rw [tk]; exact fq, rfl⟩
        done
    · have : j = Ls.length := by omega
      subst this
      rw [List.take_length, ← hB] at fj
      simp only [List.take_length, Nat.sub_self, List.replicate_zero, List.append_nil] at fj
      simp (disch := omega) only [evs, ↓reduceIte, Nat.reduceEqDiff, Nat.reduceAdd, Nat.reduceMul, Nat.reduceLeDiff, Nat.reduceLT, Int.reduceNeg, DF, eff, Nat.reduceSub, fwrap_i64, g32, g31, g30, g0, g6, hlt]
      exact ⟨fj, F⟩
end Go.Ev.Lay
