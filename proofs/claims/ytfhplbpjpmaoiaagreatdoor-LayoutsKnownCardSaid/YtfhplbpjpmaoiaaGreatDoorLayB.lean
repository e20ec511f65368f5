/- An evaluator of the program and contracts proved over it: the texts LayF LayH LayI LayJ. -/
import Derived.Test.YtfhplbpjpmaoiaaGreatDoorLayA
set_option linter.unusedSimpArgs false
set_option linter.unusedVariables false
set_option linter.constructorNameAsVariable false
/- Ropes: grown, Of, Split, Join, Set, Insert, Remove. -/
namespace Go.Ev.Lay
set_option maxRecDepth 4000
theorem getElem?_of {l : List Int} {i : Nat} {x : Int} (h : l[i]? = some x) : l = l.take i ++ x :: l.drop (i + 1) := by
  rw [← drop_cons h, List.take_append_drop]
theorem grown_any : ∀ (n : Nat) {h : Heap} {v : V} {l : List Int}, l.length ≤ n → WF h → Ints h v l → Fit l →
    Does go 117 [v] h fun u h' => ∃ t p, u = pv p ∧ At h' t p ∧ t.list = l ∧ Fr [] h h' := by
  intro n
  induction n with
  | zero =>
    intro h v l hn w a f
    have : l = [] := List.length_eq_zero_iff.1 (by omega)
    subst this
    have hz := a.len
    simp only [List.length_nil, Int.ofNat_eq_natCast, Int.natCast_zero] at hz
    refine does_fn g117 rfl ?_
    simp (disch := omega) only [fn117, evs, ↓reduceIte, Nat.reduceEqDiff, Nat.reduceAdd, Nat.reduceMul, Nat.reduceLeDiff, Nat.reduceLT, Int.reduceNeg, DF, eff, Nat.reduceSub, fwrap_i64, hz, Int.natCast_zero]
    exact ⟨.nil, none, rfl, rfl, rfl, Fr.refl w⟩
  | succ n ih =>
    intro h v l hn w a f
    by_cases h0 : (l.length : Int) = 0
    · have : l = [] := List.length_eq_zero_iff.1 (by omega)
      subst this
      refine does_fn g117 rfl ?_
      simp (disch := omega) only [fn117, evs, ↓reduceIte, Nat.reduceEqDiff, Nat.reduceAdd, Nat.reduceMul, Nat.reduceLeDiff, Nat.reduceLT, Int.reduceNeg, DF, eff, Nat.reduceSub, fwrap_i64, a.len, h0]
      exact ⟨.nil, none, rfl, rfl, rfl, Fr.refl w⟩
    · have f3 := f.2.2
      have hv : v ≠ .sliceE := Sl.ne a (by omega)
      have hm : Int.tdiv (l.length : Int) 2 = ((l.length / 2 : Nat) : Int) := (Int.ofNat_tdiv l.length 2).symm
      obtain ⟨m, em⟩ : ∃ m : Nat, m = l.length / 2 := ⟨_, rfl⟩
      rw [← em] at hm
      obtain ⟨v1, s1, i1⟩ := a.upto hv .i64 m (by omega) (by omega)
      obtain ⟨v2, s2, i2⟩ := a.from' hv .i64 (m + 1) (by omega) (by omega)
      obtain ⟨b, o, x, e1, e2, e3⟩ := a.ix .i64 m (by omega) (by omega)
      simp only [Int.toNat_natCast] at i1 i2 e3
      rw [show ((m : Int) + 1).toNat = m + 1 by omega] at i2
      have el := getElem?_of e3
      have f' : Fit (l.take m ++ x :: l.drop (m + 1)) := el ▸ f
      refine does_fn g117 rfl ?_
      simp (disch := omega) only [fn117, evs, ↓reduceIte, Nat.reduceEqDiff, Nat.reduceAdd, Nat.reduceMul, Nat.reduceLeDiff, Nat.reduceLT, Int.reduceNeg, DF, eff, Nat.reduceSub, fwrap_i64, a.len, h0, aP_quo _ _ 2 (by decide), hm, s1]
      refine OQ_does (ih (by simp; omega) w i1 f'.left) ?_
      rintro _ h1 ⟨t1, p1, rfl, a1, et1, fr1⟩
      obtain ⟨b', o', x', e1', e2', e3'⟩ := (a.fr fr1).ix .i64 m (by omega) (by omega)
      simp only [Int.toNat_natCast] at e3'
      rw [e1] at e1'; cases e1'
      rw [e3] at e3'; cases e3'
      simp (disch := omega) only [evs, ↓reduceIte, Nat.reduceEqDiff, Nat.reduceAdd, Nat.reduceMul, Nat.reduceLeDiff, Nat.reduceLT, Int.reduceNeg, DF, eff, Nat.reduceSub, fwrap_i64, e1, e2', s2]
      refine OQ_does (ih (by simp; omega) fr1.wf (i2.fr fr1) f'.right.cons) ?_
      rintro _ h2 ⟨t2, p2, rfl, a2, et2, fr2⟩
      have fr12 := fr1.then fr2
      obtain ⟨b'', o'', x'', e1'', e2'', e3''⟩ := (a.fr fr12).ix .i64 m (by omega) (by omega)
      simp only [Int.toNat_natCast] at e3''
      rw [e1] at e1''; cases e1''
      rw [e3] at e3''; cases e3''
      simp (disch := omega) only [evs, ↓reduceIte, Nat.reduceEqDiff, Nat.reduceAdd, Nat.reduceMul, Nat.reduceLeDiff, Nat.reduceLT, Int.reduceNeg, DF, eff, Nat.reduceSub, fwrap_i64]
      refine OQ_does (over_ok fr2.wf (a1.fr fr2) a2 (by rw [et1, et2]; exact f')) ?_
      rintro _ h3 ⟨b3, rfl, a3, fr3⟩
      simp (disch := omega) only [evs, ↓reduceIte, Nat.reduceEqDiff, Nat.reduceAdd, Nat.reduceMul, Nat.reduceLeDiff, Nat.reduceLT, Int.reduceNeg, DF, eff, Nat.reduceSub, fwrap_i64, e1, e2, e2', e2'']
      exact ⟨_, _, rfl, a3, by rw [Tr.list, et1, et2]; exact el.symm, fr12.then fr3⟩
theorem grown_ok {h : Heap} {v : V} {l : List Int} (w : WF h) (a : Ints h v l) (f : Fit l) :
    Does go 117 [v] h fun u h' => ∃ t p, u = pv p ∧ At h' t p ∧ t.list = l ∧ Fr [] h h' := grown_any _ (Nat.le_refl _) w a f
theorem chk_fit : ∀ (l : List Int) (t : Int), chk l t = 0 → 0 ≤ t → (∀ x ∈ l, 0 ≤ x) ∧ t + l.sum ≤ 4611686018427387904 ∨ l = []
  | [], t, _, _ => .inr rfl
  | s :: l, t, h, h0 => by
    rw [chk] at h
    by_cases h1 : s < 0 ∨ 2305843009213693952 < s
    · rw [if_pos h1] at h; omega
    · rw [if_neg h1] at h
      by_cases h2 : 4611686018427387904 - t < s
      · rw [if_pos h2] at h; omega
      · rw [if_neg h2] at h
        rcases chk_fit l (t + s) h (by omega) with ⟨a, b⟩ | rfl
        · exact .inl ⟨by simp; exact ⟨by omega, a⟩, by simp; omega⟩
        · exact .inl ⟨by simp; omega, by simp; omega⟩
theorem Fit.of_chk {l : List Int} (h : chk l 0 = 0) (hl : l.length ≤ 1000000) : Fit l := by
  rcases chk_fit l 0 h (by omega) with ⟨a, b⟩ | rfl
  · exact ⟨a, by omega, by omega⟩
  · exact ⟨by simp, by simp, by simp⟩
theorem ROf_ok {h : Heap} {v : V} {l : List Int} (w : WF h) (a : Ints h v l) (hn : l.length ≤ 1000000) :
    Does go 102 [v] h fun u h' => Fr [] h h' ∧ ∃ c e, u = .tup [.agg [c], .int .i64 e] ∧ c.one = true ∧ (e = if 4096 < l.length then 3 else chk l 0) ∧ (e = 0 → Rp h' (.agg [c]) l) := by
  obtain ⟨h1, e_h1⟩ : ∃ h1, h1 = halloc h [.nilp] := ⟨_, rfl⟩
  have F_h1 : Fr [] h h1 := e_h1 ▸ Fr.halloc w _
  have o_h1 : Own h1 h.next [.nilp] := e_h1 ▸ Own.new w _
  by_cases he : (if 4096 < l.length then 3 else chk l 0) = 0
  · have hc : chk l 0 = 0 := by
      by_cases h4 : 4096 < l.length
      · rw [if_pos h4] at he; omega
      · rw [if_neg h4] at he; exact he
    have f := Fit.of_chk hc hn
    refine does_fn g102 rfl ?_
    simp (disch := omega) only [fn102, evs, ↓reduceIte, Nat.reduceEqDiff, Nat.reduceAdd, Nat.reduceMul, Nat.reduceLeDiff, Nat.reduceLT, Int.reduceNeg, DF, eff, Nat.reduceSub, fwrap_i64, ← e_h1]
    refine OQ_does (Check_ok F_h1.wf (a.fr F_h1) hn) ?_
    rintro _ _ ⟨rfl, hh⟩
    subst hh
    simp (disch := omega) only [evs, ↓reduceIte, Nat.reduceEqDiff, Nat.reduceAdd, Nat.reduceMul, Nat.reduceLeDiff, Nat.reduceLT, Int.reduceNeg, DF, eff, Nat.reduceSub, fwrap_i64, he]
    refine OQ_does (grown_ok F_h1.wf (a.fr F_h1) f) ?_
    rintro _ h2 ⟨t, p, rfl, at', et, F2⟩
    simp (disch := omega) only [evs, ↓reduceIte, Nat.reduceEqDiff, Nat.reduceAdd, Nat.reduceMul, Nat.reduceLeDiff, Nat.reduceLT, Int.reduceNeg, DF, eff, Nat.reduceSub, fwrap_i64]
    refine store_step (c' := [pv p]) F2.wf (F2.get o_h1) rfl (by simp [onesB, pv_one, V.cells]) rfl ?_
    rintro h3 o3 F3 n3
    simp (disch := omega) only [evs, ↓reduceIte, Nat.reduceEqDiff, Nat.reduceAdd, Nat.reduceMul, Nat.reduceLeDiff, Nat.reduceLT, Int.reduceNeg, DF, eff, Nat.reduceSub, fwrap_i64, o3.ld1, o3.ld]
    exact ⟨(F_h1.then F2).fresh F3 w (Nat.le_refl _), _, _, rfl, pv_one _, rfl, fun _ => ⟨t, p, rfl, at'.frb F3 (F2.get o_h1) (by simp), et, f⟩⟩
  · refine does_fn g102 rfl ?_
    simp (disch := omega) only [fn102, evs, ↓reduceIte, Nat.reduceEqDiff, Nat.reduceAdd, Nat.reduceMul, Nat.reduceLeDiff, Nat.reduceLT, Int.reduceNeg, DF, eff, Nat.reduceSub, fwrap_i64, ← e_h1]
    refine OQ_does (Check_ok F_h1.wf (a.fr F_h1) hn) ?_
    rintro _ _ ⟨rfl, hh⟩
    subst hh
    simp (disch := omega) only [evs, ↓reduceIte, Nat.reduceEqDiff, Nat.reduceAdd, Nat.reduceMul, Nat.reduceLeDiff, Nat.reduceLT, Int.reduceNeg, DF, eff, Nat.reduceSub, fwrap_i64, he]
    refine store_step (c' := [.nilp]) F_h1.wf o_h1 rfl rfl rfl ?_
    rintro h3 o3 F3 n3
    simp (disch := omega) only [evs, ↓reduceIte, Nat.reduceEqDiff, Nat.reduceAdd, Nat.reduceMul, Nat.reduceLeDiff, Nat.reduceLT, Int.reduceNeg, DF, eff, Nat.reduceSub, fwrap_i64, o3.ld1, o3.ld]
    exact ⟨F_h1.fresh F3 w (Nat.le_refl _), _, _, rfl, rfl, rfl, fun e => absurd e he⟩
theorem Own.ne {h : Heap} {b b' : Nat} {c c' : List V} (o : Own h b c) (o' : Own h b' c') (hc : c ≠ c') : b ≠ b' := by
  rintro rfl; exact hc (o.uniq o')
/-- two ropes of a list -/
theorem RSplit_ok {h : Heap} {v : V} {l : List Int} {i : Int} (w : WF h) (a : Rp h v l) :
    Does go 101 [v, .int .i64 i] h fun u h' => Fr [] h h' ∧ if 0 ≤ i ∧ i ≤ l.length then ∃ r1 r2, u = .tup [r1, r2, .int .i64 0] ∧ Rp h' r1 (l.take i.toNat) ∧ Rp h' r2 (l.drop i.toNat)
      else u = .tup [.agg [.nilp], .agg [.nilp], .int .i64 4] := by
  have a0 := a
  obtain ⟨t, p, rfl, a, rfl, f⟩ := a
  have f3 := f.2.2
  obtain ⟨h1, e_h1⟩ : ∃ h1, h1 = halloc h [pv p] := ⟨_, rfl⟩
  have F_h1 : Fr [] h h1 := e_h1 ▸ Fr.halloc w _
  have o_h1 : Own h1 h.next [pv p] := e_h1 ▸ Own.new w _
  obtain ⟨h2, e_h2⟩ : ∃ h2, h2 = halloc h1 [.nilp] := ⟨_, rfl⟩
  have F_h2 : Fr [] h1 h2 := e_h2 ▸ Fr.halloc F_h1.wf _
  have o_h2 : Own h2 h1.next [.nilp] := e_h2 ▸ Own.new F_h1.wf _
  obtain ⟨h3, e_h3⟩ : ∃ h3, h3 = halloc h2 [.nilp] := ⟨_, rfl⟩
  have F_h3 : Fr [] h2 h3 := e_h3 ▸ Fr.halloc F_h2.wf _
  have o_h3 : Own h3 h2.next [.nilp] := e_h3 ▸ Own.new F_h2.wf _
  have F13 := (F_h1.then F_h2).then F_h3
  have o1 := F_h3.get (F_h2.get o_h1)
  have o2 := F_h3.get o_h2
  have ne : h1.next ≠ h2.next := by rw [e_h2]; simp [halloc_next]
  have b1 : h.next ≤ h1.next := F_h1.next
  have b2 : h.next ≤ h2.next := (F_h1.then F_h2).next
  by_cases h0 : i < 0
  · refine does_fn g101 rfl ?_
    simp (disch := omega) only [fn101, evs, ↓reduceIte, Nat.reduceEqDiff, Nat.reduceAdd, Nat.reduceMul, Nat.reduceLeDiff, Nat.reduceLT, Int.reduceNeg, DF, eff, Nat.reduceSub, fwrap_i64, ← e_h1, ← e_h2, ← e_h3, o1.ld1, o1.ld, h0]
    refine store_step (c' := [.nilp]) F13.wf o2 rfl (by first | rfl | simp [onesB, V.cells, pv_one, *]) rfl ?_
    rintro h5 o_h5 F_h5 n_h5
    simp (disch := omega) only [evs, ↓reduceIte, Nat.reduceEqDiff, Nat.reduceAdd, Nat.reduceMul, Nat.reduceLeDiff, Nat.reduceLT, Int.reduceNeg, DF, eff, Nat.reduceSub, fwrap_i64]
    refine store_step (c' := [.nilp]) F_h5.wf (F_h5.own _ _ (by simp; omega) o_h3) rfl (by first | rfl | simp [onesB, V.cells, pv_one, *]) rfl ?_
    rintro h6 o_h6 F_h6 n_h6
    simp (disch := omega) only [evs, ↓reduceIte, Nat.reduceEqDiff, Nat.reduceAdd, Nat.reduceMul, Nat.reduceLeDiff, Nat.reduceLT, Int.reduceNeg, DF, eff, Nat.reduceSub, fwrap_i64, o_h6.ld, (F_h6.own _ _ (by simp; omega) o_h5).ld]
    rw [if_neg (by omega)]
    exact ⟨(F13.fresh F_h5 w b1).fresh F_h6 w b2, trivial⟩
  · refine does_fn g101 rfl ?_
    simp (disch := omega) only [fn101, evs, ↓reduceIte, Nat.reduceEqDiff, Nat.reduceAdd, Nat.reduceMul, Nat.reduceLeDiff, Nat.reduceLT, Int.reduceNeg, DF, eff, Nat.reduceSub, fwrap_i64, ← e_h1, ← e_h2, ← e_h3, o1.ld1, o1.ld, h0]
    refine OQ_does (Len_ok F13.wf (a0.fr F13)) ?_
    rintro _ h4 ⟨rfl, F4⟩
    by_cases hi : (t.list.length : Int) < i
    · simp (disch := omega) only [evs, ↓reduceIte, Nat.reduceEqDiff, Nat.reduceAdd, Nat.reduceMul, Nat.reduceLeDiff, Nat.reduceLT, Int.reduceNeg, DF, eff, Nat.reduceSub, fwrap_i64, hi, h0]
      refine store_step (c' := [.nilp]) F4.wf (F4.get o2) rfl (by first | rfl | simp [onesB, V.cells, pv_one, *]) rfl ?_
      rintro h5 o_h5 F_h5 n_h5
      simp (disch := omega) only [evs, ↓reduceIte, Nat.reduceEqDiff, Nat.reduceAdd, Nat.reduceMul, Nat.reduceLeDiff, Nat.reduceLT, Int.reduceNeg, DF, eff, Nat.reduceSub, fwrap_i64]
      refine store_step (c' := [.nilp]) F_h5.wf (F_h5.own _ _ (by simp; omega) (F4.get o_h3)) rfl (by first | rfl | simp [onesB, V.cells, pv_one, *]) rfl ?_
      rintro h6 o_h6 F_h6 n_h6
      simp (disch := omega) only [evs, ↓reduceIte, Nat.reduceEqDiff, Nat.reduceAdd, Nat.reduceMul, Nat.reduceLeDiff, Nat.reduceLT, Int.reduceNeg, DF, eff, Nat.reduceSub, fwrap_i64, o_h6.ld, (F_h6.own _ _ (by simp; omega) o_h5).ld]
      rw [if_neg (by omega)]
      exact ⟨((F13.then F4).fresh F_h5 w b1).fresh F_h6 w b2, trivial⟩
    · simp (disch := omega) only [evs, ↓reduceIte, Nat.reduceEqDiff, Nat.reduceAdd, Nat.reduceMul, Nat.reduceLeDiff, Nat.reduceLT, Int.reduceNeg, DF, eff, Nat.reduceSub, fwrap_i64, hi, h0, (F4.get o1).ld1]
      refine OQ_does (split_ok F4.wf (a.fr (F13.then F4)) f (by omega) (by omega)) ?_
      rintro _ h5 ⟨t1, t2, p1, p2, rfl, a1, a2, e1, e2, F5⟩
      simp (disch := omega) only [evs, ↓reduceIte, Nat.reduceEqDiff, Nat.reduceAdd, Nat.reduceMul, Nat.reduceLeDiff, Nat.reduceLT, Int.reduceNeg, DF, eff, Nat.reduceSub, fwrap_i64]
      have F45 := F4.then F5
      refine store_step (c' := [pv p1]) F5.wf (F45.get o2) rfl (by first | rfl | simp [onesB, V.cells, pv_one, *]) rfl ?_
      rintro h6 o_h6 F_h6 n_h6
      simp (disch := omega) only [evs, ↓reduceIte, Nat.reduceEqDiff, Nat.reduceAdd, Nat.reduceMul, Nat.reduceLeDiff, Nat.reduceLT, Int.reduceNeg, DF, eff, Nat.reduceSub, fwrap_i64]
      refine store_step (c' := [pv p2]) F_h6.wf (F_h6.own _ _ (by simp; omega) (F45.get o_h3)) rfl (by first | rfl | simp [onesB, V.cells, pv_one, *]) rfl ?_
      rintro h7 o_h7 F_h7 n_h7
      simp (disch := omega) only [evs, ↓reduceIte, Nat.reduceEqDiff, Nat.reduceAdd, Nat.reduceMul, Nat.reduceLeDiff, Nat.reduceLT, Int.reduceNeg, DF, eff, Nat.reduceSub, fwrap_i64, o_h7.ld, (F_h7.own _ _ (by simp; omega) o_h6).ld]
      rw [if_pos (by omega)]
      have c1 : ∀ {t : Tr} {p : Option Nat}, At h5 t p → At h7 t p := fun x => (x.frb F_h6 (F45.get o2) (by simp)).frb F_h7 (F_h6.own _ _ (by simp; omega) (F45.get o_h3)) (by simp)
      exact ⟨((F13.then F45).fresh F_h6 w b1).fresh F_h7 w b2, _, _, rfl, ⟨t1, p1, rfl, c1 a1, e1, f.sub (List.take_sublist _ _)⟩, ⟨t2, p2, rfl, c1 a2, e2, f.sub (List.drop_sublist _ _)⟩⟩
/-- the error of two ropes that are put together -/
def joinE (l m : List Int) : Int := if 4096 < l.length + m.length then 3 else if 4611686018427387904 - m.sum < l.sum then 13 else 0
theorem Join_ok {h : Heap} {v u : V} {l m : List Int} (w : WF h) (a : Rp h v l) (a' : Rp h u m) :
    Does go 103 [v, u] h fun z h' => Fr [] h h' ∧ ∃ c, z = .tup [.agg [c], .int .i64 (joinE l m)] ∧ c.one = true ∧ (joinE l m = 0 → Rp h' (.agg [c]) (l ++ m)) := by
  have a0 := a
  have a0' := a'
  obtain ⟨t, p, rfl, a, rfl, f⟩ := a
  obtain ⟨t', p', rfl, a', rfl, f'⟩ := a'
  have f3 := f.2.2
  have f3' := f'.2.2
  have n := f.nn
  have n' := f'.nn
  have f2 := f.2.1
  have f2' := f'.2.1
  obtain ⟨h1, e_h1⟩ : ∃ h1, h1 = halloc h [pv p] := ⟨_, rfl⟩
  have F_h1 : Fr [] h h1 := e_h1 ▸ Fr.halloc w _
  have o_h1 : Own h1 h.next [pv p] := e_h1 ▸ Own.new w _
  obtain ⟨h2, e_h2⟩ : ∃ h2, h2 = halloc h1 [pv p'] := ⟨_, rfl⟩
  have F_h2 : Fr [] h1 h2 := e_h2 ▸ Fr.halloc F_h1.wf _
  have o_h2 : Own h2 h1.next [pv p'] := e_h2 ▸ Own.new F_h1.wf _
  obtain ⟨h3, e_h3⟩ : ∃ h3, h3 = halloc h2 [.nilp] := ⟨_, rfl⟩
  have F_h3 : Fr [] h2 h3 := e_h3 ▸ Fr.halloc F_h2.wf _
  have o_h3 : Own h3 h2.next [.nilp] := e_h3 ▸ Own.new F_h2.wf _
  have F13 := (F_h1.then F_h2).then F_h3
  have o1 := F_h3.get (F_h2.get o_h1)
  have o2 := F_h3.get o_h2
  have b2 : h.next ≤ h2.next := (F_h1.then F_h2).next
  refine does_fn g103 rfl ?_
  simp (disch := omega) only [fn103, evs, ↓reduceIte, Nat.reduceEqDiff, Nat.reduceAdd, Nat.reduceMul, Nat.reduceLeDiff, Nat.reduceLT, Int.reduceNeg, DF, eff, Nat.reduceSub, fwrap_i64, ← e_h1, ← e_h2, ← e_h3, o1.ld1, o1.ld]
  refine OQ_does (Len_ok F13.wf (a0.fr F13)) ?_
  rintro _ h4 ⟨rfl, F4⟩
  simp (disch := omega) only [evs, ↓reduceIte, Nat.reduceEqDiff, Nat.reduceAdd, Nat.reduceMul, Nat.reduceLeDiff, Nat.reduceLT, Int.reduceNeg, DF, eff, Nat.reduceSub, fwrap_i64, (F4.get o2).ld]
  refine OQ_does (Len_ok F4.wf (a0'.fr (F13.then F4))) ?_
  rintro _ h5 ⟨rfl, F5⟩
  simp (disch := omega) only [evs, ↓reduceIte, Nat.reduceEqDiff, Nat.reduceAdd, Nat.reduceMul, Nat.reduceLeDiff, Nat.reduceLT, Int.reduceNeg, DF, eff, Nat.reduceSub, fwrap_i64, o1.ld, o2.ld, (F4.get o2).ld]
  have F45 := F4.then F5
  by_cases c1 : (4096 : Int) < t.list.length + t'.list.length
  · simp (disch := omega) only [evs, ↓reduceIte, Nat.reduceEqDiff, Nat.reduceAdd, Nat.reduceMul, Nat.reduceLeDiff, Nat.reduceLT, Int.reduceNeg, DF, eff, Nat.reduceSub, fwrap_i64, c1]
    refine store_step (c' := [.nilp]) F5.wf (F45.get o_h3) rfl (by first | rfl | simp [onesB, V.cells, pv_one, *]) rfl ?_
    rintro h6 o_h6 F_h6 n_h6
    simp (disch := omega) only [evs, ↓reduceIte, Nat.reduceEqDiff, Nat.reduceAdd, Nat.reduceMul, Nat.reduceLeDiff, Nat.reduceLT, Int.reduceNeg, DF, eff, Nat.reduceSub, fwrap_i64, o_h6.ld]
    have e : joinE t.list t'.list = 3 := by unfold joinE; rw [if_pos (by omega)]
    rw [e]
    exact ⟨(F13.then F45).fresh F_h6 w b2, _, rfl, rfl, by simp⟩
  · simp (disch := omega) only [evs, ↓reduceIte, Nat.reduceEqDiff, Nat.reduceAdd, Nat.reduceMul, Nat.reduceLeDiff, Nat.reduceLT, Int.reduceNeg, DF, eff, Nat.reduceSub, fwrap_i64, c1, (F45.get o1).ld]
    refine OQ_does (Total_ok F5.wf (a0.fr (F13.then F45))) ?_
    rintro _ h6 ⟨rfl, F6⟩
    have F46 := F45.then F6
    simp (disch := omega) only [evs, ↓reduceIte, Nat.reduceEqDiff, Nat.reduceAdd, Nat.reduceMul, Nat.reduceLeDiff, Nat.reduceLT, Int.reduceNeg, DF, eff, Nat.reduceSub, fwrap_i64, (F46.get o2).ld]
    refine OQ_does (Total_ok F6.wf (a0'.fr (F13.then F46))) ?_
    rintro _ h7 ⟨rfl, F7⟩
    have F47 := F46.then F7
    simp (disch := omega) only [evs, ↓reduceIte, Nat.reduceEqDiff, Nat.reduceAdd, Nat.reduceMul, Nat.reduceLeDiff, Nat.reduceLT, Int.reduceNeg, DF, eff, Nat.reduceSub, fwrap_i64, (F45.get o1).ld, (F46.get o2).ld, (F45.get o2).ld]
    by_cases c2 : 4611686018427387904 - t'.list.sum < t.list.sum
    · simp (disch := omega) only [evs, ↓reduceIte, Nat.reduceEqDiff, Nat.reduceAdd, Nat.reduceMul, Nat.reduceLeDiff, Nat.reduceLT, Int.reduceNeg, DF, eff, Nat.reduceSub, fwrap_i64, c2]
      refine store_step (c' := [.nilp]) F7.wf (F47.get o_h3) rfl (by first | rfl | simp [onesB, V.cells, pv_one, *]) rfl ?_
      rintro h8 o_h8 F_h8 n_h8
      simp (disch := omega) only [evs, ↓reduceIte, Nat.reduceEqDiff, Nat.reduceAdd, Nat.reduceMul, Nat.reduceLeDiff, Nat.reduceLT, Int.reduceNeg, DF, eff, Nat.reduceSub, fwrap_i64, o_h8.ld]
      have e : joinE t.list t'.list = 13 := by unfold joinE; rw [if_neg (by omega), if_pos c2]
      rw [e]
      exact ⟨(F13.then F47).fresh F_h8 w b2, _, rfl, rfl, by simp⟩
    · simp (disch := omega) only [evs, ↓reduceIte, Nat.reduceEqDiff, Nat.reduceAdd, Nat.reduceMul, Nat.reduceLeDiff, Nat.reduceLT, Int.reduceNeg, DF, eff, Nat.reduceSub, fwrap_i64, c2, (F47.get o1).ld1, (F47.get o2).ld1]
      have ff : Fit (t.list ++ t'.list) := ⟨fun x hx => by rcases List.mem_append.1 hx with y | y; exact f.1 x y; exact f'.1 x y, by rw [List.sum_append]; omega, by rw [List.length_append]; omega⟩
      refine OQ_does (put_ok F7.wf (a.fr (F13.then F47)) (a'.fr (F13.then F47)) ff) ?_
      rintro _ h8 ⟨t2, p2, rfl, a2, e2, F8⟩
      simp (disch := omega) only [evs, ↓reduceIte, Nat.reduceEqDiff, Nat.reduceAdd, Nat.reduceMul, Nat.reduceLeDiff, Nat.reduceLT, Int.reduceNeg, DF, eff, Nat.reduceSub, fwrap_i64]
      refine store_step (c' := [pv p2]) F8.wf ((F47.then F8).get o_h3) rfl (by first | rfl | simp [onesB, V.cells, pv_one, *]) rfl ?_
      rintro h9 o_h9 F_h9 n_h9
      simp (disch := omega) only [evs, ↓reduceIte, Nat.reduceEqDiff, Nat.reduceAdd, Nat.reduceMul, Nat.reduceLeDiff, Nat.reduceLT, Int.reduceNeg, DF, eff, Nat.reduceSub, fwrap_i64, o_h9.ld]
      have e : joinE t.list t'.list = 0 := by unfold joinE; rw [if_neg (by omega), if_neg c2]
      rw [e]
      exact ⟨(F13.then (F47.then F8)).fresh F_h9 w b2, _, rfl, pv_one _, fun _ => ⟨t2, p2, rfl, a2.frb F_h9 ((F47.then F8).get o_h3) (by simp), e2, ff⟩⟩
end Go.Ev.Lay

/- Ropes: Set, Insert, cut, Remove. -/
namespace Go.Ev.Lay
set_option maxRecDepth 4000
def setE (l : List Int) (i size : Int) : Int := if 0 ≤ i ∧ i < l.length then if size < 0 ∨ 2305843009213693952 < size then 12 else if 4611686018427387904 - (l.sum - l.getD i.toNat 0) < size then 13 else 0 else 4
theorem sum_set : ∀ (l : List Int) (i : Nat) (x : Int), i < l.length → (l.set i x).sum = l.sum - l.getD i 0 + x
  | y :: l, 0, x, _ => by simp; omega
  | y :: l, i + 1, x, h => by have := sum_set l i x (by simpa using h); simp at this ⊢; omega
theorem set_split : ∀ (l : List Int) (i : Nat) (x : Int), i < l.length → l.set i x = l.take i ++ x :: l.drop (i + 1) := by
  intro l i x h
  rw [List.set_eq_take_append_cons_drop, if_pos h]
theorem Fit.set {l : List Int} (f : Fit l) {i : Nat} {x : Int} (hi : i < l.length) (h0 : 0 ≤ x) (h1 : x ≤ 4611686018427387904 - (l.sum - l.getD i 0)) : Fit (l.set i x) := by
  refine ⟨fun y hy => ?_, ?_, ?_⟩
  · rcases List.mem_or_eq_of_mem_set hy with a | a
    · exact f.1 y a
    · omega
  · rw [sum_set _ _ _ hi]; omega
  · rw [List.length_set]; exact f.2.2
theorem getD_le : ∀ {l : List Int} {i : Nat}, (∀ x ∈ l, 0 ≤ x) → l.getD i 0 ≤ l.sum ∧ 0 ≤ l.getD i 0
  | [], i, _ => by simp
  | y :: l, 0, h => by have := sum_nn (l := l) fun z hz => h z (by simp [hz]); have := h y (by simp); simp; omega
  | y :: l, i + 1, h => by have := getD_le (l := l) (i := i) fun z hz => h z (by simp [hz]); have := h y (by simp); simp at *; omega
theorem RSet_ok {h : Heap} {v : V} {l : List Int} {i size : Int} (w : WF h) (a : Rp h v l) (s0 : -9223372036854775808 ≤ size) (s1 : size ≤ 9223372036854775807) :
    Does go 98 [v, .int .i64 i, .int .i64 size] h fun u h' => Fr [] h h' ∧ ∃ c, u = .tup [.agg [c], .int .i64 (setE l i size)] ∧ c.one = true ∧ (setE l i size = 0 → Rp h' (.agg [c]) (l.set i.toNat size)) := by
  have a0 := a
  obtain ⟨t, p, rfl, a, rfl, f⟩ := a
  have f3 := f.2.2
  have f2 := f.2.1
  have n := f.nn
  have gd := getD_le (i := i.toNat) f.1
  obtain ⟨h1, e_h1⟩ : ∃ h1, h1 = halloc h [pv p] := ⟨_, rfl⟩
  have F_h1 : Fr [] h h1 := e_h1 ▸ Fr.halloc w _
  have o_h1 : Own h1 h.next [pv p] := e_h1 ▸ Own.new w _
  obtain ⟨h2, e_h2⟩ : ∃ h2, h2 = halloc h1 [.nilp] := ⟨_, rfl⟩
  have F_h2 : Fr [] h1 h2 := e_h2 ▸ Fr.halloc F_h1.wf _
  have o_h2 : Own h2 h1.next [.nilp] := e_h2 ▸ Own.new F_h1.wf _
  have F12 := F_h1.then F_h2
  have o1 := F_h2.get o_h1
  have b1 : h.next ≤ h1.next := F_h1.next
  refine does_fn g98 rfl ?_
  simp (disch := omega) only [fn98, evs, ↓reduceIte, Nat.reduceEqDiff, Nat.reduceAdd, Nat.reduceMul, Nat.reduceLeDiff, Nat.reduceLT, Int.reduceNeg, DF, eff, Nat.reduceSub, fwrap_i64, ← e_h1, ← e_h2, o1.ld1, o1.ld]
  refine OQ_does (RAt_ok F12.wf (a0.fr F12)) ?_
  rintro _ h3 ⟨rfl, F3⟩
  by_cases hi : 0 ≤ i ∧ i < t.list.length
  · rw [if_pos hi]
    by_cases c1 : size < 0
    · simp (disch := omega) only [evs, ↓reduceIte, Nat.reduceEqDiff, Nat.reduceAdd, Nat.reduceMul, Nat.reduceLeDiff, Nat.reduceLT, Int.reduceNeg, DF, eff, Nat.reduceSub, fwrap_i64, c1]
      refine store_step (c' := [.nilp]) F3.wf (F3.get o_h2) rfl (by first | rfl | simp [onesB, V.cells, pv_one, *]) rfl ?_
      rintro h4 o_h4 F_h4 n_h4
      simp (disch := omega) only [evs, ↓reduceIte, Nat.reduceEqDiff, Nat.reduceAdd, Nat.reduceMul, Nat.reduceLeDiff, Nat.reduceLT, Int.reduceNeg, DF, eff, Nat.reduceSub, fwrap_i64, o_h4.ld]
      have e : setE t.list i size = 12 := by unfold setE; rw [if_pos hi, if_pos (.inl c1)]
      rw [e]
      exact ⟨(F12.then F3).fresh F_h4 w b1, _, rfl, rfl, by simp⟩
    · by_cases c2 : 2305843009213693952 < size
      · simp (disch := omega) only [evs, ↓reduceIte, Nat.reduceEqDiff, Nat.reduceAdd, Nat.reduceMul, Nat.reduceLeDiff, Nat.reduceLT, Int.reduceNeg, DF, eff, Nat.reduceSub, fwrap_i64, c1, c2]
        refine store_step (c' := [.nilp]) F3.wf (F3.get o_h2) rfl (by first | rfl | simp [onesB, V.cells, pv_one, *]) rfl ?_
        rintro h4 o_h4 F_h4 n_h4
        simp (disch := omega) only [evs, ↓reduceIte, Nat.reduceEqDiff, Nat.reduceAdd, Nat.reduceMul, Nat.reduceLeDiff, Nat.reduceLT, Int.reduceNeg, DF, eff, Nat.reduceSub, fwrap_i64, o_h4.ld]
        have e : setE t.list i size = 12 := by unfold setE; rw [if_pos hi, if_pos (.inr c2)]
        rw [e]
        exact ⟨(F12.then F3).fresh F_h4 w b1, _, rfl, rfl, by simp⟩
      · simp (disch := omega) only [evs, ↓reduceIte, Nat.reduceEqDiff, Nat.reduceAdd, Nat.reduceMul, Nat.reduceLeDiff, Nat.reduceLT, Int.reduceNeg, DF, eff, Nat.reduceSub, fwrap_i64, c1, c2, (F3.get o1).ld]
        refine OQ_does (Total_ok F3.wf (a0.fr (F12.then F3))) ?_
        rintro _ h4 ⟨rfl, F4⟩
        have F34 := F3.then F4
        by_cases c3 : 4611686018427387904 - (t.list.sum - t.list.getD i.toNat 0) < size
        · simp (disch := omega) only [evs, ↓reduceIte, Nat.reduceEqDiff, Nat.reduceAdd, Nat.reduceMul, Nat.reduceLeDiff, Nat.reduceLT, Int.reduceNeg, DF, eff, Nat.reduceSub, fwrap_i64, c3]
          refine store_step (c' := [.nilp]) F4.wf (F34.get o_h2) rfl (by first | rfl | simp [onesB, V.cells, pv_one, *]) rfl ?_
          rintro h5 o_h5 F_h5 n_h5
          simp (disch := omega) only [evs, ↓reduceIte, Nat.reduceEqDiff, Nat.reduceAdd, Nat.reduceMul, Nat.reduceLeDiff, Nat.reduceLT, Int.reduceNeg, DF, eff, Nat.reduceSub, fwrap_i64, o_h5.ld]
          have e : setE t.list i size = 13 := by unfold setE; rw [if_pos hi, if_neg (by omega), if_pos c3]
          rw [e]
          exact ⟨(F12.then F34).fresh F_h5 w b1, _, rfl, rfl, by simp⟩
        · simp (disch := omega) only [evs, ↓reduceIte, Nat.reduceEqDiff, Nat.reduceAdd, Nat.reduceMul, Nat.reduceLeDiff, Nat.reduceLT, Int.reduceNeg, DF, eff, Nat.reduceSub, fwrap_i64, c3, (F34.get o1).ld1]
          refine OQ_does (split_ok F4.wf (a.fr (F12.then F34)) f (by omega) (by omega)) ?_
          rintro _ h5 ⟨t1, t2, p1, p2, rfl, a1, a2, e1, e2, F5⟩
          simp (disch := omega) only [evs, ↓reduceIte, Nat.reduceEqDiff, Nat.reduceAdd, Nat.reduceMul, Nat.reduceLeDiff, Nat.reduceLT, Int.reduceNeg, DF, eff, Nat.reduceSub, fwrap_i64]
          refine OQ_does (split_ok F5.wf a2 (by rw [e2]; exact f.sub (List.drop_sublist _ _)) (by omega) (by omega)) ?_
          rintro _ h6 ⟨t3, t4, p3, p4, rfl, a3, a4, e3, e4, F6⟩
          simp (disch := omega) only [evs, ↓reduceIte, Nat.reduceEqDiff, Nat.reduceAdd, Nat.reduceMul, Nat.reduceLeDiff, Nat.reduceLT, Int.reduceNeg, DF, eff, Nat.reduceSub, fwrap_i64]
          have hin : i.toNat < t.list.length := by omega
          have ff := f.set hin (show 0 ≤ size by omega) (by omega)
          have el : t1.list ++ size :: t4.list = t.list.set i.toNat size := by
            rw [e1, e4, e2, set_split _ _ _ hin, show (1 : Int).toNat = 1 from rfl, List.drop_drop]
          refine OQ_does (joined_ok F6.wf (a1.fr F6) a4 (by rw [el]; exact ff)) ?_
          rintro _ h7 ⟨t5, p5, rfl, a5, e5, F7⟩
          simp (disch := omega) only [evs, ↓reduceIte, Nat.reduceEqDiff, Nat.reduceAdd, Nat.reduceMul, Nat.reduceLeDiff, Nat.reduceLT, Int.reduceNeg, DF, eff, Nat.reduceSub, fwrap_i64]
          have F37 := ((F34.then F5).then F6).then F7
          refine store_step (c' := [pv p5]) F7.wf (F37.get o_h2) rfl (by first | rfl | simp [onesB, V.cells, pv_one, *]) rfl ?_
          rintro h8 o_h8 F_h8 n_h8
          simp (disch := omega) only [evs, ↓reduceIte, Nat.reduceEqDiff, Nat.reduceAdd, Nat.reduceMul, Nat.reduceLeDiff, Nat.reduceLT, Int.reduceNeg, DF, eff, Nat.reduceSub, fwrap_i64, o_h8.ld]
          have e : setE t.list i size = 0 := by unfold setE; rw [if_pos hi, if_neg (by omega), if_neg c3]
          rw [e]
          exact ⟨(F12.then F37).fresh F_h8 w b1, _, rfl, pv_one _, fun _ => ⟨t5, p5, rfl, a5.frb F_h8 (F37.get o_h2) (by simp), e5.trans el, ff⟩⟩
  · rw [if_neg hi]
    simp (disch := omega) only [evs, ↓reduceIte, Nat.reduceEqDiff, Nat.reduceAdd, Nat.reduceMul, Nat.reduceLeDiff, Nat.reduceLT, Int.reduceNeg, DF, eff, Nat.reduceSub, fwrap_i64]
    simp (disch := omega) only [evs, ↓reduceIte, Nat.reduceEqDiff, Nat.reduceAdd, Nat.reduceMul, Nat.reduceLeDiff, Nat.reduceLT, Int.reduceNeg, DF, eff, Nat.reduceSub, show ¬ ((4 : Int) = 0) by omega]
    refine store_step (c' := [.nilp]) F3.wf (F3.get o_h2) rfl (by first | rfl | simp [onesB, V.cells, pv_one, *]) rfl ?_
    rintro h4 o_h4 F_h4 n_h4
    simp (disch := omega) only [evs, ↓reduceIte, Nat.reduceEqDiff, Nat.reduceAdd, Nat.reduceMul, Nat.reduceLeDiff, Nat.reduceLT, Int.reduceNeg, DF, eff, Nat.reduceSub, fwrap_i64, o_h4.ld]
    have e : setE t.list i size = 4 := by unfold setE; rw [if_neg hi]
    rw [e]
    exact ⟨(F12.then F3).fresh F_h4 w b1, _, rfl, rfl, by simp⟩
def ofE (m : List Int) : Int := if 4096 < m.length then 3 else chk m 0
def insE (l : List Int) (i : Int) (m : List Int) : Int := if 0 ≤ i ∧ i ≤ l.length then if ofE m = 0 then joinE l m else ofE m else 4
theorem RIns_ok {h : Heap} {v u : V} {l m : List Int} {i : Int} (w : WF h) (a : Rp h v l) (am : Ints h u m) (hm : m.length ≤ 1000000) :
    Does go 80 [v, .int .i64 i, u] h fun z h' => Fr [] h h' ∧ ∃ c, z = .tup [.agg [c], .int .i64 (insE l i m)] ∧ c.one = true ∧ (insE l i m = 0 → Rp h' (.agg [c]) (l.take i.toNat ++ m ++ l.drop i.toNat)) := by
  have a0 := a
  obtain ⟨t, p, rfl, a, rfl, f⟩ := a
  obtain ⟨h1, e_h1⟩ : ∃ h1, h1 = halloc h [pv p] := ⟨_, rfl⟩
  have F_h1 : Fr [] h h1 := e_h1 ▸ Fr.halloc w _
  have o_h1 : Own h1 h.next [pv p] := e_h1 ▸ Own.new w _
  obtain ⟨h2, e_h2⟩ : ∃ h2, h2 = halloc h1 [.nilp] := ⟨_, rfl⟩
  have F_h2 : Fr [] h1 h2 := e_h2 ▸ Fr.halloc F_h1.wf _
  have o_h2 : Own h2 h1.next [.nilp] := e_h2 ▸ Own.new F_h1.wf _
  have F12 := F_h1.then F_h2
  have o1 := F_h2.get o_h1
  have b1 : h.next ≤ h1.next := F_h1.next
  refine does_fn g80 rfl ?_
  simp (disch := omega) only [fn80, evs, ↓reduceIte, Nat.reduceEqDiff, Nat.reduceAdd, Nat.reduceMul, Nat.reduceLeDiff, Nat.reduceLT, Int.reduceNeg, DF, eff, Nat.reduceSub, fwrap_i64, ← e_h1, ← e_h2, o1.ld1, o1.ld]
  refine OQ_does (RSplit_ok F12.wf (a0.fr F12)) ?_
  rintro _ h3 ⟨F3, hu⟩
  have F13 := F12.then F3
  have b3 : h.next ≤ h3.next := F13.next
  by_cases hi : 0 ≤ i ∧ i ≤ t.list.length
  · rw [if_pos hi] at hu
    obtain ⟨r1, r2, rfl, ra, rb⟩ := hu
    obtain ⟨t1, p1, rfl, a1, e1, f1⟩ := ra
    obtain ⟨t2, p2, rfl, a2, e2, f2⟩ := rb
    obtain ⟨h4, e_h4⟩ : ∃ h4, h4 = halloc h3 [.nilp] := ⟨_, rfl⟩
    have F_h4 : Fr [] h3 h4 := e_h4 ▸ Fr.halloc F3.wf _
    have o_h4 : Own h4 h3.next [.nilp] := e_h4 ▸ Own.new F3.wf _
    obtain ⟨h5, e_h5⟩ : ∃ h5, h5 = halloc h4 [.nilp] := ⟨_, rfl⟩
    have F_h5 : Fr [] h4 h5 := e_h5 ▸ Fr.halloc F_h4.wf _
    have o_h5 : Own h5 h4.next [.nilp] := e_h5 ▸ Own.new F_h4.wf _
    have F45 := F_h4.then F_h5
    have ne : h3.next ≠ h4.next := by rw [e_h4]; simp [halloc_next]
    simp (disch := omega) only [evs, ↓reduceIte, Nat.reduceEqDiff, Nat.reduceAdd, Nat.reduceMul, Nat.reduceLeDiff, Nat.reduceLT, Int.reduceNeg, DF, eff, Nat.reduceSub, fwrap_i64, ← e_h4, ← e_h5]
    refine store_step (c' := [pv p1]) F45.wf (F_h5.get o_h4) rfl (by first | rfl | simp [onesB, V.cells, pv_one, *]) rfl ?_
    rintro h6 o_h6 F_h6 n_h6
    simp (disch := omega) only [evs, ↓reduceIte, Nat.reduceEqDiff, Nat.reduceAdd, Nat.reduceMul, Nat.reduceLeDiff, Nat.reduceLT, Int.reduceNeg, DF, eff, Nat.reduceSub, fwrap_i64]
    refine store_step (c' := [pv p2]) F_h6.wf (F_h6.own _ _ (by simp; omega) o_h5) rfl (by first | rfl | simp [onesB, V.cells, pv_one, *]) rfl ?_
    rintro h7 o_h7 F_h7 n_h7
    simp (disch := omega) only [evs, ↓reduceIte, Nat.reduceEqDiff, Nat.reduceAdd, Nat.reduceMul, Nat.reduceLeDiff, Nat.reduceLT, Int.reduceNeg, DF, eff, Nat.reduceSub, fwrap_i64]
    have oa := F_h7.own _ _ (by simp; omega) o_h6
    have b4 : h.next ≤ h4.next := Nat.le_trans b3 F_h4.next
    have F17 := ((F13.then F45).fresh F_h6 w b3).fresh F_h7 w b4
    have keep : ∀ {b : Nat} {c : List V}, Own h3 b c → Own h7 b c := fun o => F_h7.own _ _ (by have := o.lt F3.wf; have := F_h4.next; simp; omega) (F_h6.own _ _ (by have := o.lt F3.wf; simp; omega) (F45.get o))
    have F37 : Fr [] h3 h7 := ⟨by have := F45.next; omega, F_h7.wf, fun _ _ _ o => keep o, fun x c _ o => F_h7.pl _ _ (by have := o.own.lt F3.wf; have := F_h4.next; simp; omega) (F_h6.pl _ _ (by have := o.own.lt F3.wf; simp; omega) (F45.pl _ _ (by simp) o))⟩
    have or := F37.get (F3.get o_h2)
    have ob := F37.get (F3.get o1)
    refine OQ_does (ROf_ok F_h7.wf (am.fr F17) hm) ?_
    rintro _ h8 ⟨F8, c0, e, rfl, hc0, ee, hr⟩
    change e = ofE m at ee
    obtain ⟨h9, e_h9⟩ : ∃ h9, h9 = halloc h8 [.nilp] := ⟨_, rfl⟩
    have F_h9 : Fr [] h8 h9 := e_h9 ▸ Fr.halloc F8.wf _
    have o_h9 : Own h9 h8.next [.nilp] := e_h9 ▸ Own.new F8.wf _
    simp (disch := omega) only [evs, ↓reduceIte, Nat.reduceEqDiff, Nat.reduceAdd, Nat.reduceMul, Nat.reduceLeDiff, Nat.reduceLT, Int.reduceNeg, DF, eff, Nat.reduceSub, fwrap_i64, ← e_h9]
    refine store_step (c' := [c0]) F_h9.wf o_h9 rfl (by simp [onesB, V.cells, hc0]) rfl ?_
    rintro h10 o10 F10 n10
    have b8 : h.next ≤ h8.next := (F17.then F8).next
    have F910 : Fr [] h8 h10 := F_h9.fresh F10 F8.wf (Nat.le_refl _)
    have F110 := (F17.then F8).then F910
    have F710 := F8.then F910
    by_cases h0 : e = 0
    · have em : ofE m = 0 := by omega
      subst h0
      have hrr := hr rfl
      obtain ⟨t3, p3, q3, a3, e3, f3⟩ := hrr
      cases q3
      simp (disch := omega) only [evs, ↓reduceIte, Nat.reduceEqDiff, Nat.reduceAdd, Nat.reduceMul, Nat.reduceLeDiff, Nat.reduceLT, Int.reduceNeg, DF, eff, Nat.reduceSub, fwrap_i64, (F710.get ob).ld, o10.ld]
      refine OQ_does (Join_ok F910.wf (a0.fr F110) (Rp.fr (l := m) ⟨t3, p3, rfl, a3, e3, f3⟩ F910)) ?_
      rintro _ h11 ⟨F11, c', rfl, hc', hj⟩
      have ei : insE t.list i m = joinE t.list m := by unfold insE; rw [if_pos hi, if_pos em]
      rw [ei]
      obtain ⟨h12, e_h12⟩ : ∃ h12, h12 = halloc h11 [.nilp] := ⟨_, rfl⟩
      have F_h12 : Fr [] h11 h12 := e_h12 ▸ Fr.halloc F11.wf _
      have o_h12 : Own h12 h11.next [.nilp] := e_h12 ▸ Own.new F11.wf _
      simp (disch := omega) only [evs, ↓reduceIte, Nat.reduceEqDiff, Nat.reduceAdd, Nat.reduceMul, Nat.reduceLeDiff, Nat.reduceLT, Int.reduceNeg, DF, eff, Nat.reduceSub, fwrap_i64, ← e_h12]
      refine store_step (c' := [c']) F_h12.wf o_h12 rfl (by simp [onesB, V.cells, hc']) rfl ?_
      rintro h13 o13 F13' n13
      have F1113 : Fr [] h11 h13 := F_h12.fresh F13' F11.wf (Nat.le_refl _)
      have F713 := (F710.then F11).then F1113
      have F1013 := F11.then F1113
      by_cases h1 : joinE t.list m = 0
      · simp (disch := omega) only [evs, ↓reduceIte, Nat.reduceEqDiff, Nat.reduceAdd, Nat.reduceMul, Nat.reduceLeDiff, Nat.reduceLT, Int.reduceNeg, DF, eff, Nat.reduceSub, fwrap_i64, h1, (F713.get oa).ld1, (F1013.get o10).ld1]
        obtain ⟨t9, p9, q9, a9, e9, f9⟩ := hj h1
        have ff : Fit (t.list.take i.toNat ++ m ++ t.list.drop i.toNat) := by
          obtain ⟨x1, x2, x3⟩ := f9
          have hsum : (t.list.take i.toNat).sum + (t.list.drop i.toNat).sum = t.list.sum := by rw [← List.sum_append, List.take_append_drop]
          have hlen : (t.list.take i.toNat).length + (t.list.drop i.toNat).length = t.list.length := by rw [← List.length_append, List.take_append_drop]
          refine ⟨fun y hy => ?_, ?_, ?_⟩
          · refine x1 y ?_
            simp only [List.mem_append] at hy ⊢
            rcases hy with (y1 | y1) | y1
            · exact .inl (List.mem_of_mem_take y1)
            · exact .inr y1
            · exact .inl (List.mem_of_mem_drop y1)
          · simp only [List.sum_append] at x2 ⊢; omega
          · simp only [List.length_append] at x3 ⊢; omega
        have F313 := F37.then F713
        refine OQ_does (put_ok F1113.wf (a1.fr F313) (a3.fr (F910.then F1013)) (by rw [e1, e3]; exact ff.left)) ?_
        rintro _ h14 ⟨t4, p4, rfl, a4, e4, F14⟩
        simp (disch := omega) only [evs, ↓reduceIte, Nat.reduceEqDiff, Nat.reduceAdd, Nat.reduceMul, Nat.reduceLeDiff, Nat.reduceLT, Int.reduceNeg, DF, eff, Nat.reduceSub, fwrap_i64, ((F713.then F14).get o_h7).ld1]
        refine OQ_does (put_ok F14.wf a4 (a2.fr (F313.then F14)) (by rw [e4, e1, e3, e2]; exact ff)) ?_
        rintro _ h15 ⟨t5, p5, rfl, a5, e5, F15⟩
        simp (disch := omega) only [evs, ↓reduceIte, Nat.reduceEqDiff, Nat.reduceAdd, Nat.reduceMul, Nat.reduceLeDiff, Nat.reduceLT, Int.reduceNeg, DF, eff, Nat.reduceSub, fwrap_i64]
        have F715 := (F713.then F14).then F15
        refine store_step (c' := [pv p5]) F15.wf (F715.get or) rfl (by first | rfl | simp [onesB, V.cells, pv_one, *]) rfl ?_
        rintro h16 o_h16 F_h16 n_h16
        simp (disch := omega) only [evs, ↓reduceIte, Nat.reduceEqDiff, Nat.reduceAdd, Nat.reduceMul, Nat.reduceLeDiff, Nat.reduceLT, Int.reduceNeg, DF, eff, Nat.reduceSub, fwrap_i64, o_h16.ld, (F713.get oa).ld1, (F1013.get o10).ld1, (F713.get o_h7).ld1, ((F713.then F14).get o_h7).ld1]
        exact ⟨(F17.then F715).fresh F_h16 w b1, _, rfl, pv_one _, fun _ => ⟨t5, p5, rfl, a5.frb F_h16 (F715.get or) (by simp), by rw [e5, e4, e1, e3, e2], ff⟩⟩
      · simp (disch := omega) only [evs, ↓reduceIte, Nat.reduceEqDiff, Nat.reduceAdd, Nat.reduceMul, Nat.reduceLeDiff, Nat.reduceLT, Int.reduceNeg, DF, eff, Nat.reduceSub, fwrap_i64, h1]
        refine store_step (c' := [.nilp]) F1113.wf (F713.get or) rfl (by first | rfl | simp [onesB, V.cells, pv_one, *]) rfl ?_
        rintro h16 o_h16 F_h16 n_h16
        simp (disch := omega) only [evs, ↓reduceIte, Nat.reduceEqDiff, Nat.reduceAdd, Nat.reduceMul, Nat.reduceLeDiff, Nat.reduceLT, Int.reduceNeg, DF, eff, Nat.reduceSub, fwrap_i64, o_h16.ld]
        exact ⟨(F17.then F713).fresh F_h16 w b1, _, rfl, rfl, by simp [h1]⟩
    · simp (disch := omega) only [evs, ↓reduceIte, Nat.reduceEqDiff, Nat.reduceAdd, Nat.reduceMul, Nat.reduceLeDiff, Nat.reduceLT, Int.reduceNeg, DF, eff, Nat.reduceSub, fwrap_i64, h0]
      refine store_step (c' := [.nilp]) F910.wf (F710.get or) rfl (by first | rfl | simp [onesB, V.cells, pv_one, *]) rfl ?_
      rintro h16 o_h16 F_h16 n_h16
      simp (disch := omega) only [evs, ↓reduceIte, Nat.reduceEqDiff, Nat.reduceAdd, Nat.reduceMul, Nat.reduceLeDiff, Nat.reduceLT, Int.reduceNeg, DF, eff, Nat.reduceSub, fwrap_i64, o_h16.ld]
      have ei : insE t.list i m = e := by unfold insE; rw [if_pos hi, if_neg (by omega), ee]
      rw [ei]
      exact ⟨F110.fresh F_h16 w b1, _, rfl, rfl, by simp [h0]⟩
  · rw [if_neg hi] at hu
    subst hu
    obtain ⟨h4, e_h4⟩ : ∃ h4, h4 = halloc h3 [.nilp] := ⟨_, rfl⟩
    have F_h4 : Fr [] h3 h4 := e_h4 ▸ Fr.halloc F3.wf _
    have o_h4 : Own h4 h3.next [.nilp] := e_h4 ▸ Own.new F3.wf _
    obtain ⟨h5, e_h5⟩ : ∃ h5, h5 = halloc h4 [.nilp] := ⟨_, rfl⟩
    have F_h5 : Fr [] h4 h5 := e_h5 ▸ Fr.halloc F_h4.wf _
    have o_h5 : Own h5 h4.next [.nilp] := e_h5 ▸ Own.new F_h4.wf _
    have F45 := F_h4.then F_h5
    have ne : h3.next ≠ h4.next := by rw [e_h4]; simp [halloc_next]
    simp (disch := omega) only [evs, ↓reduceIte, Nat.reduceEqDiff, Nat.reduceAdd, Nat.reduceMul, Nat.reduceLeDiff, Nat.reduceLT, Int.reduceNeg, DF, eff, Nat.reduceSub, fwrap_i64, ← e_h4, ← e_h5]
    refine store_step (c' := [.nilp]) F45.wf (F_h5.get o_h4) rfl (by first | rfl | simp [onesB, V.cells, pv_one, *]) rfl ?_
    rintro h6 o_h6 F_h6 n_h6
    simp (disch := omega) only [evs, ↓reduceIte, Nat.reduceEqDiff, Nat.reduceAdd, Nat.reduceMul, Nat.reduceLeDiff, Nat.reduceLT, Int.reduceNeg, DF, eff, Nat.reduceSub, fwrap_i64]
    refine store_step (c' := [.nilp]) F_h6.wf (F_h6.own _ _ (by simp; omega) o_h5) rfl (by first | rfl | simp [onesB, V.cells, pv_one, *]) rfl ?_
    rintro h7 o_h7 F_h7 n_h7
    simp (disch := omega) only [evs, ↓reduceIte, Nat.reduceEqDiff, Nat.reduceAdd, Nat.reduceMul, Nat.reduceLeDiff, Nat.reduceLT, Int.reduceNeg, DF, eff, Nat.reduceSub, fwrap_i64]
    simp (disch := omega) only [evs, ↓reduceIte, Nat.reduceEqDiff, Nat.reduceAdd, Nat.reduceMul, Nat.reduceLeDiff, Nat.reduceLT, Int.reduceNeg, DF, eff, Nat.reduceSub, show ¬ ((4 : Int) = 0) by omega]
    have b4 : h.next ≤ h4.next := Nat.le_trans b3 F_h4.next
    have F17 := ((F13.then F45).fresh F_h6 w b3).fresh F_h7 w b4
    have keep : ∀ {b : Nat} {c : List V}, Own h3 b c → Own h7 b c := fun o => F_h7.own _ _ (by have := o.lt F3.wf; have := F_h4.next; simp; omega) (F_h6.own _ _ (by have := o.lt F3.wf; simp; omega) (F45.get o))
    have or := keep (F3.get o_h2)
    refine store_step (c' := [.nilp]) F_h7.wf or rfl (by first | rfl | simp [onesB, V.cells, pv_one, *]) rfl ?_
    rintro h16 o_h16 F_h16 n_h16
    simp (disch := omega) only [evs, ↓reduceIte, Nat.reduceEqDiff, Nat.reduceAdd, Nat.reduceMul, Nat.reduceLeDiff, Nat.reduceLT, Int.reduceNeg, DF, eff, Nat.reduceSub, fwrap_i64, o_h16.ld]
    have ei : insE t.list i m = 4 := by unfold insE; rw [if_neg hi]
    rw [ei]
    exact ⟨F17.fresh F_h16 w b1, _, rfl, rfl, by simp⟩
end Go.Ev.Lay

/- Spans: Check, Has, add, done. -/
namespace Go.Ev.Lay
set_option maxRecDepth 4000
def sp (s : Int × Int) : List V := [.int .i64 s.1, .int .i64 s.2]
theorem sp_len (s : Int × Int) : (sp s).length = 2 := rfl
theorem sp_ones (s : Int × Int) : onesB (sp s) = true := rfl
abbrev Sp (h : Heap) (v : V) (L : List (Int × Int)) : Prop := Recs sp 2 h v L
def SOK : List (Int × Int) → Int → Prop
  | [], _ => True
  | s :: L, last => last < s.1 ∧ 0 ≤ s.1 ∧ s.1 < s.2 ∧ s.2 ≤ 1073741824 ∧ SOK L s.2
def inS (L : List (Int × Int)) (i : Int) : Bool := L.any fun s => decide (s.1 ≤ i) && decide (i < s.2)
theorem Sp.ix {h : Heap} {v : V} {L : List (Int × Int)} (a : Sp h v L) (i : Nat) (h1 : (i : Int) < L.length) :
    ∃ b o s, aP (.ixs 2) [v, .int .i64 i] = some (.ptr b o) ∧ hload1 h b o = some (.int .i64 s.1) ∧ hload1 h b (o + 1) = some (.int .i64 s.2) ∧ hload h b o 2 = some [.int .i64 s.1, .int .i64 s.2] ∧ L[i]? = some s := by
  obtain ⟨b, o, s, e, g, g2, e3⟩ := Recs.ix sp_len a .i64 i (by omega) h1
  exact ⟨b, o, s, e, by simpa [sp] using g 0 (by omega), by simpa [sp] using g 1 (by omega), g2, by simpa using e3⟩
/-- spans that fill their block -/
def SpF (h : Heap) (v : V) (L : List (Int × Int)) : Prop := (v = .nils ∧ L = []) ∨ ∃ b, v = .slice b 0 L.length L.length ∧ Own h b (L.flatMap sp) ∧ 0 < L.length
theorem SpF.slc {h : Heap} {v : V} {L : List (Int × Int)} (a : SpF h v L) : Sp h v L := by
  rcases a with ⟨rfl, rfl⟩ | ⟨b, rfl, o, _⟩
  · exact Recs.nil
  · exact Sl.lit o (flat_len sp_len L)
theorem SpF.fr {h h' : Heap} {v : V} {L : List (Int × Int)} (a : SpF h v L) (f : Fr [] h h') : SpF h' v L := by
  rcases a with x | ⟨b, e, o, p⟩
  · exact .inl x
  · exact .inr ⟨b, e, f.get o, p⟩
theorem SpF.frb {h h' : Heap} {v : V} {L : List (Int × Int)} {b : Nat} {c : List V} (a : SpF h v L) (f : Fr [b] h h') (o : Own h b c) (hc : ∀ L : List (Int × Int), 0 < L.length → c ≠ L.flatMap sp) : SpF h' v L := by
  rcases a with x | ⟨q, e, oq, p⟩
  · exact .inl x
  · refine .inr ⟨q, e, f.own _ _ ?_ oq, p⟩
    simp only [List.mem_singleton]
    rintro rfl
    exact hc L p (o.uniq oq)
theorem SpF.one {h : Heap} {v : V} {L : List (Int × Int)} (a : SpF h v L) : v.one = true := by
  rcases a with ⟨rfl, _⟩ | ⟨b, rfl, _⟩ <;> rfl
theorem SpF.noint {h : Heap} {v : V} {L : List (Int × Int)} (a : SpF h v L) : ∀ k n, v ≠ .int k n := by
  rcases a with ⟨rfl, _⟩ | ⟨b, rfl, _⟩ <;> simp
theorem nosp {c : List V} (hc : ∀ x ∈ c, ∀ k n, x ≠ .int k n) : ∀ L : List (Int × Int), 0 < L.length → c ≠ L.flatMap Lay.sp := by
  intro L p e
  cases L with
  | nil => simp at p
  | cons s L => exact hc (.int .i64 s.1) (by rw [e]; simp [Lay.sp]) _ _ rfl
/-- a write to a block without numbers leaves the spans -/
theorem Sp.frb {h h' : Heap} {v : V} {L : List (Int × Int)} {b : Nat} {c c' : List V} (a : Sp h v L) (f : Fr [b] h h') (o : Own h b c) (o' : Own h' b c') (hc : ∀ x ∈ c, ∀ k n, x ≠ .int k n) (hl : c'.length = c.length) : Sp h' v L := by
  obtain ⟨e1, e2⟩ := a
  have main : ∀ (bb oo : Nat), (∃ d, Own h bb d ∧ oo + L.length * 2 ≤ d.length ∧ L.flatMap sp = (d.drop oo).take (L.length * 2)) → ∃ d, Own h' bb d ∧ oo + L.length * 2 ≤ d.length ∧ L.flatMap sp = (d.drop oo).take (L.length * 2) := by
    rintro bb oo ⟨d, od, h1, h2⟩
    by_cases e : bb = b
    · subst e
      have := od.uniq o
      subst this
      have hL : L = [] := by
        cases L with
        | nil => rfl
        | cons s L =>
          exfalso
          have hm : V.int .i64 s.1 ∈ d := by
            have : V.int .i64 s.1 ∈ (s :: L).flatMap sp := by simp [sp]
            rw [h2] at this
            exact List.mem_of_mem_drop (List.mem_of_mem_take this)
          exact hc _ hm _ _ rfl
      subst hL
      exact ⟨c', o', by simpa [hl] using h1, by simp⟩
    · exact ⟨d, f.own _ _ (by simpa using e) od, h1, h2⟩
  refine ⟨e1, ?_⟩
  cases v with
  | slice bb oo len cap => obtain ⟨x1, x2, x3⟩ := e2; exact ⟨x1, x2, main bb oo x3⟩
  | sliceU bb oo len cap => obtain ⟨x1, x2, x3⟩ := e2; exact ⟨x1, x2, main bb oo x3⟩
  | _ => exact e2
theorem SCheck_ok {h : Heap} {v : V} {L : List (Int × Int)} (w : WF h) (a : Sp h v L) (ok : SOK L (-1)) (hn : L.length ≤ 4096) :
    Does go 118 [v] h fun u h' => u = .int .i64 0 ∧ Fr [] h h' := by
  have hl : ¬ (4096 : Int) < L.length := by omega
  refine does_fn g118 rfl ?_
  simp (disch := omega) only [fn118, evs, ↓reduceIte, Nat.reduceEqDiff, Nat.reduceAdd, Nat.reduceMul, Nat.reduceLeDiff, Nat.reduceLT, Int.reduceNeg, DF, eff, Nat.reduceSub, fwrap_i64, a.len, hl]
  refine W_loop (fun k env hh => Fr [] h hh ∧ ∃ (i : Nat) (last : Int), env.get 11 = some (.int .i64 i) ∧ env.get 3 = some (.int .i64 last) ∧ env.get 9 = some v ∧ env.get 10 = some (.int .i64 L.length) ∧
      i ≤ L.length ∧ SOK (L.drop i) last ∧ k = L.length - i) L.length (by omega) ?_ ?_
  · exact ⟨Fr.refl w, 0, -1, (by simp [T.get_set]), (by simp [T.get_set]), (by simp [T.get_set]), (by simp [T.get_set]), by omega, ok, rfl⟩
  · rintro k env hh ⟨F, i, last, g11, g3, g9, g10, hi, ok, rfl⟩
    by_cases hlt : (i : Int) < L.length
    · obtain ⟨b, o, s, e1, e2, e3, e4, e5⟩ := Sp.ix (a.fr F) i hlt
      rw [drop_cons e5] at ok
      obtain ⟨k1, k2, k3, k4, k5⟩ := ok
      obtain ⟨h1, e_h1⟩ : ∃ h1, h1 = halloc hh [.int .i64 0, .int .i64 0] := ⟨_, rfl⟩
      have F_h1 : Fr [] hh h1 := e_h1 ▸ Fr.halloc F.wf _
      have o_h1 : Own h1 hh.next [.int .i64 0, .int .i64 0] := e_h1 ▸ Own.new F.wf _
      simp (disch := omega) only [evs, ↓reduceIte, Nat.reduceEqDiff, Nat.reduceAdd, Nat.reduceMul, Nat.reduceLeDiff, Nat.reduceLT, Int.reduceNeg, DF, eff, Nat.reduceSub, fwrap_i64, g11, g3, g9, g10, hlt, e1, e4, ← e_h1]
      refine store_step (c' := [.int .i64 s.1, .int .i64 s.2]) F_h1.wf o_h1 rfl (by first | rfl | simp [onesB, V.cells, pv_one, *]) rfl ?_
      rintro h2 o_h2 F_h2 n_h2
      simp (disch := omega) only [evs, ↓reduceIte, Nat.reduceEqDiff, Nat.reduceAdd, Nat.reduceMul, Nat.reduceLeDiff, Nat.reduceLT, Int.reduceNeg, DF, eff, Nat.reduceSub, fwrap_i64, g11, g3, g9, g10, o_h2.ld1, show ¬ s.1 < 0 by omega, show ¬ s.2 ≤ s.1 by omega, show ¬ 1073741824 < s.2 by omega, show ¬ s.1 ≤ last by omega]
      refine (roundQ_norm _ _ _).2 ⟨L.length - (i + 1), by omega, F.then (F_h1.fresh F_h2 F.wf (Nat.le_refl _)), i + 1, s.2, (by simp [T.get_set]), (by simp [T.get_set]), (by simp [T.get_set, g9]), (by simp [T.get_set, g10]), by omega, k5, rfl⟩
      done
    · simp (disch := omega) only [evs, ↓reduceIte, Nat.reduceEqDiff, Nat.reduceAdd, Nat.reduceMul, Nat.reduceLeDiff, Nat.reduceLT, Int.reduceNeg, DF, eff, Nat.reduceSub, fwrap_i64, g11, g3, g9, g10, hlt]
      exact F
theorem Has1_ok {h : Heap} {s : Int × Int} {i : Int} {bi : Nat} (w : WF h) (oi : Own h bi [.int .i64 i]) :
    Does go 124 [.agg [.int .i64 s.1, .int .i64 s.2], .ptr bi 0] h fun u h' => u = .bool (decide (s.1 ≤ i) && decide (i < s.2)) ∧ Fr [] h h' := by
  obtain ⟨h1, e_h1⟩ : ∃ h1, h1 = halloc h [.int .i64 s.1, .int .i64 s.2] := ⟨_, rfl⟩
  have F_h1 : Fr [] h h1 := e_h1 ▸ Fr.halloc w _
  have o_h1 : Own h1 h.next [.int .i64 s.1, .int .i64 s.2] := e_h1 ▸ Own.new w _
  by_cases c : s.1 ≤ i
  · refine does_fn g124 rfl ?_
    simp (disch := omega) only [fn124, evs, ↓reduceIte, Nat.reduceEqDiff, Nat.reduceAdd, Nat.reduceMul, Nat.reduceLeDiff, Nat.reduceLT, Int.reduceNeg, DF, eff, Nat.reduceSub, fwrap_i64, ← e_h1, o_h1.ld1, (F_h1.get oi).ld1, c]
    exact ⟨by simp, F_h1⟩
  · refine does_fn g124 rfl ?_
    simp (disch := omega) only [fn124, evs, ↓reduceIte, Nat.reduceEqDiff, Nat.reduceAdd, Nat.reduceMul, Nat.reduceLeDiff, Nat.reduceLT, Int.reduceNeg, DF, eff, Nat.reduceSub, fwrap_i64, ← e_h1, o_h1.ld1, (F_h1.get oi).ld1, c]
    exact ⟨by simp, F_h1⟩
theorem inS_drop {L : List (Int × Int)} {i : Nat} {s : Int × Int} (e : L[i]? = some s) (x : Int) : inS (L.drop i) x = ((decide (s.1 ≤ x) && decide (x < s.2)) || inS (L.drop (i + 1)) x) := by
  rw [drop_cons e]; rfl
theorem IndexF_ok {h : Heap} {v : V} {L : List (Int × Int)} {x : Int} {bi : Nat} (w : WF h) (a : Sp h v L) (oi : Own h bi [.int .i64 x]) (hn : L.length ≤ 4096) :
    Does go 130 [v, .func (.func 124) [] [.ptr bi 0]] h fun u h' => ∃ r : Int, u = .int .i64 r ∧ (decide (0 ≤ r) = inS L x) ∧ Fr [] h h' := by
  refine does_fn g130 rfl ?_
  simp (disch := omega) only [fn130, evs, ↓reduceIte, Nat.reduceEqDiff, Nat.reduceAdd, Nat.reduceMul, Nat.reduceLeDiff, Nat.reduceLT, Int.reduceNeg, DF, eff, Nat.reduceSub, fwrap_i64, a.len]
  refine W_loop (fun k env hh => Fr [] h hh ∧ ∃ (i : Nat), env.get 8 = some (.int .i64 i) ∧ env.get 7 = some (.int .i64 L.length) ∧ env.get 0 = some v ∧ env.get 1 = some (.func (.func 124) [] [.ptr bi 0]) ∧
      i ≤ L.length ∧ inS (L.drop i) x = inS L x ∧ k = L.length - i) L.length (by omega) ?_ ?_
  · exact ⟨Fr.refl w, 0, (by simp [T.get_set]), (by simp [T.get_set]), (by simp [T.get_set]), (by simp [T.get_set]), by omega, rfl, rfl⟩
  · rintro k env hh ⟨F, i, g8, g7, g0, g1, hi, e, rfl⟩
    by_cases hlt : (i : Int) < L.length
    · obtain ⟨b, o, s, e1, e2, e3, e4, e5⟩ := Sp.ix (a.fr F) i hlt
      rw [inS_drop e5] at e
      simp (disch := omega) only [evs, ↓reduceIte, Nat.reduceEqDiff, Nat.reduceAdd, Nat.reduceMul, Nat.reduceLeDiff, Nat.reduceLT, Int.reduceNeg, DF, eff, Nat.reduceSub, fwrap_i64, g8, g7, g0, g1, hlt, e1, e4]
      refine OQ_does (Has1_ok F.wf (F.get oi)) ?_
      rintro _ h1 ⟨rfl, F1⟩
      by_cases c : (decide (s.1 ≤ x) && decide (x < s.2)) = true
      · simp (disch := omega) only [evs, ↓reduceIte, Nat.reduceEqDiff, Nat.reduceAdd, Nat.reduceMul, Nat.reduceLeDiff, Nat.reduceLT, Int.reduceNeg, DF, eff, Nat.reduceSub, fwrap_i64, c, g8, g7, g0, g1]
        rw [c] at e
        exact ⟨i, rfl, by rw [← e]; simp, F.then F1⟩
      · rw [Bool.not_eq_true] at c
        simp (disch := omega) only [evs, ↓reduceIte, Nat.reduceEqDiff, Nat.reduceAdd, Nat.reduceMul, Nat.reduceLeDiff, Nat.reduceLT, Int.reduceNeg, DF, eff, Nat.reduceSub, fwrap_i64, c, g8, g7, g0, g1]
        rw [c] at e
        refine (roundQ_norm _ _ _).2 ⟨L.length - (i + 1), by omega, F.then F1, i + 1, (by simp [T.get_set]), (by simp [T.get_set, g7]), (by simp [T.get_set, g0]), (by simp [T.get_set, g1]), by omega, by simpa using e, rfl⟩
        done
    · simp (disch := omega) only [evs, ↓reduceIte, Nat.reduceEqDiff, Nat.reduceAdd, Nat.reduceMul, Nat.reduceLeDiff, Nat.reduceLT, Int.reduceNeg, DF, eff, Nat.reduceSub, fwrap_i64, g8, g7, g0, g1, hlt]
      rw [List.drop_of_length_le (by omega)] at e
      exact ⟨-1, rfl, by rw [← e]; rfl, F⟩
theorem Has_ok {h : Heap} {v : V} {L : List (Int × Int)} {x : Int} (w : WF h) (a : Sp h v L) (ok : SOK L (-1)) (hn : L.length ≤ 4096) :
    Does go 112 [v, .int .i64 x] h fun u h' => u = .bool (inS L x) ∧ Fr [] h h' := by
  obtain ⟨h1, e_h1⟩ : ∃ h1, h1 = halloc h [.int .i64 x] := ⟨_, rfl⟩
  have F_h1 : Fr [] h h1 := e_h1 ▸ Fr.halloc w _
  have o_h1 : Own h1 h.next [.int .i64 x] := e_h1 ▸ Own.new w _
  refine does_fn g112 rfl ?_
  simp (disch := omega) only [fn112, evs, ↓reduceIte, Nat.reduceEqDiff, Nat.reduceAdd, Nat.reduceMul, Nat.reduceLeDiff, Nat.reduceLT, Int.reduceNeg, DF, eff, Nat.reduceSub, fwrap_i64, ← e_h1]
  refine OQ_does (SCheck_ok F_h1.wf (a.fr F_h1) ok hn) ?_
  rintro _ h2 ⟨rfl, F2⟩
  simp (disch := omega) only [evs, ↓reduceIte, Nat.reduceEqDiff, Nat.reduceAdd, Nat.reduceMul, Nat.reduceLeDiff, Nat.reduceLT, Int.reduceNeg, DF, eff, Nat.reduceSub, fwrap_i64]
  have F12 := F_h1.then F2
  refine OQ_does (?_ : Does go 123 _ _ (fun u h' => u = .bool (inS L x) ∧ Fr [] h2 h')) ?_
  · refine does_fn g123 rfl ?_
    simp (disch := omega) only [fn123, evs, ↓reduceIte, Nat.reduceEqDiff, Nat.reduceAdd, Nat.reduceMul, Nat.reduceLeDiff, Nat.reduceLT, Int.reduceNeg, DF, eff, Nat.reduceSub, fwrap_i64]
    refine OQ_does (IndexF_ok F2.wf (a.fr F12) (F2.get o_h1) hn) ?_
    rintro _ h3 ⟨r, rfl, e, F3⟩
    simp (disch := omega) only [evs, ↓reduceIte, Nat.reduceEqDiff, Nat.reduceAdd, Nat.reduceMul, Nat.reduceLeDiff, Nat.reduceLT, Int.reduceNeg, DF, eff, Nat.reduceSub, fwrap_i64]
    exact ⟨by rw [e], F3⟩
  · rintro _ h3 ⟨rfl, F3⟩
    simp (disch := omega) only [evs, ↓reduceIte, Nat.reduceEqDiff, Nat.reduceAdd, Nat.reduceMul, Nat.reduceLeDiff, Nat.reduceLT, Int.reduceNeg, DF, eff, Nat.reduceSub, fwrap_i64]
    exact F12.then F3
end Go.Ev.Lay

/- Spans: the plain law; add, done. -/
namespace Go.Ev.Lay
set_option maxRecDepth 4000
def addS (L : List (Int × Int)) (a b : Int) : List (Int × Int) := if b ≤ a then L else match L.getLast? with
  | some s => if a ≤ s.2 then L.dropLast ++ [(s.1, max s.2 b)] else L ++ [(a, b)]
  | none => [(a, b)]
theorem inS_app (L M : List (Int × Int)) (x : Int) : inS (L ++ M) x = (inS L x || inS M x) := by simp [inS]
theorem inS_cons (s : Int × Int) (M : List (Int × Int)) (x : Int) : inS (s :: M) x = ((decide (s.1 ≤ x) && decide (x < s.2)) || inS M x) := rfl
theorem inS_nil (x : Int) : inS [] x = false := rfl
theorem SOK.gt : ∀ {L : List (Int × Int)} {b : Int}, SOK L b → ∀ s ∈ L, b < s.1 ∧ 0 ≤ s.1 ∧ s.1 < s.2 ∧ s.2 ≤ 1073741824
  | t :: L, b, ⟨h1, h2, h3, h4, h5⟩, s, hs => by
    rcases List.mem_cons.1 hs with rfl | hs
    · exact ⟨h1, h2, h3, h4⟩
    · have := SOK.gt h5 s hs; omega
theorem SOK.below {L : List (Int × Int)} {b x : Int} (ok : SOK L b) (h : x ≤ b) : inS L x = false := by
  simp only [inS, List.any_eq_false, Bool.and_eq_true, decide_eq_true_eq]
  intro s hs
  have := ok.gt s hs
  omega
theorem SOK.app : ∀ {L M : List (Int × Int)} {b c : Int}, SOK L b → SOK M c → (∀ s ∈ L, s.2 ≤ c) → b ≤ c → SOK (L ++ M) b
  | [], M, b, c, _, hm, _, h => by
    cases M with
    | nil => trivial
    | cons s M => obtain ⟨a1, a2⟩ := hm; exact ⟨by omega, a2⟩
  | s :: L, M, b, c, ⟨h1, h2, h3, h4, h5⟩, hm, hb, h => ⟨h1, h2, h3, h4, SOK.app h5 hm (fun t ht => hb t (by simp [ht])) (hb s (by simp))⟩
theorem SOK.left : ∀ {L M : List (Int × Int)} {b : Int}, SOK (L ++ M) b → SOK L b
  | [], _, _, _ => trivial
  | s :: L, M, b, ⟨h1, h2, h3, h4, h5⟩ => ⟨h1, h2, h3, h4, SOK.left h5⟩
theorem SOK.drop : ∀ {L : List (Int × Int)} {b : Int} (i : Nat), SOK L b → ∃ c, SOK (L.drop i) c
  | [], b, i, h => by simp; exact ⟨b, trivial⟩
  | s :: L, b, 0, h => ⟨b, h⟩
  | s :: L, b, i + 1, ⟨_, _, _, _, h⟩ => SOK.drop i h
theorem SOK.last2 : ∀ {L : List (Int × Int)} {s : Int × Int} {b : Int}, SOK (L ++ [s]) b → (∀ t ∈ L, t.2 < s.1) ∧ b < s.1 ∧ 0 ≤ s.1 ∧ s.1 < s.2 ∧ s.2 ≤ 1073741824
  | [], s, b, ⟨h1, h2, h3, h4, _⟩ => ⟨by simp, h1, h2, h3, h4⟩
  | t :: L, s, b, ⟨h1, h2, h3, h4, h5⟩ => by
    obtain ⟨a, c, d⟩ := SOK.last2 h5
    exact ⟨by simp only [List.mem_cons, forall_eq_or_imp]; exact ⟨c, a⟩, by omega, d⟩
theorem SOK.count : ∀ {L : List (Int × Int)} {b : Int}, SOK L b → ∀ m, (∀ s ∈ L, s.2 ≤ m) → b ≤ m + 0 → 2 * (L.length : Int) ≤ m - b
  | [], b, _, m, _, h => by simp; omega
  | s :: L, b, ⟨h1, h2, h3, h4, h5⟩, m, hm, h => by
    have := SOK.count h5 m (fun t ht => hm t (by simp [ht])) (by have := hm s (by simp); omega)
    simp only [List.length_cons]; omega
theorem addS_spec {L : List (Int × Int)} {a b : Int} (ok : SOK L (-1)) (hl : a < b → ∀ s ∈ L, s.2 ≤ a) (h0 : 0 ≤ a) (hb : b ≤ 1073741824) :
    SOK (addS L a b) (-1) ∧ (∀ x, inS (addS L a b) x = (inS L x || (decide (a ≤ x) && decide (x < b)))) ∧ (∀ m, (∀ s ∈ L, s.2 ≤ m) → (a < b → b ≤ m) → ∀ s ∈ addS L a b, s.2 ≤ m) := by
  unfold addS
  by_cases h : b ≤ a
  · rw [if_pos h]
    refine ⟨ok, fun x => ?_, fun m hm _ => hm⟩
    have : (decide (a ≤ x) && decide (x < b)) = false := by simp; omega
    rw [this, Bool.or_false]
  · rw [if_neg h]
    have hl := hl (by omega)
    rcases List.eq_nil_or_concat L with rfl | ⟨L', s, rfl⟩
    · simp only [List.getLast?_nil]
      refine ⟨⟨by simp; omega, by simp; omega, by simp; omega, hb, trivial⟩, fun x => by simp [inS], fun m _ hm s hs => ?_⟩
      simp at hs; subst hs; exact hm (by omega)
    · simp only [List.concat_eq_append] at ok hl ⊢
      simp only [List.getLast?_append, List.getLast?_singleton, Option.some_or, List.dropLast_concat]
      obtain ⟨k1, k2, k3, k4, k5⟩ := ok.last2
      have hs := hl s (by simp)
      by_cases hc : a ≤ s.2
      · rw [if_pos hc]
        have e : max s.2 b = b := by omega
        rw [e]
        refine ⟨SOK.app (c := s.1 - 1) ok.left ⟨by simp; omega, k3, by simp; omega, hb, trivial⟩ (fun t ht => by have := k1 t ht; omega) (by omega), fun x => ?_, fun m hm hbm t ht => ?_⟩
        · simp only [inS_app, inS_cons, inS_nil, Bool.or_false, Bool.or_assoc]
          congr 1
          rw [Bool.eq_iff_iff]
          simp
          omega
        · rcases List.mem_append.1 ht with y | y
          · exact hm t (by simp [y])
          · simp at y; subst y; exact hbm (by omega)
      · rw [if_neg hc]
        refine ⟨SOK.app (c := a - 1) ok ⟨by simp; omega, h0, by simp; omega, hb, trivial⟩ (fun t ht => ?_) (by omega), fun x => ?_, fun m hm hbm t ht => ?_⟩
        · rcases List.mem_append.1 ht with y | y
          · have := k1 t y; omega
          · simp at y; subst y; omega
        · simp only [inS_app, inS_cons, inS_nil, Bool.or_false]
        · rcases List.mem_append.1 ht with y | y
          · exact hm t y
          · simp at y; subst y; exact hbm (by omega)
theorem add_ok {h : Heap} {B : Nat} {v : V} {L : List (Int × Int)} {a b : Int} (w : WF h) (g : GRecs sp 2 h B v L) (hB : B ≤ h.next) (hn : (L.length : Int) ≤ 1073741824) :
    Does go 106 [v, .int .i64 a, .int .i64 b] h fun u h' => GRecs sp 2 h' B u (addS L a b) ∧ Fr (vb v) h h' := by
  have s := g.recs sp_len (by omega)
  by_cases h1 : b ≤ a
  · refine does_fn g106 rfl ?_
    simp (disch := omega) only [fn106, evs, ↓reduceIte, Nat.reduceEqDiff, Nat.reduceAdd, Nat.reduceMul, Nat.reduceLeDiff, Nat.reduceLT, Int.reduceNeg, DF, eff, Nat.reduceSub, fwrap_i64, s.len, h1]
    unfold addS; rw [if_pos h1]
    exact ⟨g, Fr.refl w⟩
  · rcases List.eq_nil_or_concat L with rfl | ⟨L', t, rfl⟩
    · obtain ⟨h1', e_h1'⟩ : ∃ h1', h1' = halloc h (sp (a, b)) := ⟨_, rfl⟩
      have F_h1' : Fr [] h h1' := e_h1' ▸ Fr.halloc w _
      have o_h1' : Own h1' h.next (sp (a, b)) := e_h1' ▸ Own.new w _
      have e_h2 : halloc h [.int .i64 a, .int .i64 b] = h1' := e_h1'.symm
      have hz : aP .lenS [v] = some (.int .i64 0) := s.len
      refine does_fn g106 rfl ?_
      simp (disch := omega) only [fn106, evs, ↓reduceIte, Nat.reduceEqDiff, Nat.reduceAdd, Nat.reduceMul, Nat.reduceLeDiff, Nat.reduceLT, Int.reduceNeg, DF, eff, Nat.reduceSub, fwrap_i64, hz, h1, show ¬ (0 : Int) < 0 by omega, e_h2]
      refine GRecs.append (x := (a, b)) F_h1'.wf (g.fr F_h1') sp_len (sp_ones _) (by omega) o_h1' (Nat.le_trans hB F_h1'.next) (by simp) ?_
      intro v' h' g' u
      simp (disch := omega) only [evs, ↓reduceIte, Nat.reduceEqDiff, Nat.reduceAdd, Nat.reduceMul, Nat.reduceLeDiff, Nat.reduceLT, Int.reduceNeg, DF, eff, Nat.reduceSub, fwrap_i64]
      unfold addS; rw [if_neg h1]
      exact ⟨g', F_h1'.trans u w (by simp) (fun x hx => .inl hx)⟩
    · simp only [List.concat_eq_append] at g s hn ⊢
      have hlen : ((L' ++ [t]).length : Int) = L'.length + 1 := by simp
      obtain ⟨bb, oo, x, e1, e2, e3, e4, e5⟩ := Sp.ix s L'.length (by omega)
      have hx : x = t := by simpa using e5.symm
      subst hx
      have pos : (0 : Int) < L'.length + 1 := by omega
      have es : (L'.length : Int) + 1 - 1 = L'.length := by omega
      by_cases h2 : a ≤ x.2
      · rcases g with ⟨rfl, gg⟩ | ⟨b0, n0, rfl, hl0, hn0, hB0, og⟩
        · have := congrArg List.length gg; rw [flat_len sp_len] at this; simp at this
        · rw [flat_len sp_len] at hl0
          have e0 : n0 = L'.length + 1 := by simp at hl0; omega
          subst e0
          have e1' := aP_ixU 2 b0 0 (L'.length + 1) 2 .i64 L'.length (by omega) (by omega)
          rw [e1] at e1'
          simp only [Option.some.injEq, V.ptr.injEq, Int.toNat_natCast] at e1'
          obtain ⟨rfl, rfl⟩ := e1'
          simp only [Nat.zero_add] at e1 e3
          refine does_fn g106 rfl ?_
          simp (disch := omega) only [fn106, evs, ↓reduceIte, Nat.reduceEqDiff, Nat.reduceAdd, Nat.reduceMul, Nat.reduceLeDiff, Nat.reduceLT, Int.reduceNeg, DF, eff, Nat.reduceSub, fwrap_i64, s.len, h1, hlen, pos, es, e1, e3, h2]
          have hfl : (L' ++ [x]).flatMap sp = L'.flatMap sp ++ [.int .i64 x.1, .int .i64 x.2] := by simp [sp]
          rw [hfl] at og
          have hu : updO (L'.flatMap sp ++ [.int .i64 x.1, .int .i64 x.2]) (L'.length * 2 + 1) [.int .i64 (max x.2 b)] = some (L'.flatMap sp ++ [.int .i64 x.1, .int .i64 (max x.2 b)]) := by
            have hlf : (L'.flatMap sp).length = L'.length * 2 := flat_len sp_len L'
            rw [updO_at _ _ _ (by simp [hlf])]
            congr 1
            rw [List.take_append, List.take_of_length_le (by omega), List.drop_of_length_le (by simp [hlf])]
            rw [hlf, show L'.length * 2 + 1 - L'.length * 2 = 1 by omega]
            simp
          refine store_step (c' := _) (v := .int .i64 (max x.2 b)) (o := L'.length * 2 + 1) w og rfl rfl hu ?_
          intro h' o' F' n'
          simp (disch := omega) only [evs, ↓reduceIte, Nat.reduceEqDiff, Nat.reduceAdd, Nat.reduceMul, Nat.reduceLeDiff, Nat.reduceLT, Int.reduceNeg, DF, eff, Nat.reduceSub, fwrap_i64]
          unfold addS
          rw [if_neg h1]
          simp only [List.getLast?_append, List.getLast?_singleton, Option.some_or, List.dropLast_concat, if_pos h2]
          refine ⟨.inr ⟨bb, L'.length + 1, rfl, by rw [flat_len sp_len]; simp, by omega, hB0, ?_⟩, F'⟩
          rw [List.flatMap_append]
          simpa [sp] using o'
      · obtain ⟨h1', e_h1'⟩ : ∃ h1', h1' = halloc h (sp (a, b)) := ⟨_, rfl⟩
        have F_h1' : Fr [] h h1' := e_h1' ▸ Fr.halloc w _
        have o_h1' : Own h1' h.next (sp (a, b)) := e_h1' ▸ Own.new w _
        have e_h2 : halloc h [.int .i64 a, .int .i64 b] = h1' := e_h1'.symm
        refine does_fn g106 rfl ?_
        simp (disch := omega) only [fn106, evs, ↓reduceIte, Nat.reduceEqDiff, Nat.reduceAdd, Nat.reduceMul, Nat.reduceLeDiff, Nat.reduceLT, Int.reduceNeg, DF, eff, Nat.reduceSub, fwrap_i64, s.len, h1, hlen, pos, es, e1, e3, h2, e_h2]
        refine GRecs.append (x := (a, b)) F_h1'.wf (g.fr F_h1') sp_len (sp_ones _) (by omega) o_h1' (Nat.le_trans hB F_h1'.next) (by simp; omega) ?_
        intro v' h' g' u
        simp (disch := omega) only [evs, ↓reduceIte, Nat.reduceEqDiff, Nat.reduceAdd, Nat.reduceMul, Nat.reduceLeDiff, Nat.reduceLT, Int.reduceNeg, DF, eff, Nat.reduceSub, fwrap_i64]
        unfold addS; rw [if_neg h1]
        simp only [List.getLast?_append, List.getLast?_singleton, Option.some_or, if_neg h2]
        exact ⟨g', F_h1'.trans u w (by simp) (fun x hx => .inl hx)⟩
theorem Clip_ok {h : Heap} {B : Nat} {v : V} {L : List (Int × Int)} (g : GRecs sp 2 h B v L) : Does go 119 [v] h fun u h' => SpF h u L ∧ u.one = true ∧ h' = h := by
  have s := g.recs sp_len (by omega)
  rcases g with ⟨rfl, gg⟩ | ⟨b0, n0, rfl, hl0, hn0, hB0, og⟩
  · have e : aP (.sl none 2 false true true) [.nils, .int .i64 (L.length : Int), .int .i64 (L.length : Int)] = some .nils := by
      have : L = [] := by have := congrArg List.length gg; rw [flat_len sp_len, List.length_nil] at this; exact List.length_eq_zero_iff.1 (by omega)
      subst this; rfl
    have hz : aP .lenS [.nils] = some (.int .i64 (L.length : Int)) := s.len
    refine does_fn g119 rfl ?_
    simp (disch := omega) only [fn119, W_ret, W_seq, W_ops, thenQ_norm, thenQ_ret, WS_nil, WS_l, WS_v, op_p, PQ_some, VQ_some, kl_app, kv_app, evO_l, evO_v, evO_c, evOs_nil, evOs_c, consO_some, nth_zero, nth_succ, bindA_nil, bindA_cons, T.get_set, RetQ_ret, RsQ_some, evRs_nil, evRs_t, packV_one, aP_mv, hz, e, reduceIte, Nat.reduceEqDiff, Nat.reduceAdd]
    exact ⟨.inl ⟨rfl, by have := congrArg List.length gg; rw [flat_len sp_len, List.length_nil] at this; exact List.length_eq_zero_iff.1 (by omega)⟩, rfl, trivial⟩
  · rw [flat_len sp_len] at hl0
    have e0 : n0 = L.length := by omega
    subst e0
    have hab : abounds L.length L.length false true true [.int .i64 (L.length : Int), .int .i64 (L.length : Int)] = some (0, L.length, some L.length) := by
      simp only [abounds, abound_ok .i64 (L.length : Int) L.length (by omega) (by omega), Option.bind_some, Int.toNat_natCast, Option.map_some]
    have e : aP (.sl none 2 false true true) [.sliceU b0 0 L.length 2, .int .i64 (L.length : Int), .int .i64 (L.length : Int)] = some (.slice b0 0 L.length L.length) := by
      have hq : (Nat.beq 2 2 && Nat.blt 0 2) = true := rfl
      simp only [aP, aslice, hq, cond_true, hab, Option.bind_some, beq_ff (show L.length ≠ 0 by omega), cond_false, Nat.zero_mul, Nat.sub_zero, Nat.add_zero]
    refine does_fn g119 rfl ?_
    simp (disch := omega) only [fn119, evs, ↓reduceIte, Nat.reduceEqDiff, Nat.reduceAdd, Nat.reduceMul, Nat.reduceLeDiff, Nat.reduceLT, Int.reduceNeg, DF, eff, Nat.reduceSub, fwrap_i64, e]
    exact ⟨.inr ⟨b0, rfl, og, hn0⟩, rfl⟩
theorem done_ok {h : Heap} {B : Nat} {v : V} {L : List (Int × Int)} (g : GRecs sp 2 h B v L) (hn : L.length ≤ 4096) : Does go 107 [v] h fun u h' => ∃ z, u = .tup [z, .int .i64 0] ∧ SpF h z L ∧ z.one = true ∧ h' = h := by
  have s := g.recs sp_len (by omega)
  refine does_fn g107 rfl ?_
  simp (disch := omega) only [fn107, evs, ↓reduceIte, Nat.reduceEqDiff, Nat.reduceAdd, Nat.reduceMul, Nat.reduceLeDiff, Nat.reduceLT, Int.reduceNeg, DF, eff, Nat.reduceSub, fwrap_i64, s.len, show ¬ (4096 : Int) < L.length by omega]
  refine OQ_does (Clip_ok g) ?_
  rintro z _ ⟨a, b, rfl⟩
  simp (disch := omega) only [evs, ↓reduceIte, Nat.reduceEqDiff, Nat.reduceAdd, Nat.reduceMul, Nat.reduceLeDiff, Nat.reduceLT, Int.reduceNeg, DF, eff, Nat.reduceSub, fwrap_i64]
  exact ⟨z, rfl, a, b⟩
end Go.Ev.Lay
