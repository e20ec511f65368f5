/- An evaluator of the program and contracts proved over it: the texts LayH LayI LayJ LayK. -/
import Derived.Test.YtfhplbpjpmaoiaaGreatDoorP10
set_option linter.unusedSimpArgs false
set_option linter.unusedVariables false
set_option linter.constructorNameAsVariable false
/- Ropes: Set, Insert, cut, Remove. -/
namespace Go.Ev.Lay
set_option maxRecDepth 4000
def setE (l : List Int) (i size : Int) : Int := if 0 ≤ i ∧ i < l.length then if size < 0 ∨ 2305843009213693952 < size then 12 else if 4611686018427387904 - (l.sum - l.getD i.toNat 0) < size then 13 else 0 else 4
theorem sum_set : ∀ (l : List Int) (i : Nat) (x : Int), i < l.length → (l.set i x).sum = l.sum - l.getD i 0 + x
  | y :: l, 0, x, _ => by simp; omega
  | y :: l, i + 1, x, h => by have := sum_set l i x (by simpa using h); simp at this ⊢; omega
theorem set_split : ∀ (l : List Int) (i : Nat) (x : Int), i < l.length → l.set i x = l.take i ++ x :: l.drop (i + 1) := by
  intro l i x h
  rw [List.set_eq_take_append_cons_drop, if_pos h]
theorem Fit.set {l : List Int} (f : Fit l) {i : Nat} {x : Int} (hi : i < l.length) (h0 : 0 ≤ x) (h1 : x ≤ 4611686018427387904 - (l.sum - l.getD i 0)) : Fit (l.set i x) := by
  refine ⟨fun y hy => ?_, ?_, ?_⟩
  · rcases List.mem_or_eq_of_mem_set hy with a | a
    · exact f.1 y a
    · omega
  · rw [sum_set _ _ _ hi]; omega
  · rw [List.length_set]; exact f.2.2
theorem getD_le : ∀ {l : List Int} {i : Nat}, (∀ x ∈ l, 0 ≤ x) → l.getD i 0 ≤ l.sum ∧ 0 ≤ l.getD i 0
  | [], i, _ => by simp
  | y :: l, 0, h => by have := sum_nn (l := l) fun z hz => h z (by simp [hz]); have := h y (by simp); simp; omega
  | y :: l, i + 1, h => by have := getD_le (l := l) (i := i) fun z hz => h z (by simp [hz]); have := h y (by simp); simp at *; omega
theorem RSet_ok {h : Heap} {v : V} {l : List Int} {i size : Int} (w : WF h) (a : Rp h v l) (s0 : -9223372036854775808 ≤ size) (s1 : size ≤ 9223372036854775807) :
    Does go 98 [v, .int .i64 i, .int .i64 size] h fun u h' => Fr [] h h' ∧ ∃ c, u = .tup [.agg [c], .int .i64 (setE l i size)] ∧ c.one = true ∧ (setE l i size = 0 → Rp h' (.agg [c]) (l.set i.toNat size)) := by
  have a0 := a
  obtain ⟨t, p, rfl, a, rfl, f⟩ := a
  have f3 := f.2.2
  have f2 := f.2.1
  have n := f.nn
  have gd := getD_le (i := i.toNat) f.1
  obtain ⟨h1, e_h1⟩ : ∃ h1, h1 = halloc h [pv p] := ⟨_, rfl⟩
  have F_h1 : Fr [] h h1 := e_h1 ▸ Fr.halloc w _
  have o_h1 : Own h1 h.next [pv p] := e_h1 ▸ Own.new w _
  obtain ⟨h2, e_h2⟩ : ∃ h2, h2 = halloc h1 [.nilp] := ⟨_, rfl⟩
  have F_h2 : Fr [] h1 h2 := e_h2 ▸ Fr.halloc F_h1.wf _
  have o_h2 : Own h2 h1.next [.nilp] := e_h2 ▸ Own.new F_h1.wf _
  have F12 := F_h1.then F_h2
  have o1 := F_h2.get o_h1
  have b1 : h.next ≤ h1.next := F_h1.next
  refine does_fn g98 rfl ?_
  simp (disch := omega) only [fn98, evs, ↓reduceIte, Nat.reduceEqDiff, Nat.reduceAdd, Nat.reduceMul, Nat.reduceLeDiff, Nat.reduceLT, Int.reduceNeg, DF, eff, Nat.reduceSub, fwrap_i64, ← e_h1, ← e_h2, o1.ld1, o1.ld]
  refine OQ_does (RAt_ok F12.wf (a0.fr F12)) ?_
  rintro _ h3 ⟨rfl, F3⟩
  by_cases hi : 0 ≤ i ∧ i < t.list.length
  · rw [if_pos hi]
    by_cases c1 : size < 0
    · simp (disch := omega) only [evs, ↓reduceIte, Nat.reduceEqDiff, Nat.reduceAdd, Nat.reduceMul, Nat.reduceLeDiff, Nat.reduceLT, Int.reduceNeg, DF, eff, Nat.reduceSub, fwrap_i64, c1]
      refine store_step (c' := [.nilp]) F3.wf (F3.get o_h2) rfl (by first | rfl | simp [onesB, V.cells, pv_one, *]) rfl ?_
      rintro h4 o_h4 F_h4 n_h4
      simp (disch := omega) only [evs, ↓reduceIte, Nat.reduceEqDiff, Nat.reduceAdd, Nat.reduceMul, Nat.reduceLeDiff, Nat.reduceLT, Int.reduceNeg, DF, eff, Nat.reduceSub, fwrap_i64, o_h4.ld]
      have e : setE t.list i size = 12 := by unfold setE; rw [if_pos hi, if_pos (.inl c1)]
      rw [e]
      exact ⟨(F12.then F3).fresh F_h4 w b1, _, rfl, rfl, by simp⟩
    · by_cases c2 : 2305843009213693952 < size
      · simp (disch := omega) only [evs, ↓reduceIte, Nat.reduceEqDiff, Nat.reduceAdd, Nat.reduceMul, Nat.reduceLeDiff, Nat.reduceLT, Int.reduceNeg, DF, eff, Nat.reduceSub, fwrap_i64, c1, c2]
        refine store_step (c' := [.nilp]) F3.wf (F3.get o_h2) rfl (by first | rfl | simp [onesB, V.cells, pv_one, *]) rfl ?_
        rintro h4 o_h4 F_h4 n_h4
        simp (disch := omega) only [evs, ↓reduceIte, Nat.reduceEqDiff, Nat.reduceAdd, Nat.reduceMul, Nat.reduceLeDiff, Nat.reduceLT, Int.reduceNeg, DF, eff, Nat.reduceSub, fwrap_i64, o_h4.ld]
        have e : setE t.list i size = 12 := by unfold setE; rw [if_pos hi, if_pos (.inr c2)]
        rw [e]
        exact ⟨(F12.then F3).fresh F_h4 w b1, _, rfl, rfl, by simp⟩
      · simp (disch := omega) only [evs, ↓reduceIte, Nat.reduceEqDiff, Nat.reduceAdd, Nat.reduceMul, Nat.reduceLeDiff, Nat.reduceLT, Int.reduceNeg, DF, eff, Nat.reduceSub, fwrap_i64, c1, c2, (F3.get o1).ld]
        refine OQ_does (Total_ok F3.wf (a0.fr (F12.then F3))) ?_
        rintro _ h4 ⟨rfl, F4⟩
        have F34 := F3.then F4
        by_cases c3 : 4611686018427387904 - (t.list.sum - t.list.getD i.toNat 0) < size
        · simp (disch := omega) only [evs, ↓reduceIte, Nat.reduceEqDiff, Nat.reduceAdd, Nat.reduceMul, Nat.reduceLeDiff, Nat.reduceLT, Int.reduceNeg, DF, eff, Nat.reduceSub, fwrap_i64, c3]
          refine store_step (c' := [.nilp]) F4.wf (F34.get o_h2) rfl (by first | rfl | simp [onesB, V.cells, pv_one, *]) rfl ?_
          rintro h5 o_h5 F_h5 n_h5
          simp (disch := omega) only [evs, ↓reduceIte, Nat.reduceEqDiff, Nat.reduceAdd, Nat.reduceMul, Nat.reduceLeDiff, Nat.reduceLT, Int.reduceNeg, DF, eff, Nat.reduceSub, fwrap_i64, o_h5.ld]
          have e : setE t.list i size = 13 := by unfold setE; rw [if_pos hi, if_neg (by omega), if_pos c3]
          rw [e]
          exact ⟨(F12.then F34).fresh F_h5 w b1, _, rfl, rfl, by simp⟩
        · simp (disch := omega) only [evs, ↓reduceIte, Nat.reduceEqDiff, Nat.reduceAdd, Nat.reduceMul, Nat.reduceLeDiff, Nat.reduceLT, Int.reduceNeg, DF, eff, Nat.reduceSub, fwrap_i64, c3, (F34.get o1).ld1]
          refine OQ_does (split_ok F4.wf (a.fr (F12.then F34)) f (by omega) (by omega)) ?_
          rintro _ h5 ⟨t1, t2, p1, p2, rfl, a1, a2, e1, e2, F5⟩
          simp (disch := omega) only [evs, ↓reduceIte, Nat.reduceEqDiff, Nat.reduceAdd, Nat.reduceMul, Nat.reduceLeDiff, Nat.reduceLT, Int.reduceNeg, DF, eff, Nat.reduceSub, fwrap_i64]
          refine OQ_does (split_ok F5.wf a2 (by rw [e2]; exact f.sub (List.drop_sublist _ _)) (by omega) (by omega)) ?_
          rintro _ h6 ⟨t3, t4, p3, p4, rfl, a3, a4, e3, e4, F6⟩
          simp (disch := omega) only [evs, ↓reduceIte, Nat.reduceEqDiff, Nat.reduceAdd, Nat.reduceMul, Nat.reduceLeDiff, Nat.reduceLT, Int.reduceNeg, DF, eff, Nat.reduceSub, fwrap_i64]
          have hin : i.toNat < t.list.length := by omega
          have ff := f.set hin (show 0 ≤ size by omega) (by omega)
          have el : t1.list ++ size :: t4.list = t.list.set i.toNat size := by
            rw [e1, e4, e2, set_split _ _ _ hin, show (1 : Int).toNat = 1 from rfl, List.drop_drop]
          refine OQ_does (joined_ok F6.wf (a1.fr F6) a4 (by rw [el]; exact ff)) ?_
          rintro _ h7 ⟨t5, p5, rfl, a5, e5, F7⟩
          simp (disch := omega) only [evs, ↓reduceIte, Nat.reduceEqDiff, Nat.reduceAdd, Nat.reduceMul, Nat.reduceLeDiff, Nat.reduceLT, Int.reduceNeg, DF, eff, Nat.reduceSub, fwrap_i64]
          have F37 := ((F34.then F5).then F6).then F7
          refine store_step (c' := [pv p5]) F7.wf (F37.get o_h2) rfl (by first | rfl | simp [onesB, V.cells, pv_one, *]) rfl ?_
          rintro h8 o_h8 F_h8 n_h8
          simp (disch := omega) only [evs, ↓reduceIte, Nat.reduceEqDiff, Nat.reduceAdd, Nat.reduceMul, Nat.reduceLeDiff, Nat.reduceLT, Int.reduceNeg, DF, eff, Nat.reduceSub, fwrap_i64, o_h8.ld]
          have e : setE t.list i size = 0 := by unfold setE; rw [if_pos hi, if_neg (by omega), if_neg c3]
          rw [e]
          exact ⟨(F12.then F37).fresh F_h8 w b1, _, rfl, pv_one _, fun _ => ⟨t5, p5, rfl, a5.frb F_h8 (F37.get o_h2) (by simp), e5.trans el, ff⟩⟩
  · rw [if_neg hi]
    simp (disch := omega) only [evs, ↓reduceIte, Nat.reduceEqDiff, Nat.reduceAdd, Nat.reduceMul, Nat.reduceLeDiff, Nat.reduceLT, Int.reduceNeg, DF, eff, Nat.reduceSub, fwrap_i64]
    simp (disch := omega) only [evs, ↓reduceIte, Nat.reduceEqDiff, Nat.reduceAdd, Nat.reduceMul, Nat.reduceLeDiff, Nat.reduceLT, Int.reduceNeg, DF, eff, Nat.reduceSub, show ¬ ((4 : Int) = 0) by omega]
    refine store_step (c' := [.nilp]) F3.wf (F3.get o_h2) rfl (by first | rfl | simp [onesB, V.cells, pv_one, *]) rfl ?_
    rintro h4 o_h4 F_h4 n_h4
    simp (disch := omega) only [evs, ↓reduceIte, Nat.reduceEqDiff, Nat.reduceAdd, Nat.reduceMul, Nat.reduceLeDiff, Nat.reduceLT, Int.reduceNeg, DF, eff, Nat.reduceSub, fwrap_i64, o_h4.ld]
    have e : setE t.list i size = 4 := by unfold setE; rw [if_neg hi]
    rw [e]
    exact ⟨(F12.then F3).fresh F_h4 w b1, _, rfl, rfl, by simp⟩
def ofE (m : List Int) : Int := if 4096 < m.length then 3 else chk m 0
def insE (l : List Int) (i : Int) (m : List Int) : Int := if 0 ≤ i ∧ i ≤ l.length then if ofE m = 0 then joinE l m else ofE m else 4
theorem RIns_ok {h : Heap} {v u : V} {l m : List Int} {i : Int} (w : WF h) (a : Rp h v l) (am : Ints h u m) (hm : m.length ≤ 1000000) :
    Does go 80 [v, .int .i64 i, u] h fun z h' => Fr [] h h' ∧ ∃ c, z = .tup [.agg [c], .int .i64 (insE l i m)] ∧ c.one = true ∧ (insE l i m = 0 → Rp h' (.agg [c]) (l.take i.toNat ++ m ++ l.drop i.toNat)) := by
  have a0 := a
  obtain ⟨t, p, rfl, a, rfl, f⟩ := a
  obtain ⟨h1, e_h1⟩ : ∃ h1, h1 = halloc h [pv p] := ⟨_, rfl⟩
  have F_h1 : Fr [] h h1 := e_h1 ▸ Fr.halloc w _
  have o_h1 : Own h1 h.next [pv p] := e_h1 ▸ Own.new w _
  obtain ⟨h2, e_h2⟩ : ∃ h2, h2 = halloc h1 [.nilp] := ⟨_, rfl⟩
  have F_h2 : Fr [] h1 h2 := e_h2 ▸ Fr.halloc F_h1.wf _
  have o_h2 : Own h2 h1.next [.nilp] := e_h2 ▸ Own.new F_h1.wf _
  have F12 := F_h1.then F_h2
  have o1 := F_h2.get o_h1
  have b1 : h.next ≤ h1.next := F_h1.next
  refine does_fn g80 rfl ?_
  simp (disch := omega) only [fn80, evs, ↓reduceIte, Nat.reduceEqDiff, Nat.reduceAdd, Nat.reduceMul, Nat.reduceLeDiff, Nat.reduceLT, Int.reduceNeg, DF, eff, Nat.reduceSub, fwrap_i64, ← e_h1, ← e_h2, o1.ld1, o1.ld]
  refine OQ_does (RSplit_ok F12.wf (a0.fr F12)) ?_
  rintro _ h3 ⟨F3, hu⟩
  have F13 := F12.then F3
  have b3 : h.next ≤ h3.next := F13.next
  by_cases hi : 0 ≤ i ∧ i ≤ t.list.length
  · rw [if_pos hi] at hu
    obtain ⟨r1, r2, rfl, ra, rb⟩ := hu
    obtain ⟨t1, p1, rfl, a1, e1, f1⟩ := ra
    obtain ⟨t2, p2, rfl, a2, e2, f2⟩ := rb
    obtain ⟨h4, e_h4⟩ : ∃ h4, h4 = halloc h3 [.nilp] := ⟨_, rfl⟩
    have F_h4 : Fr [] h3 h4 := e_h4 ▸ Fr.halloc F3.wf _
    have o_h4 : Own h4 h3.next [.nilp] := e_h4 ▸ Own.new F3.wf _
    obtain ⟨h5, e_h5⟩ : ∃ h5, h5 = halloc h4 [.nilp] := ⟨_, rfl⟩
    have F_h5 : Fr [] h4 h5 := e_h5 ▸ Fr.halloc F_h4.wf _
    have o_h5 : Own h5 h4.next [.nilp] := e_h5 ▸ Own.new F_h4.wf _
    have F45 := F_h4.then F_h5
    have ne : h3.next ≠ h4.next := by rw [e_h4]; simp [halloc_next]
    simp (disch := omega) only [evs, ↓reduceIte, Nat.reduceEqDiff, Nat.reduceAdd, Nat.reduceMul, Nat.reduceLeDiff, Nat.reduceLT, Int.reduceNeg, DF, eff, Nat.reduceSub, fwrap_i64, ← e_h4, ← e_h5]
    refine store_step (c' := [pv p1]) F45.wf (F_h5.get o_h4) rfl (by first | rfl | simp [onesB, V.cells, pv_one, *]) rfl ?_
    rintro h6 o_h6 F_h6 n_h6
    simp (disch := omega) only [evs, ↓reduceIte, Nat.reduceEqDiff, Nat.reduceAdd, Nat.reduceMul, Nat.reduceLeDiff, Nat.reduceLT, Int.reduceNeg, DF, eff, Nat.reduceSub, fwrap_i64]
    refine store_step (c' := [pv p2]) F_h6.wf (F_h6.own _ _ (by simp; omega) o_h5) rfl (by first | rfl | simp [onesB, V.cells, pv_one, *]) rfl ?_
    rintro h7 o_h7 F_h7 n_h7
    simp (disch := omega) only [evs, ↓reduceIte, Nat.reduceEqDiff, Nat.reduceAdd, Nat.reduceMul, Nat.reduceLeDiff, Nat.reduceLT, Int.reduceNeg, DF, eff, Nat.reduceSub, fwrap_i64]
    have oa := F_h7.own _ _ (by simp; omega) o_h6
    have b4 : h.next ≤ h4.next := Nat.le_trans b3 F_h4.next
    have F17 := ((F13.then F45).fresh F_h6 w b3).fresh F_h7 w b4
    have keep : ∀ {b : Nat} {c : List V}, Own h3 b c → Own h7 b c := fun o => F_h7.own _ _ (by have := o.lt F3.wf; have := F_h4.next; simp; omega) (F_h6.own _ _ (by have := o.lt F3.wf; simp; omega) (F45.get o))
    have F37 : Fr [] h3 h7 := ⟨by have := F45.next; omega, F_h7.wf, fun _ _ _ o => keep o, fun x c _ o => F_h7.pl _ _ (by have := o.own.lt F3.wf; have := F_h4.next; simp; omega) (F_h6.pl _ _ (by have := o.own.lt F3.wf; simp; omega) (F45.pl _ _ (by simp) o)), fun x k hk o => F_h7.lp _ _ hk (F_h6.lp _ _ hk (F45.lp _ _ hk o)), fun x c r => F_h7.ro _ _ (F_h6.ro _ _ (F45.ro _ _ r))⟩
    have or := F37.get (F3.get o_h2)
    have ob := F37.get (F3.get o1)
    refine OQ_does (ROf_ok F_h7.wf (am.fr F17) hm) ?_
    rintro _ h8 ⟨F8, c0, e, rfl, hc0, ee, hr⟩
    change e = ofE m at ee
    obtain ⟨h9, e_h9⟩ : ∃ h9, h9 = halloc h8 [.nilp] := ⟨_, rfl⟩
    have F_h9 : Fr [] h8 h9 := e_h9 ▸ Fr.halloc F8.wf _
    have o_h9 : Own h9 h8.next [.nilp] := e_h9 ▸ Own.new F8.wf _
    simp (disch := omega) only [evs, ↓reduceIte, Nat.reduceEqDiff, Nat.reduceAdd, Nat.reduceMul, Nat.reduceLeDiff, Nat.reduceLT, Int.reduceNeg, DF, eff, Nat.reduceSub, fwrap_i64, ← e_h9]
    refine store_step (c' := [c0]) F_h9.wf o_h9 rfl (by simp [onesB, V.cells, hc0]) rfl ?_
    rintro h10 o10 F10 n10
    have b8 : h.next ≤ h8.next := (F17.then F8).next
    have F910 : Fr [] h8 h10 := F_h9.fresh F10 F8.wf (Nat.le_refl _)
    have F110 := (F17.then F8).then F910
    have F710 := F8.then F910
    by_cases h0 : e = 0
    · have em : ofE m = 0 := by omega
      subst h0
      have hrr := hr rfl
      obtain ⟨t3, p3, q3, a3, e3, f3⟩ := hrr
      cases q3
      simp (disch := omega) only [evs, ↓reduceIte, Nat.reduceEqDiff, Nat.reduceAdd, Nat.reduceMul, Nat.reduceLeDiff, Nat.reduceLT, Int.reduceNeg, DF, eff, Nat.reduceSub, fwrap_i64, (F710.get ob).ld, o10.ld]
      refine OQ_does (Join_ok F910.wf (a0.fr F110) (Rp.fr (l := m) ⟨t3, p3, rfl, a3, e3, f3⟩ F910)) ?_
      rintro _ h11 ⟨F11, c', rfl, hc', hj⟩
      have ei : insE t.list i m = joinE t.list m := by unfold insE; rw [if_pos hi, if_pos em]
      rw [ei]
      obtain ⟨h12, e_h12⟩ : ∃ h12, h12 = halloc h11 [.nilp] := ⟨_, rfl⟩
      have F_h12 : Fr [] h11 h12 := e_h12 ▸ Fr.halloc F11.wf _
      have o_h12 : Own h12 h11.next [.nilp] := e_h12 ▸ Own.new F11.wf _
      simp (disch := omega) only [evs, ↓reduceIte, Nat.reduceEqDiff, Nat.reduceAdd, Nat.reduceMul, Nat.reduceLeDiff, Nat.reduceLT, Int.reduceNeg, DF, eff, Nat.reduceSub, fwrap_i64, ← e_h12]
      refine store_step (c' := [c']) F_h12.wf o_h12 rfl (by simp [onesB, V.cells, hc']) rfl ?_
      rintro h13 o13 F13' n13
      have F1113 : Fr [] h11 h13 := F_h12.fresh F13' F11.wf (Nat.le_refl _)
      have F713 := (F710.then F11).then F1113
      have F1013 := F11.then F1113
      by_cases h1 : joinE t.list m = 0
      · simp (disch := omega) only [evs, ↓reduceIte, Nat.reduceEqDiff, Nat.reduceAdd, Nat.reduceMul, Nat.reduceLeDiff, Nat.reduceLT, Int.reduceNeg, DF, eff, Nat.reduceSub, fwrap_i64, h1, (F713.get oa).ld1, (F1013.get o10).ld1]
        obtain ⟨t9, p9, q9, a9, e9, f9⟩ := hj h1
        have ff : Fit (t.list.take i.toNat ++ m ++ t.list.drop i.toNat) := by
          obtain ⟨x1, x2, x3⟩ := f9
          have hsum : (t.list.take i.toNat).sum + (t.list.drop i.toNat).sum = t.list.sum := by rw [← List.sum_append, List.take_append_drop]
          have hlen : (t.list.take i.toNat).length + (t.list.drop i.toNat).length = t.list.length := by rw [← List.length_append, List.take_append_drop]
          refine ⟨fun y hy => ?_, ?_, ?_⟩
          · refine x1 y ?_
            simp only [List.mem_append] at hy ⊢
            rcases hy with (y1 | y1) | y1
            · exact .inl (List.mem_of_mem_take y1)
            · exact .inr y1
            · exact .inl (List.mem_of_mem_drop y1)
          · simp only [List.sum_append] at x2 ⊢; omega
          · simp only [List.length_append] at x3 ⊢; omega
        have F313 := F37.then F713
        refine OQ_does (put_ok F1113.wf (a1.fr F313) (a3.fr (F910.then F1013)) (by rw [e1, e3]; exact ff.left)) ?_
        rintro _ h14 ⟨t4, p4, rfl, a4, e4, F14⟩
        simp (disch := omega) only [evs, ↓reduceIte, Nat.reduceEqDiff, Nat.reduceAdd, Nat.reduceMul, Nat.reduceLeDiff, Nat.reduceLT, Int.reduceNeg, DF, eff, Nat.reduceSub, fwrap_i64, ((F713.then F14).get o_h7).ld1]
        refine OQ_does (put_ok F14.wf a4 (a2.fr (F313.then F14)) (by rw [e4, e1, e3, e2]; exact ff)) ?_
        rintro _ h15 ⟨t5, p5, rfl, a5, e5, F15⟩
        simp (disch := omega) only [evs, ↓reduceIte, Nat.reduceEqDiff, Nat.reduceAdd, Nat.reduceMul, Nat.reduceLeDiff, Nat.reduceLT, Int.reduceNeg, DF, eff, Nat.reduceSub, fwrap_i64]
        have F715 := (F713.then F14).then F15
        refine store_step (c' := [pv p5]) F15.wf (F715.get or) rfl (by first | rfl | simp [onesB, V.cells, pv_one, *]) rfl ?_
        rintro h16 o_h16 F_h16 n_h16
        simp (disch := omega) only [evs, ↓reduceIte, Nat.reduceEqDiff, Nat.reduceAdd, Nat.reduceMul, Nat.reduceLeDiff, Nat.reduceLT, Int.reduceNeg, DF, eff, Nat.reduceSub, fwrap_i64, o_h16.ld, (F713.get oa).ld1, (F1013.get o10).ld1, (F713.get o_h7).ld1, ((F713.then F14).get o_h7).ld1]
        exact ⟨(F17.then F715).fresh F_h16 w b1, _, rfl, pv_one _, fun _ => ⟨t5, p5, rfl, a5.frb F_h16 (F715.get or) (by simp), by rw [e5, e4, e1, e3, e2], ff⟩⟩
      · simp (disch := omega) only [evs, ↓reduceIte, Nat.reduceEqDiff, Nat.reduceAdd, Nat.reduceMul, Nat.reduceLeDiff, Nat.reduceLT, Int.reduceNeg, DF, eff, Nat.reduceSub, fwrap_i64, h1]
        refine store_step (c' := [.nilp]) F1113.wf (F713.get or) rfl (by first | rfl | simp [onesB, V.cells, pv_one, *]) rfl ?_
        rintro h16 o_h16 F_h16 n_h16
        simp (disch := omega) only [evs, ↓reduceIte, Nat.reduceEqDiff, Nat.reduceAdd, Nat.reduceMul, Nat.reduceLeDiff, Nat.reduceLT, Int.reduceNeg, DF, eff, Nat.reduceSub, fwrap_i64, o_h16.ld]
        exact ⟨(F17.then F713).fresh F_h16 w b1, _, rfl, rfl, by simp [h1]⟩
    · simp (disch := omega) only [evs, ↓reduceIte, Nat.reduceEqDiff, Nat.reduceAdd, Nat.reduceMul, Nat.reduceLeDiff, Nat.reduceLT, Int.reduceNeg, DF, eff, Nat.reduceSub, fwrap_i64, h0]
      refine store_step (c' := [.nilp]) F910.wf (F710.get or) rfl (by first | rfl | simp [onesB, V.cells, pv_one, *]) rfl ?_
      rintro h16 o_h16 F_h16 n_h16
      simp (disch := omega) only [evs, ↓reduceIte, Nat.reduceEqDiff, Nat.reduceAdd, Nat.reduceMul, Nat.reduceLeDiff, Nat.reduceLT, Int.reduceNeg, DF, eff, Nat.reduceSub, fwrap_i64, o_h16.ld]
      have ei : insE t.list i m = e := by unfold insE; rw [if_pos hi, if_neg (by omega), ee]
      rw [ei]
      exact ⟨F110.fresh F_h16 w b1, _, rfl, rfl, by simp [h0]⟩
  · rw [if_neg hi] at hu
    subst hu
    obtain ⟨h4, e_h4⟩ : ∃ h4, h4 = halloc h3 [.nilp] := ⟨_, rfl⟩
    have F_h4 : Fr [] h3 h4 := e_h4 ▸ Fr.halloc F3.wf _
    have o_h4 : Own h4 h3.next [.nilp] := e_h4 ▸ Own.new F3.wf _
    obtain ⟨h5, e_h5⟩ : ∃ h5, h5 = halloc h4 [.nilp] := ⟨_, rfl⟩
    have F_h5 : Fr [] h4 h5 := e_h5 ▸ Fr.halloc F_h4.wf _
    have o_h5 : Own h5 h4.next [.nilp] := e_h5 ▸ Own.new F_h4.wf _
    have F45 := F_h4.then F_h5
    have ne : h3.next ≠ h4.next := by rw [e_h4]; simp [halloc_next]
    simp (disch := omega) only [evs, ↓reduceIte, Nat.reduceEqDiff, Nat.reduceAdd, Nat.reduceMul, Nat.reduceLeDiff, Nat.reduceLT, Int.reduceNeg, DF, eff, Nat.reduceSub, fwrap_i64, ← e_h4, ← e_h5]
    refine store_step (c' := [.nilp]) F45.wf (F_h5.get o_h4) rfl (by first | rfl | simp [onesB, V.cells, pv_one, *]) rfl ?_
    rintro h6 o_h6 F_h6 n_h6
    simp (disch := omega) only [evs, ↓reduceIte, Nat.reduceEqDiff, Nat.reduceAdd, Nat.reduceMul, Nat.reduceLeDiff, Nat.reduceLT, Int.reduceNeg, DF, eff, Nat.reduceSub, fwrap_i64]
    refine store_step (c' := [.nilp]) F_h6.wf (F_h6.own _ _ (by simp; omega) o_h5) rfl (by first | rfl | simp [onesB, V.cells, pv_one, *]) rfl ?_
    rintro h7 o_h7 F_h7 n_h7
    simp (disch := omega) only [evs, ↓reduceIte, Nat.reduceEqDiff, Nat.reduceAdd, Nat.reduceMul, Nat.reduceLeDiff, Nat.reduceLT, Int.reduceNeg, DF, eff, Nat.reduceSub, fwrap_i64]
    simp (disch := omega) only [evs, ↓reduceIte, Nat.reduceEqDiff, Nat.reduceAdd, Nat.reduceMul, Nat.reduceLeDiff, Nat.reduceLT, Int.reduceNeg, DF, eff, Nat.reduceSub, show ¬ ((4 : Int) = 0) by omega]
    have b4 : h.next ≤ h4.next := Nat.le_trans b3 F_h4.next
    have F17 := ((F13.then F45).fresh F_h6 w b3).fresh F_h7 w b4
    have keep : ∀ {b : Nat} {c : List V}, Own h3 b c → Own h7 b c := fun o => F_h7.own _ _ (by have := o.lt F3.wf; have := F_h4.next; simp; omega) (F_h6.own _ _ (by have := o.lt F3.wf; simp; omega) (F45.get o))
    have or := keep (F3.get o_h2)
    refine store_step (c' := [.nilp]) F_h7.wf or rfl (by first | rfl | simp [onesB, V.cells, pv_one, *]) rfl ?_
    rintro h16 o_h16 F_h16 n_h16
    simp (disch := omega) only [evs, ↓reduceIte, Nat.reduceEqDiff, Nat.reduceAdd, Nat.reduceMul, Nat.reduceLeDiff, Nat.reduceLT, Int.reduceNeg, DF, eff, Nat.reduceSub, fwrap_i64, o_h16.ld]
    have ei : insE t.list i m = 4 := by unfold insE; rw [if_neg hi]
    rw [ei]
    exact ⟨F17.fresh F_h16 w b1, _, rfl, rfl, by simp⟩
end Go.Ev.Lay

/- Spans: Check, Has, add, done. -/
namespace Go.Ev.Lay
set_option maxRecDepth 4000
def sp (s : Int × Int) : List V := [.int .i64 s.1, .int .i64 s.2]
theorem sp_len (s : Int × Int) : (sp s).length = 2 := rfl
theorem sp_ones (s : Int × Int) : onesB (sp s) = true := rfl
abbrev Sp (h : Heap) (v : V) (L : List (Int × Int)) : Prop := Recs sp 2 h v L
def SOK : List (Int × Int) → Int → Prop
  | [], _ => True
  | s :: L, last => last < s.1 ∧ 0 ≤ s.1 ∧ s.1 < s.2 ∧ s.2 ≤ 1073741824 ∧ SOK L s.2
def inS (L : List (Int × Int)) (i : Int) : Bool := L.any fun s => decide (s.1 ≤ i) && decide (i < s.2)
theorem Sp.ix {h : Heap} {v : V} {L : List (Int × Int)} (a : Sp h v L) (i : Nat) (h1 : (i : Int) < L.length) :
    ∃ b o s, aP (.ixs 2) [v, .int .i64 i] = some (.ptr b o) ∧ hload1 h b o = some (.int .i64 s.1) ∧ hload1 h b (o + 1) = some (.int .i64 s.2) ∧ hload h b o 2 = some [.int .i64 s.1, .int .i64 s.2] ∧ L[i]? = some s := by
  obtain ⟨b, o, s, e, g, g2, e3⟩ := Recs.ix sp_len a .i64 i (by omega) h1
  exact ⟨b, o, s, e, by simpa [sp] using g 0 (by omega), by simpa [sp] using g 1 (by omega), g2, by simpa using e3⟩
/-- spans that fill their block -/
def SpF (h : Heap) (v : V) (L : List (Int × Int)) : Prop := (v = .nils ∧ L = []) ∨ ∃ b, v = .slice b 0 L.length L.length ∧ Own h b (L.flatMap sp) ∧ 0 < L.length
theorem SpF.slc {h : Heap} {v : V} {L : List (Int × Int)} (a : SpF h v L) : Sp h v L := by
  rcases a with ⟨rfl, rfl⟩ | ⟨b, rfl, o, _⟩
  · exact Recs.nil
  · exact Sl.lit o (flat_len sp_len L)
theorem SpF.fr {h h' : Heap} {v : V} {L : List (Int × Int)} (a : SpF h v L) (f : Fr [] h h') : SpF h' v L := by
  rcases a with x | ⟨b, e, o, p⟩
  · exact .inl x
  · exact .inr ⟨b, e, f.get o, p⟩
theorem SpF.frb {h h' : Heap} {v : V} {L : List (Int × Int)} {b : Nat} {c : List V} (a : SpF h v L) (f : Fr [b] h h') (o : Own h b c) (hc : ∀ L : List (Int × Int), 0 < L.length → c ≠ L.flatMap sp) : SpF h' v L := by
  rcases a with x | ⟨q, e, oq, p⟩
  · exact .inl x
  · refine .inr ⟨q, e, f.own _ _ ?_ oq, p⟩
    simp only [List.mem_singleton]
    rintro rfl
    exact hc L p (o.uniq oq)
theorem SpF.one {h : Heap} {v : V} {L : List (Int × Int)} (a : SpF h v L) : v.one = true := by
  rcases a with ⟨rfl, _⟩ | ⟨b, rfl, _⟩ <;> rfl
theorem SpF.noint {h : Heap} {v : V} {L : List (Int × Int)} (a : SpF h v L) : ∀ k n, v ≠ .int k n := by
  rcases a with ⟨rfl, _⟩ | ⟨b, rfl, _⟩ <;> simp
theorem nosp {c : List V} (hc : ∀ x ∈ c, ∀ k n, x ≠ .int k n) : ∀ L : List (Int × Int), 0 < L.length → c ≠ L.flatMap Lay.sp := by
  intro L p e
  cases L with
  | nil => simp at p
  | cons s L => exact hc (.int .i64 s.1) (by rw [e]; simp [Lay.sp]) _ _ rfl
/-- a write to a block without numbers leaves the spans -/
theorem Sp.frb {h h' : Heap} {v : V} {L : List (Int × Int)} {b : Nat} {c c' : List V} (a : Sp h v L) (f : Fr [b] h h') (o : Own h b c) (o' : Own h' b c') (hc : ∀ x ∈ c, ∀ k n, x ≠ .int k n) (hl : c'.length = c.length) : Sp h' v L := by
  obtain ⟨e1, e2⟩ := a
  have main : ∀ (bb oo : Nat), (∃ d, Own h bb d ∧ oo + L.length * 2 ≤ d.length ∧ L.flatMap sp = (d.drop oo).take (L.length * 2)) → ∃ d, Own h' bb d ∧ oo + L.length * 2 ≤ d.length ∧ L.flatMap sp = (d.drop oo).take (L.length * 2) := by
    rintro bb oo ⟨d, od, h1, h2⟩
    by_cases e : bb = b
    · subst e
      have := od.uniq o
      subst this
      have hL : L = [] := by
        cases L with
        | nil => rfl
        | cons s L =>
          exfalso
          have hm : V.int .i64 s.1 ∈ d := by
            have : V.int .i64 s.1 ∈ (s :: L).flatMap sp := by simp [sp]
            rw [h2] at this
            exact List.mem_of_mem_drop (List.mem_of_mem_take this)
          exact hc _ hm _ _ rfl
      subst hL
      exact ⟨c', o', by simpa [hl] using h1, by simp⟩
    · exact ⟨d, f.own _ _ (by simpa using e) od, h1, h2⟩
  refine ⟨e1, ?_⟩
  cases v with
  | slice bb oo len cap => obtain ⟨x1, x2, x3⟩ := e2; exact ⟨x1, x2, main bb oo x3⟩
  | sliceU bb oo len cap => obtain ⟨x1, x2, x3⟩ := e2; exact ⟨x1, x2, main bb oo x3⟩
  | _ => exact e2
theorem SCheck_ok {h : Heap} {v : V} {L : List (Int × Int)} (w : WF h) (a : Sp h v L) (ok : SOK L (-1)) (hn : L.length ≤ 4096) :
    Does go 118 [v] h fun u h' => u = .int .i64 0 ∧ Fr [] h h' := by
  have hl : ¬ (4096 : Int) < L.length := by omega
  refine does_fn g118 rfl ?_
  simp (disch := omega) only [fn118, evs, ↓reduceIte, Nat.reduceEqDiff, Nat.reduceAdd, Nat.reduceMul, Nat.reduceLeDiff, Nat.reduceLT, Int.reduceNeg, DF, eff, Nat.reduceSub, fwrap_i64, a.len, hl]
  refine W_loop (fun k env hh => Fr [] h hh ∧ ∃ (i : Nat) (last : Int), env.get 11 = some (.int .i64 i) ∧ env.get 3 = some (.int .i64 last) ∧ env.get 9 = some v ∧ env.get 10 = some (.int .i64 L.length) ∧
      i ≤ L.length ∧ SOK (L.drop i) last ∧ k = L.length - i) L.length (by omega) ?_ ?_
  · exact ⟨Fr.refl w, 0, -1, (by simp [T.get_set]), (by simp [T.get_set]), (by simp [T.get_set]), (by simp [T.get_set]), by omega, ok, rfl⟩
  · rintro k env hh ⟨F, i, last, g11, g3, g9, g10, hi, ok, rfl⟩
    by_cases hlt : (i : Int) < L.length
    · obtain ⟨b, o, s, e1, e2, e3, e4, e5⟩ := Sp.ix (a.fr F) i hlt
      rw [drop_cons e5] at ok
      obtain ⟨k1, k2, k3, k4, k5⟩ := ok
      obtain ⟨h1, e_h1⟩ : ∃ h1, h1 = halloc hh [.int .i64 0, .int .i64 0] := ⟨_, rfl⟩
      have F_h1 : Fr [] hh h1 := e_h1 ▸ Fr.halloc F.wf _
      have o_h1 : Own h1 hh.next [.int .i64 0, .int .i64 0] := e_h1 ▸ Own.new F.wf _
      simp (disch := omega) only [evs, ↓reduceIte, Nat.reduceEqDiff, Nat.reduceAdd, Nat.reduceMul, Nat.reduceLeDiff, Nat.reduceLT, Int.reduceNeg, DF, eff, Nat.reduceSub, fwrap_i64, g11, g3, g9, g10, hlt, e1, e4, ← e_h1]
      refine store_step (c' := [.int .i64 s.1, .int .i64 s.2]) F_h1.wf o_h1 rfl (by first | rfl | simp [onesB, V.cells, pv_one, *]) rfl ?_
      rintro h2 o_h2 F_h2 n_h2
      simp (disch := omega) only [evs, ↓reduceIte, Nat.reduceEqDiff, Nat.reduceAdd, Nat.reduceMul, Nat.reduceLeDiff, Nat.reduceLT, Int.reduceNeg, DF, eff, Nat.reduceSub, fwrap_i64, g11, g3, g9, g10, o_h2.ld1, show ¬ s.1 < 0 by omega, show ¬ s.2 ≤ s.1 by omega, show ¬ 1073741824 < s.2 by omega, show ¬ s.1 ≤ last by omega]
      refine (roundQ_norm _ _ _).2 ⟨L.length - (i + 1), by omega, F.then (F_h1.fresh F_h2 F.wf (Nat.le_refl _)), i + 1, s.2, (by simp [T.get_set]), (by simp [T.get_set]), (by simp [T.get_set, g9]), (by simp [T.get_set, g10]), by omega, k5, rfl⟩
      done
    · simp (disch := omega) only [evs, ↓reduceIte, Nat.reduceEqDiff, Nat.reduceAdd, Nat.reduceMul, Nat.reduceLeDiff, Nat.reduceLT, Int.reduceNeg, DF, eff, Nat.reduceSub, fwrap_i64, g11, g3, g9, g10, hlt]
      exact F
theorem Has1_ok {h : Heap} {s : Int × Int} {i : Int} {bi : Nat} (w : WF h) (oi : Own h bi [.int .i64 i]) :
    Does go 124 [.agg [.int .i64 s.1, .int .i64 s.2], .ptr bi 0] h fun u h' => u = .bool (decide (s.1 ≤ i) && decide (i < s.2)) ∧ Fr [] h h' := by
  obtain ⟨h1, e_h1⟩ : ∃ h1, h1 = halloc h [.int .i64 s.1, .int .i64 s.2] := ⟨_, rfl⟩
  have F_h1 : Fr [] h h1 := e_h1 ▸ Fr.halloc w _
  have o_h1 : Own h1 h.next [.int .i64 s.1, .int .i64 s.2] := e_h1 ▸ Own.new w _
  by_cases c : s.1 ≤ i
  · refine does_fn g124 rfl ?_
    simp (disch := omega) only [fn124, evs, ↓reduceIte, Nat.reduceEqDiff, Nat.reduceAdd, Nat.reduceMul, Nat.reduceLeDiff, Nat.reduceLT, Int.reduceNeg, DF, eff, Nat.reduceSub, fwrap_i64, ← e_h1, o_h1.ld1, (F_h1.get oi).ld1, c]
    exact ⟨by simp, F_h1⟩
  · refine does_fn g124 rfl ?_
    simp (disch := omega) only [fn124, evs, ↓reduceIte, Nat.reduceEqDiff, Nat.reduceAdd, Nat.reduceMul, Nat.reduceLeDiff, Nat.reduceLT, Int.reduceNeg, DF, eff, Nat.reduceSub, fwrap_i64, ← e_h1, o_h1.ld1, (F_h1.get oi).ld1, c]
    exact ⟨by simp, F_h1⟩
theorem inS_drop {L : List (Int × Int)} {i : Nat} {s : Int × Int} (e : L[i]? = some s) (x : Int) : inS (L.drop i) x = ((decide (s.1 ≤ x) && decide (x < s.2)) || inS (L.drop (i + 1)) x) := by
  rw [drop_cons e]; rfl
theorem IndexF_ok {h : Heap} {v : V} {L : List (Int × Int)} {x : Int} {bi : Nat} (w : WF h) (a : Sp h v L) (oi : Own h bi [.int .i64 x]) (hn : L.length ≤ 4096) :
    Does go 130 [v, .func (.func 124) [] [.ptr bi 0]] h fun u h' => ∃ r : Int, u = .int .i64 r ∧ (decide (0 ≤ r) = inS L x) ∧ Fr [] h h' := by
  refine does_fn g130 rfl ?_
  simp (disch := omega) only [fn130, evs, ↓reduceIte, Nat.reduceEqDiff, Nat.reduceAdd, Nat.reduceMul, Nat.reduceLeDiff, Nat.reduceLT, Int.reduceNeg, DF, eff, Nat.reduceSub, fwrap_i64, a.len]
  refine W_loop (fun k env hh => Fr [] h hh ∧ ∃ (i : Nat), env.get 8 = some (.int .i64 i) ∧ env.get 7 = some (.int .i64 L.length) ∧ env.get 0 = some v ∧ env.get 1 = some (.func (.func 124) [] [.ptr bi 0]) ∧
      i ≤ L.length ∧ inS (L.drop i) x = inS L x ∧ k = L.length - i) L.length (by omega) ?_ ?_
  · exact ⟨Fr.refl w, 0, (by simp [T.get_set]), (by simp [T.get_set]), (by simp [T.get_set]), (by simp [T.get_set]), by omega, rfl, rfl⟩
  · rintro k env hh ⟨F, i, g8, g7, g0, g1, hi, e, rfl⟩
    by_cases hlt : (i : Int) < L.length
    · obtain ⟨b, o, s, e1, e2, e3, e4, e5⟩ := Sp.ix (a.fr F) i hlt
      rw [inS_drop e5] at e
      simp (disch := omega) only [evs, ↓reduceIte, Nat.reduceEqDiff, Nat.reduceAdd, Nat.reduceMul, Nat.reduceLeDiff, Nat.reduceLT, Int.reduceNeg, DF, eff, Nat.reduceSub, fwrap_i64, g8, g7, g0, g1, hlt, e1, e4]
      refine OQ_does (Has1_ok F.wf (F.get oi)) ?_
      rintro _ h1 ⟨rfl, F1⟩
      by_cases c : (decide (s.1 ≤ x) && decide (x < s.2)) = true
      · simp (disch := omega) only [evs, ↓reduceIte, Nat.reduceEqDiff, Nat.reduceAdd, Nat.reduceMul, Nat.reduceLeDiff, Nat.reduceLT, Int.reduceNeg, DF, eff, Nat.reduceSub, fwrap_i64, c, g8, g7, g0, g1]
        rw [c] at e
        exact ⟨i, rfl, by rw [← e]; simp, F.then F1⟩
      · rw [Bool.not_eq_true] at c
        simp (disch := omega) only [evs, ↓reduceIte, Nat.reduceEqDiff, Nat.reduceAdd, Nat.reduceMul, Nat.reduceLeDiff, Nat.reduceLT, Int.reduceNeg, DF, eff, Nat.reduceSub, fwrap_i64, c, g8, g7, g0, g1]
        rw [c] at e
        refine (roundQ_norm _ _ _).2 ⟨L.length - (i + 1), by omega, F.then F1, i + 1, (by simp [T.get_set]), (by simp [T.get_set, g7]), (by simp [T.get_set, g0]), (by simp [T.get_set, g1]), by omega, by simpa using e, rfl⟩
        done
    · simp (disch := omega) only [evs, ↓reduceIte, Nat.reduceEqDiff, Nat.reduceAdd, Nat.reduceMul, Nat.reduceLeDiff, Nat.reduceLT, Int.reduceNeg, DF, eff, Nat.reduceSub, fwrap_i64, g8, g7, g0, g1, hlt]
      rw [List.drop_of_length_le (by omega)] at e
      exact ⟨-1, rfl, by rw [← e]; rfl, F⟩
theorem Has_ok {h : Heap} {v : V} {L : List (Int × Int)} {x : Int} (w : WF h) (a : Sp h v L) (ok : SOK L (-1)) (hn : L.length ≤ 4096) :
    Does go 112 [v, .int .i64 x] h fun u h' => u = .bool (inS L x) ∧ Fr [] h h' := by
  obtain ⟨h1, e_h1⟩ : ∃ h1, h1 = halloc h [.int .i64 x] := ⟨_, rfl⟩
  have F_h1 : Fr [] h h1 := e_h1 ▸ Fr.halloc w _
  have o_h1 : Own h1 h.next [.int .i64 x] := e_h1 ▸ Own.new w _
  refine does_fn g112 rfl ?_
  simp (disch := omega) only [fn112, evs, ↓reduceIte, Nat.reduceEqDiff, Nat.reduceAdd, Nat.reduceMul, Nat.reduceLeDiff, Nat.reduceLT, Int.reduceNeg, DF, eff, Nat.reduceSub, fwrap_i64, ← e_h1]
  refine OQ_does (SCheck_ok F_h1.wf (a.fr F_h1) ok hn) ?_
  rintro _ h2 ⟨rfl, F2⟩
  simp (disch := omega) only [evs, ↓reduceIte, Nat.reduceEqDiff, Nat.reduceAdd, Nat.reduceMul, Nat.reduceLeDiff, Nat.reduceLT, Int.reduceNeg, DF, eff, Nat.reduceSub, fwrap_i64]
  have F12 := F_h1.then F2
  refine OQ_does (?_ : Does go 123 _ _ (fun u h' => u = .bool (inS L x) ∧ Fr [] h2 h')) ?_
  · refine does_fn g123 rfl ?_
    simp (disch := omega) only [fn123, evs, ↓reduceIte, Nat.reduceEqDiff, Nat.reduceAdd, Nat.reduceMul, Nat.reduceLeDiff, Nat.reduceLT, Int.reduceNeg, DF, eff, Nat.reduceSub, fwrap_i64]
    refine OQ_does (IndexF_ok F2.wf (a.fr F12) (F2.get o_h1) hn) ?_
    rintro _ h3 ⟨r, rfl, e, F3⟩
    simp (disch := omega) only [evs, ↓reduceIte, Nat.reduceEqDiff, Nat.reduceAdd, Nat.reduceMul, Nat.reduceLeDiff, Nat.reduceLT, Int.reduceNeg, DF, eff, Nat.reduceSub, fwrap_i64]
    exact ⟨by rw [e], F3⟩
  · rintro _ h3 ⟨rfl, F3⟩
    simp (disch := omega) only [evs, ↓reduceIte, Nat.reduceEqDiff, Nat.reduceAdd, Nat.reduceMul, Nat.reduceLeDiff, Nat.reduceLT, Int.reduceNeg, DF, eff, Nat.reduceSub, fwrap_i64]
    exact F12.then F3
end Go.Ev.Lay

/- Spans: the plain law; add, done. -/
namespace Go.Ev.Lay
set_option maxRecDepth 4000
def addS (L : List (Int × Int)) (a b : Int) : List (Int × Int) := if b ≤ a then L else match L.getLast? with
  | some s => if a ≤ s.2 then L.dropLast ++ [(s.1, max s.2 b)] else L ++ [(a, b)]
  | none => [(a, b)]
theorem inS_app (L M : List (Int × Int)) (x : Int) : inS (L ++ M) x = (inS L x || inS M x) := by simp [inS]
theorem inS_cons (s : Int × Int) (M : List (Int × Int)) (x : Int) : inS (s :: M) x = ((decide (s.1 ≤ x) && decide (x < s.2)) || inS M x) := rfl
theorem inS_nil (x : Int) : inS [] x = false := rfl
theorem SOK.gt : ∀ {L : List (Int × Int)} {b : Int}, SOK L b → ∀ s ∈ L, b < s.1 ∧ 0 ≤ s.1 ∧ s.1 < s.2 ∧ s.2 ≤ 1073741824
  | t :: L, b, ⟨h1, h2, h3, h4, h5⟩, s, hs => by
    rcases List.mem_cons.1 hs with rfl | hs
    · exact ⟨h1, h2, h3, h4⟩
    · have := SOK.gt h5 s hs; omega
theorem SOK.below {L : List (Int × Int)} {b x : Int} (ok : SOK L b) (h : x ≤ b) : inS L x = false := by
  simp only [inS, List.any_eq_false, Bool.and_eq_true, decide_eq_true_eq]
  intro s hs
  have := ok.gt s hs
  omega
theorem SOK.app : ∀ {L M : List (Int × Int)} {b c : Int}, SOK L b → SOK M c → (∀ s ∈ L, s.2 ≤ c) → b ≤ c → SOK (L ++ M) b
  | [], M, b, c, _, hm, _, h => by
    cases M with
    | nil => trivial
    | cons s M => obtain ⟨a1, a2⟩ := hm; exact ⟨by omega, a2⟩
  | s :: L, M, b, c, ⟨h1, h2, h3, h4, h5⟩, hm, hb, h => ⟨h1, h2, h3, h4, SOK.app h5 hm (fun t ht => hb t (by simp [ht])) (hb s (by simp))⟩
theorem SOK.left : ∀ {L M : List (Int × Int)} {b : Int}, SOK (L ++ M) b → SOK L b
  | [], _, _, _ => trivial
  | s :: L, M, b, ⟨h1, h2, h3, h4, h5⟩ => ⟨h1, h2, h3, h4, SOK.left h5⟩
theorem SOK.drop : ∀ {L : List (Int × Int)} {b : Int} (i : Nat), SOK L b → ∃ c, SOK (L.drop i) c
  | [], b, i, h => by simp; exact ⟨b, trivial⟩
  | s :: L, b, 0, h => ⟨b, h⟩
  | s :: L, b, i + 1, ⟨_, _, _, _, h⟩ => SOK.drop i h
theorem SOK.last2 : ∀ {L : List (Int × Int)} {s : Int × Int} {b : Int}, SOK (L ++ [s]) b → (∀ t ∈ L, t.2 < s.1) ∧ b < s.1 ∧ 0 ≤ s.1 ∧ s.1 < s.2 ∧ s.2 ≤ 1073741824
  | [], s, b, ⟨h1, h2, h3, h4, _⟩ => ⟨by simp, h1, h2, h3, h4⟩
  | t :: L, s, b, ⟨h1, h2, h3, h4, h5⟩ => by
    obtain ⟨a, c, d⟩ := SOK.last2 h5
    exact ⟨by simp only [List.mem_cons, forall_eq_or_imp]; exact ⟨c, a⟩, by omega, d⟩
theorem SOK.count : ∀ {L : List (Int × Int)} {b : Int}, SOK L b → ∀ m, (∀ s ∈ L, s.2 ≤ m) → b ≤ m + 0 → 2 * (L.length : Int) ≤ m - b
  | [], b, _, m, _, h => by simp; omega
  | s :: L, b, ⟨h1, h2, h3, h4, h5⟩, m, hm, h => by
    have := SOK.count h5 m (fun t ht => hm t (by simp [ht])) (by have := hm s (by simp); omega)
    simp only [List.length_cons]; omega
theorem addS_spec {L : List (Int × Int)} {a b : Int} (ok : SOK L (-1)) (hl : a < b → ∀ s ∈ L, s.2 ≤ a) (h0 : 0 ≤ a) (hb : b ≤ 1073741824) :
    SOK (addS L a b) (-1) ∧ (∀ x, inS (addS L a b) x = (inS L x || (decide (a ≤ x) && decide (x < b)))) ∧ (∀ m, (∀ s ∈ L, s.2 ≤ m) → (a < b → b ≤ m) → ∀ s ∈ addS L a b, s.2 ≤ m) := by
  unfold addS
  by_cases h : b ≤ a
  · rw [if_pos h]
    refine ⟨ok, fun x => ?_, fun m hm _ => hm⟩
    have : (decide (a ≤ x) && decide (x < b)) = false := by simp; omega
    rw [this, Bool.or_false]
  · rw [if_neg h]
    have hl := hl (by omega)
    rcases List.eq_nil_or_concat L with rfl | ⟨L', s, rfl⟩
    · simp only [List.getLast?_nil]
      refine ⟨⟨by simp; omega, by simp; omega, by simp; omega, hb, trivial⟩, fun x => by simp [inS], fun m _ hm s hs => ?_⟩
      simp at hs; subst hs; exact hm (by omega)
    · simp only [List.concat_eq_append] at ok hl ⊢
      simp only [List.getLast?_append, List.getLast?_singleton, Option.some_or, List.dropLast_concat]
      obtain ⟨k1, k2, k3, k4, k5⟩ := ok.last2
      have hs := hl s (by simp)
      by_cases hc : a ≤ s.2
      · rw [if_pos hc]
        have e : max s.2 b = b := by omega
        rw [e]
        refine ⟨SOK.app (c := s.1 - 1) ok.left ⟨by simp; omega, k3, by simp; omega, hb, trivial⟩ (fun t ht => by have := k1 t ht; omega) (by omega), fun x => ?_, fun m hm hbm t ht => ?_⟩
        · simp only [inS_app, inS_cons, inS_nil, Bool.or_false, Bool.or_assoc]
          congr 1
          rw [Bool.eq_iff_iff]
          simp
          omega
        · rcases List.mem_append.1 ht with y | y
          · exact hm t (by simp [y])
          · simp at y; subst y; exact hbm (by omega)
      · rw [if_neg hc]
        refine ⟨SOK.app (c := a - 1) ok ⟨by simp; omega, h0, by simp; omega, hb, trivial⟩ (fun t ht => ?_) (by omega), fun x => ?_, fun m hm hbm t ht => ?_⟩
        · rcases List.mem_append.1 ht with y | y
          · have := k1 t y; omega
          · simp at y; subst y; omega
        · simp only [inS_app, inS_cons, inS_nil, Bool.or_false]
        · rcases List.mem_append.1 ht with y | y
          · exact hm t y
          · simp at y; subst y; exact hbm (by omega)
theorem add_ok {h : Heap} {B : Nat} {v : V} {L : List (Int × Int)} {a b : Int} (w : WF h) (g : GRecs sp 2 h B v L) (hB : B ≤ h.next) (hn : (L.length : Int) ≤ 1073741824) :
    Does go 106 [v, .int .i64 a, .int .i64 b] h fun u h' => GRecs sp 2 h' B u (addS L a b) ∧ Fr (vb v) h h' := by
  have s := g.recs sp_len (by omega)
  by_cases h1 : b ≤ a
  · refine does_fn g106 rfl ?_
    simp (disch := omega) only [fn106, evs, ↓reduceIte, Nat.reduceEqDiff, Nat.reduceAdd, Nat.reduceMul, Nat.reduceLeDiff, Nat.reduceLT, Int.reduceNeg, DF, eff, Nat.reduceSub, fwrap_i64, s.len, h1]
    unfold addS; rw [if_pos h1]
    exact ⟨g, Fr.refl w⟩
  · rcases List.eq_nil_or_concat L with rfl | ⟨L', t, rfl⟩
    · obtain ⟨h1', e_h1'⟩ : ∃ h1', h1' = halloc h (sp (a, b)) := ⟨_, rfl⟩
      have F_h1' : Fr [] h h1' := e_h1' ▸ Fr.halloc w _
      have o_h1' : Own h1' h.next (sp (a, b)) := e_h1' ▸ Own.new w _
      have e_h2 : halloc h [.int .i64 a, .int .i64 b] = h1' := e_h1'.symm
      have hz : aP .lenS [v] = some (.int .i64 0) := s.len
      refine does_fn g106 rfl ?_
      simp (disch := omega) only [fn106, evs, ↓reduceIte, Nat.reduceEqDiff, Nat.reduceAdd, Nat.reduceMul, Nat.reduceLeDiff, Nat.reduceLT, Int.reduceNeg, DF, eff, Nat.reduceSub, fwrap_i64, hz, h1, show ¬ (0 : Int) < 0 by omega, e_h2]
      refine GRecs.append (x := (a, b)) F_h1'.wf (g.fr F_h1') sp_len (sp_ones _) (by omega) o_h1' (Nat.le_trans hB F_h1'.next) (by simp) ?_
      intro v' h' g' u
      simp (disch := omega) only [evs, ↓reduceIte, Nat.reduceEqDiff, Nat.reduceAdd, Nat.reduceMul, Nat.reduceLeDiff, Nat.reduceLT, Int.reduceNeg, DF, eff, Nat.reduceSub, fwrap_i64]
      unfold addS; rw [if_neg h1]
      exact ⟨g', F_h1'.trans u w (by simp) (fun x hx => .inl hx)⟩
    · simp only [List.concat_eq_append] at g s hn ⊢
      have hlen : ((L' ++ [t]).length : Int) = L'.length + 1 := by simp
      obtain ⟨bb, oo, x, e1, e2, e3, e4, e5⟩ := Sp.ix s L'.length (by omega)
      have hx : x = t := by simpa using e5.symm
      subst hx
      have pos : (0 : Int) < L'.length + 1 := by omega
      have es : (L'.length : Int) + 1 - 1 = L'.length := by omega
      by_cases h2 : a ≤ x.2
      · rcases g with ⟨rfl, gg⟩ | ⟨b0, n0, rfl, hl0, hn0, hB0, og⟩
        · have := congrArg List.length gg; rw [flat_len sp_len] at this; simp at this
        · rw [flat_len sp_len] at hl0
          have e0 : n0 = L'.length + 1 := by simp at hl0; omega
          subst e0
          have e1' := aP_ixU 2 b0 0 (L'.length + 1) 2 .i64 L'.length (by omega) (by omega)
          rw [e1] at e1'
          simp only [Option.some.injEq, V.ptr.injEq, Int.toNat_natCast] at e1'
          obtain ⟨rfl, rfl⟩ := e1'
          simp only [Nat.zero_add] at e1 e3
          refine does_fn g106 rfl ?_
          simp (disch := omega) only [fn106, evs, ↓reduceIte, Nat.reduceEqDiff, Nat.reduceAdd, Nat.reduceMul, Nat.reduceLeDiff, Nat.reduceLT, Int.reduceNeg, DF, eff, Nat.reduceSub, fwrap_i64, s.len, h1, hlen, pos, es, e1, e3, h2]
          have hfl : (L' ++ [x]).flatMap sp = L'.flatMap sp ++ [.int .i64 x.1, .int .i64 x.2] := by simp [sp]
          rw [hfl] at og
          have hu : updO (L'.flatMap sp ++ [.int .i64 x.1, .int .i64 x.2]) (L'.length * 2 + 1) [.int .i64 (max x.2 b)] = some (L'.flatMap sp ++ [.int .i64 x.1, .int .i64 (max x.2 b)]) := by
            have hlf : (L'.flatMap sp).length = L'.length * 2 := flat_len sp_len L'
            rw [updO_at _ _ _ (by simp [hlf])]
            congr 1
            rw [List.take_append, List.take_of_length_le (by omega), List.drop_of_length_le (by simp [hlf])]
            rw [hlf, show L'.length * 2 + 1 - L'.length * 2 = 1 by omega]
            simp
          refine store_step (c' := _) (v := .int .i64 (max x.2 b)) (o := L'.length * 2 + 1) w og rfl rfl hu ?_
          intro h' o' F' n'
          simp (disch := omega) only [evs, ↓reduceIte, Nat.reduceEqDiff, Nat.reduceAdd, Nat.reduceMul, Nat.reduceLeDiff, Nat.reduceLT, Int.reduceNeg, DF, eff, Nat.reduceSub, fwrap_i64]
          unfold addS
          rw [if_neg h1]
          simp only [List.getLast?_append, List.getLast?_singleton, Option.some_or, List.dropLast_concat, if_pos h2]
          refine ⟨.inr ⟨bb, L'.length + 1, rfl, by rw [flat_len sp_len]; simp, by omega, hB0, ?_⟩, F'⟩
          rw [List.flatMap_append]
          simpa [sp] using o'
      · obtain ⟨h1', e_h1'⟩ : ∃ h1', h1' = halloc h (sp (a, b)) := ⟨_, rfl⟩
        have F_h1' : Fr [] h h1' := e_h1' ▸ Fr.halloc w _
        have o_h1' : Own h1' h.next (sp (a, b)) := e_h1' ▸ Own.new w _
        have e_h2 : halloc h [.int .i64 a, .int .i64 b] = h1' := e_h1'.symm
        refine does_fn g106 rfl ?_
        simp (disch := omega) only [fn106, evs, ↓reduceIte, Nat.reduceEqDiff, Nat.reduceAdd, Nat.reduceMul, Nat.reduceLeDiff, Nat.reduceLT, Int.reduceNeg, DF, eff, Nat.reduceSub, fwrap_i64, s.len, h1, hlen, pos, es, e1, e3, h2, e_h2]
        refine GRecs.append (x := (a, b)) F_h1'.wf (g.fr F_h1') sp_len (sp_ones _) (by omega) o_h1' (Nat.le_trans hB F_h1'.next) (by simp; omega) ?_
        intro v' h' g' u
        simp (disch := omega) only [evs, ↓reduceIte, Nat.reduceEqDiff, Nat.reduceAdd, Nat.reduceMul, Nat.reduceLeDiff, Nat.reduceLT, Int.reduceNeg, DF, eff, Nat.reduceSub, fwrap_i64]
        unfold addS; rw [if_neg h1]
        simp only [List.getLast?_append, List.getLast?_singleton, Option.some_or, if_neg h2]
        exact ⟨g', F_h1'.trans u w (by simp) (fun x hx => .inl hx)⟩
theorem Clip_ok {h : Heap} {B : Nat} {v : V} {L : List (Int × Int)} (g : GRecs sp 2 h B v L) : Does go 119 [v] h fun u h' => SpF h u L ∧ u.one = true ∧ h' = h := by
  have s := g.recs sp_len (by omega)
  rcases g with ⟨rfl, gg⟩ | ⟨b0, n0, rfl, hl0, hn0, hB0, og⟩
  · have e : aP (.sl none 2 false true true) [.nils, .int .i64 (L.length : Int), .int .i64 (L.length : Int)] = some .nils := by
      have : L = [] := by have := congrArg List.length gg; rw [flat_len sp_len, List.length_nil] at this; exact List.length_eq_zero_iff.1 (by omega)
      subst this; rfl
    have hz : aP .lenS [.nils] = some (.int .i64 (L.length : Int)) := s.len
    refine does_fn g119 rfl ?_
    simp (disch := omega) only [fn119, W_ret, W_seq, W_ops, thenQ_norm, thenQ_ret, WS_nil, WS_l, WS_v, op_p, PQ_some, VQ_some, kl_app, kv_app, evO_l, evO_v, evO_c, evOs_nil, evOs_c, consO_some, nth_zero, nth_succ, bindA_nil, bindA_cons, T.get_set, RetQ_ret, RsQ_some, evRs_nil, evRs_t, packV_one, aP_mv, hz, e, reduceIte, Nat.reduceEqDiff, Nat.reduceAdd]
    exact ⟨.inl ⟨rfl, by have := congrArg List.length gg; rw [flat_len sp_len, List.length_nil] at this; exact List.length_eq_zero_iff.1 (by omega)⟩, rfl, trivial⟩
  · rw [flat_len sp_len] at hl0
    have e0 : n0 = L.length := by omega
    subst e0
    have hab : abounds L.length L.length false true true [.int .i64 (L.length : Int), .int .i64 (L.length : Int)] = some (0, L.length, some L.length) := by
      simp only [abounds, abound_ok .i64 (L.length : Int) L.length (by omega) (by omega), Option.bind_some, Int.toNat_natCast, Option.map_some]
    have e : aP (.sl none 2 false true true) [.sliceU b0 0 L.length 2, .int .i64 (L.length : Int), .int .i64 (L.length : Int)] = some (.slice b0 0 L.length L.length) := by
      have hq : (Nat.beq 2 2 && Nat.blt 0 2) = true := rfl
      simp only [aP, aslice, hq, cond_true, hab, Option.bind_some, beq_ff (show L.length ≠ 0 by omega), cond_false, Nat.zero_mul, Nat.sub_zero, Nat.add_zero]
    refine does_fn g119 rfl ?_
    simp (disch := omega) only [fn119, evs, ↓reduceIte, Nat.reduceEqDiff, Nat.reduceAdd, Nat.reduceMul, Nat.reduceLeDiff, Nat.reduceLT, Int.reduceNeg, DF, eff, Nat.reduceSub, fwrap_i64, e]
    exact ⟨.inr ⟨b0, rfl, og, hn0⟩, rfl⟩
theorem done_ok {h : Heap} {B : Nat} {v : V} {L : List (Int × Int)} (g : GRecs sp 2 h B v L) (hn : L.length ≤ 4096) : Does go 107 [v] h fun u h' => ∃ z, u = .tup [z, .int .i64 0] ∧ SpF h z L ∧ z.one = true ∧ h' = h := by
  have s := g.recs sp_len (by omega)
  refine does_fn g107 rfl ?_
  simp (disch := omega) only [fn107, evs, ↓reduceIte, Nat.reduceEqDiff, Nat.reduceAdd, Nat.reduceMul, Nat.reduceLeDiff, Nat.reduceLT, Int.reduceNeg, DF, eff, Nat.reduceSub, fwrap_i64, s.len, show ¬ (4096 : Int) < L.length by omega]
  refine OQ_does (Clip_ok g) ?_
  rintro z _ ⟨a, b, rfl⟩
  simp (disch := omega) only [evs, ↓reduceIte, Nat.reduceEqDiff, Nat.reduceAdd, Nat.reduceMul, Nat.reduceLeDiff, Nat.reduceLT, Int.reduceNeg, DF, eff, Nat.reduceSub, fwrap_i64]
  exact ⟨z, rfl, a, b⟩
end Go.Ev.Lay

/- Spans: merged, Union, Without, Insert. -/
namespace Go.Ev.Lay
set_option maxRecDepth 4000
theorem edge_ok {h : Heap} {s : Int × Int} {a : Int} (w : WF h) : Does go 129 [.agg [.int .i64 s.1, .int .i64 s.2], .int .i64 a] h fun u h' => u = .int .i64 (if a < s.1 then s.1 else s.2) ∧ Fr [] h h' := by
  obtain ⟨h1, e_h1⟩ : ∃ h1, h1 = halloc h [.int .i64 s.1, .int .i64 s.2] := ⟨_, rfl⟩
  have F_h1 : Fr [] h h1 := e_h1 ▸ Fr.halloc w _
  have o_h1 : Own h1 h.next [.int .i64 s.1, .int .i64 s.2] := e_h1 ▸ Own.new w _
  by_cases c : a < s.1
  · refine does_fn g129 rfl ?_
    simp (disch := omega) only [fn129, evs, ↓reduceIte, Nat.reduceEqDiff, Nat.reduceAdd, Nat.reduceMul, Nat.reduceLeDiff, Nat.reduceLT, Int.reduceNeg, DF, eff, Nat.reduceSub, fwrap_i64, ← e_h1, o_h1.ld1, c]
    exact F_h1
  · refine does_fn g129 rfl ?_
    simp (disch := omega) only [fn129, evs, ↓reduceIte, Nat.reduceEqDiff, Nat.reduceAdd, Nat.reduceMul, Nat.reduceLeDiff, Nat.reduceLT, Int.reduceNeg, DF, eff, Nat.reduceSub, fwrap_i64, ← e_h1, o_h1.ld1, c]
    exact F_h1
theorem both_ok {h : Heap} {u v : V} {A B : List (Int × Int)} (w : WF h) (a : Sp h u A) (b : Sp h v B) (oka : SOK A (-1)) (okb : SOK B (-1)) (ha : A.length ≤ 4096) (hb : B.length ≤ 4096) :
    Does go 128 [u, v] h fun u h' => u = .int .i64 0 ∧ Fr [] h h' := by
  refine does_fn g128 rfl ?_
  simp (disch := omega) only [fn128, evs, ↓reduceIte, Nat.reduceEqDiff, Nat.reduceAdd, Nat.reduceMul, Nat.reduceLeDiff, Nat.reduceLT, Int.reduceNeg, DF, eff, Nat.reduceSub, fwrap_i64]
  refine OQ_does (SCheck_ok w a oka ha) ?_
  rintro _ h1 ⟨rfl, F1⟩
  simp (disch := omega) only [evs, ↓reduceIte, Nat.reduceEqDiff, Nat.reduceAdd, Nat.reduceMul, Nat.reduceLeDiff, Nat.reduceLT, Int.reduceNeg, DF, eff, Nat.reduceSub, fwrap_i64]
  refine OQ_does (SCheck_ok F1.wf (b.fr F1) okb hb) ?_
  rintro _ h2 ⟨rfl, F2⟩
  simp (disch := omega) only [evs, ↓reduceIte, Nat.reduceEqDiff, Nat.reduceAdd, Nat.reduceMul, Nat.reduceLeDiff, Nat.reduceLT, Int.reduceNeg, DF, eff, Nat.reduceSub, fwrap_i64]
  exact F1.then F2
/-- how many ends lie behind a place -/
def cnt (A : List (Int × Int)) (a : Int) : Nat := (A.map fun s => (if a < s.1 then 1 else 0) + (if a < s.2 then 1 else 0)).sum
theorem cnt_cons (s : Int × Int) (A : List (Int × Int)) (a : Int) : cnt (s :: A) a = (if a < s.1 then 1 else 0) + (if a < s.2 then 1 else 0) + cnt A a := by simp [cnt]
theorem cnt_le : ∀ (A : List (Int × Int)) {a e : Int}, a ≤ e → cnt A e ≤ cnt A a
  | [], _, _, _ => Nat.le_refl _
  | s :: A, a, e, h => by
    have := cnt_le A h
    rw [cnt_cons, cnt_cons]
    by_cases c1 : e < s.1 <;> by_cases c2 : e < s.2 <;> by_cases c3 : a < s.1 <;> by_cases c4 : a < s.2 <;> simp [c1, c2, c3, c4] <;> omega
theorem cnt_lt : ∀ (A : List (Int × Int)) {a e : Int} {s : Int × Int}, a < e → s ∈ A → (s.1 = e ∨ s.2 = e) → cnt A e < cnt A a
  | t :: A, a, e, s, h, hs, hse => by
    rw [cnt_cons, cnt_cons]
    have hle := cnt_le A (Int.le_of_lt h)
    rcases List.mem_cons.1 hs with rfl | hs
    · by_cases c1 : e < s.1 <;> by_cases c2 : e < s.2 <;> by_cases c3 : a < s.1 <;> by_cases c4 : a < s.2 <;> simp [c1, c2, c3, c4] <;> omega
    · have := cnt_lt A h hs hse
      by_cases c1 : e < t.1 <;> by_cases c2 : e < t.2 <;> by_cases c3 : a < t.1 <;> by_cases c4 : a < t.2 <;> simp [c1, c2, c3, c4] <;> omega
theorem cnt_max (A : List (Int × Int)) (a : Int) : cnt A a ≤ 2 * A.length := by
  induction A with
  | nil => simp [cnt]
  | cons s A ih => rw [cnt_cons]; simp only [List.length_cons]; by_cases c3 : a < s.1 <;> by_cases c4 : a < s.2 <;> simp [c3, c4] <;> omega
/-- what a set is like from a place on, up to the next end -/
def hdIn (D : List (Int × Int)) (a : Int) : Bool := match D with
  | [] => false
  | s :: _ => decide (s.1 ≤ a)
def hdEnd (D : List (Int × Int)) (a : Int) : Int := match D with
  | [] => 1073741824
  | s :: _ => if a < s.1 then s.1 else s.2
theorem seg {D : List (Int × Int)} {last a x : Int} (ok : SOK D last) (hx : a ≤ x) (hD : ∀ s D', D = s :: D' → a < s.2) (he : x < hdEnd D a) : inS D x = hdIn D a := by
  cases D with
  | nil => rfl
  | cons s D =>
    obtain ⟨h1, h2, h3, h4, h5⟩ := ok
    have := hD s D rfl
    simp only [hdEnd] at he
    rw [inS_cons, SOK.below h5 (by split at he <;> omega), Bool.or_false]
    simp only [hdIn]
    rw [Bool.eq_iff_iff]
    simp
    split at he <;> omega
theorem inS_split {A : List (Int × Int)} {i : Nat} {a x : Int} (h : ∀ s ∈ A.take i, s.2 ≤ a) (hx : a ≤ x) : inS A x = inS (A.drop i) x := by
  conv => lhs; rw [← List.take_append_drop i A]
  rw [inS_app]
  have : inS (A.take i) x = false := by
    simp only [inS, List.any_eq_false, Bool.and_eq_true, decide_eq_true_eq]
    intro s hs
    have := h s hs
    omega
  rw [this, Bool.false_or]
theorem take_mem {A : List (Int × Int)} {i : Nat} {s : Int × Int} {a : Int} (h : ∀ s ∈ A.take i, s.2 ≤ a) (e : A[i]? = some s) (hs : s.2 ≤ a) : ∀ s ∈ A.take (i + 1), s.2 ≤ a := by
  intro t ht
  rw [List.take_add_one, e] at ht
  simp at ht
  rcases ht with ht | rfl
  · exact h t ht
  · exact hs
/-- skipping what lies below a place: slot x of the index, slot z of the test -/
theorem skip_ok {h : Heap} {v : V} {A : List (Int × Int)} {env : T V} {at' : Int} {i : Nat} {Q : Ex → T V → Heap → Prop} {c : IC} (sv sx sz : Nat) (hA : A.length ≤ 4096) (h10 : sx ≠ 10 ∧ sz ≠ 10 ∧ sv ≠ sx ∧ sv ≠ sz ∧ sx ≠ sz) (id : Nat)
    (a : Sp h v A) (gv : env.get sv = some v) (g10 : env.get 10 = some (.int .i64 at')) (gx : env.get sx = some (.int .i64 i)) (hi : i ≤ A.length) (hb : ∀ s ∈ A.take i, s.2 ≤ at')
    (body : ∀ (env : T V) (i : Nat) (Q : Ex → T V → Heap → Prop), env.get sv = some v → env.get 10 = some (.int .i64 at') → env.get sx = some (.int .i64 i) → i ≤ A.length →
      (∀ env', env'.get sx = some (.int .i64 ((i : Int) + 1)) → (∀ s, s ≠ sx → s ≠ sz → env'.get s = env.get s) → (∃ s, A[i]? = some s ∧ s.2 ≤ at') → Q .norm env' h) →
      (∀ env', (∀ s, s ≠ sz → env'.get s = env.get s) → (∀ s, A[i]? = some s → at' < s.2) → Q (.exit id) env' h) → W go c env h Q)
    (k : ∀ env' (j : Nat), env'.get sx = some (.int .i64 j) → (∀ s, s ≠ sx → s ≠ sz → env'.get s = env.get s) → j ≤ A.length → (∀ s ∈ A.take j, s.2 ≤ at') → (∀ s, A[j]? = some s → at' < s.2) → Q (.exit id) env' h) :
    W go (.loop c) env h Q := by
  refine W_loop (fun k env' hh => hh = h ∧ (∀ s, s ≠ sx → s ≠ sz → env'.get s = env.get s) ∧ ∃ j : Nat, env'.get sx = some (.int .i64 j) ∧ j ≤ A.length ∧ (∀ s ∈ A.take j, s.2 ≤ at') ∧ k = A.length - j) (A.length - i) (by omega) ?_ ?_
  · exact ⟨rfl, fun _ _ _ => rfl, i, gx, hi, hb, rfl⟩
  · rintro k' env1 hh ⟨rfl, same, j, gj, hj, hbj, rfl⟩
    refine body env1 j _ ((same sv h10.2.2.1 h10.2.2.2.1).trans gv) ((same 10 (Ne.symm h10.1) (Ne.symm h10.2.1)).trans g10) gj hj ?_ ?_
    · rintro env2 e1 e2 ⟨s, es, hs⟩
      have hlt : j < A.length := by
        rcases Nat.lt_or_ge j A.length with y | y
        · exact y
        · rw [List.getElem?_eq_none y] at es; cases es
      exact (roundQ_norm _ _ _).2 ⟨A.length - (j + 1), by omega, rfl, fun s a1 a2 => (e2 s a1 a2).trans (same s a1 a2), j + 1, by simpa using e1, by omega, take_mem hbj es hs, rfl⟩
    · intro env2 e2 hs
      exact (roundQ_exit _ _ _ _).2 (k env2 j ((e2 sx h10.2.2.2.2).trans gj) (fun s a1 a2 => (e2 s a2).trans (same s a1 a2)) hj hbj hs)
/-- what merging keeps -/
structure Keep (kf : V) (keep : Bool → Bool → Bool) : Prop where
  fn : ∃ g, kf = .func (.func g) [] [] ∧ g < 1099511627776 ∧ ∀ h a b, Does go g [.bool a, .bool b] h fun u h' => u = .bool (keep a b) ∧ h' = h
  ff : keep false false = false
theorem merged_ok {h : Heap} {u v kf : V} {A B : List (Int × Int)} {keep : Bool → Bool → Bool} (w : WF h) (a : Sp h u A) (b : Sp h v B) (oka : SOK A (-1)) (okb : SOK B (-1)) (ha : A.length ≤ 4096) (hb : B.length ≤ 4096)
    (hk : Keep kf keep) (m : Int) (hm : m ≤ 8000) (hma : ∀ s ∈ A, s.2 ≤ m) (hmb : ∀ s ∈ B, s.2 ≤ m) :
    Does go 120 [u, v, kf] h fun z h' => Fr [] h h' ∧ ∃ y L, z = .tup [y, .int .i64 0] ∧ y.one = true ∧ SpF h' y L ∧ SOK L (-1) ∧ (∀ x, inS L x = keep (inS A x) (inS B x)) ∧ ∀ s ∈ L, s.2 ≤ max m 0 := by
  refine does_fn g120 rfl ?_
  simp (disch := omega) only [fn120, evs, ↓reduceIte, Nat.reduceEqDiff, Nat.reduceAdd, Nat.reduceMul, Nat.reduceLeDiff, Nat.reduceLT, Int.reduceNeg, DF, eff, Nat.reduceSub, fwrap_i64]
  refine W_scope0 ?_
  simp (disch := omega) only [evs, ↓reduceIte, Nat.reduceEqDiff, Nat.reduceAdd, Nat.reduceMul, Nat.reduceLeDiff, Nat.reduceLT, Int.reduceNeg, DF, eff, Nat.reduceSub, fwrap_i64]
  refine OQ_does (both_ok w a b oka okb ha hb) ?_
  rintro _ h1 ⟨rfl, F1⟩
  simp (disch := omega) only [evs, ↓reduceIte, Nat.reduceEqDiff, Nat.reduceAdd, Nat.reduceMul, Nat.reduceLeDiff, Nat.reduceLT, Int.reduceNeg, DF, eff, Nat.reduceSub, fwrap_i64]
  obtain ⟨g, rfl, hgy, hkf⟩ := hk.fn
  have below : ∀ (O : List (Int × Int)) {c : Int}, (∀ s ∈ O, s.2 ≤ c) → ∀ x, c ≤ x → inS O x = false := by
    intro O c hO x hx
    simp only [inS, List.any_eq_false, Bool.and_eq_true, decide_eq_true_eq]
    intro s hs
    have := hO s hs
    omega
  refine W_loop (fun k env hh => ∃ (i j : Nat) (at' : Int) (vo : V) (O : List (Int × Int)), Fr [] h hh ∧ env.get 0 = some u ∧ env.get 1 = some v ∧ env.get 2 = some (.func (.func g) [] []) ∧ env.get 9 = some vo ∧
    env.get 10 = some (.int .i64 at') ∧ env.get 11 = some (.int .i64 i) ∧ env.get 12 = some (.int .i64 j) ∧ i ≤ A.length ∧ j ≤ B.length ∧ 0 ≤ at' ∧ at' ≤ max m 0 ∧ (∀ s ∈ A.take i, s.2 ≤ at') ∧ (∀ s ∈ B.take j, s.2 ≤ at') ∧
    GRecs sp 2 hh h.next vo O ∧ SOK O (-1) ∧ (∀ s ∈ O, s.2 ≤ at') ∧ (∀ x, x < at' → inS O x = keep (inS A x) (inS B x)) ∧ k = cnt A at' + cnt B at') (cnt A 0 + cnt B 0) (by have := cnt_max A 0; have := cnt_max B 0; omega) ?_ ?_
  · refine ⟨0, 0, 0, .nils, [], F1, (by simp [T.get_set]), (by simp [T.get_set]), (by simp [T.get_set]), (by simp [T.get_set]), (by simp [T.get_set]), (by simp [T.get_set]), (by simp [T.get_set]), by omega, by omega, by omega, by omega, by simp, by simp, GRecs.nil, trivial, by simp, ?_, rfl⟩
    intro x hx
    rw [oka.below (by omega), okb.below (by omega), hk.ff]; rfl
  · rintro k env hh ⟨i, j, at', vo, O, F, g0, g1, g2, g9, g10, g11, g12, hi, hj, at0, atm, hbi, hbj, gO, okO, mO, sO, rfl⟩
    simp (disch := omega) only [evs, ↓reduceIte, Nat.reduceEqDiff, Nat.reduceAdd, Nat.reduceMul, Nat.reduceLeDiff, Nat.reduceLT, Int.reduceNeg, DF, eff, Nat.reduceSub, fwrap_i64]
    refine skip_ok 0 11 34 ha (by omega) 2 (a.fr F) g0 g10 g11 hi hbi ?_ ?_
    · intro env i Q g0 g10 g11 hi hn hx
      by_cases hlt : (i : Int) < A.length
      · obtain ⟨bb, oo, s, e1, e2, e3, e4, e5⟩ := Sp.ix (a.fr F) i hlt
        by_cases hs : s.2 ≤ at'
        · simp (disch := omega) only [evs, ↓reduceIte, Nat.reduceEqDiff, Nat.reduceAdd, Nat.reduceMul, Nat.reduceLeDiff, Nat.reduceLT, Int.reduceNeg, DF, eff, Nat.reduceSub, fwrap_i64, g0, g10, g11, (a.fr F).len, hlt, e1, e3, hs]
          exact hn _ (by simp [T.get_set]) (fun s h1 h2 => by simp [T.get_set, h1, h2]) ⟨s, e5, hs⟩
        · simp (disch := omega) only [evs, ↓reduceIte, Nat.reduceEqDiff, Nat.reduceAdd, Nat.reduceMul, Nat.reduceLeDiff, Nat.reduceLT, Int.reduceNeg, DF, eff, Nat.reduceSub, fwrap_i64, g0, g10, g11, (a.fr F).len, hlt, e1, e3, hs]
          exact hx _ (fun s h1 => by simp [T.get_set, h1]) (fun t ht => by rw [e5] at ht; cases ht; omega)
      · simp (disch := omega) only [evs, ↓reduceIte, Nat.reduceEqDiff, Nat.reduceAdd, Nat.reduceMul, Nat.reduceLeDiff, Nat.reduceLT, Int.reduceNeg, DF, eff, Nat.reduceSub, fwrap_i64, g0, g10, g11, (a.fr F).len, hlt]
        exact hx _ (fun s h1 => by simp [T.get_set, h1]) (fun t ht => by rw [List.getElem?_eq_none (by omega)] at ht; cases ht)
    intro env1 i1 g11' same1 hi1 hb1 hs1
    have g0' := (same1 0 (by omega) (by omega)).trans g0
    have g1' := (same1 1 (by omega) (by omega)).trans g1
    have g2' := (same1 2 (by omega) (by omega)).trans g2
    have g9' := (same1 9 (by omega) (by omega)).trans g9
    have g10' := (same1 10 (by omega) (by omega)).trans g10
    have g12' := (same1 12 (by omega) (by omega)).trans g12
    simp (disch := omega) only [evs, ↓reduceIte, Nat.reduceEqDiff, Nat.reduceAdd, Nat.reduceMul, Nat.reduceLeDiff, Nat.reduceLT, Int.reduceNeg, DF, eff, Nat.reduceSub, fwrap_i64]
    refine skip_ok 1 12 49 hb (by omega) 4 (b.fr F) g1' g10' g12' hj hbj ?_ ?_
    · intro env i Q g0 g10 g11 hi hn hx
      by_cases hlt : (i : Int) < B.length
      · obtain ⟨bb, oo, s, e1, e2, e3, e4, e5⟩ := Sp.ix (b.fr F) i hlt
        by_cases hs : s.2 ≤ at'
        · simp (disch := omega) only [evs, ↓reduceIte, Nat.reduceEqDiff, Nat.reduceAdd, Nat.reduceMul, Nat.reduceLeDiff, Nat.reduceLT, Int.reduceNeg, DF, eff, Nat.reduceSub, fwrap_i64, g0, g10, g11, (b.fr F).len, hlt, e1, e3, hs]
          exact hn _ (by simp [T.get_set]) (fun s h1 h2 => by simp [T.get_set, h1, h2]) ⟨s, e5, hs⟩
        · simp (disch := omega) only [evs, ↓reduceIte, Nat.reduceEqDiff, Nat.reduceAdd, Nat.reduceMul, Nat.reduceLeDiff, Nat.reduceLT, Int.reduceNeg, DF, eff, Nat.reduceSub, fwrap_i64, g0, g10, g11, (b.fr F).len, hlt, e1, e3, hs]
          exact hx _ (fun s h1 => by simp [T.get_set, h1]) (fun t ht => by rw [e5] at ht; cases ht; omega)
      · simp (disch := omega) only [evs, ↓reduceIte, Nat.reduceEqDiff, Nat.reduceAdd, Nat.reduceMul, Nat.reduceLeDiff, Nat.reduceLT, Int.reduceNeg, DF, eff, Nat.reduceSub, fwrap_i64, g0, g10, g11, (b.fr F).len, hlt]
        exact hx _ (fun s h1 => by simp [T.get_set, h1]) (fun t ht => by rw [List.getElem?_eq_none (by omega)] at ht; cases ht)
    intro env2 j1 g12'' same2 hj1 hb2 hs2
    have n0 := (same2 0 (by omega) (by omega)).trans g0'
    have n1 := (same2 1 (by omega) (by omega)).trans g1'
    have n2 := (same2 2 (by omega) (by omega)).trans g2'
    have n9 := (same2 9 (by omega) (by omega)).trans g9'
    have n10 := (same2 10 (by omega) (by omega)).trans g10'
    have n11 := (same2 11 (by omega) (by omega)).trans g11'
    clear same1 same2 g0' g1' g2' g9' g10' g11' g12' g0 g1 g2 g9 g10 g11 g12 hbi hbj hi hj env env1
    obtain ⟨ca, okA⟩ := oka.drop i1
    obtain ⟨cb, okB⟩ := okb.drop j1
    have segA : ∀ x, at' ≤ x → x < hdEnd (A.drop i1) at' → inS A x = hdIn (A.drop i1) at' := fun x h1 h2 => by
      rw [inS_split hb1 h1, seg okA h1 (fun s D' e => hs1 s (by rw [← List.head?_drop, e]; rfl)) h2]
    have segB : ∀ x, at' ≤ x → x < hdEnd (B.drop j1) at' → inS B x = hdIn (B.drop j1) at' := fun x h1 h2 => by
      rw [inS_split hb2 h1, seg okB h1 (fun s D' e => hs2 s (by rw [← List.head?_drop, e]; rfl)) h2]
    by_cases cA : (i1 : Int) < A.length
    · obtain ⟨bA, oA, s, eA1, eA2, eA3, eA4, eA5⟩ := Sp.ix (a.fr F) i1 cA
      have eD := drop_cons eA5
      rw [eD] at segA okA
      simp only [hdEnd, hdIn] at segA
      have sm := hma s (List.mem_of_getElem? eA5)
      have s2 := hs1 s eA5
      obtain ⟨q1, q2, q3, q4, _⟩ := okA
      simp (disch := omega) only [evs, ↓reduceIte, Nat.reduceEqDiff, Nat.reduceAdd, Nat.reduceMul, Nat.reduceLeDiff, Nat.reduceLT, Int.reduceNeg, DF, eff, Nat.reduceSub, fwrap_i64, n0, n1, n2, n9, n10, n11, g12'', (a.fr F).len, (b.fr F).len, cA, eA1, eA2, eA4]
      refine OQ_does (edge_ok F.wf) ?_
      rintro _ h3 ⟨rfl, F3⟩
      have FH := F.then F3
      obtain ⟨eA, heA⟩ : ∃ eA, eA = if at' < s.1 then s.1 else s.2 := ⟨_, rfl⟩
      rw [← heA] at segA ⊢
      have leA : at' < eA ∧ eA ≤ m ∧ eA ≤ 1073741824 ∧ (s.1 = eA ∨ s.2 = eA) := by rw [heA]; split <;> omega
      by_cases cB : (j1 : Int) < B.length
      · obtain ⟨bB, oB, t, eB1, eB2, eB3, eB4, eB5⟩ := Sp.ix (b.fr FH) j1 cB
        have eE := drop_cons eB5
        rw [eE] at segB okB
        simp only [hdEnd, hdIn] at segB
        have tm := hmb t (List.mem_of_getElem? eB5)
        have t2 := hs2 t eB5
        obtain ⟨r1, r2, r3, r4, _⟩ := okB
        simp (disch := omega) only [evs, ↓reduceIte, Nat.reduceEqDiff, Nat.reduceAdd, Nat.reduceMul, Nat.reduceLeDiff, Nat.reduceLT, Int.reduceNeg, DF, eff, Nat.reduceSub, fwrap_i64, n0, n1, n2, n9, n10, n11, g12'', (a.fr FH).len, (b.fr FH).len, cB, eB1, eB2, eB4]
        refine OQ_does (edge_ok F3.wf) ?_
        rintro _ h4 ⟨rfl, F4⟩
        have FH := FH.then F4
        have gO' := gO.fr (F3.then F4)
        obtain ⟨eB, heB⟩ : ∃ eB, eB = if at' < t.1 then t.1 else t.2 := ⟨_, rfl⟩
        rw [← heB] at segB ⊢
        have leB : at' < eB ∧ eB ≤ m ∧ eB ≤ 1073741824 ∧ (t.1 = eB ∨ t.2 = eB) := by rw [heB]; split <;> omega
        simp (disch := omega) only [evs, ↓reduceIte, Nat.reduceEqDiff, Nat.reduceAdd, Nat.reduceMul, Nat.reduceLeDiff, Nat.reduceLT, Int.reduceNeg, DF, eff, Nat.reduceSub, fwrap_i64, n0, n1, n2, n9, n10, n11, g12'', (a.fr FH).len, (b.fr FH).len, show ¬ (i1 : Int) = A.length by omega]
        obtain ⟨e, he⟩ : ∃ e, e = min (min 1073741824 eA) eB := ⟨_, rfl⟩
        rw [← he]
        have hA : ∀ x, at' ≤ x → x < e → inS A x = decide (s.1 ≤ at') := fun x h1 h2 => segA x h1 (by omega)
        have hB : ∀ x, at' ≤ x → x < e → inS B x = decide (t.1 ≤ at') := fun x h1 h2 => segB x h1 (by omega)
        have heM : e ≤ max m 0 := by omega
        have hcnt : cnt A e + cnt B e < cnt A at' + cnt B at' := by
          by_cases c : eA ≤ eB
          · have := cnt_lt A (a := at') (e := e) (by omega) (List.mem_of_getElem? eA5) (by omega); have := cnt_le B (a := at') (e := e) (by omega); omega
          · have := cnt_lt B (a := at') (e := e) (by omega) (List.mem_of_getElem? eB5) (by omega); have := cnt_le A (a := at') (e := e) (by omega); omega
        have cO := okO.count at' mO (by omega)
        refine ⟨hgy, OQ_does (hkf _ _ _) ?_⟩
        rintro _ _ ⟨rfl, hhh⟩
        subst hhh
        cases hkeep : keep (decide (s.1 ≤ at')) (decide (t.1 ≤ at'))
        · simp (disch := omega) only [evs, ↓reduceIte, Nat.reduceEqDiff, Nat.reduceAdd, Nat.reduceMul, Nat.reduceLeDiff, Nat.reduceLT, Int.reduceNeg, DF, eff, Nat.reduceSub, fwrap_i64, hkeep, n0, n1, n2, n9, n10, n11, g12'']
          refine (roundQ_norm _ _ _).2 ⟨cnt A e + cnt B e, hcnt, i1, j1, e, vo, O, FH, (by simp [T.get_set, n0]), (by simp [T.get_set, n1]), (by simp [T.get_set, n2]), (by simp [T.get_set, n9]), (by simp [T.get_set]), (by simp [T.get_set, n11]), (by simp [T.get_set, g12'']), hi1, hj1, by omega, heM, fun s hs => by have := hb1 s hs; omega, fun s hs => by have := hb2 s hs; omega, gO', okO, fun s hs => by have := mO s hs; omega, ?_, rfl⟩
          intro x hx
          by_cases hxa : x < at'
          · exact sO x hxa
          · rw [hA x (by omega) hx, hB x (by omega) hx, hkeep, below O mO x (by omega)]
        · simp (disch := omega) only [evs, ↓reduceIte, Nat.reduceEqDiff, Nat.reduceAdd, Nat.reduceMul, Nat.reduceLeDiff, Nat.reduceLT, Int.reduceNeg, DF, eff, Nat.reduceSub, fwrap_i64, hkeep, n0, n1, n2, n9, n10, n11, g12'']
          refine OQ_does (add_ok FH.wf gO' FH.next (by omega)) ?_
          rintro vo' h9 ⟨g9, U9⟩
          replace U9 := Gs.up gO' U9
          simp (disch := omega) only [evs, ↓reduceIte, Nat.reduceEqDiff, Nat.reduceAdd, Nat.reduceMul, Nat.reduceLeDiff, Nat.reduceLT, Int.reduceNeg, DF, eff, Nat.reduceSub, fwrap_i64, n1]
          obtain ⟨s1, s2, s3⟩ := addS_spec (a := at') (b := e) okO (fun _ => mO) at0 (by omega)
          refine (roundQ_norm _ _ _).2 ⟨cnt A e + cnt B e, hcnt, i1, j1, e, vo', addS O at' e, FH.ups w U9, (by simp [T.get_set, n0]), (by simp [T.get_set, n1]), (by simp [T.get_set, n2]), (by simp [T.get_set]), (by simp [T.get_set]), (by simp [T.get_set, n11]), (by simp [T.get_set, g12'']), hi1, hj1, by omega, heM, fun s hs => by have := hb1 s hs; omega, fun s hs => by have := hb2 s hs; omega, g9, s1, s3 e (fun s hs => by have := mO s hs; omega) (fun _ => Int.le_refl _), ?_, rfl⟩
          intro x hx
          rw [s2 x]
          by_cases hxa : x < at'
          · rw [sO x hxa, show decide (at' ≤ x) = false by simp; omega]; simp
          · rw [hA x (by omega) hx, hB x (by omega) hx, hkeep, below O mO x (by omega)]; simp; omega
      · have gO' := gO.fr F3
        rw [List.drop_of_length_le (by omega)] at segB
        simp only [hdEnd, hdIn] at segB
        simp (disch := omega) only [evs, ↓reduceIte, Nat.reduceEqDiff, Nat.reduceAdd, Nat.reduceMul, Nat.reduceLeDiff, Nat.reduceLT, Int.reduceNeg, DF, eff, Nat.reduceSub, fwrap_i64, n0, n1, n2, n9, n10, n11, g12'', (a.fr FH).len, (b.fr FH).len, cB, show ¬ (i1 : Int) = A.length by omega]
        obtain ⟨e, he⟩ : ∃ e, e = min 1073741824 eA := ⟨_, rfl⟩
        rw [← he]
        have hA : ∀ x, at' ≤ x → x < e → inS A x = decide (s.1 ≤ at') := fun x h1 h2 => segA x h1 (by omega)
        have hB : ∀ x, at' ≤ x → x < e → inS B x = false := fun x h1 h2 => segB x h1 (by omega)
        have heM : e ≤ max m 0 := by omega
        have hcnt : cnt A e + cnt B e < cnt A at' + cnt B at' := by
          have := cnt_lt A (a := at') (e := e) (by omega) (List.mem_of_getElem? eA5) (by omega); have := cnt_le B (a := at') (e := e) (by omega); omega
        have cO := okO.count at' mO (by omega)
        refine ⟨hgy, OQ_does (hkf _ _ _) ?_⟩
        rintro _ _ ⟨rfl, hhh⟩
        subst hhh
        cases hkeep : keep (decide (s.1 ≤ at')) (false)
        · simp (disch := omega) only [evs, ↓reduceIte, Nat.reduceEqDiff, Nat.reduceAdd, Nat.reduceMul, Nat.reduceLeDiff, Nat.reduceLT, Int.reduceNeg, DF, eff, Nat.reduceSub, fwrap_i64, hkeep, n0, n1, n2, n9, n10, n11, g12'']
          refine (roundQ_norm _ _ _).2 ⟨cnt A e + cnt B e, hcnt, i1, j1, e, vo, O, FH, (by simp [T.get_set, n0]), (by simp [T.get_set, n1]), (by simp [T.get_set, n2]), (by simp [T.get_set, n9]), (by simp [T.get_set]), (by simp [T.get_set, n11]), (by simp [T.get_set, g12'']), hi1, hj1, by omega, heM, fun s hs => by have := hb1 s hs; omega, fun s hs => by have := hb2 s hs; omega, gO', okO, fun s hs => by have := mO s hs; omega, ?_, rfl⟩
          intro x hx
          by_cases hxa : x < at'
          · exact sO x hxa
          · rw [hA x (by omega) hx, hB x (by omega) hx, hkeep, below O mO x (by omega)]
        · simp (disch := omega) only [evs, ↓reduceIte, Nat.reduceEqDiff, Nat.reduceAdd, Nat.reduceMul, Nat.reduceLeDiff, Nat.reduceLT, Int.reduceNeg, DF, eff, Nat.reduceSub, fwrap_i64, hkeep, n0, n1, n2, n9, n10, n11, g12'']
          refine OQ_does (add_ok FH.wf gO' FH.next (by omega)) ?_
          rintro vo' h9 ⟨g9, U9⟩
          replace U9 := Gs.up gO' U9
          simp (disch := omega) only [evs, ↓reduceIte, Nat.reduceEqDiff, Nat.reduceAdd, Nat.reduceMul, Nat.reduceLeDiff, Nat.reduceLT, Int.reduceNeg, DF, eff, Nat.reduceSub, fwrap_i64, n1]
          obtain ⟨s1, s2, s3⟩ := addS_spec (a := at') (b := e) okO (fun _ => mO) at0 (by omega)
          refine (roundQ_norm _ _ _).2 ⟨cnt A e + cnt B e, hcnt, i1, j1, e, vo', addS O at' e, FH.ups w U9, (by simp [T.get_set, n0]), (by simp [T.get_set, n1]), (by simp [T.get_set, n2]), (by simp [T.get_set]), (by simp [T.get_set]), (by simp [T.get_set, n11]), (by simp [T.get_set, g12'']), hi1, hj1, by omega, heM, fun s hs => by have := hb1 s hs; omega, fun s hs => by have := hb2 s hs; omega, g9, s1, s3 e (fun s hs => by have := mO s hs; omega) (fun _ => Int.le_refl _), ?_, rfl⟩
          intro x hx
          rw [s2 x]
          by_cases hxa : x < at'
          · rw [sO x hxa, show decide (at' ≤ x) = false by simp; omega]; simp
          · rw [hA x (by omega) hx, hB x (by omega) hx, hkeep, below O mO x (by omega)]; simp; omega
    · rw [List.drop_of_length_le (by omega)] at segA
      simp only [hdEnd, hdIn] at segA
      have FH := F
      by_cases cB : (j1 : Int) < B.length
      · obtain ⟨bB, oB, t, eB1, eB2, eB3, eB4, eB5⟩ := Sp.ix (b.fr FH) j1 cB
        have eE := drop_cons eB5
        rw [eE] at segB okB
        simp only [hdEnd, hdIn] at segB
        have tm := hmb t (List.mem_of_getElem? eB5)
        have t2 := hs2 t eB5
        obtain ⟨r1, r2, r3, r4, _⟩ := okB
        simp (disch := omega) only [evs, ↓reduceIte, Nat.reduceEqDiff, Nat.reduceAdd, Nat.reduceMul, Nat.reduceLeDiff, Nat.reduceLT, Int.reduceNeg, DF, eff, Nat.reduceSub, fwrap_i64, n0, n1, n2, n9, n10, n11, g12'', (a.fr FH).len, (b.fr FH).len, cA, cB, eB1, eB2, eB4]
        refine OQ_does (edge_ok FH.wf) ?_
        rintro _ h4 ⟨rfl, F4⟩
        have FH := FH.then F4
        have gO' := gO.fr F4
        obtain ⟨eB, heB⟩ : ∃ eB, eB = if at' < t.1 then t.1 else t.2 := ⟨_, rfl⟩
        rw [← heB] at segB ⊢
        have leB : at' < eB ∧ eB ≤ m ∧ eB ≤ 1073741824 ∧ (t.1 = eB ∨ t.2 = eB) := by rw [heB]; split <;> omega
        simp (disch := omega) only [evs, ↓reduceIte, Nat.reduceEqDiff, Nat.reduceAdd, Nat.reduceMul, Nat.reduceLeDiff, Nat.reduceLT, Int.reduceNeg, DF, eff, Nat.reduceSub, fwrap_i64, n0, n1, n2, n9, n10, n11, g12'', (a.fr FH).len, (b.fr FH).len, eq_true (show (i1 : Int) = A.length by omega), show ¬ (j1 : Int) = B.length by omega]
        obtain ⟨e, he⟩ : ∃ e, e = min 1073741824 eB := ⟨_, rfl⟩
        rw [← he]
        have hA : ∀ x, at' ≤ x → x < e → inS A x = false := fun x h1 h2 => segA x h1 (by omega)
        have hB : ∀ x, at' ≤ x → x < e → inS B x = decide (t.1 ≤ at') := fun x h1 h2 => segB x h1 (by omega)
        have heM : e ≤ max m 0 := by omega
        have hcnt : cnt A e + cnt B e < cnt A at' + cnt B at' := by
          have := cnt_lt B (a := at') (e := e) (by omega) (List.mem_of_getElem? eB5) (by omega); have := cnt_le A (a := at') (e := e) (by omega); omega
        have cO := okO.count at' mO (by omega)
        refine ⟨hgy, OQ_does (hkf _ _ _) ?_⟩
        rintro _ _ ⟨rfl, hhh⟩
        subst hhh
        cases hkeep : keep (false) (decide (t.1 ≤ at'))
        · simp (disch := omega) only [evs, ↓reduceIte, Nat.reduceEqDiff, Nat.reduceAdd, Nat.reduceMul, Nat.reduceLeDiff, Nat.reduceLT, Int.reduceNeg, DF, eff, Nat.reduceSub, fwrap_i64, hkeep, n0, n1, n2, n9, n10, n11, g12'']
          refine (roundQ_norm _ _ _).2 ⟨cnt A e + cnt B e, hcnt, i1, j1, e, vo, O, FH, (by simp [T.get_set, n0]), (by simp [T.get_set, n1]), (by simp [T.get_set, n2]), (by simp [T.get_set, n9]), (by simp [T.get_set]), (by simp [T.get_set, n11]), (by simp [T.get_set, g12'']), hi1, hj1, by omega, heM, fun s hs => by have := hb1 s hs; omega, fun s hs => by have := hb2 s hs; omega, gO', okO, fun s hs => by have := mO s hs; omega, ?_, rfl⟩
          intro x hx
          by_cases hxa : x < at'
          · exact sO x hxa
          · rw [hA x (by omega) hx, hB x (by omega) hx, hkeep, below O mO x (by omega)]
        · simp (disch := omega) only [evs, ↓reduceIte, Nat.reduceEqDiff, Nat.reduceAdd, Nat.reduceMul, Nat.reduceLeDiff, Nat.reduceLT, Int.reduceNeg, DF, eff, Nat.reduceSub, fwrap_i64, hkeep, n0, n1, n2, n9, n10, n11, g12'']
          refine OQ_does (add_ok FH.wf gO' FH.next (by omega)) ?_
          rintro vo' h9 ⟨g9, U9⟩
          replace U9 := Gs.up gO' U9
          simp (disch := omega) only [evs, ↓reduceIte, Nat.reduceEqDiff, Nat.reduceAdd, Nat.reduceMul, Nat.reduceLeDiff, Nat.reduceLT, Int.reduceNeg, DF, eff, Nat.reduceSub, fwrap_i64, n1]
          obtain ⟨s1, s2, s3⟩ := addS_spec (a := at') (b := e) okO (fun _ => mO) at0 (by omega)
          refine (roundQ_norm _ _ _).2 ⟨cnt A e + cnt B e, hcnt, i1, j1, e, vo', addS O at' e, FH.ups w U9, (by simp [T.get_set, n0]), (by simp [T.get_set, n1]), (by simp [T.get_set, n2]), (by simp [T.get_set]), (by simp [T.get_set]), (by simp [T.get_set, n11]), (by simp [T.get_set, g12'']), hi1, hj1, by omega, heM, fun s hs => by have := hb1 s hs; omega, fun s hs => by have := hb2 s hs; omega, g9, s1, s3 e (fun s hs => by have := mO s hs; omega) (fun _ => Int.le_refl _), ?_, rfl⟩
          intro x hx
          rw [s2 x]
          by_cases hxa : x < at'
          · rw [sO x hxa, show decide (at' ≤ x) = false by simp; omega]; simp
          · rw [hA x (by omega) hx, hB x (by omega) hx, hkeep, below O mO x (by omega)]; simp; omega
      · rw [List.drop_of_length_le (by omega)] at segB
        simp only [hdEnd, hdIn] at segB
        simp (disch := omega) only [evs, ↓reduceIte, Nat.reduceEqDiff, Nat.reduceAdd, Nat.reduceMul, Nat.reduceLeDiff, Nat.reduceLT, Int.reduceNeg, DF, eff, Nat.reduceSub, fwrap_i64, n0, n1, n2, n9, n10, n11, g12'', (a.fr FH).len, (b.fr FH).len, cA, cB, eq_true (show (i1 : Int) = A.length by omega), eq_true (show (j1 : Int) = B.length by omega)]
        have cO := okO.count at' mO (by omega)
        refine OQ_does (done_ok gO (by omega)) ?_
        rintro _ _ ⟨z, rfl, sz, oz, hhh⟩
        subst hhh
        simp (disch := omega) only [evs, ↓reduceIte, Nat.reduceEqDiff, Nat.reduceAdd, Nat.reduceMul, Nat.reduceLeDiff, Nat.reduceLT, Int.reduceNeg, DF, eff, Nat.reduceSub, fwrap_i64]
        refine ⟨FH, z, O, rfl, oz, sz, okO, fun x => ?_, fun s hs => by have := mO s hs; omega⟩
        by_cases hxa : x < at'
        · exact sO x hxa
        · rw [below O mO x (by omega), inS_split hb1 (show at' ≤ x by omega), inS_split hb2 (show at' ≤ x by omega), List.drop_of_length_le (by omega), List.drop_of_length_le (by omega)]
          simp [inS, hk.ff]
end Go.Ev.Lay
