/- An evaluator of the program and contracts proved over it: the texts LaySb LaySe LaySf LaySg LaySh LaySi LaySj LaySk. -/
import Derived.Test.YtfhplbpjpmaoiaaGreatDoorP13
set_option linter.unusedSimpArgs false
set_option linter.unusedVariables false
set_option linter.constructorNameAsVariable false
/- Ropes: cut, Remove. -/
namespace Go.Ev.Lay
set_option maxRecDepth 4000
def cutB (n : Nat) (a k : Int) : Prop := a < 0 ∨ k < 0 ∨ (n : Int) < a ∨ (n : Int) - a < k
instance (n : Nat) (a k : Int) : Decidable (cutB n a k) := by unfold cutB; infer_instance
theorem rcut_ok {h : Heap} {v : V} {l : List Int} {a k : Int} (w : WF h) (r : Rp h v l) (a0 : -9223372036854775808 ≤ a) (a1 : a ≤ 9223372036854775807) (k0 : -9223372036854775808 ≤ k) (k1 : k ≤ 9223372036854775807) :
    Does go 113 [v, .int .i64 a, .int .i64 k] h fun u h' => Fr [] h h' ∧ if cutB l.length a k then u = .tup [.nilp, .nilp, .nilp, .int .i64 4] else
      ∃ t1 t2 t3 p1 p2 p3, u = .tup [pv p1, pv p2, pv p3, .int .i64 0] ∧ At h' t1 p1 ∧ At h' t2 p2 ∧ At h' t3 p3 ∧ t1.list = l.take a.toNat ∧ t2.list = (l.drop a.toNat).take k.toNat ∧ t3.list = (l.drop a.toNat).drop k.toNat := by
  have rr := r
  obtain ⟨t, p, rfl, at', rfl, f⟩ := r
  have f3 := f.2.2
  unfold cutB
  obtain ⟨h1, e_h1⟩ : ∃ h1, h1 = halloc h [pv p] := ⟨_, rfl⟩
  have F_h1 : Fr [] h h1 := e_h1 ▸ Fr.halloc w _
  have o_h1 : Own h1 h.next [pv p] := e_h1 ▸ Own.new w _
  by_cases c1 : a < 0
  · refine does_fn g113 rfl ?_
    simp (disch := omega) only [fn113, evs, ↓reduceIte, Nat.reduceEqDiff, Nat.reduceAdd, Nat.reduceMul, Nat.reduceLeDiff, Nat.reduceLT, Int.reduceNeg, DF, eff, Nat.reduceSub, fwrap_i64, ← e_h1, eq_true c1]
    exact ⟨F_h1, by simp⟩
  by_cases c2 : k < 0
  · refine does_fn g113 rfl ?_
    simp (disch := omega) only [fn113, evs, ↓reduceIte, Nat.reduceEqDiff, Nat.reduceAdd, Nat.reduceMul, Nat.reduceLeDiff, Nat.reduceLT, Int.reduceNeg, DF, eff, Nat.reduceSub, fwrap_i64, ← e_h1, eq_false c1, eq_true c2]
    exact ⟨F_h1, by simp⟩
  refine does_fn g113 rfl ?_
  simp (disch := omega) only [fn113, evs, ↓reduceIte, Nat.reduceEqDiff, Nat.reduceAdd, Nat.reduceMul, Nat.reduceLeDiff, Nat.reduceLT, Int.reduceNeg, DF, eff, Nat.reduceSub, fwrap_i64, ← e_h1, eq_false c1, eq_false c2, o_h1.ld]
  refine OQ_does (Len_ok F_h1.wf (rr.fr F_h1)) ?_
  rintro _ h2 ⟨rfl, F2⟩
  have F12 := F_h1.then F2
  by_cases c3 : (t.list.length : Int) < a
  · simp (disch := omega) only [evs, ↓reduceIte, Nat.reduceEqDiff, Nat.reduceAdd, Nat.reduceMul, Nat.reduceLeDiff, Nat.reduceLT, Int.reduceNeg, DF, eff, Nat.reduceSub, fwrap_i64, eq_true c3]
    exact ⟨F12, by simp⟩
  simp (disch := omega) only [evs, ↓reduceIte, Nat.reduceEqDiff, Nat.reduceAdd, Nat.reduceMul, Nat.reduceLeDiff, Nat.reduceLT, Int.reduceNeg, DF, eff, Nat.reduceSub, fwrap_i64, eq_false c3, (F2.get o_h1).ld]
  refine OQ_does (Len_ok F2.wf (rr.fr F12)) ?_
  rintro _ h3 ⟨rfl, F3⟩
  have F13 := F12.then F3
  by_cases c4 : (t.list.length : Int) - a < k
  · simp (disch := omega) only [evs, ↓reduceIte, Nat.reduceEqDiff, Nat.reduceAdd, Nat.reduceMul, Nat.reduceLeDiff, Nat.reduceLT, Int.reduceNeg, DF, eff, Nat.reduceSub, fwrap_i64, eq_true c4]
    exact ⟨F13, by simp⟩
  simp (disch := omega) only [evs, ↓reduceIte, Nat.reduceEqDiff, Nat.reduceAdd, Nat.reduceMul, Nat.reduceLeDiff, Nat.reduceLT, Int.reduceNeg, DF, eff, Nat.reduceSub, fwrap_i64, eq_false c4, ((F2.then F3).get o_h1).ld1]
  refine OQ_does (split_ok F3.wf (at'.fr F13) f (by omega) (by omega)) ?_
  rintro _ h4 ⟨t1, t2, p1, p2, rfl, b1, b2, b3, b4, F4⟩
  simp (disch := omega) only [evs, ↓reduceIte, Nat.reduceEqDiff, Nat.reduceAdd, Nat.reduceMul, Nat.reduceLeDiff, Nat.reduceLT, Int.reduceNeg, DF, eff, Nat.reduceSub, fwrap_i64]
  refine OQ_does (split_ok F4.wf b2 (by rw [b4]; exact f.sub (List.drop_sublist _ _)) (by omega) (by omega)) ?_
  rintro _ h5 ⟨t3, t4, p3, p4, rfl, d1, d2, d3, d4, F5⟩
  simp (disch := omega) only [evs, ↓reduceIte, Nat.reduceEqDiff, Nat.reduceAdd, Nat.reduceMul, Nat.reduceLeDiff, Nat.reduceLT, Int.reduceNeg, DF, eff, Nat.reduceSub, fwrap_i64]
  refine ⟨F13.then (F4.then F5), ?_⟩
  exact ⟨t1, t3, t4, p1, p3, p4, rfl, b1.fr F5, d1, d2, b3, by rw [d3, b4], by rw [d4, b4]⟩
theorem RRem_ok {h : Heap} {v : V} {l : List Int} {a k : Int} (w : WF h) (r : Rp h v l) (a0 : -9223372036854775808 ≤ a) (a1 : a ≤ 9223372036854775807) (k0 : -9223372036854775808 ≤ k) (k1 : k ≤ 9223372036854775807) :
    Does go 94 [v, .int .i64 a, .int .i64 k] h fun z h' => Fr [] h h' ∧ ∃ c, z = .tup [.agg [c], .int .i64 (if cutB l.length a k then 4 else 0)] ∧ c.one = true ∧ (¬ cutB l.length a k → Rp h' (.agg [c]) (l.take a.toNat ++ (l.drop a.toNat).drop k.toNat)) := by
  have rr := r
  obtain ⟨t, p, rfl, at', rfl, f⟩ := r
  obtain ⟨h1, e_h1⟩ : ∃ h1, h1 = halloc h [pv p] := ⟨_, rfl⟩
  have F_h1 : Fr [] h h1 := e_h1 ▸ Fr.halloc w _
  have o_h1 : Own h1 h.next [pv p] := e_h1 ▸ Own.new w _
  obtain ⟨h2, e_h2⟩ : ∃ h2, h2 = halloc h1 [.nilp] := ⟨_, rfl⟩
  have F_h2 : Fr [] h1 h2 := e_h2 ▸ Fr.halloc F_h1.wf _
  have o_h2 : Own h2 h1.next [.nilp] := e_h2 ▸ Own.new F_h1.wf _
  have F02 := F_h1.then F_h2
  refine does_fn g94 rfl ?_
  simp (disch := omega) only [fn94, evs, ↓reduceIte, Nat.reduceEqDiff, Nat.reduceAdd, Nat.reduceMul, Nat.reduceLeDiff, Nat.reduceLT, Int.reduceNeg, DF, eff, Nat.reduceSub, fwrap_i64, ← e_h1, ← e_h2, (F_h2.get o_h1).ld]
  refine OQ_does (rcut_ok F_h2.wf (rr.fr F02) a0 a1 k0 k1) ?_
  rintro u h3 ⟨F3, hu⟩
  have F03 := F02.then F3
  by_cases c : cutB t.list.length a k
  · rw [if_pos c] at hu
    subst hu
    simp (disch := omega) only [evs, ↓reduceIte, Nat.reduceEqDiff, Nat.reduceAdd, Nat.reduceMul, Nat.reduceLeDiff, Nat.reduceLT, Int.reduceNeg, DF, eff, Nat.reduceSub, fwrap_i64, eq_false (show ¬ (4 : Int) = 0 by omega)]
    refine store_step (c' := [.nilp]) F3.wf (F3.get o_h2) rfl (by first | rfl | simp [onesB, V.cells, pv_one, *]) rfl ?_
    rintro h4 o_h4 F_h4 n_h4
    simp (disch := omega) only [evs, ↓reduceIte, Nat.reduceEqDiff, Nat.reduceAdd, Nat.reduceMul, Nat.reduceLeDiff, Nat.reduceLT, Int.reduceNeg, DF, eff, Nat.reduceSub, fwrap_i64, o_h4.ld]
    exact ⟨F03.fresh F_h4 w F_h1.next, .nilp, by simp [c], rfl, fun x => absurd c x⟩
  · rw [if_neg c] at hu
    obtain ⟨t1, t2, t3, p1, p2, p3, rfl, b1, b2, b3, e1, e2, e3⟩ := hu
    have fs : Fit (t1.list ++ t3.list) := by
      rw [e1, e3]
      refine f.sub ?_
      have : (t.list.take a.toNat ++ (t.list.drop a.toNat).drop k.toNat).Sublist (t.list.take a.toNat ++ t.list.drop a.toNat) := List.Sublist.append (List.Sublist.refl _) (List.drop_sublist _ _)
      rwa [List.take_append_drop] at this
    simp (disch := omega) only [evs, ↓reduceIte, Nat.reduceEqDiff, Nat.reduceAdd, Nat.reduceMul, Nat.reduceLeDiff, Nat.reduceLT, Int.reduceNeg, DF, eff, Nat.reduceSub, fwrap_i64]
    refine OQ_does (put_ok F3.wf b1 b3 fs) ?_
    rintro _ h4 ⟨t4, p4, rfl, b4, e4, F4⟩
    simp (disch := omega) only [evs, ↓reduceIte, Nat.reduceEqDiff, Nat.reduceAdd, Nat.reduceMul, Nat.reduceLeDiff, Nat.reduceLT, Int.reduceNeg, DF, eff, Nat.reduceSub, fwrap_i64]
    refine store_step (c' := [pv p4]) F4.wf (F4.get (F3.get o_h2)) rfl (by simp [onesB, V.cells, pv_one]) rfl ?_
    rintro h5 o5 F5 n5
    simp (disch := omega) only [evs, ↓reduceIte, Nat.reduceEqDiff, Nat.reduceAdd, Nat.reduceMul, Nat.reduceLeDiff, Nat.reduceLT, Int.reduceNeg, DF, eff, Nat.reduceSub, fwrap_i64, o5.ld]
    have F04 := F03.then F4
    refine ⟨F04.fresh F5 w F_h1.next, pv p4, by simp [c], pv_one _, fun _ => ⟨t4, p4, rfl, b4.frb F5 (F4.get (F3.get o_h2)) (by simp), by rw [e4, e1, e3], ?_⟩⟩
    rw [e1, e3] at fs; exact fs
end Go.Ev.Lay

/- Ropes: Move; spans: Remove. -/
namespace Go.Ev.Lay
set_option maxRecDepth 4000
def movB (n : Nat) (a k t : Int) : Prop := cutB n a k ∨ t < 0 ∨ (n : Int) - k < t
instance (n : Nat) (a k t : Int) : Decidable (movB n a k t) := by unfold movB; infer_instance
/-- rows taken out -/
def remL {α : Type} (l : List α) (a k : Nat) : List α := l.take a ++ (l.drop a).drop k
/-- rows put in at another place -/
def movL {α : Type} (l : List α) (a k t : Nat) : List α := (remL l a k).take t ++ (l.drop a).take k ++ (remL l a k).drop t
theorem remL_sub {α : Type} (l : List α) (a k : Nat) : (remL l a k).Sublist l := by
  have : (l.take a ++ (l.drop a).drop k).Sublist (l.take a ++ l.drop a) := List.Sublist.append (List.Sublist.refl _) (List.drop_sublist _ _)
  rwa [List.take_append_drop] at this
theorem remL_perm {α : Type} (l : List α) (a k : Nat) : (remL l a k ++ (l.drop a).take k).Perm l := by
  unfold remL
  have h : (l.take a ++ ((l.drop a).take k ++ (l.drop a).drop k)) = l := by rw [List.take_append_drop, List.take_append_drop]
  conv => rhs; rw [← h]
  rw [List.append_assoc]
  exact List.Perm.append_left _ List.perm_append_comm
theorem movL_perm {α : Type} (l : List α) (a k t : Nat) : (movL l a k t).Perm l := by
  refine List.Perm.trans ?_ (remL_perm l a k)
  unfold movL
  have h : remL l a k = (remL l a k).take t ++ (remL l a k).drop t := (List.take_append_drop _ _).symm
  conv => rhs; rw [h]
  rw [List.append_assoc, List.append_assoc]
  exact List.Perm.append_left _ List.perm_append_comm
theorem perm_sum {l r : List Int} (p : l.Perm r) : l.sum = r.sum := by
  induction p with
  | nil => rfl
  | cons x _ ih => simp [ih]
  | swap x y l => simp; omega
  | trans _ _ a b => exact a.trans b
theorem Fit.perm {l r : List Int} (f : Fit l) (p : r.Perm l) : Fit r :=
  ⟨fun x hx => f.1 x (p.subset hx), by rw [perm_sum p]; exact f.2.1, by rw [p.length_eq]; exact f.2.2⟩
theorem RMov_ok {h : Heap} {v : V} {l : List Int} {a k t : Int} (w : WF h) (r : Rp h v l) (a0 : -9223372036854775808 ≤ a) (a1 : a ≤ 9223372036854775807) (k0 : -9223372036854775808 ≤ k) (k1 : k ≤ 9223372036854775807)
    (t0 : -9223372036854775808 ≤ t) (t1 : t ≤ 9223372036854775807) :
    Does go 96 [v, .int .i64 a, .int .i64 k, .int .i64 t] h fun z h' => Fr [] h h' ∧ ∃ c, z = .tup [.agg [c], .int .i64 (if movB l.length a k t then 4 else 0)] ∧ c.one = true ∧
      (¬ movB l.length a k t → Rp h' (.agg [c]) (movL l a.toNat k.toNat t.toNat)) := by
  have rr := r
  obtain ⟨tr, p, rfl, at', rfl, f⟩ := r
  have f3 := f.2.2
  obtain ⟨h1, e_h1⟩ : ∃ h1, h1 = halloc h [pv p] := ⟨_, rfl⟩
  have F_h1 : Fr [] h h1 := e_h1 ▸ Fr.halloc w _
  have o_h1 : Own h1 h.next [pv p] := e_h1 ▸ Own.new w _
  obtain ⟨h2, e_h2⟩ : ∃ h2, h2 = halloc h1 [.nilp] := ⟨_, rfl⟩
  have F_h2 : Fr [] h1 h2 := e_h2 ▸ Fr.halloc F_h1.wf _
  have o_h2 : Own h2 h1.next [.nilp] := e_h2 ▸ Own.new F_h1.wf _
  have F02 := F_h1.then F_h2
  refine does_fn g96 rfl ?_
  simp (disch := omega) only [fn96, evs, ↓reduceIte, Nat.reduceEqDiff, Nat.reduceAdd, Nat.reduceMul, Nat.reduceLeDiff, Nat.reduceLT, Int.reduceNeg, DF, eff, Nat.reduceSub, fwrap_i64, ← e_h1, ← e_h2, (F_h2.get o_h1).ld]
  refine OQ_does (rcut_ok F_h2.wf (rr.fr F02) a0 a1 k0 k1) ?_
  rintro u h3 ⟨F3, hu⟩
  have F03 := F02.then F3
  by_cases c : cutB tr.list.length a k
  · rw [if_pos c] at hu
    subst hu
    simp (disch := omega) only [evs, ↓reduceIte, Nat.reduceEqDiff, Nat.reduceAdd, Nat.reduceMul, Nat.reduceLeDiff, Nat.reduceLT, Int.reduceNeg, DF, eff, Nat.reduceSub, fwrap_i64, eq_false (show ¬ (4 : Int) = 0 by omega)]
    refine store_step (c' := [.nilp]) F3.wf (F3.get o_h2) rfl (by first | rfl | simp [onesB, V.cells, pv_one, *]) rfl ?_
    rintro h4 o_h4 F_h4 n_h4
    simp (disch := omega) only [evs, ↓reduceIte, Nat.reduceEqDiff, Nat.reduceAdd, Nat.reduceMul, Nat.reduceLeDiff, Nat.reduceLT, Int.reduceNeg, DF, eff, Nat.reduceSub, fwrap_i64, o_h4.ld]
    exact ⟨F03.fresh F_h4 w F_h1.next, .nilp, by simp [c, movB], rfl, fun x => absurd (.inl c) x⟩
  · rw [if_neg c] at hu
    have cc := c
    unfold cutB at cc
    obtain ⟨t1', t2', t3', p1, p2, p3, rfl, b1, b2, b3, e1, e2, e3⟩ := hu
    have hR : t1'.list ++ t3'.list = remL tr.list a.toNat k.toNat := by rw [e1, e3]; rfl
    have fs : Fit (t1'.list ++ t3'.list) := by rw [hR]; exact f.sub (remL_sub _ _ _)
    by_cases c1 : t < 0
    · simp (disch := omega) only [evs, ↓reduceIte, Nat.reduceEqDiff, Nat.reduceAdd, Nat.reduceMul, Nat.reduceLeDiff, Nat.reduceLT, Int.reduceNeg, DF, eff, Nat.reduceSub, fwrap_i64, eq_true c1, eq_false (show ¬ (4 : Int) = 0 by omega)]
      refine store_step (c' := [.nilp]) F3.wf (F3.get o_h2) rfl (by first | rfl | simp [onesB, V.cells, pv_one, *]) rfl ?_
      rintro h4 o_h4 F_h4 n_h4
      simp (disch := omega) only [evs, ↓reduceIte, Nat.reduceEqDiff, Nat.reduceAdd, Nat.reduceMul, Nat.reduceLeDiff, Nat.reduceLT, Int.reduceNeg, DF, eff, Nat.reduceSub, fwrap_i64, o_h4.ld]
      exact ⟨F03.fresh F_h4 w F_h1.next, .nilp, by simp [c1, movB], rfl, fun x => absurd (.inr (.inl c1)) x⟩
    · simp (disch := omega) only [evs, ↓reduceIte, Nat.reduceEqDiff, Nat.reduceAdd, Nat.reduceMul, Nat.reduceLeDiff, Nat.reduceLT, Int.reduceNeg, DF, eff, Nat.reduceSub, fwrap_i64, eq_false c1, ((F_h2.then F3).get o_h1).ld]
      refine OQ_does (Len_ok F3.wf (rr.fr F03)) ?_
      rintro _ h4 ⟨rfl, F4⟩
      by_cases c2 : (tr.list.length : Int) - k < t
      · simp (disch := omega) only [evs, ↓reduceIte, Nat.reduceEqDiff, Nat.reduceAdd, Nat.reduceMul, Nat.reduceLeDiff, Nat.reduceLT, Int.reduceNeg, DF, eff, Nat.reduceSub, fwrap_i64, eq_true c2, eq_false (show ¬ (4 : Int) = 0 by omega)]
        refine store_step (c' := [.nilp]) F4.wf ((F3.then F4).get o_h2) rfl (by first | rfl | simp [onesB, V.cells, pv_one, *]) rfl ?_
        rintro h5 o_h5 F_h5 n_h5
        simp (disch := omega) only [evs, ↓reduceIte, Nat.reduceEqDiff, Nat.reduceAdd, Nat.reduceMul, Nat.reduceLeDiff, Nat.reduceLT, Int.reduceNeg, DF, eff, Nat.reduceSub, fwrap_i64, o_h5.ld]
        exact ⟨(F03.then F4).fresh F_h5 w F_h1.next, .nilp, by simp [c2, movB], rfl, fun x => absurd (.inr (.inr c2)) x⟩
      · simp (disch := omega) only [evs, ↓reduceIte, Nat.reduceEqDiff, Nat.reduceAdd, Nat.reduceMul, Nat.reduceLeDiff, Nat.reduceLT, Int.reduceNeg, DF, eff, Nat.reduceSub, fwrap_i64, eq_false c2]
        refine OQ_does (put_ok F4.wf (b1.fr F4) (b3.fr F4) fs) ?_
        rintro _ h5 ⟨t4, p4, rfl, b4, e4, F5⟩
        simp (disch := omega) only [evs, ↓reduceIte, Nat.reduceEqDiff, Nat.reduceAdd, Nat.reduceMul, Nat.reduceLeDiff, Nat.reduceLT, Int.reduceNeg, DF, eff, Nat.reduceSub, fwrap_i64]
        refine OQ_does (split_ok F5.wf b4 (by rw [e4]; exact fs) (by omega) (by omega)) ?_
        rintro _ h6 ⟨t5, t6, p5, p6, rfl, b5, b6, e5, e6, F6⟩
        have F46 := F4.then (F5.then F6)
        have hM : t5.list ++ t2'.list ++ t6.list = movL tr.list a.toNat k.toNat t.toNat := by rw [e5, e6, e4, hR, e2]; rfl
        have fM : Fit (t5.list ++ t2'.list ++ t6.list) := by rw [hM]; exact f.perm (movL_perm _ _ _ _)
        simp (disch := omega) only [evs, ↓reduceIte, Nat.reduceEqDiff, Nat.reduceAdd, Nat.reduceMul, Nat.reduceLeDiff, Nat.reduceLT, Int.reduceNeg, DF, eff, Nat.reduceSub, fwrap_i64]
        refine OQ_does (put_ok F6.wf b5 (b2.fr F46) fM.left) ?_
        rintro _ h7 ⟨t7, p7, rfl, b7, e7, F7⟩
        simp (disch := omega) only [evs, ↓reduceIte, Nat.reduceEqDiff, Nat.reduceAdd, Nat.reduceMul, Nat.reduceLeDiff, Nat.reduceLT, Int.reduceNeg, DF, eff, Nat.reduceSub, fwrap_i64]
        refine OQ_does (put_ok F7.wf b7 (b6.fr F7) (by rw [e7]; exact fM)) ?_
        rintro _ h8 ⟨t8, p8, rfl, b8, e8, F8⟩
        have F38 := F46.then (F7.then F8)
        simp (disch := omega) only [evs, ↓reduceIte, Nat.reduceEqDiff, Nat.reduceAdd, Nat.reduceMul, Nat.reduceLeDiff, Nat.reduceLT, Int.reduceNeg, DF, eff, Nat.reduceSub, fwrap_i64]
        refine store_step (c' := [pv p8]) F8.wf (F38.get (F3.get o_h2)) rfl (by simp [onesB, V.cells, pv_one]) rfl ?_
        rintro h9 o9 F9 n9
        simp (disch := omega) only [evs, ↓reduceIte, Nat.reduceEqDiff, Nat.reduceAdd, Nat.reduceMul, Nat.reduceLeDiff, Nat.reduceLT, Int.reduceNeg, DF, eff, Nat.reduceSub, fwrap_i64, o9.ld]
        have nb : ¬ movB tr.list.length a k t := by unfold movB; intro q; rcases q with q | q | q; exact c q; exact c1 q; exact c2 q
        refine ⟨(F03.then F38).fresh F9 w F_h1.next, pv p8, by simp [nb], pv_one _, fun _ => ⟨t8, p8, rfl, b8.frb F9 (F38.get (F3.get o_h2)) (by simp), by rw [e8, e7, hM], ?_⟩⟩
        rw [hM] at fM; exact fM
/-- where the places are behind a removal -/
def rmv (a n : Int) (f : Int → Bool) (x : Int) : Bool := if x < a then f x else f (x + n)
theorem SRem_ok {h : Heap} {v : V} {L : List (Int × Int)} {a n m : Int} (w : WF h) (s : Sp h v L) (ok : SOK L (-1)) (hm : m ≤ 8000) (hL : ∀ s ∈ L, s.2 ≤ m) (hm0 : 0 ≤ m) (ha : 0 ≤ a) (ha1 : a + n ≤ m) (hn : 0 ≤ n) :
    Does go 95 [v, .int .i64 a, .int .i64 n] h fun z h' => Fr [] h h' ∧ ∃ y L', z = .tup [y, .int .i64 0] ∧ y.one = true ∧ SpF h' y L' ∧ SOK L' (-1) ∧ (∀ x, inS L' x = rmv a n (inS L) x) ∧ ∀ s ∈ L', s.2 ≤ m - n := by
  have hlen := ok.len (by omega) hL
  refine does_fn g95 rfl ?_
  simp (disch := omega) only [fn95, evs, ↓reduceIte, Nat.reduceEqDiff, Nat.reduceAdd, Nat.reduceMul, Nat.reduceLeDiff, Nat.reduceLT, Int.reduceNeg, DF, eff, Nat.reduceSub, fwrap_i64]
  refine OQ_does (ranged_ok w s ok hlen ha (by omega) hn (by omega)) ?_
  rintro _ h1 ⟨rfl, F1⟩
  have s1 := s.fr F1
  simp (disch := omega) only [evs, ↓reduceIte, Nat.reduceEqDiff, Nat.reduceAdd, Nat.reduceMul, Nat.reduceLeDiff, Nat.reduceLT, Int.reduceNeg, DF, eff, Nat.reduceSub, fwrap_i64, s1.len]
  refine W_loop (fun k env hh => ∃ (i : Nat) (vo : V) (O : List (Int × Int)) (last : Int), Fr [] h hh ∧ env.get 19 = some v ∧ env.get 20 = some (.int .i64 L.length) ∧ env.get 21 = some (.int .i64 i) ∧ env.get 9 = some vo ∧
    env.get 1 = some (.int .i64 a) ∧ env.get 2 = some (.int .i64 n) ∧ i ≤ L.length ∧ GRecs sp 2 hh h.next vo O ∧ SOK O (-1) ∧ SOK (L.drop i) last ∧ (∀ s ∈ O, s.2 ≤ max (min last a) (last - n)) ∧ last ≤ m ∧
    (∀ x, inS O x = rmv a n (inS (L.take i)) x) ∧ k = L.length - i) L.length (by omega) ?_ ?_
  · exact ⟨0, .nils, [], -1, F1, (by simp [T.get_set]), (by simp [T.get_set]), (by simp [T.get_set]), (by simp [T.get_set]), (by simp [T.get_set]), (by simp [T.get_set]), by omega, GRecs.nil, trivial, ok, by simp, by omega, fun x => by simp [rmv, inS], rfl⟩
  · rintro k env hh ⟨i, vo, O, last, F, g44, g45, g46, g10, g1, g2, hi, gO, okO, okL, mO, lm, sO, rfl⟩
    have cO := okO.count m (fun s hs => by have := mO s hs; omega) (by omega)
    by_cases hlt : (i : Int) < L.length
    · obtain ⟨bb, oo, s, e1, e2, e3, e4, e5⟩ := Sp.ix (Recs.fr (L := L) ‹Sp h v L› F) i hlt
      have sm := hL s (List.mem_of_getElem? e5)
      rw [drop_cons e5] at okL
      obtain ⟨k1, k2, k3, k4, k5⟩ := okL
      obtain ⟨h2, e_h2⟩ : ∃ h2, h2 = halloc hh [.int .i64 0, .int .i64 0] := ⟨_, rfl⟩
      have F_h2 : Fr [] hh h2 := e_h2 ▸ Fr.halloc F.wf _
      have o_h2 : Own h2 hh.next [.int .i64 0, .int .i64 0] := e_h2 ▸ Own.new F.wf _
      simp (disch := omega) only [evs, ↓reduceIte, Nat.reduceEqDiff, Nat.reduceAdd, Nat.reduceMul, Nat.reduceLeDiff, Nat.reduceLT, Int.reduceNeg, DF, eff, Nat.reduceSub, fwrap_i64, g44, g45, g46, g10, g1, g2, hlt, e1, e4, ← e_h2]
      refine store_step (c' := [.int .i64 s.1, .int .i64 s.2]) F_h2.wf o_h2 rfl (by first | rfl | simp [onesB, V.cells, pv_one, *]) rfl ?_
      rintro h3 o_h3 F_h3 n_h3
      have F23 : Fr [] hh h3 := F_h2.fresh F_h3 F.wf (Nat.le_refl _)
      have F3 := F.then F23
      have b3 : h.next ≤ h3.next := F3.next
      have bk : h.next ≤ hh.next := F.next
      simp (disch := omega) only [evs, ↓reduceIte, Nat.reduceEqDiff, Nat.reduceAdd, Nat.reduceMul, Nat.reduceLeDiff, Nat.reduceLT, Int.reduceNeg, DF, eff, Nat.reduceSub, fwrap_i64, g44, g45, g46, g10, g1, g2, o_h3.ld1]
      refine OQ_does (add_ok F3.wf (gO.fr F23) b3 (by omega)) ?_
      rintro v1 h4 ⟨gO1, U4⟩
      obtain ⟨p1, p2, p3⟩ := addS_spec (a := s.1) (b := min s.2 a) okO (fun hh s' hs' => by have := mO s' hs'; omega) k2 (by omega)
      have mO1 : ∀ s' ∈ addS O s.1 (min s.2 a), s'.2 ≤ max (min s.2 a) (s.2 - n) := p3 _ (fun s' hs' => by have := mO s' hs'; omega) (fun _ => by omega)
      have mO1' : max s.1 (a + n) - n < s.2 - n → ∀ s' ∈ addS O s.1 (min s.2 a), s'.2 ≤ max s.1 (a + n) - n := fun _ => p3 _ (fun s' hs' => by have := mO s' hs'; omega) (fun _ => by omega)
      have cO1 := p1.count m (fun s hs => by have := mO1 s hs; omega) (by omega)
      have oo3 : Own h4 hh.next [.int .i64 s.1, .int .i64 s.2] := by
        refine U4.own _ _ ?_ o_h3
        rcases gO with ⟨rfl, _⟩ | ⟨b, n', rfl, _, _, _, og⟩
        · simp [vb]
        · have := og.lt F.wf; simp [vb]; omega
      have U4' := Gs.up (gO.fr F23) U4
      simp (disch := omega) only [evs, ↓reduceIte, Nat.reduceEqDiff, Nat.reduceAdd, Nat.reduceMul, Nat.reduceLeDiff, Nat.reduceLT, Int.reduceNeg, DF, eff, Nat.reduceSub, fwrap_i64, g44, g45, g46, g10, g1, g2, oo3.ld1]
      refine OQ_does (add_ok U4.wf gO1 (Nat.le_trans b3 U4.next) (by omega)) ?_
      rintro v2 h5 ⟨gO2, U5⟩
      have U5' := Gs.up gO1 U5
      obtain ⟨q1, q2, q3⟩ := addS_spec (a := max s.1 (a + n) - n) (b := s.2 - n) p1 mO1' (by omega) (by omega)
      simp (disch := omega) only [evs, ↓reduceIte, Nat.reduceEqDiff, Nat.reduceAdd, Nat.reduceMul, Nat.reduceLeDiff, Nat.reduceLT, Int.reduceNeg, DF, eff, Nat.reduceSub, fwrap_i64, g44, g45, g46, g10, g1, g2]
      refine (roundQ_norm _ _ _).2 ⟨L.length - (i + 1), by omega, i + 1, v2, _, s.2, F3.ups w (U4'.trans U5'), (by simp [T.get_set, g44]), (by simp [T.get_set, g45]), (by simp [T.get_set]), (by simp [T.get_set]), (by simp [T.get_set, g1]), (by simp [T.get_set, g2]), by omega, gO2, q1, k5, q3 _ mO1 (fun _ => by omega), sm, ?_, rfl⟩
      intro x
      rw [q2, p2, sO, List.take_add_one, e5]
      simp only [Option.toList_some, rmv, inS_app, inS_cons, inS_nil, Bool.or_false]
      by_cases c1 : x < a
      · simp only [if_pos c1, Bool.or_assoc]; congr 1
        rw [Bool.eq_iff_iff]; simp; omega
      · simp only [if_neg c1, Bool.or_assoc]; congr 1
        rw [Bool.eq_iff_iff]; simp; omega
    · simp (disch := omega) only [evs, ↓reduceIte, Nat.reduceEqDiff, Nat.reduceAdd, Nat.reduceMul, Nat.reduceLeDiff, Nat.reduceLT, Int.reduceNeg, DF, eff, Nat.reduceSub, fwrap_i64, g44, g45, g46, g10, g1, g2, hlt]
      refine OQ_does (done_ok gO (by omega)) ?_
      rintro _ _ ⟨z, rfl, sz, oz, hh⟩
      subst hh
      simp (disch := omega) only [evs, ↓reduceIte, Nat.reduceEqDiff, Nat.reduceAdd, Nat.reduceMul, Nat.reduceLeDiff, Nat.reduceLT, Int.reduceNeg, DF, eff, Nat.reduceSub, fwrap_i64]
      refine ⟨F, z, O, rfl, oz, sz, okO, fun x => by rw [sO, List.take_of_length_le (by omega)], fun s hs => by have := mO s hs; omega⟩
end Go.Ev.Lay

/- Sizes: Remove; flags: Remove. -/
namespace Go.Ev.Lay
set_option maxRecDepth 4000
theorem remL_len {α : Type} {l : List α} {a k : Nat} (h : a + k ≤ l.length) : (remL l a k).length = l.length - k := by
  unfold remL; simp; omega
theorem remL_get {α : Type} {l : List α} {a k : Nat} (h : a ≤ l.length) (i : Nat) : (remL l a k)[i]? = if i < a then l[i]? else l[i + k]? := by
  unfold remL
  by_cases c : i < a
  · rw [List.getElem?_append_left (by simp; omega), List.getElem?_take, if_pos c, if_pos c]
  · rw [List.getElem?_append_right (by simp; omega), if_neg c, List.getElem?_drop, List.getElem?_drop]
    congr 1
    simp; omega
theorem remL_getD {l : List Bool} {a k : Nat} (h : a ≤ l.length) (i : Nat) : (remL l a k).getD i false = if i < a then l.getD i false else l.getD (i + k) false := by
  rw [List.getD_eq_getElem?_getD, remL_get h]
  split <;> simp [List.getD_eq_getElem?_getD]
theorem cut_nat {n : Nat} {a k : Int} (c : ¬ cutB n a k) : 0 ≤ a ∧ 0 ≤ k ∧ a.toNat + k.toNat ≤ n := by
  unfold cutB at c; omega
theorem Kn.rem {L L' : List (Int × Int)} {ks : List Bool} {a k : Int} (K : Kn L ks) (c : ¬ cutB ks.length a k) (ok : SOK L' (-1)) (e : ∀ x, inS L' x = rmv a k (inS L) x) (le : ∀ s ∈ L', s.2 ≤ (ks.length : Int) - k) : Kn L' (remL ks a.toNat k.toNat) := by
  obtain ⟨c0, c1, c2⟩ := cut_nat c
  have hl := remL_len c2
  refine ⟨ok, fun s hs => by rw [hl]; have := le s hs; omega, fun i => ?_⟩
  rw [e, remL_getD (by omega)]
  unfold rmv
  by_cases q : (i : Int) < a
  · rw [if_pos q, if_pos (by omega), K.eq]
  · rw [if_neg q, if_neg (by omega), show (i : Int) + k = ((i + k.toNat : Nat) : Int) by omega, K.eq]
theorem nilnil (L : List (Int × Int)) (hL : 0 < L.length) : [V.nilp, V.nils] ≠ L.flatMap sp := by
  cases L with
  | nil => simp at hL
  | cons s L => simp [sp]
theorem XRem_ok {h : Heap} {v : V} {l : List Int} {ks : List Bool} {a k : Int} (w : WF h) (x : Ix h v l ks) (a0 : -9223372036854775808 ≤ a) (a1 : a ≤ 9223372036854775807) (k0 : -9223372036854775808 ≤ k) (k1 : k ≤ 9223372036854775807) :
    Does go 70 [v, .int .i64 a, .int .i64 k] h fun u h' => Fr [] h h' ∧ ∃ c d, u = .tup [.agg [c, d], .int .i64 (if cutB l.length a k then 4 else 0)] ∧ c.one = true ∧ d.one = true ∧ (¬ cutB l.length a k → Ix h' (.agg [c, d]) (remL l a.toNat k.toNat) (remL ks a.toNat k.toNat)) := by
  obtain ⟨p, vk, L, rfl, r, s, kn, e1, e2⟩ := x
  have vk1 := s.slc.one
  obtain ⟨h1, e_h1⟩ : ∃ h1, h1 = halloc h [pv p, vk] := ⟨_, rfl⟩
  have F_h1 : Fr [] h h1 := e_h1 ▸ Fr.halloc w _
  have o_h1 : Own h1 h.next [pv p, vk] := e_h1 ▸ Own.new w _
  obtain ⟨h2, e_h2⟩ : ∃ h2, h2 = halloc h1 [.nilp, .nils] := ⟨_, rfl⟩
  have F_h2 : Fr [] h1 h2 := e_h2 ▸ Fr.halloc F_h1.wf _
  have o_h2 : Own h2 h1.next [.nilp, .nils] := e_h2 ▸ Own.new F_h1.wf _
  have F02 := F_h1.then F_h2
  refine does_fn g70 rfl ?_
  simp (disch := omega) only [fn70, evs, ↓reduceIte, Nat.reduceEqDiff, Nat.reduceAdd, Nat.reduceMul, Nat.reduceLeDiff, Nat.reduceLT, Int.reduceNeg, DF, eff, Nat.reduceSub, fwrap_i64, ← e_h1, ← e_h2, (F_h2.get o_h1).ld]
  refine OQ_does (RRem_ok F_h2.wf (r.fr F02) a0 a1 k0 k1) ?_
  rintro _ h3 ⟨F3, c, rfl, hc, hr⟩
  have F03 := F02.then F3
  obtain ⟨h4, e_h4⟩ : ∃ h4, h4 = halloc h3 [.nilp] := ⟨_, rfl⟩
  have F_h4 : Fr [] h3 h4 := e_h4 ▸ Fr.halloc F3.wf _
  have o_h4 : Own h4 h3.next [.nilp] := e_h4 ▸ Own.new F3.wf _
  simp (disch := omega) only [evs, ↓reduceIte, Nat.reduceEqDiff, Nat.reduceAdd, Nat.reduceMul, Nat.reduceLeDiff, Nat.reduceLT, Int.reduceNeg, DF, eff, Nat.reduceSub, fwrap_i64, ← e_h4]
  refine store_step (c' := [c]) F_h4.wf o_h4 rfl (by simp [onesB, V.cells, hc]) rfl ?_
  rintro h5 o5 F5 n5
  have F35 : Fr [] h3 h5 := F_h4.fresh F5 F3.wf (Nat.le_refl _)
  have F05 := F03.then F35
  have o2 := F35.get (F3.get o_h2)
  by_cases z : cutB l.length a k
  · simp (disch := omega) only [evs, ↓reduceIte, Nat.reduceEqDiff, Nat.reduceAdd, Nat.reduceMul, Nat.reduceLeDiff, Nat.reduceLT, Int.reduceNeg, DF, eff, Nat.reduceSub, fwrap_i64, eq_true z, if_pos z, eq_false (show ¬ (4 : Int) = 0 by omega)]
    refine store_step (c' := [.nilp, .nils]) F35.wf o2 rfl rfl rfl ?_
    rintro h6 o6 F6 n6
    simp (disch := omega) only [evs, ↓reduceIte, Nat.reduceEqDiff, Nat.reduceAdd, Nat.reduceMul, Nat.reduceLeDiff, Nat.reduceLT, Int.reduceNeg, DF, eff, Nat.reduceSub, fwrap_i64, o6.ld]
    exact ⟨F05.fresh F6 w F_h1.next, .nilp, .nils, by simp [z], rfl, rfl, fun q => absurd trivial q⟩
  · have z' : ¬ cutB ks.length a k := by rw [e1]; exact z
    obtain ⟨c0, c1, c2⟩ := cut_nat z
    simp (disch := omega) only [evs, ↓reduceIte, Nat.reduceEqDiff, Nat.reduceAdd, Nat.reduceMul, Nat.reduceLeDiff, Nat.reduceLT, Int.reduceNeg, DF, eff, Nat.reduceSub, fwrap_i64, if_neg z, ((F_h2.then (F3.then F35)).get o_h1).ld1]
    refine OQ_does (SRem_ok (m := (l.length : Int)) F35.wf (s.slc.fr F05) kn.ok (by omega) (fun s hs => by have := kn.le s hs; omega) (by omega) c0 (by omega) c1) ?_
    rintro _ h6 ⟨F6, y, L', rfl, y1, sL, okL, iL, mL⟩
    simp (disch := omega) only [evs, ↓reduceIte, Nat.reduceEqDiff, Nat.reduceAdd, Nat.reduceMul, Nat.reduceLeDiff, Nat.reduceLT, Int.reduceNeg, DF, eff, Nat.reduceSub, fwrap_i64, (F6.get o5).ld]
    refine OQ_does (with_ok F6.wf hc y1) ?_
    rintro _ h7 ⟨F7, rfl⟩
    have F37 := F35.then (F6.then F7)
    simp (disch := omega) only [evs, ↓reduceIte, Nat.reduceEqDiff, Nat.reduceAdd, Nat.reduceMul, Nat.reduceLeDiff, Nat.reduceLT, Int.reduceNeg, DF, eff, Nat.reduceSub, fwrap_i64]
    refine store_step (c' := [c, y]) F7.wf (F37.get (F3.get o_h2)) rfl (by simp [onesB, V.cells, hc, y1]) rfl ?_
    rintro h8 o8 F8 n8
    simp (disch := omega) only [evs, ↓reduceIte, Nat.reduceEqDiff, Nat.reduceAdd, Nat.reduceMul, Nat.reduceLeDiff, Nat.reduceLT, Int.reduceNeg, DF, eff, Nat.reduceSub, fwrap_i64, o8.ld]
    have F07 := F03.then F37
    refine ⟨F07.fresh F8 w F_h1.next, c, y, by simp [z], hc, y1, fun _ => ?_⟩
    have rr := (hr z).fr F37
    obtain ⟨t, p', hp, rr1, rr2⟩ := rr
    simp only [V.agg.injEq, List.cons.injEq, and_true] at hp
    subst hp
    have K' := kn.rem z' okL iL (by rw [e1]; exact mL)
    have ix : Ix h7 (.agg [pv p', y]) (remL l a.toNat k.toNat) (remL ks a.toNat k.toNat) := ⟨p', y, L', rfl, ⟨t, p', rfl, rr1, rr2⟩, sL.fr F7, K', by rw [remL_len (by omega), remL_len c2]; omega, by rw [remL_len c2]; omega⟩
    exact ix.frb F8 (F37.get (F3.get o_h2)) (by simp) nilnil
theorem fRem_ok {h : Heap} {b : Nat} {bs : List Bool} {a n : Nat} (w : WF h) (f : Fl h b bs) (ha : a + n ≤ bs.length) :
    Does go 71 [.ptr b 0, .int .i64 (a : Int), .int .i64 (n : Int)] h fun u h' => u = .int .i64 0 ∧ Fl h' b (remL bs a n) ∧ Fr [b] h h' := by
  have f0 := f
  obtain ⟨ws, o, ok, hn0⟩ := f
  refine does_fn g71 rfl ?_
  simp (disch := omega) only [fn71, evs, ↓reduceIte, Nat.reduceEqDiff, Nat.reduceAdd, Nat.reduceMul, Nat.reduceLeDiff, Nat.reduceLT, Int.reduceNeg, DF, eff, Nat.reduceSub, fwrap_i64]
  refine OQ_does (fcheck_ok f0 (by omega) (by omega)) ?_
  rintro _ _ ⟨rfl, hh⟩
  replace hh := hh.symm
  subst hh
  have e : fchk bs.length a n = 0 := by unfold fchk; rw [if_neg (by omega)]
  rw [e]
  simp (disch := omega) only [evs, ↓reduceIte, Nat.reduceEqDiff, Nat.reduceAdd, Nat.reduceMul, Nat.reduceLeDiff, Nat.reduceLT, Int.reduceNeg, DF, eff, Nat.reduceSub, fwrap_i64]
  refine OQ_does (flist_ok w f0) ?_
  rintro _ h2 ⟨bl, ⟨c, rfl, hcnew⟩, F2⟩
  obtain ⟨v1, s1, b1⟩ := bl.upto (by simp) .i64 a (by omega) (by omega)
  obtain ⟨v3, s3, b3⟩ := bl.from' (by simp) .i64 ((a : Int) + n) (by omega) (by omega)
  simp only [Int.toNat_natCast] at b1
  rw [show ((a : Int) + n).toNat = a + n by omega] at b3
  have c1 := cells_one (Vals.one b1)
  have c3 := cells_one (Vals.one b3)
  obtain ⟨h3, e_h3⟩ : ∃ h3, h3 = halloc h2 [v1, v3] := ⟨_, rfl⟩
  have F_h3 : Fr [] h2 h3 := e_h3 ▸ Fr.halloc F2.wf _
  have o_h3 : Own h3 h2.next [v1, v3] := e_h3 ▸ Own.new F2.wf _
  have e3 : halloc h2 [v1, v3] = h3 := e_h3.symm
  simp (disch := omega) only [evs, ↓reduceIte, Nat.reduceEqDiff, Nat.reduceAdd, Nat.reduceMul, Nat.reduceLeDiff, Nat.reduceLT, Int.reduceNeg, DF, eff, Nat.reduceSub, fwrap_i64, s1, s3, c1, c3, List.length_cons, List.length_nil, Nat.zero_add, e3]
  have F03 := F2.then F_h3
  have el : ([(v1, bs.take a), (v3, bs.drop (a + n))] : List (V × List Bool)).flatMap Prod.snd = remL bs a n := by simp [remL]
  refine OQ_does (become_ok (Ls := [(v1, bs.take a), (v3, bs.drop (a + n))]) F_h3.wf (f0.fr F03) (Sl.lit (n := 2) o_h3 rfl) ?_ ?_ (by simp)) ?_
  · intro p hp
    simp only [List.mem_cons, List.not_mem_nil, or_false] at hp
    rcases hp with rfl | rfl
    · exact b1.fr F_h3
    · exact b3.fr F_h3
  · rw [el, remL_len ha]; omega
  · rintro _ h4 ⟨rfl, f4, F4⟩
    rw [el] at f4
    simp (disch := omega) only [evs, ↓reduceIte, Nat.reduceEqDiff, Nat.reduceAdd, Nat.reduceMul, Nat.reduceLeDiff, Nat.reduceLT, Int.reduceNeg, DF, eff, Nat.reduceSub, fwrap_i64]
    exact ⟨f4, F03.trans F4 w (by simp) (fun x hx => .inl hx)⟩
end Go.Ev.Lay

/- Flags: Move. -/
namespace Go.Ev.Lay
set_option maxRecDepth 4000
/-- cells written into a block out of a slice -/
theorem copy_step {h : Heap} {b o dl dc n : Nat} {v : V} {c cs : List V} {K : V → Heap → Prop} (w : WF h) (a : Own h b c) (s : Sl h 1 v n cs) (h1 : onesB cs = true) (ho : o + dl ≤ c.length)
    (k : ∀ h', Own h' b (c.take o ++ cs.take (min n dl) ++ c.drop (o + min n dl)) → Fr [b] h h' → h'.next = h.next → K (.int .i64 (min n dl : Nat)) h') : OQ (acopy h 1 (.slice b o dl dc) v) K := by
  have hcs : cs.length = n := by have := s.1; omega
  have sl : srcLen v = some n := by
    obtain ⟨_, e⟩ := s
    cases v <;> simp only [srcLen] at e ⊢
    all_goals first | exact e.elim | (rw [e.1]) | (rw [e])
  have src : 0 < min n dl → srcCells h 1 v (min n dl) = some (cs.take (min n dl)) := by
    intro hp
    obtain ⟨_, e⟩ := s
    have main : ∀ bb oo d, Own h bb d → oo + n * 1 ≤ d.length → cs = (d.drop oo).take (n * 1) → hload h bb oo (min n dl * 1) = some (cs.take (min n dl)) := by
      intro bb oo d od hl e
      rw [od.ld, dropL_eq, takeL_at _ _ (by simp; omega), e]
      simp only [Nat.mul_one, List.take_take]
      congr 2; omega
    cases v <;> simp only [srcCells] at e ⊢
    all_goals first | exact e.elim | (obtain ⟨_, _, d, od, hl, e⟩ := e; exact main _ _ d od hl e) | (omega)
  have hmn : Nat.min n dl = min n dl := rfl
  unfold acopy
  have dlen : dstLen (.slice b o dl dc) = some dl := rfl
  rw [dlen, sl]
  simp only [hmn]
  by_cases z : min n dl = 0
  · rw [z] at k ⊢
    simp only [Nat.beq_refl, cond_true]
    refine ⟨_, _, rfl, k h ?_ (Fr.refl w) rfl⟩
    simpa using a
  · rw [beq_ff z]
    simp only [cond_false, src (by omega)]
    have ht : onesB (cs.take (min n dl)) = true := by
      unfold onesB at h1 ⊢
      rw [List.all_eq_true] at h1 ⊢
      exact fun x hx => h1 x (List.mem_of_mem_take hx)
    have hlt : (cs.take (min n dl)).length = min n dl := by simp; omega
    obtain ⟨h', e1, o1, f1, n1⟩ := own_store w a ht (updO_at c o (cs.take (min n dl)) (by rw [hlt]; omega))
    rw [hlt] at o1
    rw [e1]
    exact ⟨_, _, rfl, k h' o1 f1 n1⟩
theorem sl_from (c N a : Nat) (h : a < N) : aP (.sl none 1 true false false) [.slice c 0 N N, .int .i64 (a : Int)] = some (.slice c a (N - a) (N - a)) := by
  have hb : abounds N N true false false [.int .i64 (a : Int)] = some (a, N, none) := by simp only [abounds, abound_ok .i64 (a : Int) N (by omega) (by omega), Option.map_some, Int.toNat_natCast]
  simp only [aP, aslice, hb, Option.map_some, Option.getD_none, beq_ff (show N ≠ a by omega), cond_false, Nat.mul_one, Nat.zero_add]
theorem ones_bool (l : List Bool) : onesB (l.map V.bool) = true := by
  unfold onesB
  rw [List.all_eq_true]
  intro x hx
  obtain ⟨b, _, rfl⟩ := List.mem_map.1 hx
  rfl
theorem fMov_ok {h : Heap} {b : Nat} {bs : List Bool} {a n t : Nat} (w : WF h) (f : Fl h b bs) (hn : 0 < n) (ha : a + n ≤ bs.length) (ht : t + n ≤ bs.length) :
    Does go 73 [.ptr b 0, .int .i64 (a : Int), .int .i64 (n : Int), .int .i64 (t : Int)] h fun u h' => u = .int .i64 0 ∧ Fl h' b (movL bs a n t) ∧ Fr [b] h h' := by
  have f0 := f
  obtain ⟨ws, o, ok, hn0⟩ := f
  have q : hload1 h b 0 = some (.int .i64 (bs.length : Int)) := o.ld1 0
  refine does_fn g73 rfl ?_
  simp (disch := omega) only [fn73, evs, ↓reduceIte, Nat.reduceEqDiff, Nat.reduceAdd, Nat.reduceMul, Nat.reduceLeDiff, Nat.reduceLT, Int.reduceNeg, DF, eff, Nat.reduceSub, fwrap_i64]
  refine OQ_does (fcheck_ok f0 (by omega) (by omega)) ?_
  rintro _ _ ⟨rfl, hh⟩
  replace hh := hh.symm
  subst hh
  have e : fchk bs.length a n = 0 := by unfold fchk; rw [if_neg (by omega)]
  rw [e]
  simp (disch := omega) only [evs, ↓reduceIte, Nat.reduceEqDiff, Nat.reduceAdd, Nat.reduceMul, Nat.reduceLeDiff, Nat.reduceLT, Int.reduceNeg, DF, eff, Nat.reduceSub, fwrap_i64, show ¬ (t : Int) < 0 by omega, q, show ¬ (bs.length : Int) - n < t by omega]
  refine OQ_does (flist_ok w f0) ?_
  rintro _ h2 ⟨bl, ⟨c, rfl, hcnew⟩, F2⟩
  simp (disch := omega) only [evs, ↓reduceIte, Nat.reduceEqDiff, Nat.reduceAdd, Nat.reduceMul, Nat.reduceLeDiff, Nat.reduceLT, Int.reduceNeg, DF, eff, Nat.reduceSub, fwrap_i64]
  refine (amake_ok _ _ _ _ _ _ _ _ (by omega) (by omega) (by omega) (by omega)).2 ?_
  simp only [Int.toNat_natCast]
  rw [repL_one]
  obtain ⟨cc, oc, hcl, hce⟩ : ∃ cc, Own h2 c cc ∧ bs.length ≤ cc.length ∧ bs.map V.bool = cc.take bs.length := by
    obtain ⟨_, _, _, cc, oc, hl, he⟩ := bl
    exact ⟨cc, oc, by omega, by simpa using he⟩
  obtain ⟨h3, e_h3⟩ : ∃ h3, h3 = halloc h2 (List.replicate n (V.bool false)) := ⟨_, rfl⟩
  have F_h3 : Fr [] h2 h3 := e_h3 ▸ Fr.halloc F2.wf _
  have o_h3 : Own h3 h2.next (List.replicate n (V.bool false)) := e_h3 ▸ Own.new F2.wf _
  rw [← e_h3]
  have bl3 := bl.fr F_h3
  obtain ⟨v1, s1, b1⟩ := bl3.from' (by simp) .i64 a (by omega) (by omega)
  rw [sl_from c bs.length a (by omega)] at s1
  cases s1
  simp only [Int.toNat_natCast] at b1
  simp (disch := omega) only [evs, ↓reduceIte, Nat.reduceEqDiff, Nat.reduceAdd, Nat.reduceMul, Nat.reduceLeDiff, Nat.reduceLT, Int.reduceNeg, DF, eff, Nat.reduceSub, fwrap_i64, sl_from c bs.length a (by omega)]
  refine copy_step (dl := n) F_h3.wf o_h3 b1 (ones_bool _) (by simp) ?_
  rintro h4 o4 F4 n4
  have hcn : h2.next ≠ c := by have := oc.lt F2.wf; omega
  have F24 : Fr [] h2 h4 := F_h3.fresh F4 F2.wf (Nat.le_refl _)
  have mv : Bools h4 (.slice h2.next 0 n n) ((bs.drop a).take n) := by
    have hz : (List.take 0 (List.replicate n (V.bool false)) ++ List.take (min (bs.drop a).length n) ((bs.drop a).map V.bool) ++ List.drop (0 + min (bs.drop a).length n) (List.replicate n (V.bool false))) = ((bs.drop a).take n).map V.bool := by
      rw [show min (bs.drop a).length n = n by simp; omega]
      simp
    rw [hz] at o4
    have := Sl.lit (esz := 1) (n := n) o4 (by simp; omega)
    have hl : ((bs.drop a).take n).length = n := by simp; omega
    show Sl h4 1 _ ((bs.drop a).take n).length _
    rw [hl]
    simpa using this
  have bl4 := bl.fr F24
  obtain ⟨v3, s3, b3⟩ := bl4.from' (by simp) .i64 ((a : Int) + n) (by omega) (by omega)
  rw [show ((a : Int) + n).toNat = a + n by omega] at b3
  simp (disch := omega) only [evs, ↓reduceIte, Nat.reduceEqDiff, Nat.reduceAdd, Nat.reduceMul, Nat.reduceLeDiff, Nat.reduceLT, Int.reduceNeg, DF, eff, Nat.reduceSub, fwrap_i64, sl_from c bs.length a (by omega), s3]
  refine copy_step (dl := bs.length - a) F24.wf (F24.get oc) b3 (ones_bool _) (by omega) ?_
  rintro h5 o5 F5 n5
  have hk : min (bs.drop (a + n)).length (bs.length - a) = bs.length - a - n := by simp; omega
  rw [hk] at o5
  have F25 : Fr [c] h2 h5 := F24.trans F5 F2.wf (by simp) (fun x hx => .inl hx)
  obtain ⟨bs', hbs⟩ : ∃ bs', bs' = bs.take a ++ bs.drop (a + n) ++ bs.drop (bs.length - n) := ⟨_, rfl⟩
  have hbl : bs'.length = bs.length := by rw [hbs]; simp; omega
  have hcc : (cc.take a ++ List.take (bs.length - a - n) ((bs.drop (a + n)).map V.bool) ++ cc.drop (a + (bs.length - a - n))).take bs.length = bs'.map V.bool := by
    have e1 : cc.take a = (bs.take a).map V.bool := by rw [List.map_take, hce, List.take_take, Nat.min_eq_left (by omega)]
    have e2 : List.take (bs.length - a - n) ((bs.drop (a + n)).map V.bool) = (bs.drop (a + n)).map V.bool := List.take_of_length_le (by simp; omega)
    have e3 : (cc.drop (bs.length - n)).take n = (bs.drop (bs.length - n)).map V.bool := by
      rw [List.map_drop, hce, List.drop_take]
      congr 1; omega
    rw [e2, e1, show a + (bs.length - a - n) = bs.length - n by omega, hbs, List.take_append]
    rw [List.take_of_length_le (by simp; omega)]
    rw [List.map_append, List.map_append]
    congr 1
    rw [← e3]
    congr 1
    simp; omega
  have bl5 : Bools h5 (.slice c 0 bs.length bs.length) bs' := by
    refine ⟨by simp, hbl.symm, by omega, _, o5, ?_, ?_⟩
    · simp; omega
    · rw [hbl]; simpa using hcc.symm
  obtain ⟨v5, s5, b5⟩ := bl5.upto (by simp) .i64 t (by omega) (by omega)
  obtain ⟨v6, s6, b6⟩ := Sl.range bl5 (by omega) (by simp) .i64 .i64 (t : Int) ((bs.length : Int) - n) (by omega) (by omega) (by omega)
  simp only [Int.toNat_natCast] at b5 b6
  have mv5 : Bools h5 (.slice h2.next 0 n n) ((bs.drop a).take n) := by
    obtain ⟨x1, x2, x3, d, od, x4⟩ := mv
    exact ⟨x1, x2, x3, d, F5.own _ _ (by simpa using hcn) od, x4⟩
  have rl : (remL bs a n).length = bs.length - n := remL_len ha
  have t5 : bs'.take t = (remL bs a n).take t := by
    rw [hbs]
    show List.take t (bs.take a ++ bs.drop (a + n) ++ bs.drop (bs.length - n)) = _
    rw [List.take_append_of_le_length (by simp; omega)]
    simp [remL]
  have t6 : (bs'.drop t).take (bs.length - n - t) = (remL bs a n).drop t := by
    rw [hbs]
    show ((bs.take a ++ bs.drop (a + n) ++ bs.drop (bs.length - n)).drop t).take (bs.length - n - t) = _
    rw [List.drop_append_of_le_length (by simp; omega), List.take_append_of_le_length (by simp; omega), List.take_of_length_le (by simp; omega)]
    simp [remL]
  have b6' : Bools h5 v6 ((remL bs a n).drop t) := by
    rw [← t6]
    show Sl h5 1 v6 _ _
    rw [show ((bs.length : Int) - n).toNat = bs.length - n by omega] at b6
    have hl : ((bs'.drop t).take (bs.length - n - t)).length = bs.length - n - t := by simp; omega
    rw [hl]
    simpa [List.map_take, List.map_drop] using b6
  have b5' : Bools h5 v5 ((remL bs a n).take t) := by rw [← t5]; exact b5
  have c5 := cells_one (Vals.one b5')
  have c6 := cells_one (Vals.one b6')
  have hbc : b ≠ c := by
    rintro rfl
    have := congrArg List.length ((F2.get o).uniq oc)
    have hh := hce
    rw [← (F2.get o).uniq oc] at hh
    have h0 := congrArg List.head? hh
    cases bs with
    | nil => simp at ha; omega
    | cons x bs => simp [flc] at h0
  have o5b : Own h5 b (flc (bs.length : Int) (bs.count true : Int) ws) := F25.own _ _ (by simpa using hbc) (F2.get o)
  have f5 : Fl h5 b bs := ⟨ws, o5b, ok, hn0⟩
  have q5 : hload1 h5 b 0 = some (.int .i64 (bs.length : Int)) := o5b.ld1 0
  obtain ⟨h6, e_h6⟩ : ∃ h6, h6 = halloc h5 [v5, .slice h2.next 0 n n, v6] := ⟨_, rfl⟩
  have F_h6 : Fr [] h5 h6 := e_h6 ▸ Fr.halloc F5.wf _
  have o_h6 : Own h6 h5.next [v5, .slice h2.next 0 n n, v6] := e_h6 ▸ Own.new F5.wf _
  have e6 : halloc h5 [v5, .slice h2.next 0 n n, v6] = h6 := e_h6.symm
  simp (disch := omega) only [evs, ↓reduceIte, Nat.reduceEqDiff, Nat.reduceAdd, Nat.reduceMul, Nat.reduceLeDiff, Nat.reduceLT, Int.reduceNeg, DF, eff, Nat.reduceSub, fwrap_i64, s5, s6, q5, c5, c6, List.length_cons, List.length_nil, Nat.zero_add, e6]
  have el : ([(v5, (remL bs a n).take t), (.slice h2.next 0 n n, (bs.drop a).take n), (v6, (remL bs a n).drop t)] : List (V × List Bool)).flatMap Prod.snd = movL bs a n t := by simp [movL]
  refine OQ_does (become_ok (Ls := [(v5, (remL bs a n).take t), (.slice h2.next 0 n n, (bs.drop a).take n), (v6, (remL bs a n).drop t)]) F_h6.wf (f5.fr F_h6) (Sl.lit (n := 3) o_h6 rfl) ?_ ?_ (by simp)) ?_
  · intro p hp
    simp only [List.mem_cons, List.not_mem_nil, or_false] at hp
    rcases hp with rfl | rfl | rfl
    · exact b5'.fr F_h6
    · exact mv5.fr F_h6
    · exact b6'.fr F_h6
  · rw [el, (movL_perm bs a n t).length_eq]; omega
  · rintro _ h7 ⟨rfl, f7, F7⟩
    rw [el] at f7
    simp (disch := omega) only [evs, ↓reduceIte, Nat.reduceEqDiff, Nat.reduceAdd, Nat.reduceMul, Nat.reduceLeDiff, Nat.reduceLT, Int.reduceNeg, DF, eff, Nat.reduceSub, fwrap_i64, q5]
    have F05 : Fr [] h h5 := F2.trans F25 w (by simp) (fun x hx => by simp at hx; subst hx; exact .inr hcnew)
    exact ⟨f7, (F05.then F_h6).trans F7 w (by simp) (fun x hx => .inl hx)⟩
end Go.Ev.Lay

/- Sizes: the spans of a part; a round of Move. -/
namespace Go.Ev.Lay
set_option maxRecDepth 4000
theorem Fdep : 2 ^ (F : T IFn).dep ≤ 1099511627776 := by decide
/-- the loop of sizes.Move: its left side, and its body -/
abbrev mas : IC := .ops [⟨none, .al [(.int .i64 0), (.int .i64 0)], some 14⟩, ⟨none, .st 2 (.v 14) (.v 54), none⟩]
abbrev mbd : IC := .block 1 (.ops [⟨none, .ld 1 false (.v 12), none⟩, ⟨none, .p (.faddr 0) [.v 14], none⟩, ⟨none, .ld 1 false (.l 0), none⟩, ⟨none, .p (.faddr 1) [.v 14], none⟩, ⟨none, .ld 1 false (.l 0), none⟩, ⟨none, .cf 83 [.l 4, .l 2, .l 0, .c (.bool true)], none⟩, ⟨none, .st 1 (.v 12) (.l 0), none⟩])
theorem one_sp {y : V} (L : List (Int × Int)) (hL : 0 < L.length) : [y] ≠ L.flatMap sp := by
  intro e
  have := congrArg List.length e
  rw [flat_len sp_len] at this
  simp at this; omega
theorem SpF.frB {h h' : Heap} {v : V} {L : List (Int × Int)} {S : List Nat} {B : Nat} (a : SpF h v L) (f : FrB S B h h') (hs : ∀ b ∈ S, ∃ y, Own h b [y]) : SpF h' v L := by
  rcases a with x | ⟨b, e, o, p⟩
  · exact .inl x
  · refine .inr ⟨b, e, f.own _ _ (fun q => ?_) o, p⟩
    obtain ⟨y, oy⟩ := hs b q
    exact one_sp L p (oy.uniq o)
theorem mround_ok {h : Heap} {B b12 : Nat} {en : T V} {y : V} {L : List (Int × Int)} {f t m : Int} (w : WF h) (hb : h.bl.get B = some (.lp [54] mas mbd en 0 none)) (g12 : en.get 12 = some (.ptr b12 0)) (oy : Own h b12 [y])
    (s : SpF h y L) (ok : SOK L (-1)) (hm : m ≤ 8000) (hL : ∀ s ∈ L, s.2 ≤ m) (hf : 0 ≤ f) (hft : f ≤ t) (ht : t ≤ m) :
    Does go (YB + B) [.agg [.int .i64 f, .int .i64 t]] h fun u h' => u = .bool true ∧ FrB [b12] B h h' ∧ h'.bl.get B = some (.lp [54] mas mbd en 0 none) ∧ ∃ y' L', Own h' b12 [y'] ∧ SpF h' y' L' ∧ SOK L' (-1) ∧ (∀ x, inS L' x = if f ≤ x ∧ x < t then true else inS L x) ∧ ∀ s ∈ L', s.2 ≤ m := by
  refine does_round Fdep hb rfl ?_
  obtain ⟨h1, e_h1⟩ : ∃ h1, h1 = halloc h [.int .i64 0, .int .i64 0] := ⟨_, rfl⟩
  have F_h1 : Fr [] h h1 := e_h1 ▸ Fr.halloc w _
  have o_h1 : Own h1 h.next [.int .i64 0, .int .i64 0] := e_h1 ▸ Own.new w _
  have e1 : halloc h [.int .i64 0, .int .i64 0] = h1 := e_h1.symm
  simp only [bindP]
  simp (disch := omega) only [evs, ↓reduceIte, Nat.reduceEqDiff, Nat.reduceAdd, Nat.reduceMul, Nat.reduceLeDiff, Nat.reduceLT, Int.reduceNeg, DF, eff, Nat.reduceSub, fwrap_i64, g12, e1]
  refine store_step (c' := [.int .i64 f, .int .i64 t]) F_h1.wf o_h1 rfl (by first | rfl | simp [onesB, V.cells, pv_one, *]) rfl ?_
  rintro h2 o_h2 F_h2 n_h2
  simp (disch := omega) only [evs, ↓reduceIte, Nat.reduceEqDiff, Nat.reduceAdd, Nat.reduceMul, Nat.reduceLeDiff, Nat.reduceLT, Int.reduceNeg, DF, eff, Nat.reduceSub, fwrap_i64]
  have F12 : Fr [] h h2 := F_h1.fresh F_h2 w (Nat.le_refl _)
  have lp2 := F12.lp B _ rfl hb
  refine ⟨[54], mas, mbd, en, none, lp2, ?_⟩
  have X3 : FrB [b12] B h2 (hset h2 B (.lp [54] mas mbd en 1 none)) := FrB.hset F12.wf lp2 rfl _
  obtain ⟨h3, e3⟩ : ∃ h3, h3 = hset h2 B (.lp [54] mas mbd en 1 none) := ⟨_, rfl⟩
  rw [← e3] at X3
  rw [← e3]
  have X3' : FrB [] B h2 h3 := by rw [e3]; exact FrB.hset F12.wf lp2 rfl _
  have lp3 : h3.bl.get B = some (.lp [54] mas mbd en 1 none) := by rw [e3]; exact hset_get _ _ _
  have o12 : Own h3 b12 [y] := X3'.own _ _ (by simp) (F12.get oy)
  have o14 : Own h3 h.next [.int .i64 f, .int .i64 t] := X3'.own _ _ (by simp) o_h2
  simp (disch := omega) only [evs, ↓reduceIte, Nat.reduceEqDiff, Nat.reduceAdd, Nat.reduceMul, Nat.reduceLeDiff, Nat.reduceLT, Int.reduceNeg, DF, eff, Nat.reduceSub, fwrap_i64, g12, o12.ld1, o14.ld1]
  refine OQ_does (marked_ok (m := m) X3.wf ((s.fr F12).frB X3' (by simp)) ok hm hL hf hft ht) ?_
  rintro y' h4 ⟨F4, L', o1, sL, okL, iL, mL⟩
  simp (disch := omega) only [evs, ↓reduceIte, Nat.reduceEqDiff, Nat.reduceAdd, Nat.reduceMul, Nat.reduceLeDiff, Nat.reduceLT, Int.reduceNeg, DF, eff, Nat.reduceSub, fwrap_i64, g12]
  refine store_step (c' := [y']) F4.wf (F4.get o12) (by rw [cells_one o1]; rfl) (by rw [cells_one o1]; simp [onesB, o1]) (by rw [cells_one o1]; rfl) ?_
  rintro h5 o5 F5 n5
  simp (disch := omega) only [evs, ↓reduceIte, Nat.reduceEqDiff, Nat.reduceAdd, Nat.reduceMul, Nat.reduceLeDiff, Nat.reduceLT, Int.reduceNeg, DF, eff, Nat.reduceSub, fwrap_i64]
  have lp5 := F5.lp B _ rfl (F4.lp B _ rfl lp3)
  refine ⟨[54], mas, mbd, en, 1, none, lp5, ?_, hset_get _ _ _, ?_⟩
  · exact ((F12.b (by simp)).trans (X3.trans ((F4.b (by simp)).trans (F5.b (by simp))))).trans (FrB.hset F5.wf lp5 rfl _)
  · have X6 : FrB [] B h5 (hset h5 B (.lp [54] mas mbd en 0 none)) := FrB.hset F5.wf lp5 rfl _
    exact ⟨y', L', X6.own _ _ (by simp) o5, (sL.frb F5 (F4.get o12) one_sp).frB X6 (by simp), okL, iL, mL⟩
theorem part_ok {h : Heap} {v : V} {a t k : Int} (w : WF h) (hv : v.one = true) :
    Does go 97 [v, .int .i64 a, .int .i64 t, .int .i64 k] h fun u h' => ∃ b1 b2 b3 b4, u = .func (.func 115) [] [.ptr b1 0, .ptr b2 0, .ptr b3 0, .ptr b4 0] ∧ Own h' b1 [v] ∧ Own h' b2 [.int .i64 a] ∧ Own h' b3 [.int .i64 k] ∧ Own h' b4 [.int .i64 t] ∧ Fr [] h h' ∧ h.next ≤ b1 ∧ h.next ≤ b2 ∧ h.next ≤ b3 ∧ h.next ≤ b4 := by
  obtain ⟨h1, e_h1⟩ : ∃ h1, h1 = halloc h [v] := ⟨_, rfl⟩
  have F_h1 : Fr [] h h1 := e_h1 ▸ Fr.halloc w _
  have o_h1 : Own h1 h.next [v] := e_h1 ▸ Own.new w _
  obtain ⟨h2, e_h2⟩ : ∃ h2, h2 = halloc h1 [.int .i64 a] := ⟨_, rfl⟩
  have F_h2 : Fr [] h1 h2 := e_h2 ▸ Fr.halloc F_h1.wf _
  have o_h2 : Own h2 h1.next [.int .i64 a] := e_h2 ▸ Own.new F_h1.wf _
  obtain ⟨h3, e_h3⟩ : ∃ h3, h3 = halloc h2 [.int .i64 t] := ⟨_, rfl⟩
  have F_h3 : Fr [] h2 h3 := e_h3 ▸ Fr.halloc F_h2.wf _
  have o_h3 : Own h3 h2.next [.int .i64 t] := e_h3 ▸ Own.new F_h2.wf _
  obtain ⟨h4, e_h4⟩ : ∃ h4, h4 = halloc h3 [.int .i64 k] := ⟨_, rfl⟩
  have F_h4 : Fr [] h3 h4 := e_h4 ▸ Fr.halloc F_h3.wf _
  have o_h4 : Own h4 h3.next [.int .i64 k] := e_h4 ▸ Own.new F_h3.wf _
  have F12 := F_h1.next; have F23 := F_h2.next; have F34 := F_h3.next
  refine does_fn g97 rfl ?_
  simp (disch := omega) only [fn97, evs, ↓reduceIte, Nat.reduceEqDiff, Nat.reduceAdd, Nat.reduceMul, Nat.reduceLeDiff, Nat.reduceLT, Int.reduceNeg, DF, eff, Nat.reduceSub, fwrap_i64, cells_one hv, ← e_h1, ← e_h2, ← e_h3, ← e_h4]
  have F24 := F_h3.then F_h4
  have F14 := F_h2.then F24
  exact ⟨_, _, _, _, rfl, F14.get o_h1, F24.get o_h2, o_h4, F_h4.get o_h3, F_h1.then F14, by omega, by omega, by omega, by omega⟩
end Go.Ev.Lay

/- Sizes: the spans of a part, one after another. -/
namespace Go.Ev.Lay
set_option maxRecDepth 4000
theorem part1_ok {h : Heap} {B b1 b2 b3 b4 : Nat} {v : V} {L : List (Int × Int)} {a t k : Int} (J : Nat → Heap → Prop)
    (hJ : ∀ i hh, J i hh → WF hh ∧ Own hh b1 [v] ∧ Own hh b2 [.int .i64 a] ∧ Own hh b3 [.int .i64 k] ∧ Own hh b4 [.int .i64 t] ∧ Sp hh v L)
    (hst : ∀ i hh h', J i hh → Fr [] hh h' → J i h')
    (hstep : ∀ (i : Nat) s hh, L[i]? = some s → J i hh → if max s.1 a + k < min s.2 t + k then Does go (YB + B) [.agg [.int .i64 (max s.1 a + k), .int .i64 (min s.2 t + k)]] hh (fun u h' => u = .bool true ∧ J (i + 1) h') else J (i + 1) hh)
    (hL : ∀ s ∈ L, 0 ≤ s.1 ∧ s.1 < s.2 ∧ s.2 ≤ 1073741824) (ha : 0 ≤ a) (ha1 : a ≤ 1073741824) (ht : 0 ≤ t) (ht1 : t ≤ 1073741824) (hk : -1073741824 ≤ k) (hk1 : k ≤ 1073741824) (h0 : J 0 h) (hl : L.length ≤ 4096) :
    Does go 115 [.yld B, .ptr b1 0, .ptr b2 0, .ptr b3 0, .ptr b4 0] h fun u h' => u = .tup [] ∧ J L.length h' := by
  obtain ⟨w, o1, _, _, _, s⟩ := hJ 0 h h0
  refine does_fn g115 rfl ?_
  simp (disch := omega) only [fn115, evs, ↓reduceIte, Nat.reduceEqDiff, Nat.reduceAdd, Nat.reduceMul, Nat.reduceLeDiff, Nat.reduceLT, Int.reduceNeg, DF, eff, Nat.reduceSub, fwrap_i64, o1.ld1, s.len]
  refine W_loop (fun n env hh => ∃ i : Nat, env.get 0 = some (.yld B) ∧ env.get 2 = some (.ptr b2 0) ∧ env.get 3 = some (.ptr b3 0) ∧ env.get 4 = some (.ptr b4 0) ∧ env.get 8 = some v ∧ env.get 9 = some (.int .i64 L.length) ∧ env.get 10 = some (.int .i64 i) ∧ i ≤ L.length ∧ J i hh ∧ n = L.length - i) L.length (by omega) ?_ ?_
  · exact ⟨0, (by simp [T.get_set]), (by simp [T.get_set]), (by simp [T.get_set]), (by simp [T.get_set]), (by simp [T.get_set]), (by simp [T.get_set]), (by simp [T.get_set]), by omega, h0, rfl⟩
  · rintro n env hh ⟨i, g0, g2, g3, g4, g8, g9, g10, hi, j, rfl⟩
    obtain ⟨w, o1, o2, o3, o4, s⟩ := hJ i hh j
    by_cases hlt : (i : Int) < L.length
    · obtain ⟨bb, oo, x, e1, e2, e3, e4, e5⟩ := Sp.ix s i hlt
      have hx := hL x (List.mem_of_getElem? e5)
      obtain ⟨h2, e_h2⟩ : ∃ h2, h2 = halloc hh [.int .i64 0, .int .i64 0] := ⟨_, rfl⟩
      have F_h2 : Fr [] hh h2 := e_h2 ▸ Fr.halloc w _
      have o_h2 : Own h2 hh.next [.int .i64 0, .int .i64 0] := e_h2 ▸ Own.new w _
      simp (disch := omega) only [evs, ↓reduceIte, Nat.reduceEqDiff, Nat.reduceAdd, Nat.reduceMul, Nat.reduceLeDiff, Nat.reduceLT, Int.reduceNeg, DF, eff, Nat.reduceSub, fwrap_i64, g0, g2, g3, g4, g8, g9, g10, hlt, e1, e4, ← e_h2]
      refine store_step (c' := [.int .i64 x.1, .int .i64 x.2]) F_h2.wf o_h2 rfl (by first | rfl | simp [onesB, V.cells, pv_one, *]) rfl ?_
      rintro h3 o_h3 F_h3 n_h3
      have F3 : Fr [] hh h3 := F_h2.fresh F_h3 w (Nat.le_refl _)
      simp (disch := omega) only [evs, ↓reduceIte, Nat.reduceEqDiff, Nat.reduceAdd, Nat.reduceMul, Nat.reduceLeDiff, Nat.reduceLT, Int.reduceNeg, DF, eff, Nat.reduceSub, fwrap_i64, g0, g2, g3, g4, g8, g9, g10, o_h3.ld1, (F3.get o2).ld1, (F3.get o3).ld1, (F3.get o4).ld1]
      refine store_step (c' := [.int .i64 (max x.1 a + k), .int .i64 x.2]) F3.wf o_h3 rfl rfl rfl ?_
      rintro h4 o_h4 F_h4 n4
      have F4 : Fr [] hh h4 := F3.fresh F_h4 w (Nat.le_refl _)
      simp (disch := omega) only [evs, ↓reduceIte, Nat.reduceEqDiff, Nat.reduceAdd, Nat.reduceMul, Nat.reduceLeDiff, Nat.reduceLT, Int.reduceNeg, DF, eff, Nat.reduceSub, fwrap_i64, g0, g2, g3, g4, g8, g9, g10]
      refine store_step (c' := [.int .i64 (max x.1 a + k), .int .i64 (min x.2 t + k)]) F4.wf o_h4 rfl rfl rfl ?_
      rintro h5 o_h5 F_h5 n5
      have F5 : Fr [] hh h5 := F4.fresh F_h5 w (Nat.le_refl _)
      have st := hstep i x h5 e5 (hst i hh h5 j F5)
      by_cases c : max x.1 a + k < min x.2 t + k
      · rw [if_pos c] at st
        simp (disch := omega) only [evs, ↓reduceIte, Nat.reduceEqDiff, Nat.reduceAdd, Nat.reduceMul, Nat.reduceLeDiff, Nat.reduceLT, Int.reduceNeg, DF, eff, Nat.reduceSub, fwrap_i64, g0, g2, g3, g4, g8, g9, g10, o_h3.ld1, (F3.get o2).ld1, (F3.get o3).ld1, (F3.get o4).ld1, (F4.get o3).ld1, (F4.get o4).ld1, o_h5.ld1, o_h5.ld, eq_true c, FQ_yld]
        refine OQ_does st ?_
        rintro _ h6 ⟨rfl, j6⟩
        simp (disch := omega) only [evs, ↓reduceIte, Nat.reduceEqDiff, Nat.reduceAdd, Nat.reduceMul, Nat.reduceLeDiff, Nat.reduceLT, Int.reduceNeg, DF, eff, Nat.reduceSub, fwrap_i64, g0, g2, g3, g4, g8, g9, g10]
        refine (roundQ_norm _ _ _).2 ⟨L.length - (i + 1), by omega, i + 1, (by simp [T.get_set, g0]), (by simp [T.get_set, g2]), (by simp [T.get_set, g3]), (by simp [T.get_set, g4]), (by simp [T.get_set, g8]), (by simp [T.get_set, g9]), (by simp [T.get_set]), by omega, j6, rfl⟩
        done
      · rw [if_neg c] at st
        simp (disch := omega) only [evs, ↓reduceIte, Nat.reduceEqDiff, Nat.reduceAdd, Nat.reduceMul, Nat.reduceLeDiff, Nat.reduceLT, Int.reduceNeg, DF, eff, Nat.reduceSub, fwrap_i64, g0, g2, g3, g4, g8, g9, g10, o_h3.ld1, (F3.get o2).ld1, (F3.get o3).ld1, (F3.get o4).ld1, (F4.get o3).ld1, (F4.get o4).ld1, o_h5.ld1, o_h5.ld, eq_false c]
        refine (roundQ_norm _ _ _).2 ⟨L.length - (i + 1), by omega, i + 1, (by simp [T.get_set, g0]), (by simp [T.get_set, g2]), (by simp [T.get_set, g3]), (by simp [T.get_set, g4]), (by simp [T.get_set, g8]), (by simp [T.get_set, g9]), (by simp [T.get_set]), by omega, st, rfl⟩
        done
    · have : i = L.length := by omega
      subst this
      simp (disch := omega) only [evs, ↓reduceIte, Nat.reduceEqDiff, Nat.reduceAdd, Nat.reduceMul, Nat.reduceLeDiff, Nat.reduceLT, Int.reduceNeg, DF, eff, Nat.reduceSub, fwrap_i64, g0, g2, g3, g4, g8, g9, g10, hlt]
      exact j
end Go.Ev.Lay

/- Sizes: Move. -/
namespace Go.Ev.Lay
set_option maxRecDepth 4000
theorem FrB.frs {S : List Nat} {B : Nat} {h h1 h2 : Heap} (w : WF h) (f : Fr [] h h1) (a : FrB S B h1 h2) (hB : h.next ≤ B) : Fr S h h2 :=
  ⟨Nat.le_trans f.next a.next, a.wf, fun b c hb o => a.own b c hb (f.get o), fun b c hb o => a.pl b c hb (f.pl b c (by simp) o),
    fun b x hx e => a.lp b x (by rintro rfl; rw [(w _ hB).1] at e; cases e) hx (f.lp b x hx e), fun b c r => a.ro b c (f.ro b c r)⟩
/-- the places of a part, shifted -/
def prt (a k d : Int) (L : List (Int × Int)) (x : Int) : Bool := L.any fun s => decide (max s.1 a + d ≤ x) && decide (x < min s.2 (a + k) + d)
theorem prt_take {a k d : Int} {L : List (Int × Int)} {i : Nat} {s : Int × Int} (e : L[i]? = some s) (x : Int) : prt a k d (L.take (i + 1)) x = (prt a k d (L.take i) x || (decide (max s.1 a + d ≤ x) && decide (x < min s.2 (a + k) + d))) := by
  unfold prt
  rw [List.take_add_one, e, List.any_append]
  simp
theorem prt_all (a k d : Int) (L : List (Int × Int)) (x : Int) : prt a k d L x = (decide (a + d ≤ x) && decide (x < a + k + d) && inS L (x - d)) := by
  unfold prt inS
  rw [Bool.eq_iff_iff]
  simp only [List.any_eq_true, Bool.and_eq_true, decide_eq_true_eq]
  constructor
  · rintro ⟨s, hs, h1, h2⟩; exact ⟨⟨by omega, by omega⟩, s, hs, by omega, by omega⟩
  · rintro ⟨⟨h1, h2⟩, s, hs, h3, h4⟩; exact ⟨s, hs, by omega, by omega⟩
theorem rf_move {h : Heap} {en : T V} {Q : Ex → T V → Heap → Prop} {b1 b2 b3 b4 b12 : Nat} {v y : V} {L L2 : List (Int × Int)} {a k t m : Int} (w : WF h)
    (g53 : en.get 53 = some (.func (.func 115) [] [.ptr b1 0, .ptr b2 0, .ptr b3 0, .ptr b4 0])) (g12 : en.get 12 = some (.ptr b12 0))
    (o1 : Own h b1 [v]) (o2 : Own h b2 [.int .i64 a]) (o3 : Own h b3 [.int .i64 (t - a)]) (o4 : Own h b4 [.int .i64 (a + k)]) (o12 : Own h b12 [y])
    (n1 : b1 ≠ b12) (n2 : b2 ≠ b12) (n3 : b3 ≠ b12) (n4 : b4 ≠ b12) (s : SpF h v L) (ok : SOK L (-1)) (mL : ∀ s ∈ L, s.2 ≤ m) (s2 : SpF h y L2) (ok2 : SOK L2 (-1)) (m2 : ∀ s ∈ L2, s.2 ≤ m)
    (hm : m ≤ 8000) (ha : 0 ≤ a) (hk : 0 ≤ k) (ht : 0 ≤ t) (hak : a + k ≤ m) (htk : t + k ≤ m)
    (K : ∀ h' y' L', Fr [b12] h h' → Own h' b12 [y'] → SpF h' y' L' → SOK L' (-1) → (∀ x, inS L' x = (inS L2 x || prt a k (t - a) L x)) → (∀ s ∈ L', s.2 ≤ m) → Q .norm en h') :
    W go (.rf (.v 53) [54] mas mbd) en h Q := by
  refine W_rf (f := 115) (first := []) (caps := [.ptr b1 0, .ptr b2 0, .ptr b3 0, .ptr b4 0]) ?_ (by omega) ?_
  · simp only [evO_v]; exact g53
  obtain ⟨h1, e1⟩ : ∃ h1, h1 = hnew h (.lp [54] mas mbd en 0 none) := ⟨_, rfl⟩
  rw [← e1]
  have F1 : Fr [] h h1 := by rw [e1]; exact Fr.hnew w _
  have lp1 : h1.bl.get h.next = some (.lp [54] mas mbd en 0 none) := by rw [e1]; exact hnew_get _ _
  have hlen := ok.len hm mL
  refine OQ_does (part1_ok (B := h.next) (L := L) (a := a) (t := a + k) (k := t - a) (b1 := b1) (b2 := b2) (b3 := b3) (b4 := b4) (v := v)
    (fun i hh => FrB [b12] h.next h1 hh ∧ hh.bl.get h.next = some (.lp [54] mas mbd en 0 none) ∧ ∃ y' L', Own hh b12 [y'] ∧ SpF hh y' L' ∧ SOK L' (-1) ∧ (∀ x, inS L' x = (inS L2 x || prt a k (t - a) (L.take i) x)) ∧ ∀ s ∈ L', s.2 ≤ m)
    ?_ ?_ ?_ (fun s hs => ?_) ha (by omega) (by omega) (by omega) (by omega) (by omega) ?_ hlen) ?_
  · rintro i hh ⟨X, lp, y', L', oy, _⟩
    refine ⟨X.wf, X.own _ _ (by simpa using n1) (F1.get o1), X.own _ _ (by simpa using n2) (F1.get o2), X.own _ _ (by simpa using n3) (F1.get o3), X.own _ _ (by simpa using n4) (F1.get o4), ?_⟩
    exact ((s.fr F1).frB X (fun b hb => by simp at hb; subst hb; exact ⟨y, F1.get o12⟩)).slc
  · rintro i hh h' ⟨X, lp, y', L', oy, sy, oky, iy, my⟩ F
    exact ⟨X.trans (F.b (by simp)), F.lp _ _ rfl lp, y', L', F.get oy, sy.fr F, oky, iy, my⟩
  · rintro i x hh e5 ⟨X, lp, y', L', oy, sy, oky, iy, my⟩
    have hx := ok.gt x (List.mem_of_getElem? e5)
    by_cases c : max x.1 a + (t - a) < min x.2 (a + k) + (t - a)
    · rw [if_pos c]
      refine OQ_does (mround_ok (m := m) X.wf lp g12 oy sy oky hm my (by omega) (by omega) (by omega)) ?_
      rintro _ h' ⟨rfl, X', lp', y2, L3, oy', sy', oky', iy', my'⟩
      refine ⟨rfl, X.trans X', lp', y2, L3, oy', sy', oky', fun z => ?_, my'⟩
      rw [iy', iy, prt_take e5]
      by_cases d : max x.1 a + (t - a) ≤ z ∧ z < min x.2 (a + k) + (t - a)
      · rw [if_pos d]; simp [d]
      · rw [if_neg d]
        have : (decide (max x.1 a + (t - a) ≤ z) && decide (z < min x.2 (a + k) + (t - a))) = false := by simp; omega
        rw [this, Bool.or_false]
    · rw [if_neg c]
      refine ⟨X, lp, y', L', oy, sy, oky, fun z => ?_, my⟩
      rw [iy, prt_take e5]
      have : (decide (max x.1 a + (t - a) ≤ z) && decide (z < min x.2 (a + k) + (t - a))) = false := by simp; omega
      rw [this, Bool.or_false]
  · have := ok.gt s hs; exact ⟨this.2.1, this.2.2.1, this.2.2.2⟩
  · exact ⟨(Fr.refl F1.wf : Fr [] h1 h1).b (by simp), lp1, y, L2, F1.get o12, s2.fr F1, ok2, fun x => by simp [prt], m2⟩
  · rintro _ h2 ⟨rfl, X, lp, y', L', oy, sy, oky, iy, my⟩
    refine ⟨_, _, _, _, _, _, lp, by omega, ?_⟩
    have X6 : FrB [] h.next h2 (hset h2 h.next .dead) := FrB.hset X.wf lp rfl _
    have X7 : FrB [b12] h.next h2 (hset h2 h.next .dead) := FrB.hset X.wf lp rfl _
    refine K _ y' L' (FrB.frs w F1 (X.trans X7) (Nat.le_refl _)) (X6.own _ _ (by simp) oy) (sy.frB X6 (by simp)) oky (fun x => ?_) my
    rw [iy, List.take_length]
end Go.Ev.Lay

/- Sizes: Move, the end. -/
namespace Go.Ev.Lay
set_option maxRecDepth 4000
theorem movL_get {α : Type} {l : List α} {a k t : Nat} (h : a + k ≤ l.length) (ht : t + k ≤ l.length) (i : Nat) : (movL l a k t)[i]? = if i < t then (remL l a k)[i]? else if i < t + k then l[a + (i - t)]? else (remL l a k)[i - k]? := by
  have hr := remL_len h
  unfold movL
  have l1 : ((remL l a k).take t).length = t := by simp; omega
  have l2 : ((l.drop a).take k).length = k := by simp; omega
  by_cases c : i < t
  · rw [if_pos c, List.append_assoc, List.getElem?_append_left (by omega), List.getElem?_take, if_pos c]
  · rw [if_neg c]
    by_cases c2 : i < t + k
    · rw [if_pos c2, List.getElem?_append_left (by simp; omega), List.getElem?_append_right (by omega), l1, List.getElem?_take, if_pos (by omega), List.getElem?_drop]
    · rw [if_neg c2, List.getElem?_append_right (by simp; omega), List.getElem?_drop]
      congr 1
      simp; omega
theorem movL_len {α : Type} (l : List α) (a k t : Nat) : (movL l a k t).length = l.length := (movL_perm l a k t).length_eq
theorem Kn.mov {L L1 L2 L' : List (Int × Int)} {ks : List Bool} {a k t : Int} (K : Kn L ks) (c : ¬ movB ks.length a k t) (ok : SOK L' (-1)) (e1 : ∀ x, inS L1 x = rmv a k (inS L) x) (e2 : ∀ x, inS L2 x = shf t k (inS L1) x)
    (e : ∀ x, inS L' x = (inS L2 x || prt a k (t - a) L x)) (le : ∀ s ∈ L', s.2 ≤ (ks.length : Int)) : Kn L' (movL ks a.toNat k.toNat t.toNat) := by
  have c' : ¬ cutB ks.length a k := fun q => c (.inl q)
  obtain ⟨c0, c1, c2⟩ := cut_nat c'
  have ht : 0 ≤ t ∧ t ≤ (ks.length : Int) - k := by unfold movB at c; omega
  refine ⟨ok, fun s hs => by rw [movL_len]; exact le s hs, fun i => ?_⟩
  rw [e, e2, prt_all, List.getD_eq_getElem?_getD, movL_get c2 (by omega)]
  unfold shf
  by_cases q : (i : Int) < t
  · rw [if_pos q, if_pos (show i < t.toNat by omega), e1, ← List.getD_eq_getElem?_getD, remL_getD (by omega)]
    have : (decide (a + (t - a) ≤ (i : Int))) = false := by simp; omega
    rw [this]
    simp only [Bool.false_and, Bool.or_false]
    unfold rmv
    by_cases q2 : (i : Int) < a
    · rw [if_pos q2, if_pos (by omega), K.eq]
    · rw [if_neg q2, if_neg (by omega), show (i : Int) + k = ((i + k.toNat : Nat) : Int) by omega, K.eq]
  · rw [if_neg q, if_neg (show ¬ i < t.toNat by omega)]
    by_cases q3 : (i : Int) < t + k
    · rw [if_pos q3, if_pos (show i < t.toNat + k.toNat by omega), Bool.false_or, show (i : Int) - (t - a) = ((a.toNat + (i - t.toNat) : Nat) : Int) by omega, K.eq]
      have h1 : (decide (a + (t - a) ≤ (i : Int))) = true := by simp; omega
      have h2 : (decide ((i : Int) < a + k + (t - a))) = true := by simp; omega
      rw [h1, h2, List.getD_eq_getElem?_getD]
      simp
    · rw [if_neg q3, if_neg (show ¬ i < t.toNat + k.toNat by omega), show (i : Int) - k = ((i - k.toNat : Nat) : Int) by omega, e1, ← List.getD_eq_getElem?_getD, remL_getD (by omega)]
      have : (decide ((i : Int) < a + k + (t - a))) = false := by simp; omega
      rw [this]
      simp only [Bool.and_false, Bool.false_and, Bool.or_false]
      unfold rmv
      by_cases q2 : ((i - k.toNat : Nat) : Int) < a
      · rw [if_pos q2, if_pos (by omega), K.eq]
      · rw [if_neg q2, if_neg (by omega), show ((i - k.toNat : Nat) : Int) + k = ((i - k.toNat + k.toNat : Nat) : Int) by omega, K.eq]
theorem XMov_ok {h : Heap} {v : V} {l : List Int} {ks : List Bool} {a k t : Int} (w : WF h) (x : Ix h v l ks) (a0 : -9223372036854775808 ≤ a) (a1 : a ≤ 9223372036854775807) (k0 : -9223372036854775808 ≤ k) (k1 : k ≤ 9223372036854775807)
    (t0 : -9223372036854775808 ≤ t) (t1 : t ≤ 9223372036854775807) :
    Does go 72 [v, .int .i64 a, .int .i64 k, .int .i64 t] h fun u h' => Fr [] h h' ∧ ∃ c d, u = .tup [.agg [c, d], .int .i64 (if movB l.length a k t then 4 else 0)] ∧ c.one = true ∧ d.one = true ∧
      (¬ movB l.length a k t → Ix h' (.agg [c, d]) (movL l a.toNat k.toNat t.toNat) (movL ks a.toNat k.toNat t.toNat)) := by
  obtain ⟨p, vk, L, rfl, r, s, kn, e1, e2⟩ := x
  have vk1 := s.one
  obtain ⟨h1, e_h1⟩ : ∃ h1, h1 = halloc h [pv p, vk] := ⟨_, rfl⟩
  have F_h1 : Fr [] h h1 := e_h1 ▸ Fr.halloc w _
  have o_h1 : Own h1 h.next [pv p, vk] := e_h1 ▸ Own.new w _
  obtain ⟨h2, e_h2⟩ : ∃ h2, h2 = halloc h1 [.nilp, .nils] := ⟨_, rfl⟩
  have F_h2 : Fr [] h1 h2 := e_h2 ▸ Fr.halloc F_h1.wf _
  have o_h2 : Own h2 h1.next [.nilp, .nils] := e_h2 ▸ Own.new F_h1.wf _
  have F02 := F_h1.then F_h2
  refine does_fn g72 rfl ?_
  simp (disch := omega) only [fn72, evs, ↓reduceIte, Nat.reduceEqDiff, Nat.reduceAdd, Nat.reduceMul, Nat.reduceLeDiff, Nat.reduceLT, Int.reduceNeg, DF, eff, Nat.reduceSub, fwrap_i64, ← e_h1, ← e_h2, (F_h2.get o_h1).ld]
  refine OQ_does (RMov_ok F_h2.wf (r.fr F02) a0 a1 k0 k1 t0 t1) ?_
  rintro _ h3 ⟨F3, c, rfl, hc, hr⟩
  have F03 := F02.then F3
  obtain ⟨h4, e_h4⟩ : ∃ h4, h4 = halloc h3 [.nilp] := ⟨_, rfl⟩
  have F_h4 : Fr [] h3 h4 := e_h4 ▸ Fr.halloc F3.wf _
  have o_h4 : Own h4 h3.next [.nilp] := e_h4 ▸ Own.new F3.wf _
  simp (disch := omega) only [evs, ↓reduceIte, Nat.reduceEqDiff, Nat.reduceAdd, Nat.reduceMul, Nat.reduceLeDiff, Nat.reduceLT, Int.reduceNeg, DF, eff, Nat.reduceSub, fwrap_i64, ← e_h4]
  refine store_step (c' := [c]) F_h4.wf o_h4 rfl (by simp [onesB, V.cells, hc]) rfl ?_
  rintro h5 o5 F5 n5
  have F35 : Fr [] h3 h5 := F_h4.fresh F5 F3.wf (Nat.le_refl _)
  have F05 := F03.then F35
  have o2 := F35.get (F3.get o_h2)
  by_cases z : movB l.length a k t
  · simp (disch := omega) only [evs, ↓reduceIte, Nat.reduceEqDiff, Nat.reduceAdd, Nat.reduceMul, Nat.reduceLeDiff, Nat.reduceLT, Int.reduceNeg, DF, eff, Nat.reduceSub, fwrap_i64, eq_true z, if_pos z, eq_false (show ¬ (4 : Int) = 0 by omega)]
    refine store_step (c' := [.nilp, .nils]) F35.wf o2 rfl rfl rfl ?_
    rintro h6 o6 F6 n6
    simp (disch := omega) only [evs, ↓reduceIte, Nat.reduceEqDiff, Nat.reduceAdd, Nat.reduceMul, Nat.reduceLeDiff, Nat.reduceLT, Int.reduceNeg, DF, eff, Nat.reduceSub, fwrap_i64, o6.ld]
    exact ⟨F05.fresh F6 w F_h1.next, .nilp, .nils, by simp [z], rfl, rfl, fun q => absurd trivial q⟩
  · have z' : ¬ movB ks.length a k t := by rw [e1]; exact z
    have zc : ¬ cutB l.length a k := fun q => z (.inl q)
    obtain ⟨c0, c1, c2⟩ := cut_nat zc
    have ht : 0 ≤ t ∧ t ≤ (l.length : Int) - k := by unfold movB at z; omega
    have o1' := (F_h2.then (F3.then F35)).get o_h1
    simp (disch := omega) only [evs, ↓reduceIte, Nat.reduceEqDiff, Nat.reduceAdd, Nat.reduceMul, Nat.reduceLeDiff, Nat.reduceLT, Int.reduceNeg, DF, eff, Nat.reduceSub, fwrap_i64, if_neg z, o1'.ld1]
    refine OQ_does (SRem_ok (m := (l.length : Int)) F35.wf (s.slc.fr F05) kn.ok (by omega) (fun s hs => by have := kn.le s hs; omega) (by omega) c0 (by omega) c1) ?_
    rintro _ h6 ⟨F6, y, L1, rfl, y1, sL, okL, iL, mL⟩
    obtain ⟨h7, e_h7⟩ : ∃ h7, h7 = halloc h6 [.nils] := ⟨_, rfl⟩
    have F_h7 : Fr [] h6 h7 := e_h7 ▸ Fr.halloc F6.wf _
    have o_h7 : Own h7 h6.next [.nils] := e_h7 ▸ Own.new F6.wf _
    simp (disch := omega) only [evs, ↓reduceIte, Nat.reduceEqDiff, Nat.reduceAdd, Nat.reduceMul, Nat.reduceLeDiff, Nat.reduceLT, Int.reduceNeg, DF, eff, Nat.reduceSub, fwrap_i64, ← e_h7]
    refine store_step (c' := [y]) F_h7.wf o_h7 (by rw [cells_one y1]; rfl) (by rw [cells_one y1]; simp [onesB, y1]) (by rw [cells_one y1]; rfl) ?_
    rintro h8 o8 F8 n8
    have F68 : Fr [] h6 h8 := F_h7.fresh F8 F6.wf (Nat.le_refl _)
    simp (disch := omega) only [evs, ↓reduceIte, Nat.reduceEqDiff, Nat.reduceAdd, Nat.reduceMul, Nat.reduceLeDiff, Nat.reduceLT, Int.reduceNeg, DF, eff, Nat.reduceSub, fwrap_i64, o8.ld1]
    refine OQ_does (SIns_ok (m := (l.length : Int) - k) F68.wf (sL.slc.fr F68) okL (by omega) mL (by omega) ht.1 (by omega) c1) ?_
    rintro _ h9 ⟨F9, y2, L2, rfl, y21, sL2, okL2, iL2, mL2⟩
    simp (disch := omega) only [evs, ↓reduceIte, Nat.reduceEqDiff, Nat.reduceAdd, Nat.reduceMul, Nat.reduceLeDiff, Nat.reduceLT, Int.reduceNeg, DF, eff, Nat.reduceSub, fwrap_i64]
    refine store_step (c' := [y2]) F9.wf (F9.get o8) (by rw [cells_one y21]; rfl) (by rw [cells_one y21]; simp [onesB, y21]) (by rw [cells_one y21]; rfl) ?_
    rintro h10 o10 F10 n10
    have F6A : Fr [] h6 h10 := (F68.then F9).fresh F10 F6.wf (Nat.le_refl _)
    have F5A := F6.then F6A
    have F3A := F35.then F5A
    simp (disch := omega) only [evs, ↓reduceIte, Nat.reduceEqDiff, Nat.reduceAdd, Nat.reduceMul, Nat.reduceLeDiff, Nat.reduceLT, Int.reduceNeg, DF, eff, Nat.reduceSub, fwrap_i64, (F5A.get o1').ld1]
    refine OQ_does (part_ok F6A.wf vk1) ?_
    rintro _ h11 ⟨b1, b2, b3, b4, rfl, q1, q2, q3, q4, F11, m1, m2, m3, m4⟩
    have hlt := o10.lt F6A.wf
    have hn := F11.next
    simp (disch := omega) only [evs, ↓reduceIte, Nat.reduceEqDiff, Nat.reduceAdd, Nat.reduceMul, Nat.reduceLeDiff, Nat.reduceLT, Int.reduceNeg, DF, eff, Nat.reduceSub, fwrap_i64]
    refine rf_move (v := vk) (L := L) (L2 := L2) (y := y2) (a := a) (k := k) (t := t) (m := (l.length : Int)) (b12 := h6.next) F11.wf ((by simp [T.get_set])) ((by simp [T.get_set])) q1 q2 q3 q4 (F11.get o10) (by omega) (by omega) (by omega) (by omega)
      (s.fr (F03.then (F3A.then F11))) kn.ok (fun s hs => by have := kn.le s hs; omega) ((sL2.frb F10 (F9.get o8) one_sp).fr F11) okL2 (fun s hs => by have := mL2 s hs; omega) (by omega) c0 c1 ht.1 (by omega) (by omega) ?_
    rintro h12 y3 L3 F12 o12 s12 ok12 i12 m12
    have F6C : Fr [] h6 h12 := (F6A.then F11).fresh F12 F6.wf (Nat.le_refl _)
    have F5C := F6.then F6C
    have F3C := F35.then F5C
    have y31 := s12.one
    simp (disch := omega) only [evs, ↓reduceIte, Nat.reduceEqDiff, Nat.reduceAdd, Nat.reduceMul, Nat.reduceLeDiff, Nat.reduceLT, Int.reduceNeg, DF, eff, Nat.reduceSub, fwrap_i64, (F5C.get o5).ld, o12.ld1]
    refine OQ_does (with_ok F12.wf hc y31) ?_
    rintro _ h13 ⟨F13, rfl⟩
    have F3D := F3C.then F13
    simp (disch := omega) only [evs, ↓reduceIte, Nat.reduceEqDiff, Nat.reduceAdd, Nat.reduceMul, Nat.reduceLeDiff, Nat.reduceLT, Int.reduceNeg, DF, eff, Nat.reduceSub, fwrap_i64]
    refine store_step (c' := [c, y3]) F13.wf (F3D.get (F3.get o_h2)) rfl (by simp [onesB, V.cells, hc, y31]) rfl ?_
    rintro h14 o14 F14 n14
    simp (disch := omega) only [evs, ↓reduceIte, Nat.reduceEqDiff, Nat.reduceAdd, Nat.reduceMul, Nat.reduceLeDiff, Nat.reduceLT, Int.reduceNeg, DF, eff, Nat.reduceSub, fwrap_i64, o14.ld]
    have F0D := F03.then F3D
    refine ⟨F0D.fresh F14 w F_h1.next, c, y3, by simp [z], hc, y31, fun _ => ?_⟩
    have rr := (hr z).fr F3D
    obtain ⟨t', p', hp, rr1, rr2⟩ := rr
    simp only [V.agg.injEq, List.cons.injEq, and_true] at hp
    subst hp
    have K' := kn.mov z' ok12 iL iL2 i12 (by rw [e1]; exact m12)
    have ix : Ix h13 (.agg [pv p', y3]) (movL l a.toNat k.toNat t.toNat) (movL ks a.toNat k.toNat t.toNat) := ⟨p', y3, L3, rfl, ⟨t', p', rfl, rr1, rr2⟩, s12.fr F13, K', by rw [movL_len, movL_len]; omega, by rw [movL_len]; omega⟩
    exact ix.frb F14 (F3D.get (F3.get o_h2)) (by simp) nilnil
end Go.Ev.Lay
