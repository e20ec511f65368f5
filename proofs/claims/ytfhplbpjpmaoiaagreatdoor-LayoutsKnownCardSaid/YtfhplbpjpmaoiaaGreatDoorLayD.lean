/- An evaluator of the program and contracts proved over it: the texts LayM LayN LayP. -/
import Derived.Test.YtfhplbpjpmaoiaaGreatDoorLayC
import Derived.Test.YtfhplbpjpmaoiaaGreatDoorLayO
set_option linter.unusedSimpArgs false
set_option linter.unusedVariables false
set_option linter.constructorNameAsVariable false
/- Sizes: the index. -/
namespace Go.Ev.Lay
set_option maxRecDepth 4000
structure Kn (L : List (Int × Int)) (ks : List Bool) : Prop where
  ok : SOK L (-1)
  le : ∀ s ∈ L, s.2 ≤ ks.length
  eq : ∀ i : Nat, inS L i = ks.getD i false
def Ix (h : Heap) (v : V) (l : List Int) (ks : List Bool) : Prop := ∃ p vk L, v = .agg [pv p, vk] ∧ Rp h (.agg [pv p]) l ∧ SpF h vk L ∧ Kn L ks ∧ ks.length = l.length ∧ l.length ≤ 1024
theorem Ix.fr {h h' : Heap} {v : V} {l : List Int} {ks : List Bool} (a : Ix h v l ks) (f : Fr [] h h') : Ix h' v l ks := by
  obtain ⟨p, vk, L, e, r, s, x⟩ := a; exact ⟨p, vk, L, e, r.fr f, s.fr f, x⟩
theorem Ix.len {h : Heap} {v : V} {l : List Int} {ks : List Bool} (a : Ix h v l ks) : ks.length = l.length ∧ l.length ≤ 1024 := by
  obtain ⟨p, vk, L, e, r, s, _, x⟩ := a; exact x
theorem Ix.fit {h : Heap} {v : V} {l : List Int} {ks : List Bool} (a : Ix h v l ks) : Fit l := by
  obtain ⟨p, vk, L, e, r, s, _, x⟩ := a; obtain ⟨_, _, _, _, _, f⟩ := r; exact f
theorem XLen_ok {h : Heap} {v : V} {l : List Int} {ks : List Bool} (w : WF h) (a : Ix h v l ks) : Does go 75 [v] h fun u h' => u = .int .i64 l.length ∧ Fr [] h h' := by
  obtain ⟨p, vk, L, rfl, r, s, _⟩ := a
  obtain ⟨h1, e_h1⟩ : ∃ h1, h1 = halloc h [pv p, vk] := ⟨_, rfl⟩
  have F_h1 : Fr [] h h1 := e_h1 ▸ Fr.halloc w _
  have o_h1 : Own h1 h.next [pv p, vk] := e_h1 ▸ Own.new w _
  refine does_fn g75 rfl ?_
  simp (disch := omega) only [fn75, evs, ↓reduceIte, Nat.reduceEqDiff, Nat.reduceAdd, Nat.reduceMul, Nat.reduceLeDiff, Nat.reduceLT, Int.reduceNeg, DF, eff, Nat.reduceSub, fwrap_i64, ← e_h1, o_h1.ld]
  refine OQ_does (Len_ok F_h1.wf (r.fr F_h1)) ?_
  rintro _ h2 ⟨rfl, F2⟩
  simp (disch := omega) only [evs, ↓reduceIte, Nat.reduceEqDiff, Nat.reduceAdd, Nat.reduceMul, Nat.reduceLeDiff, Nat.reduceLT, Int.reduceNeg, DF, eff, Nat.reduceSub, fwrap_i64]
  exact F_h1.then F2
theorem XTop_ok {h : Heap} {v : V} {l : List Int} {ks : List Bool} {i : Int} (w : WF h) (a : Ix h v l ks) :
    Does go 57 [v, .int .i64 i] h fun u h' => (u = if 0 ≤ i ∧ i ≤ l.length then .tup [.int .i64 (l.take i.toNat).sum, .int .i64 0] else .tup [.int .i64 0, .int .i64 4]) ∧ Fr [] h h' := by
  obtain ⟨p, vk, L, rfl, r, s, _⟩ := a
  obtain ⟨h1, e_h1⟩ : ∃ h1, h1 = halloc h [pv p, vk] := ⟨_, rfl⟩
  have F_h1 : Fr [] h h1 := e_h1 ▸ Fr.halloc w _
  have o_h1 : Own h1 h.next [pv p, vk] := e_h1 ▸ Own.new w _
  refine does_fn g57 rfl ?_
  simp (disch := omega) only [fn57, evs, ↓reduceIte, Nat.reduceEqDiff, Nat.reduceAdd, Nat.reduceMul, Nat.reduceLeDiff, Nat.reduceLT, Int.reduceNeg, DF, eff, Nat.reduceSub, fwrap_i64, ← e_h1, o_h1.ld]
  refine OQ_does (Sum_ok F_h1.wf (r.fr F_h1)) ?_
  rintro _ h2 ⟨rfl, F2⟩
  by_cases c : 0 ≤ i ∧ i ≤ l.length
  · simp only [if_pos c]
    simp (disch := omega) only [evs, ↓reduceIte, Nat.reduceEqDiff, Nat.reduceAdd, Nat.reduceMul, Nat.reduceLeDiff, Nat.reduceLT, Int.reduceNeg, DF, eff, Nat.reduceSub, fwrap_i64]
    exact F_h1.then F2
  · simp only [if_neg c]
    simp (disch := omega) only [evs, ↓reduceIte, Nat.reduceEqDiff, Nat.reduceAdd, Nat.reduceMul, Nat.reduceLeDiff, Nat.reduceLT, Int.reduceNeg, DF, eff, Nat.reduceSub, fwrap_i64]
    exact F_h1.then F2
theorem XSize_ok {h : Heap} {v : V} {l : List Int} {ks : List Bool} {i : Int} (w : WF h) (a : Ix h v l ks) :
    Does go 58 [v, .int .i64 i] h fun u h' => (u = if 0 ≤ i ∧ i < l.length then .tup [.int .i64 (l.getD i.toNat 0), .int .i64 0] else .tup [.int .i64 0, .int .i64 4]) ∧ Fr [] h h' := by
  obtain ⟨p, vk, L, rfl, r, s, _⟩ := a
  obtain ⟨h1, e_h1⟩ : ∃ h1, h1 = halloc h [pv p, vk] := ⟨_, rfl⟩
  have F_h1 : Fr [] h h1 := e_h1 ▸ Fr.halloc w _
  have o_h1 : Own h1 h.next [pv p, vk] := e_h1 ▸ Own.new w _
  refine does_fn g58 rfl ?_
  simp (disch := omega) only [fn58, evs, ↓reduceIte, Nat.reduceEqDiff, Nat.reduceAdd, Nat.reduceMul, Nat.reduceLeDiff, Nat.reduceLT, Int.reduceNeg, DF, eff, Nat.reduceSub, fwrap_i64, ← e_h1, o_h1.ld]
  refine OQ_does (RAt_ok F_h1.wf (r.fr F_h1)) ?_
  rintro _ h2 ⟨rfl, F2⟩
  by_cases c : 0 ≤ i ∧ i < l.length
  · simp only [if_pos c]
    simp (disch := omega) only [evs, ↓reduceIte, Nat.reduceEqDiff, Nat.reduceAdd, Nat.reduceMul, Nat.reduceLeDiff, Nat.reduceLT, Int.reduceNeg, DF, eff, Nat.reduceSub, fwrap_i64]
    exact F_h1.then F2
  · simp only [if_neg c]
    simp (disch := omega) only [evs, ↓reduceIte, Nat.reduceEqDiff, Nat.reduceAdd, Nat.reduceMul, Nat.reduceLeDiff, Nat.reduceLT, Int.reduceNeg, DF, eff, Nat.reduceSub, fwrap_i64]
    exact F_h1.then F2
theorem XAt_ok {h : Heap} {v : V} {l : List Int} {ks : List Bool} {x : Int} (w : WF h) (a : Ix h v l ks) (hx0 : -9223372036854775808 ≤ x) (hx1 : x ≤ 9223372036854775807) :
    Does go 66 [v, .int .i64 x] h fun u h' => (u = if 0 ≤ x ∧ x < l.sum then .tup [.int .i64 (locate l x).1, .int .i64 (locate l x).2, .int .i64 0] else .tup [.int .i64 0, .int .i64 0, .int .i64 4]) ∧ Fr [] h h' := by
  obtain ⟨p, vk, L, rfl, r, s, _⟩ := a
  obtain ⟨h1, e_h1⟩ : ∃ h1, h1 = halloc h [pv p, vk] := ⟨_, rfl⟩
  have F_h1 : Fr [] h h1 := e_h1 ▸ Fr.halloc w _
  have o_h1 : Own h1 h.next [pv p, vk] := e_h1 ▸ Own.new w _
  refine does_fn g66 rfl ?_
  simp (disch := omega) only [fn66, evs, ↓reduceIte, Nat.reduceEqDiff, Nat.reduceAdd, Nat.reduceMul, Nat.reduceLeDiff, Nat.reduceLT, Int.reduceNeg, DF, eff, Nat.reduceSub, fwrap_i64, ← e_h1, o_h1.ld]
  refine OQ_does (Find_ok F_h1.wf (r.fr F_h1) hx0 hx1) ?_
  rintro _ h2 ⟨rfl, F2⟩
  by_cases c : 0 ≤ x ∧ x < l.sum
  · simp only [if_pos c]
    simp (disch := omega) only [evs, ↓reduceIte, Nat.reduceEqDiff, Nat.reduceAdd, Nat.reduceMul, Nat.reduceLeDiff, Nat.reduceLT, Int.reduceNeg, DF, eff, Nat.reduceSub, fwrap_i64]
    exact F_h1.then F2
  · simp only [if_neg c]
    simp (disch := omega) only [evs, ↓reduceIte, Nat.reduceEqDiff, Nat.reduceAdd, Nat.reduceMul, Nat.reduceLeDiff, Nat.reduceLT, Int.reduceNeg, DF, eff, Nat.reduceSub, fwrap_i64]
    exact F_h1.then F2
theorem Kn.len {L : List (Int × Int)} {ks : List Bool} (k : Kn L ks) (h : ks.length ≤ 1024) : L.length ≤ 4096 := k.ok.len (m := ks.length) (by omega) k.le
theorem XKnown_ok {h : Heap} {v : V} {l : List Int} {ks : List Bool} {i : Int} (w : WF h) (a : Ix h v l ks) :
    Does go 92 [v, .int .i64 i] h fun u h' => (u = if 0 ≤ i ∧ i < l.length then .tup [.bool (ks.getD i.toNat false), .int .i64 0] else .tup [.bool false, .int .i64 4]) ∧ Fr [] h h' := by
  have a0 := a
  obtain ⟨p, vk, L, rfl, r, s, kn, e1, e2⟩ := a
  obtain ⟨h1, e_h1⟩ : ∃ h1, h1 = halloc h [pv p, vk] := ⟨_, rfl⟩
  have F_h1 : Fr [] h h1 := e_h1 ▸ Fr.halloc w _
  have o_h1 : Own h1 h.next [pv p, vk] := e_h1 ▸ Own.new w _
  by_cases h0 : i < 0
  · refine does_fn g92 rfl ?_
    simp (disch := omega) only [fn92, evs, ↓reduceIte, Nat.reduceEqDiff, Nat.reduceAdd, Nat.reduceMul, Nat.reduceLeDiff, Nat.reduceLT, Int.reduceNeg, DF, eff, Nat.reduceSub, fwrap_i64, ← e_h1, o_h1.ld, o_h1.ld1, h0]
    exact ⟨by rw [if_neg (by omega)], F_h1⟩
  · refine does_fn g92 rfl ?_
    simp (disch := omega) only [fn92, evs, ↓reduceIte, Nat.reduceEqDiff, Nat.reduceAdd, Nat.reduceMul, Nat.reduceLeDiff, Nat.reduceLT, Int.reduceNeg, DF, eff, Nat.reduceSub, fwrap_i64, ← e_h1, o_h1.ld, o_h1.ld1, h0]
    refine OQ_does (XLen_ok F_h1.wf (a0.fr F_h1)) ?_
    rintro _ h2 ⟨rfl, F2⟩
    by_cases hi : (l.length : Int) ≤ i
    · simp (disch := omega) only [evs, ↓reduceIte, Nat.reduceEqDiff, Nat.reduceAdd, Nat.reduceMul, Nat.reduceLeDiff, Nat.reduceLT, Int.reduceNeg, DF, eff, Nat.reduceSub, fwrap_i64, hi, h0]
      exact ⟨by rw [if_neg (by omega)], F_h1.then F2⟩
    · simp (disch := omega) only [evs, ↓reduceIte, Nat.reduceEqDiff, Nat.reduceAdd, Nat.reduceMul, Nat.reduceLeDiff, Nat.reduceLT, Int.reduceNeg, DF, eff, Nat.reduceSub, fwrap_i64, hi, h0, (F2.get o_h1).ld1]
      refine OQ_does (Has_ok F2.wf (s.fr (F_h1.then F2)).slc kn.ok (kn.len (by omega))) ?_
      rintro _ h3 ⟨rfl, F3⟩
      simp (disch := omega) only [evs, ↓reduceIte, Nat.reduceEqDiff, Nat.reduceAdd, Nat.reduceMul, Nat.reduceLeDiff, Nat.reduceLT, Int.reduceNeg, DF, eff, Nat.reduceSub, fwrap_i64]
      refine ⟨?_, (F_h1.then F2).then F3⟩
      rw [if_pos (by omega)]
      have := kn.eq i.toNat
      rw [show ((i.toNat : Nat) : Int) = i by omega] at this
      rw [this]
theorem wrong_ok {h : Heap} {s : Int} : Does go 78 [.int .i64 s] h fun u h' => u = .bool (decide (s < 1 ∨ 2305843009213693952 < s)) ∧ h' = h := by
  by_cases c : s < 1
  · refine does_fn g78 rfl ?_
    simp (disch := omega) only [fn78, evs, ↓reduceIte, Nat.reduceEqDiff, Nat.reduceAdd, Nat.reduceMul, Nat.reduceLeDiff, Nat.reduceLT, Int.reduceNeg, DF, eff, Nat.reduceSub, fwrap_i64, c]
    simp
  · refine does_fn g78 rfl ?_
    simp (disch := omega) only [fn78, evs, ↓reduceIte, Nat.reduceEqDiff, Nat.reduceAdd, Nat.reduceMul, Nat.reduceLeDiff, Nat.reduceLT, Int.reduceNeg, DF, eff, Nat.reduceSub, fwrap_i64, c]
    simp
def xsetE (l : List Int) (i size : Int) : Int := if 0 ≤ i ∧ i < l.length then if size < 1 ∨ 2305843009213693952 < size then 12 else if 4611686018427387904 - (l.sum - l.getD i.toNat 0) < size then 13 else 0 else 4
theorem xset_eq {l : List Int} {i size : Int} (h : ¬ ((0 ≤ i ∧ i < l.length) ∧ (size < 1 ∨ 2305843009213693952 < size))) : xsetE l i size = setE l i size := by
  unfold xsetE setE
  by_cases c : 0 ≤ i ∧ i < l.length
  · rw [if_pos c, if_pos c, if_neg (show ¬ (size < 1 ∨ 2305843009213693952 < size) by omega), if_neg (show ¬ (size < 0 ∨ 2305843009213693952 < size) by omega)]
  · rw [if_neg c, if_neg c]
theorem getD_set {ks : List Bool} {i j : Nat} {b : Bool} (h : i < ks.length) : (ks.set i b).getD j false = if j = i then b else ks.getD j false := by
  simp only [List.getD_eq_getElem?_getD, List.getElem?_set]
  by_cases c : i = j
  · subst c; simp [h]
  · rw [if_neg c, if_neg (Ne.symm c)]
theorem XSet_ok {h : Heap} {v : V} {l : List Int} {ks : List Bool} {i size : Int} {kn : Bool} (w : WF h) (a : Ix h v l ks) (s0 : -9223372036854775808 ≤ size) (s1 : size ≤ 9223372036854775807) (i0 : -9223372036854775808 ≤ i) (i1 : i ≤ 9223372036854775807) :
    Does go 74 [v, .int .i64 i, .int .i64 size, .bool kn] h fun u h' => Fr [] h h' ∧ ∃ c d, u = .tup [.agg [c, d], .int .i64 (xsetE l i size)] ∧ c.one = true ∧ d.one = true ∧ (xsetE l i size = 0 → Ix h' (.agg [c, d]) (l.set i.toNat size) (ks.set i.toNat kn)) := by
  have a0 := a
  obtain ⟨p, vk, L, rfl, r, s, kn', e1, e2⟩ := a
  obtain ⟨h1, e_h1⟩ : ∃ h1, h1 = halloc h [pv p, vk] := ⟨_, rfl⟩
  have F_h1 : Fr [] h h1 := e_h1 ▸ Fr.halloc w _
  have o_h1 : Own h1 h.next [pv p, vk] := e_h1 ▸ Own.new w _
  obtain ⟨h2, e_h2⟩ : ∃ h2, h2 = halloc h1 [.nilp, .nils] := ⟨_, rfl⟩
  have F_h2 : Fr [] h1 h2 := e_h2 ▸ Fr.halloc F_h1.wf _
  have o_h2 : Own h2 h1.next [.nilp, .nils] := e_h2 ▸ Own.new F_h1.wf _
  have F12 := F_h1.then F_h2
  have o1 := F_h2.get o_h1
  have b1 : h.next ≤ h1.next := F_h1.next
  have c : i < 0 ∨ (0 ≤ i ∧ (l.length : Int) ≤ i) ∨ (0 ≤ i ∧ i < l.length ∧ ¬ (size < 1 ∨ 2305843009213693952 < size)) ∨ (0 ≤ i ∧ i < l.length ∧ (size < 1 ∨ 2305843009213693952 < size)) := by omega
  rcases c with c | c | c | c
  case' inr.inr.inr =>
    refine does_fn g74 rfl ?_
    simp (disch := omega) only [fn74, evs, ↓reduceIte, Nat.reduceEqDiff, Nat.reduceAdd, Nat.reduceMul, Nat.reduceLeDiff, Nat.reduceLT, Int.reduceNeg, DF, eff, Nat.reduceSub, fwrap_i64, ← e_h1, ← e_h2, o1.ld, eq_true c.1]
    refine OQ_does (XLen_ok F12.wf (a0.fr F12)) ?_
    rintro _ h3 ⟨rfl, F3⟩
    simp (disch := omega) only [evs, ↓reduceIte, Nat.reduceEqDiff, Nat.reduceAdd, Nat.reduceMul, Nat.reduceLeDiff, Nat.reduceLT, Int.reduceNeg, DF, eff, Nat.reduceSub, fwrap_i64, eq_true c.2.1]
    refine OQ_does wrong_ok ?_
    rintro _ _ ⟨rfl, hh⟩
    subst hh
    simp (disch := omega) only [evs, ↓reduceIte, Nat.reduceEqDiff, Nat.reduceAdd, Nat.reduceMul, Nat.reduceLeDiff, Nat.reduceLT, Int.reduceNeg, DF, eff, Nat.reduceSub, fwrap_i64, eq_true c.2.2]
    refine store_step (c' := [.nilp, .nils]) F3.wf (F3.get o_h2) rfl (by first | rfl | simp [onesB, V.cells, pv_one, *]) rfl ?_
    rintro h4 o_h4 F_h4 n_h4
    simp (disch := omega) only [evs, ↓reduceIte, Nat.reduceEqDiff, Nat.reduceAdd, Nat.reduceMul, Nat.reduceLeDiff, Nat.reduceLT, Int.reduceNeg, DF, eff, Nat.reduceSub, fwrap_i64, o_h4.ld]
    have e : xsetE l i size = 12 := by unfold xsetE; rw [if_pos ⟨c.1, c.2.1⟩, if_pos c.2.2]
    rw [e]
    exact ⟨(F12.then F3).fresh F_h4 w b1, _, _, rfl, rfl, rfl, by simp⟩
  case' inl =>
    refine does_fn g74 rfl ?_
    simp (disch := omega) only [fn74, evs, ↓reduceIte, Nat.reduceEqDiff, Nat.reduceAdd, Nat.reduceMul, Nat.reduceLeDiff, Nat.reduceLT, Int.reduceNeg, DF, eff, Nat.reduceSub, fwrap_i64, ← e_h1, ← e_h2, o1.ld, show ¬ 0 ≤ i by omega]
    obtain ⟨h3, F3, e3⟩ : ∃ h3, Fr [] h2 h3 ∧ h3 = h2 := ⟨h2, Fr.refl F12.wf, rfl⟩
    rw [← e3]
    have ee := xset_eq (l := l) (i := i) (size := size) (by omega)
  case' inr.inl =>
    refine does_fn g74 rfl ?_
    simp (disch := omega) only [fn74, evs, ↓reduceIte, Nat.reduceEqDiff, Nat.reduceAdd, Nat.reduceMul, Nat.reduceLeDiff, Nat.reduceLT, Int.reduceNeg, DF, eff, Nat.reduceSub, fwrap_i64, ← e_h1, ← e_h2, o1.ld, eq_true c.1]
    refine OQ_does (XLen_ok F12.wf (a0.fr F12)) ?_
    rintro _ h3 ⟨rfl, F3⟩
    simp (disch := omega) only [evs, ↓reduceIte, Nat.reduceEqDiff, Nat.reduceAdd, Nat.reduceMul, Nat.reduceLeDiff, Nat.reduceLT, Int.reduceNeg, DF, eff, Nat.reduceSub, fwrap_i64, show ¬ i < l.length by omega, (F3.get o1).ld]
    have ee := xset_eq (l := l) (i := i) (size := size) (by omega)
  case' inr.inr.inl =>
    refine does_fn g74 rfl ?_
    simp (disch := omega) only [fn74, evs, ↓reduceIte, Nat.reduceEqDiff, Nat.reduceAdd, Nat.reduceMul, Nat.reduceLeDiff, Nat.reduceLT, Int.reduceNeg, DF, eff, Nat.reduceSub, fwrap_i64, ← e_h1, ← e_h2, o1.ld, eq_true c.1]
    refine OQ_does (XLen_ok F12.wf (a0.fr F12)) ?_
    rintro _ h3 ⟨rfl, F3⟩
    simp (disch := omega) only [evs, ↓reduceIte, Nat.reduceEqDiff, Nat.reduceAdd, Nat.reduceMul, Nat.reduceLeDiff, Nat.reduceLT, Int.reduceNeg, DF, eff, Nat.reduceSub, fwrap_i64, eq_true c.2.1]
    refine OQ_does wrong_ok ?_
    rintro _ _ ⟨rfl, hh⟩
    subst hh
    simp (disch := omega) only [evs, ↓reduceIte, Nat.reduceEqDiff, Nat.reduceAdd, Nat.reduceMul, Nat.reduceLeDiff, Nat.reduceLT, Int.reduceNeg, DF, eff, Nat.reduceSub, fwrap_i64, eq_false c.2.2, (F3.get o1).ld]
    have ee := xset_eq (l := l) (i := i) (size := size) (by omega)
  all_goals
    clear c
    try simp (disch := omega) only [evs, ↓reduceIte, Nat.reduceEqDiff, Nat.reduceAdd, Nat.reduceMul, Nat.reduceLeDiff, Nat.reduceLT, Int.reduceNeg, DF, eff, Nat.reduceSub, (F3.get o1).ld]
    have F13 := F12.then F3
    refine OQ_does (RSet_ok F3.wf (r.fr F13) s0 s1) ?_
    rintro _ h4 ⟨F4, c4, rfl, hc4, hr⟩
    rw [ee]
    obtain ⟨h5, e_h5⟩ : ∃ h5, h5 = halloc h4 [.nilp] := ⟨_, rfl⟩
    have F_h5 : Fr [] h4 h5 := e_h5 ▸ Fr.halloc F4.wf _
    have o_h5 : Own h5 h4.next [.nilp] := e_h5 ▸ Own.new F4.wf _
    simp (disch := omega) only [evs, ↓reduceIte, Nat.reduceEqDiff, Nat.reduceAdd, Nat.reduceMul, Nat.reduceLeDiff, Nat.reduceLT, Int.reduceNeg, DF, eff, Nat.reduceSub, fwrap_i64, ← e_h5]
    refine store_step (c' := [c4]) F_h5.wf o_h5 rfl (by simp [onesB, V.cells, hc4]) rfl ?_
    rintro h6 o6 F6 n6
    have F46 : Fr [] h4 h6 := F_h5.fresh F6 F4.wf (Nat.le_refl _)
    have F36 := (F4.then F46)
    have F26 := F3.then F36
    by_cases z : setE l i size = 0
    · have hi : 0 ≤ i ∧ i < l.length := by
        unfold setE at z
        by_cases hh : 0 ≤ i ∧ i < l.length
        · exact hh
        · rw [if_neg hh] at z; omega
      simp (disch := omega) only [evs, ↓reduceIte, Nat.reduceEqDiff, Nat.reduceAdd, Nat.reduceMul, Nat.reduceLeDiff, Nat.reduceLT, Int.reduceNeg, DF, eff, Nat.reduceSub, fwrap_i64, eq_true z, o6.ld, (F26.get o1).ld1]
      refine OQ_does (marked_ok (m := ks.length) F46.wf (s.fr (F12.then F26)) kn'.ok (by omega) kn'.le (by omega) (by omega) (by omega)) ?_
      rintro vk' h7 ⟨F7, L', ov, sL, okL, iL, mL⟩
      simp (disch := omega) only [evs, ↓reduceIte, Nat.reduceEqDiff, Nat.reduceAdd, Nat.reduceMul, Nat.reduceLeDiff, Nat.reduceLT, Int.reduceNeg, DF, eff, Nat.reduceSub, fwrap_i64]
      refine OQ_does (with_ok F7.wf hc4 ov) ?_
      rintro _ h8 ⟨F8, rfl⟩
      rw [if_pos rfl]
      have F28 := (F26.then F7).then F8
      simp (disch := omega) only [evs, ↓reduceIte, Nat.reduceEqDiff, Nat.reduceAdd, Nat.reduceMul, Nat.reduceLeDiff, Nat.reduceLT, Int.reduceNeg, DF, eff, Nat.reduceSub, fwrap_i64]
      refine store_step (c' := [c4, vk']) F8.wf (F28.get o_h2) rfl (by first | rfl | simp [onesB, V.cells, pv_one, *]) rfl ?_
      rintro h9 o_h9 F_h9 n_h9
      simp (disch := omega) only [evs, ↓reduceIte, Nat.reduceEqDiff, Nat.reduceAdd, Nat.reduceMul, Nat.reduceLeDiff, Nat.reduceLT, Int.reduceNeg, DF, eff, Nat.reduceSub, fwrap_i64, o_h9.ld, o6.ld, (F26.get o1).ld1, (F7.get o6).ld]
      have rr := (hr z)
      obtain ⟨t', p', ep, at', et, ft⟩ := rr
      cases ep
      refine ⟨(F12.then F28).fresh F_h9 w b1, _, _, by rw [z], pv_one _, ov, fun _ => ⟨p', vk', L', rfl, ?_, ?_, ?_, ?_, ?_⟩⟩
      · exact (Rp.fr (l := l.set i.toNat size) ⟨t', p', rfl, at', et, ft⟩ ((F46.then F7).then F8)).frb F_h9 (F28.get o_h2) (by simp)
      · exact (sL.fr F8).frb F_h9 (F28.get o_h2) (nosp (by simp))
      · refine ⟨okL, by simpa using mL, fun j => ?_⟩
        rw [iL, getD_set (by omega), kn'.eq]
        by_cases cj : j = i.toNat
        · rw [if_pos cj, if_pos (by omega)]
        · rw [if_neg cj, if_neg (by omega)]
      · simpa using e1
      · simpa using e2
    · simp (disch := omega) only [evs, ↓reduceIte, Nat.reduceEqDiff, Nat.reduceAdd, Nat.reduceMul, Nat.reduceLeDiff, Nat.reduceLT, Int.reduceNeg, DF, eff, Nat.reduceSub, fwrap_i64, eq_false z]
      refine store_step (c' := [.nilp, .nils]) F46.wf (F26.get o_h2) rfl (by first | rfl | simp [onesB, V.cells, pv_one, *]) rfl ?_
      rintro h9 o_h9 F_h9 n_h9
      simp (disch := omega) only [evs, ↓reduceIte, Nat.reduceEqDiff, Nat.reduceAdd, Nat.reduceMul, Nat.reduceLeDiff, Nat.reduceLT, Int.reduceNeg, DF, eff, Nat.reduceSub, fwrap_i64, o_h9.ld]
      exact ⟨(F12.then F26).fresh F_h9 w b1, _, _, rfl, rfl, rfl, by simp [z]⟩
end Go.Ev.Lay

/- Sizes: Insert. -/
namespace Go.Ev.Lay
set_option maxRecDepth 4000
def sumE (t : Int) : List Int → Int
  | [] => 0
  | s :: l => if s < 1 ∨ 2305843009213693952 < s then 12 else if 4611686018427387904 < t + s then 13 else sumE (t + s) l
theorem chk_snoc : ∀ (a : List Int) (s t : Int), chk (a ++ [s]) t = if chk a t = 0 then (if s < 0 ∨ 2305843009213693952 < s then 12 else if 4611686018427387904 - (t + a.sum) < s then 13 else 0) else chk a t
  | [], s, t => by simp [chk]
  | x :: a, s, t => by
    simp only [List.cons_append, chk]
    by_cases c1 : x < 0 ∨ 2305843009213693952 < x
    · simp only [if_pos c1]; simp
    · simp only [if_neg c1]
      by_cases c2 : 4611686018427387904 - t < x
      · simp only [if_pos c2]; simp
      · simp only [if_neg c2]
        rw [chk_snoc a s (t + x)]
        simp only [List.sum_cons, show t + x + a.sum = t + (x + a.sum) by omega]
        rfl
def xinsE (l : List Int) (a : Int) (m : List Int) : Int := if 0 ≤ a ∧ a ≤ l.length then if 1024 - (l.length : Int) < m.length then 3 else if sumE 0 m = 0 then (if 4611686018427387904 - m.sum < l.sum then 13 else 0) else sumE 0 m else 4
theorem ins_getD {ks : List Bool} {a n : Nat} {kn : Bool} (ha : a ≤ ks.length) (j : Nat) :
    (ks.take a ++ List.replicate n kn ++ ks.drop a).getD j false = if j < a then ks.getD j false else if j < a + n then kn else ks.getD (j - n) false := by
  simp only [List.getD_eq_getElem?_getD]
  by_cases c1 : j < a
  · rw [if_pos c1, List.append_assoc, List.getElem?_append_left (by simp; omega), List.getElem?_take, if_pos c1]
  · rw [if_neg c1, List.append_assoc, List.getElem?_append_right (by simp; omega)]
    have hl : (ks.take a).length = a := by simp; omega
    rw [hl]
    by_cases c2 : j < a + n
    · rw [if_pos c2, List.getElem?_append_left (by simp; omega), List.getElem?_replicate, if_pos (by omega)]; rfl
    · rw [if_neg c2, List.getElem?_append_right (by simp; omega), List.length_replicate, List.getElem?_drop]
      congr 2; omega
theorem XIns_ok {h : Heap} {v u : V} {l m : List Int} {ks : List Bool} {i : Int} {kn : Bool} (w : WF h) (a : Ix h v l ks) (am : Ints h u m) (hm : m.length ≤ 1000000) (i0 : -9223372036854775808 ≤ i) (i1 : i ≤ 9223372036854775807) :
    Does go 48 [v, .int .i64 i, u, .bool kn] h fun z h' => Fr [] h h' ∧ ∃ c d, z = .tup [.agg [c, d], .int .i64 (xinsE l i m)] ∧ c.one = true ∧ d.one = true ∧
      (xinsE l i m = 0 → Ix h' (.agg [c, d]) (l.take i.toNat ++ m ++ l.drop i.toNat) (ks.take i.toNat ++ List.replicate m.length kn ++ ks.drop i.toNat)) := by
  have a0 := a
  obtain ⟨p, vk, L, rfl, r, s, kn', e1, e2⟩ := a
  obtain ⟨h1, e_h1⟩ : ∃ h1, h1 = halloc h [pv p, vk] := ⟨_, rfl⟩
  have F_h1 : Fr [] h h1 := e_h1 ▸ Fr.halloc w _
  have o_h1 : Own h1 h.next [pv p, vk] := e_h1 ▸ Own.new w _
  obtain ⟨h2, e_h2⟩ : ∃ h2, h2 = halloc h1 [.nilp, .nils] := ⟨_, rfl⟩
  have F_h2 : Fr [] h1 h2 := e_h2 ▸ Fr.halloc F_h1.wf _
  have o_h2 : Own h2 h1.next [.nilp, .nils] := e_h2 ▸ Own.new F_h1.wf _
  have F12 := F_h1.then F_h2
  have o1 := F_h2.get o_h1
  have b1 : h.next ≤ h1.next := F_h1.next
  by_cases c0 : i < 0
  · refine does_fn g48 rfl ?_
    simp (disch := omega) only [fn48, evs, ↓reduceIte, Nat.reduceEqDiff, Nat.reduceAdd, Nat.reduceMul, Nat.reduceLeDiff, Nat.reduceLT, Int.reduceNeg, DF, eff, Nat.reduceSub, fwrap_i64, ← e_h1, ← e_h2, o1.ld, c0]
    refine store_step (c' := [.nilp, .nils]) F_h2.wf o_h2 rfl (by first | rfl | simp [onesB, V.cells, pv_one, *]) rfl ?_
    rintro h4 o_h4 F_h4 n_h4
    simp (disch := omega) only [evs, ↓reduceIte, Nat.reduceEqDiff, Nat.reduceAdd, Nat.reduceMul, Nat.reduceLeDiff, Nat.reduceLT, Int.reduceNeg, DF, eff, Nat.reduceSub, fwrap_i64, o_h4.ld]
    have e : xinsE l i m = 4 := by unfold xinsE; rw [if_neg (by omega)]
    rw [e]
    exact ⟨F12.fresh F_h4 w b1, _, _, rfl, rfl, rfl, by simp⟩
  · refine does_fn g48 rfl ?_
    simp (disch := omega) only [fn48, evs, ↓reduceIte, Nat.reduceEqDiff, Nat.reduceAdd, Nat.reduceMul, Nat.reduceLeDiff, Nat.reduceLT, Int.reduceNeg, DF, eff, Nat.reduceSub, fwrap_i64, ← e_h1, ← e_h2, o1.ld, c0]
    refine OQ_does (XLen_ok F12.wf (a0.fr F12)) ?_
    rintro _ h3 ⟨rfl, F3⟩
    by_cases c1 : (l.length : Int) < i
    · simp (disch := omega) only [evs, ↓reduceIte, Nat.reduceEqDiff, Nat.reduceAdd, Nat.reduceMul, Nat.reduceLeDiff, Nat.reduceLT, Int.reduceNeg, DF, eff, Nat.reduceSub, fwrap_i64, c1]
      refine store_step (c' := [.nilp, .nils]) F3.wf (F3.get o_h2) rfl (by first | rfl | simp [onesB, V.cells, pv_one, *]) rfl ?_
      rintro h4 o_h4 F_h4 n_h4
      simp (disch := omega) only [evs, ↓reduceIte, Nat.reduceEqDiff, Nat.reduceAdd, Nat.reduceMul, Nat.reduceLeDiff, Nat.reduceLT, Int.reduceNeg, DF, eff, Nat.reduceSub, fwrap_i64, o_h4.ld]
      have e : xinsE l i m = 4 := by unfold xinsE; rw [if_neg (by omega)]
      rw [e]
      exact ⟨(F12.then F3).fresh F_h4 w b1, _, _, rfl, rfl, rfl, by simp⟩
    · have am3 := am.fr (F12.then F3)
      simp (disch := omega) only [evs, ↓reduceIte, Nat.reduceEqDiff, Nat.reduceAdd, Nat.reduceMul, Nat.reduceLeDiff, Nat.reduceLT, Int.reduceNeg, DF, eff, Nat.reduceSub, fwrap_i64, c1, am3.len, (F3.get o1).ld]
      refine OQ_does (XLen_ok F3.wf (a0.fr (F12.then F3))) ?_
      rintro _ h4 ⟨rfl, F4⟩
      have F34 := F3.then F4
      have F14 := F12.then F34
      have am4 := am.fr F14
      have hi : 0 ≤ i ∧ i ≤ l.length := by omega
      by_cases c2 : 1024 - (l.length : Int) < m.length
      · simp (disch := omega) only [evs, ↓reduceIte, Nat.reduceEqDiff, Nat.reduceAdd, Nat.reduceMul, Nat.reduceLeDiff, Nat.reduceLT, Int.reduceNeg, DF, eff, Nat.reduceSub, fwrap_i64, c2]
        refine store_step (c' := [.nilp, .nils]) F4.wf (F34.get o_h2) rfl (by first | rfl | simp [onesB, V.cells, pv_one, *]) rfl ?_
        rintro h5 o_h5 F_h5 n_h5
        simp (disch := omega) only [evs, ↓reduceIte, Nat.reduceEqDiff, Nat.reduceAdd, Nat.reduceMul, Nat.reduceLeDiff, Nat.reduceLT, Int.reduceNeg, DF, eff, Nat.reduceSub, fwrap_i64, o_h5.ld]
        have e : xinsE l i m = 3 := by unfold xinsE; rw [if_pos hi, if_pos c2]
        rw [e]
        exact ⟨F14.fresh F_h5 w b1, _, _, rfl, rfl, rfl, by simp⟩
      · simp (disch := omega) only [evs, ↓reduceIte, Nat.reduceEqDiff, Nat.reduceAdd, Nat.reduceMul, Nat.reduceLeDiff, Nat.reduceLT, Int.reduceNeg, DF, eff, Nat.reduceSub, fwrap_i64, c2, am4.len]
        have o2 := F34.get o_h2
        refine W_loop (fun k env hh => hh = h4 ∧ ∃ (j : Nat), env.get 36 = some (.int .i64 j) ∧ env.get 34 = some u ∧ env.get 35 = some (.int .i64 m.length) ∧ env.get 2 = some u ∧ env.get 1 = some (.int .i64 i) ∧ env.get 3 = some (.bool kn) ∧
          env.get 4 = some (.ptr h.next 0) ∧ env.get 8 = some (.ptr h1.next 0) ∧ j ≤ m.length ∧ chk (m.take j) 0 = 0 ∧ 0 ≤ (m.take j).sum ∧ (m.take j).sum ≤ 4611686018427387904 ∧ sumE (m.take j).sum (m.drop j) = sumE 0 m ∧ k = m.length - j) m.length (by omega) ?_ ?_
        · exact ⟨rfl, 0, (by simp [T.get_set]), (by simp [T.get_set]), (by simp [T.get_set]), (by simp [T.get_set]), (by simp [T.get_set]), (by simp [T.get_set]), (by simp [T.get_set]), (by simp [T.get_set]), by omega, by simp [chk], by simp, by simp, by simp, rfl⟩
        · rintro k env hh ⟨rfl, j, g36, g34, g35, g2, g1, g3, g4, g8, hj, ck, sn, sm, se, rfl⟩
          by_cases hlt : (j : Int) < m.length
          · obtain ⟨bb, oo, x, q1, q2, q3⟩ := am4.ix .i64 j (by omega) hlt
            simp only [Int.toNat_natCast] at q3
            rw [drop_cons q3, sumE] at se
            simp (disch := omega) only [evs, ↓reduceIte, Nat.reduceEqDiff, Nat.reduceAdd, Nat.reduceMul, Nat.reduceLeDiff, Nat.reduceLT, Int.reduceNeg, DF, eff, Nat.reduceSub, fwrap_i64, g36, g34, g35, g2, g1, g3, g4, g8, hlt, q1, q2]
            refine OQ_does wrong_ok ?_
            rintro _ _ ⟨rfl, hh⟩
            subst hh
            by_cases c3 : x < 1 ∨ 2305843009213693952 < x
            · simp (disch := omega) only [evs, ↓reduceIte, Nat.reduceEqDiff, Nat.reduceAdd, Nat.reduceMul, Nat.reduceLeDiff, Nat.reduceLT, Int.reduceNeg, DF, eff, Nat.reduceSub, fwrap_i64, eq_true c3, g36, g34, g35, g2, g1, g3, g4, g8]
              refine store_step (c' := [.nilp, .nils]) F4.wf o2 rfl (by first | rfl | simp [onesB, V.cells, pv_one, *]) rfl ?_
              rintro h5 o_h5 F_h5 n_h5
              simp (disch := omega) only [evs, ↓reduceIte, Nat.reduceEqDiff, Nat.reduceAdd, Nat.reduceMul, Nat.reduceLeDiff, Nat.reduceLT, Int.reduceNeg, DF, eff, Nat.reduceSub, fwrap_i64, o_h5.ld, g8]
              rw [if_pos c3] at se
              have e : xinsE l i m = 12 := by unfold xinsE; rw [if_pos hi, if_neg c2, if_neg (by omega), ← se]
              rw [e]
              exact ⟨F14.fresh F_h5 w b1, _, _, rfl, rfl, rfl, by simp⟩
            · rw [if_neg c3] at se
              have hv : u ≠ .sliceE := Sl.ne am4 (by omega)
              obtain ⟨u', p1, p2⟩ := am4.upto hv .i64 ((j : Int) + 1) (by omega) (by omega)
              have tk : m.take (j + 1) = m.take j ++ [x] := by rw [List.take_add_one, q3]; rfl
              rw [show ((j : Int) + 1).toNat = j + 1 by omega] at p2
              have cs : chk (m.take (j + 1)) 0 = if 4611686018427387904 < (m.take j).sum + x then 13 else 0 := by
                rw [tk, chk_snoc, if_pos ck, if_neg (by omega)]
                by_cases c4 : 4611686018427387904 < (m.take j).sum + x
                · rw [if_pos c4, if_pos (by omega)]
                · rw [if_neg c4, if_neg (by omega)]
              simp (disch := omega) only [evs, ↓reduceIte, Nat.reduceEqDiff, Nat.reduceAdd, Nat.reduceMul, Nat.reduceLeDiff, Nat.reduceLT, Int.reduceNeg, DF, eff, Nat.reduceSub, fwrap_i64, eq_false c3, g36, g34, g35, g2, g1, g3, g4, g8, p1]
              refine OQ_does (Check_ok F4.wf p2 (by simp; omega)) ?_
              rintro _ _ ⟨rfl, hh⟩
              subst hh
              rw [if_neg (by simp; omega), cs]
              by_cases c4 : 4611686018427387904 < (m.take j).sum + x
              · rw [if_pos c4] at se ⊢
                simp (disch := omega) only [evs, ↓reduceIte, Nat.reduceEqDiff, Nat.reduceAdd, Nat.reduceMul, Nat.reduceLeDiff, Nat.reduceLT, Int.reduceNeg, DF, eff, Nat.reduceSub, fwrap_i64, g36, g34, g35, g2, g1, g3, g4, g8, show ¬ (13 : Int) = 0 by omega]
                refine store_step (c' := [.nilp, .nils]) F4.wf o2 rfl (by first | rfl | simp [onesB, V.cells, pv_one, *]) rfl ?_
                rintro h5 o_h5 F_h5 n_h5
                simp (disch := omega) only [evs, ↓reduceIte, Nat.reduceEqDiff, Nat.reduceAdd, Nat.reduceMul, Nat.reduceLeDiff, Nat.reduceLT, Int.reduceNeg, DF, eff, Nat.reduceSub, fwrap_i64, o_h5.ld, g8]
                have e : xinsE l i m = 13 := by unfold xinsE; rw [if_pos hi, if_neg c2, if_neg (by omega), ← se]
                rw [e]
                exact ⟨F14.fresh F_h5 w b1, _, _, rfl, rfl, rfl, by simp⟩
              · rw [if_neg c4] at se ⊢
                simp (disch := omega) only [evs, ↓reduceIte, Nat.reduceEqDiff, Nat.reduceAdd, Nat.reduceMul, Nat.reduceLeDiff, Nat.reduceLT, Int.reduceNeg, DF, eff, Nat.reduceSub, fwrap_i64, g36, g34, g35, g2, g1, g3, g4, g8]
                have ts : (m.take (j + 1)).sum = (m.take j).sum + x := by rw [tk]; simp
                refine (roundQ_norm _ _ _).2 ⟨m.length - (j + 1), by omega, rfl, j + 1, (by simp [T.get_set]), (by simp [T.get_set, g34]), (by simp [T.get_set, g35]), (by simp [T.get_set, g2]), (by simp [T.get_set, g1]), (by simp [T.get_set, g3]), (by simp [T.get_set, g4]), (by simp [T.get_set, g8]), by omega, by rw [cs, if_neg c4], by rw [ts]; omega, by rw [ts]; omega, by rw [ts]; exact se, rfl⟩
                done
          · have ej : j = m.length := by omega
            subst ej
            simp only [List.take_length, List.drop_length, sumE] at ck se sn sm
            simp (disch := omega) only [evs, ↓reduceIte, Nat.reduceEqDiff, Nat.reduceAdd, Nat.reduceMul, Nat.reduceLeDiff, Nat.reduceLT, Int.reduceNeg, DF, eff, Nat.reduceSub, fwrap_i64, g36, g34, g35, g2, g1, g3, g4, g8, hlt, (F34.get o1).ld]
            refine OQ_does (RIns_ok F4.wf (r.fr F14) am4 hm) ?_
            rintro _ h5 ⟨F5, c5, rfl, hc5, hr⟩
            have ei : insE l i m = xinsE l i m := by
              unfold insE xinsE ofE joinE
              rw [if_pos hi, if_pos hi, if_neg (show ¬ 4096 < m.length by omega), if_pos ck, if_neg (show ¬ 4096 < l.length + m.length by omega), if_neg c2, if_pos se.symm]
            rw [ei] at hr ⊢
            obtain ⟨h6, e_h6⟩ : ∃ h6, h6 = halloc h5 [.nilp] := ⟨_, rfl⟩
            have F_h6 : Fr [] h5 h6 := e_h6 ▸ Fr.halloc F5.wf _
            have o_h6 : Own h6 h5.next [.nilp] := e_h6 ▸ Own.new F5.wf _
            simp (disch := omega) only [evs, ↓reduceIte, Nat.reduceEqDiff, Nat.reduceAdd, Nat.reduceMul, Nat.reduceLeDiff, Nat.reduceLT, Int.reduceNeg, DF, eff, Nat.reduceSub, fwrap_i64, ← e_h6]
            refine store_step (c' := [c5]) F_h6.wf o_h6 rfl (by simp [onesB, V.cells, hc5]) rfl ?_
            rintro h7 o7 F7 n7
            have F57 : Fr [] h5 h7 := F_h6.fresh F7 F5.wf (Nat.le_refl _)
            have F27 := (F34.then F5).then F57
            by_cases z : xinsE l i m = 0
            · simp (disch := omega) only [evs, ↓reduceIte, Nat.reduceEqDiff, Nat.reduceAdd, Nat.reduceMul, Nat.reduceLeDiff, Nat.reduceLT, Int.reduceNeg, DF, eff, Nat.reduceSub, fwrap_i64, eq_true z, g36, g34, g35, g2, g1, g3, g4, g8, (F27.get o1).ld1, am.len]
              refine OQ_does (SIns_ok (m := ks.length) F57.wf (s.fr (F12.then F27)).slc kn'.ok (by omega) kn'.le (by omega) (by omega) (by omega) (by omega)) ?_
              rintro _ h8 ⟨F8, vk1, L1, rfl, ov1, sL1, ok1, iL1, mL1⟩
              simp (disch := omega) only [evs, ↓reduceIte, Nat.reduceEqDiff, Nat.reduceAdd, Nat.reduceMul, Nat.reduceLeDiff, Nat.reduceLT, Int.reduceNeg, DF, eff, Nat.reduceSub, fwrap_i64, g36, g34, g35, g2, g1, g3, g4, g8, (F8.get o7).ld, am.len]
              refine OQ_does (marked_ok (m := ks.length + m.length) F8.wf sL1 ok1 (by omega) mL1 (by omega) (by omega) (by omega)) ?_
              rintro vk2 h9 ⟨F9, L2, ov2, sL2, ok2, iL2, mL2⟩
              simp (disch := omega) only [evs, ↓reduceIte, Nat.reduceEqDiff, Nat.reduceAdd, Nat.reduceMul, Nat.reduceLeDiff, Nat.reduceLT, Int.reduceNeg, DF, eff, Nat.reduceSub, fwrap_i64, g36, g34, g35, g2, g1, g3, g4, g8]
              refine OQ_does (with_ok F9.wf hc5 ov2) ?_
              rintro _ h10 ⟨F10, rfl⟩
              rw [if_pos rfl]
              have F210 := ((F27.then F8).then F9).then F10
              simp (disch := omega) only [evs, ↓reduceIte, Nat.reduceEqDiff, Nat.reduceAdd, Nat.reduceMul, Nat.reduceLeDiff, Nat.reduceLT, Int.reduceNeg, DF, eff, Nat.reduceSub, fwrap_i64, g8]
              refine store_step (c' := [c5, vk2]) F10.wf (F210.get o_h2) rfl (by first | rfl | simp [onesB, V.cells, pv_one, *]) rfl ?_
              rintro h11 o_h11 F_h11 n_h11
              simp (disch := omega) only [evs, ↓reduceIte, Nat.reduceEqDiff, Nat.reduceAdd, Nat.reduceMul, Nat.reduceLeDiff, Nat.reduceLT, Int.reduceNeg, DF, eff, Nat.reduceSub, fwrap_i64, o_h11.ld, g8, (F8.get o7).ld, ((F8.then F9).get o7).ld]
              obtain ⟨t', p', ep, at', et, ft⟩ := hr z
              cases ep
              refine ⟨(F12.then F210).fresh F_h11 w b1, _, _, by rw [z], pv_one _, ov2, fun _ => ⟨p', vk2, L2, rfl, ?_, ?_, ?_, ?_, ?_⟩⟩
              · exact (Rp.fr (l := l.take i.toNat ++ m ++ l.drop i.toNat) ⟨t', p', rfl, at', et, ft⟩ (((F57.then F8).then F9).then F10)).frb F_h11 (F210.get o_h2) (by simp)
              · exact (sL2.fr F10).frb F_h11 (F210.get o_h2) (nosp (by simp))
              · refine ⟨ok2, ?_, fun j => ?_⟩
                · intro x hx
                  have := mL2 x hx
                  simp; omega
                · rw [iL2, iL1, ins_getD (by omega)]
                  unfold shf
                  by_cases d1 : j < i.toNat
                  · rw [if_neg (by omega), if_pos (by omega), if_pos d1, kn'.eq]
                  · by_cases d2 : j < i.toNat + m.length
                    · rw [if_pos (by omega), if_neg d1, if_pos d2]
                    · rw [if_neg (by omega), if_neg (by omega), if_neg (by omega), if_neg d1, if_neg d2, ← kn'.eq]
                      congr 1; omega
              · simp; omega
              · simp; omega
            · simp (disch := omega) only [evs, ↓reduceIte, Nat.reduceEqDiff, Nat.reduceAdd, Nat.reduceMul, Nat.reduceLeDiff, Nat.reduceLT, Int.reduceNeg, DF, eff, Nat.reduceSub, fwrap_i64, eq_false z, g36, g34, g35, g2, g1, g3, g4, g8]
              refine store_step (c' := [.nilp, .nils]) F57.wf (F27.get o_h2) rfl (by first | rfl | simp [onesB, V.cells, pv_one, *]) rfl ?_
              rintro h9 o_h9 F_h9 n_h9
              simp (disch := omega) only [evs, ↓reduceIte, Nat.reduceEqDiff, Nat.reduceAdd, Nat.reduceMul, Nat.reduceLeDiff, Nat.reduceLT, Int.reduceNeg, DF, eff, Nat.reduceSub, fwrap_i64, o_h9.ld, g8]
              exact ⟨(F12.then F27).fresh F_h9 w b1, _, _, rfl, rfl, rfl, by simp [z]⟩
end Go.Ev.Lay

/- Flags: bits and words. -/
namespace Go.Ev.Lay
set_option maxRecDepth 4000
theorem aP_shrN (k : IntKind) (x : Nat) (b : Int) (n : Nat) (h : b = n) (hn : n ≤ 64) : aP (.sh false) [.int .u64 (x : Int), .int k b] = some (.int .u64 ((x / 2 ^ n : Nat) : Int)) := by
  subst h
  rw [aP_shr _ _ _ _ (by omega)]
  simp only [Int.toNat_natCast, IntKind.bits, Nat.min_eq_left hn]
  congr 2
  rw [Int.fdiv_eq_ediv_of_nonneg _ (Int.natCast_nonneg _), Int.natCast_ediv]
theorem bvand (w x y : Nat) : (BitVec.ofInt w (x : Int) &&& BitVec.ofInt w (y : Int)).toNat = (x % 2 ^ w) &&& (y % 2 ^ w) := by simp [BitVec.toNat_and]
theorem bvxor (w x y : Nat) : (BitVec.ofInt w (x : Int) ^^^ BitVec.ofInt w (y : Int)).toNat = (x % 2 ^ w) ^^^ (y % 2 ^ w) := by simp [BitVec.toNat_xor]
theorem aP_and (k : IntKind) (a b : Int) : aP (.ib .and) [.int k a, .int k b] = some (.int k (fwrap k (BitVec.toNat (BitVec.ofInt k.bits a &&& BitVec.ofInt k.bits b)))) := by simp only [aP, kbeq_self, cond_true, ibin]
theorem aP_xor (k : IntKind) (a b : Int) : aP (.ib .xor) [.int k a, .int k b] = some (.int k (fwrap k (BitVec.toNat (BitVec.ofInt k.bits a ^^^ BitVec.ofInt k.bits b)))) := by simp only [aP, kbeq_self, cond_true, ibin]
theorem p64 : 2 ^ IntKind.u64.bits = 18446744073709551616 := rfl
theorem q64 : 2 ^ IntKind.i64.bits = 18446744073709551616 := rfl
theorem aP_andN (x y : Nat) (a b : Int) (ha : a = x) (hb : b = y) (hx : x < 18446744073709551616) (hy : y < 18446744073709551616) : aP (.ib .and) [.int .u64 a, .int .u64 b] = some (.int .u64 ((x &&& y : Nat) : Int)) := by
  subst ha hb
  have hxy : x &&& y < 18446744073709551616 := Nat.lt_of_le_of_lt Nat.and_le_left hx
  rw [aP_and, bvand, p64, Nat.mod_eq_of_lt hx, Nat.mod_eq_of_lt hy, fwrap_u64 _ (by omega) (by omega)]
theorem aP_xorN (x y : Nat) (a b : Int) (ha : a = x) (hb : b = y) (hx : x < 18446744073709551616) (hy : y < 18446744073709551616) : aP (.ib .xor) [.int .u64 a, .int .u64 b] = some (.int .u64 ((x ^^^ y : Nat) : Int)) := by
  subst ha hb
  have hxy : x ^^^ y < 2 ^ 64 := Nat.xor_lt_two_pow (by simpa using hx) (by simpa using hy)
  rw [aP_xor, bvxor, p64, Nat.mod_eq_of_lt hx, Nat.mod_eq_of_lt hy, fwrap_u64 _ (by omega) (by omega)]
theorem addN (x y : Nat) (h : x + y < 18446744073709551616) : aP (.ib .add) [.int .u64 (x : Int), .int .u64 (y : Int)] = some (.int .u64 ((x + y : Nat) : Int)) := by
  rw [aP_add, fwrap_u64 _ (by omega) (by omega)]; simp
theorem and127 (w : Nat) (hw : w < 9223372036854775808) : aP (.ib .and) [.int .i64 (w : Int), .int .i64 127] = some (.int .i64 ((w % 128 : Nat) : Int)) := by
  have e : (127 : Int) = ((127 : Nat) : Int) := rfl
  rw [aP_and, e, bvand, q64, Nat.mod_eq_of_lt (show w < 18446744073709551616 by omega), show 127 % 18446744073709551616 = 2 ^ 7 - 1 from rfl, Nat.and_two_pow_sub_one_eq_mod, fwrap_i64 _ (by omega) (by omega)]
theorem Ones_ok {h : Heap} {x : Nat} (hx : x < 18446744073709551616) : Does go 88 [.int .u64 (x : Int)] h fun u h' => u = .int .i64 (pop 64 x) ∧ h' = h := by
  obtain ⟨y, hy⟩ : ∃ y, y = ((x / 2) &&& 6148914691236517205) + (x &&& 6148914691236517205) := ⟨_, rfl⟩
  obtain ⟨z, hz⟩ : ∃ z, z = ((y / 4) &&& 3689348814741910323) + (y &&& 3689348814741910323) := ⟨_, rfl⟩
  obtain ⟨t, ht⟩ : ∃ t, t = (z / 16 + z) &&& 1085102592571150095 := ⟨_, rfl⟩
  obtain ⟨by', bz16, bz, bt, u, hu, bu, v, hv, bv, w, hw, bw, e⟩ := swar x hx y hy z hz t ht
  have s1 := aP_shrN .u64 x 1 1 rfl (by omega)
  have a1 := aP_andN (x / 2) 6148914691236517205 _ 6148914691236517205 rfl rfl (by omega) (by omega)
  have a2 := aP_andN x 6148914691236517205 _ 6148914691236517205 rfl rfl (by omega) (by omega)
  have d1 := addN (x / 2 &&& 6148914691236517205) (x &&& 6148914691236517205) (by rw [← hy]; exact by')
  rw [← hy] at d1
  have s2 := aP_shrN .u64 y 2 2 rfl (by omega)
  have a3 := aP_andN (y / 4) 3689348814741910323 _ 3689348814741910323 rfl rfl (by omega) (by omega)
  have a4 := aP_andN y 3689348814741910323 _ 3689348814741910323 rfl rfl (by omega) (by omega)
  have d2 := addN (y / 4 &&& 3689348814741910323) (y &&& 3689348814741910323) (by rw [← hz]; exact bz)
  rw [← hz] at d2
  have s3 := aP_shrN .u64 z 4 4 rfl (by omega)
  have d3 := addN (z / 16) z bz16
  have a5 := aP_andN (z / 16 + z) 1085102592571150095 _ 1085102592571150095 rfl rfl bz16 (by omega)
  rw [← ht] at a5
  have s4 := aP_shrN .u64 t 8 8 rfl (by omega)
  have d4 := addN t (t / 256) (by omega)
  rw [← hu] at d4
  have s5 := aP_shrN .u64 u 16 16 rfl (by omega)
  have d5 := addN u (u / 65536) (by omega)
  rw [← hv] at d5
  have s6 := aP_shrN .u64 v 32 32 rfl (by omega)
  have d6 := addN v (v / 4294967296) (by omega)
  rw [← hw] at d6
  have cv : aP (.conv .i64) [.int .u64 (w : Int)] = some (.int .i64 (w : Int)) := by rw [aP_conv, fwrap_i64 _ (by omega) (by omega)]
  have a6 := and127 w (by omega)
  rw [e] at a6
  simp only [Nat.reducePow] at s1 s2 s3 s4 s5 s6
  refine does_fn g88 rfl ?_
  simp only [fn88, W_ret, W_seq, W_ops, thenQ_norm, thenQ_ret, WS_nil, WS_l, WS_v, op_p, PQ_some, VQ_some, kl_app, kv_app, evO_l, evO_v, evO_c, evOs_nil, evOs_c, consO_some, nth_zero, nth_succ, bindA_nil, bindA_cons, T.get_set, RetQ_ret, RsQ_some, evRs_nil, evRs_t, packV_one, aP_mv, ↓reduceIte, Nat.reduceEqDiff, Nat.reduceAdd, s1, a1, a2, d1, s2, a3, a4, d2, s3, d3, a5, s4, d4, s5, d5, s6, d6, cv, a6]
  exact ⟨trivial, trivial⟩
def uw (x : Nat) : V := .int .u64 (x : Int)
def flc (n m : Int) (ws : List Nat) : List V := .int .i64 n :: .int .i64 m :: ws.map uw
structure WOK (ws : List Nat) (bs : List Bool) : Prop where
  len : ws.length = 64
  w : ∀ k, k < 64 → ∃ x, ws[k]? = some x ∧ x < 18446744073709551616 ∧ ∀ j, j < 64 → x.testBit j = bs.getD (64 * k + j) false
def Fl (h : Heap) (b : Nat) (bs : List Bool) : Prop := ∃ ws, Own h b (flc bs.length (bs.count true) ws) ∧ WOK ws bs ∧ bs.length ≤ 4096
theorem Fl.fr {h h' : Heap} {b : Nat} {bs : List Bool} (a : Fl h b bs) (f : Fr [] h h') : Fl h' b bs := by
  obtain ⟨ws, o, x⟩ := a; exact ⟨ws, f.get o, x⟩
theorem flc_nth (n m : Int) (ws : List Nat) (k : Nat) : nth (flc n m ws) (2 + k) = (ws[k]?).map uw := by
  rw [nth_eq, Nat.add_comm]; simp [flc]
theorem quo64 (i : Nat) : aP (.ib .quo) [.int .i64 (i : Int), .int .i64 64] = some (.int .i64 ((i / 64 : Nat) : Int)) ∨ i > 9000000 := by
  by_cases h : i > 9000000
  · exact .inr h
  · left
    rw [aP_quo _ _ 64 (by decide), show Int.tdiv (i : Int) 64 = ((i / 64 : Nat) : Int) from (Int.ofNat_tdiv i 64).symm, fwrap_i64 _ (by omega) (by omega)]
theorem rem64 (i : Nat) : aP (.ib .rem) [.int .i64 (i : Int), .int .i64 64] = some (.int .i64 ((i % 64 : Nat) : Int)) := by
  rw [aP_rem _ _ 64 (by decide), show Int.tmod (i : Int) 64 = ((i % 64 : Nat) : Int) from (Int.ofNat_tmod i 64).symm]
theorem bitN (x j : Nat) : decide (((x / 2 ^ j &&& 1 : Nat) : Int) = 1) = x.testBit j := by
  rw [Nat.testBit_eq_decide_div_mod_eq, Nat.and_one_is_mod]
  rw [Bool.eq_iff_iff, decide_eq_true_eq, decide_eq_true_eq]; omega
theorem get_ok {h : Heap} {b : Nat} {bs : List Bool} {i : Nat} (f : Fl h b bs) (hi : i < bs.length) : Does go 100 [.ptr b 0, .int .i64 (i : Int)] h fun u h' => u = .bool (bs.getD i false) ∧ h' = h := by
  obtain ⟨ws, o, ok, hn⟩ := f
  obtain ⟨x, e1, e2, e3⟩ := ok.w (i / 64) (by omega)
  have q1 := (quo64 i).resolve_right (by omega)
  have q2 := rem64 i
  have q3 := aP_ixa 1 b 2 64 .i64 ((i / 64 : Nat) : Int) (by omega) (by omega)
  have q4 : hload1 h b (2 + (i / 64) * 1) = some (.int .u64 (x : Int)) := by rw [o.ld1, Nat.mul_one, flc_nth, e1]; rfl
  have q5 := aP_shrN .i64 x ((i % 64 : Nat) : Int) (i % 64) rfl (by omega)
  have q6 := aP_andN (x / 2 ^ (i % 64)) 1 _ 1 rfl rfl (Nat.lt_of_le_of_lt (Nat.div_le_self _ _) e2) (by omega)
  simp only [Int.toNat_natCast] at q3
  refine does_fn g100 rfl ?_
  simp (disch := omega) only [fn100, W_ret, W_seq, W_ops, thenQ_norm, thenQ_ret, WS_nil, WS_l, WS_v, op_p, PQ_some, VQ_some, op_ld, LQ_some, aload_ptr1, kl_app, kv_app, evO_l, evO_v, evO_c, evOs_nil, evOs_c, consO_some, nth_zero, nth_succ, bindA_nil, bindA_cons, T.get_set, RetQ_ret, RsQ_some, evRs_nil, evRs_t, packV_one, aP_mv, aP_nilck, aP_faddr, aP_eql, ↓reduceIte, Nat.reduceEqDiff, Nat.reduceAdd, Nat.zero_add, q1, q2, q3, q4, q5, q6, bitN]
  rw [e3 (i % 64) (by omega), show 64 * (i / 64) + i % 64 = i by omega]
  exact ⟨rfl, trivial⟩
theorem count_set : ∀ (bs : List Bool) (i : Nat) (v : Bool), i < bs.length → bs.getD i false ≠ v → ((bs.set i v).count true : Int) = bs.count true + if v = true then 1 else -1
  | b :: bs, 0, v, _, h => by cases b <;> cases v <;> simp at h ⊢ <;> omega
  | b :: bs, i + 1, v, hi, h => by
    have ih := count_set bs i v (by simpa using hi) (by simpa using h)
    simp only [List.set_cons_succ, List.count_cons]
    split at ih <;> simp_all <;> split <;> omega
theorem set_same : ∀ (bs : List Bool) (i : Nat), bs.set i (bs.getD i false) = bs
  | [], _ => rfl
  | b :: bs, 0 => by simp
  | b :: bs, i + 1 => by have := set_same bs i; simp at this ⊢; exact this
theorem WOK.flip {ws : List Nat} {bs : List Bool} (ok : WOK ws bs) {i x : Nat} {v : Bool} (hi : i < bs.length) (h4 : bs.length ≤ 4096) (hx : ws[i / 64]? = some x) (hv : bs.getD i false ≠ v) : WOK (ws.set (i / 64) (x ^^^ 2 ^ (i % 64))) (bs.set i v) := by
  refine ⟨by rw [List.length_set]; exact ok.len, fun k hk => ?_⟩
  obtain ⟨y, e1, e2, e3⟩ := ok.w k hk
  by_cases c : k = i / 64
  · subst c
    rw [hx] at e1; cases e1
    refine ⟨x ^^^ 2 ^ (i % 64), by simp [ok.len, hk], ?_, fun j hj => ?_⟩
    · have := Nat.xor_lt_two_pow (n := 64) (x := x) (y := 2 ^ (i % 64)) (by simpa using e2) (Nat.pow_lt_pow_right (by omega) (by omega))
      simpa using this
    · rw [Nat.testBit_xor, Nat.testBit_two_pow, e3 j hj, getD_set hi]
      by_cases cj : i % 64 = j
      · rw [if_pos (by omega)]
        have : 64 * (i / 64) + j = i := by omega
        rw [this]
        simp only [cj, decide_true]
        cases h1 : bs.getD i false <;> cases v <;> simp_all
      · rw [if_neg (by omega)]; simp [cj]
  · refine ⟨y, by rw [List.getElem?_set_ne (Ne.symm c)]; exact e1, e2, fun j hj => ?_⟩
    rw [e3 j hj, getD_set hi, if_neg (by omega)]
end Go.Ev.Lay
