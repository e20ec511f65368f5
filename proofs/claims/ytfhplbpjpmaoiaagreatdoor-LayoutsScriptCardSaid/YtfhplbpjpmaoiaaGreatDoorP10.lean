/- An evaluator of the program and contracts proved over it: the texts LayA LayB LayC LayD LayE LayF. -/
import Derived.Test.YtfhplbpjpmaoiaaGreatDoorP09
set_option linter.unusedSimpArgs false
set_option linter.unusedVariables false
set_option linter.constructorNameAsVariable false
/- Ropes: trees of sizes in the heap, and what their functions do. -/
namespace Go.Ev.Lay
set_option maxRecDepth 4000
inductive Tr where
  | nil
  | node (l : Tr) (s : Int) (r : Tr)
namespace Tr
def list : Tr → List Int
  | nil => []
  | node l s r => l.list ++ s :: r.list
def many : Tr → Int
  | nil => 0
  | node l _ r => l.many + r.many + 1
def sum : Tr → Int
  | nil => 0
  | node l s r => l.sum + s + r.sum
def tall : Tr → Int
  | nil => 0
  | node l _ r => max l.tall r.tall + 1
theorem many_eq : ∀ t : Tr, t.many = t.list.length
  | nil => rfl
  | node l s r => by simp [many, list, many_eq l, many_eq r]; omega
theorem sum_eq : ∀ t : Tr, t.sum = t.list.sum
  | nil => rfl
  | node l s r => by simp [sum, list, sum_eq l, sum_eq r]; omega
theorem tall_nn : ∀ t : Tr, 0 ≤ t.tall
  | nil => by simp [tall]
  | node l s r => by have := tall_nn l; have := tall_nn r; simp only [tall]; omega
theorem tall_le : ∀ t : Tr, t.tall ≤ t.many
  | nil => by simp [tall, many]
  | node l s r => by
    have a := tall_le l; have b := tall_le r
    have c := many_eq l; have d := many_eq r
    simp only [tall, many]; omega
theorem many_nn (t : Tr) : 0 ≤ t.many := by rw [many_eq]; omega
end Tr
/-- a tree lies in the heap -/
def At (h : Heap) : Tr → Option Nat → Prop
  | .nil, p => p = none
  | .node l s r, p => ∃ b pl pr, p = some b ∧ Own h b [pv pl, pv pr, .int .i64 s, .int .i64 (Tr.node l s r).many, .int .i64 (Tr.node l s r).sum, .int .i64 (Tr.node l s r).tall] ∧ At h l pl ∧ At h r pr
theorem At.fr {h h' : Heap} (f : Fr [] h h') : ∀ {t : Tr} {p : Option Nat}, At h t p → At h' t p
  | .nil, _, a => a
  | .node l s r, _, ⟨b, pl, pr, e, o, al, ar⟩ => ⟨b, pl, pr, e, f.get o, At.fr f al, At.fr f ar⟩
/-- sizes that no sum leaves the numbers by -/
def Fit (l : List Int) : Prop := (∀ x ∈ l, 0 ≤ x) ∧ l.sum ≤ 4611686018427387904 ∧ (l.length : Int) ≤ 1000000
theorem sum_nn : ∀ {l : List Int}, (∀ x ∈ l, 0 ≤ x) → 0 ≤ l.sum
  | [], _ => by simp
  | x :: l, h => by have := sum_nn (l := l) fun y hy => h y (by simp [hy]); have := h x (by simp); simp; omega
theorem Fit.left {a b : List Int} (f : Fit (a ++ b)) : Fit a := by
  obtain ⟨p, q, r⟩ := f
  have hb : 0 ≤ b.sum := sum_nn fun x hx => p x (by simp [hx])
  refine ⟨fun x hx => p x (by simp [hx]), ?_, ?_⟩
  · rw [List.sum_append] at q; omega
  · rw [List.length_append] at r; omega
theorem Fit.right {a b : List Int} (f : Fit (a ++ b)) : Fit b := by
  obtain ⟨p, q, r⟩ := f
  have hb : 0 ≤ a.sum := sum_nn fun x hx => p x (by simp [hx])
  refine ⟨fun x hx => p x (by simp [hx]), ?_, ?_⟩
  · rw [List.sum_append] at q; omega
  · rw [List.length_append] at r; omega
theorem Fit.nn {l : List Int} (f : Fit l) : 0 ≤ l.sum := sum_nn f.1
theorem tall_ok {h : Heap} {t : Tr} {p : Option Nat} (a : At h t p) : Does go 125 [pv p] h fun v h' => v = .int .i64 t.tall ∧ h' = h := by
  refine does_fn g125 rfl ?_
  cases t with
  | nil => have a : p = none := a; subst a; simp (disch := omega) only [fn125, evs, ↓reduceIte, Nat.reduceEqDiff, Nat.reduceAdd, Nat.reduceMul, Nat.reduceLeDiff, Nat.reduceLT, Int.reduceNeg, DF, eff, Nat.reduceSub, pv_none, Tr.tall]
  | node l s r =>
    obtain ⟨b, pl, pr, rfl, o, _, _⟩ := a
    simp (disch := omega) only [fn125, evs, ↓reduceIte, Nat.reduceEqDiff, Nat.reduceAdd, Nat.reduceMul, Nat.reduceLeDiff, Nat.reduceLT, Int.reduceNeg, DF, eff, Nat.reduceSub, pv_some, o.ld1]
theorem count_ok {h : Heap} {t : Tr} {p : Option Nat} (a : At h t p) : Does go 110 [pv p] h fun v h' => v = .int .i64 t.many ∧ h' = h := by
  refine does_fn g110 rfl ?_
  cases t with
  | nil => have a : p = none := a; subst a; simp (disch := omega) only [fn110, evs, ↓reduceIte, Nat.reduceEqDiff, Nat.reduceAdd, Nat.reduceMul, Nat.reduceLeDiff, Nat.reduceLT, Int.reduceNeg, DF, eff, Nat.reduceSub, pv_none, Tr.many]
  | node l s r =>
    obtain ⟨b, pl, pr, rfl, o, _, _⟩ := a
    simp (disch := omega) only [fn110, evs, ↓reduceIte, Nat.reduceEqDiff, Nat.reduceAdd, Nat.reduceMul, Nat.reduceLeDiff, Nat.reduceLT, Int.reduceNeg, DF, eff, Nat.reduceSub, pv_some, o.ld1]
theorem total_ok {h : Heap} {t : Tr} {p : Option Nat} (a : At h t p) : Does go 77 [pv p] h fun v h' => v = .int .i64 t.sum ∧ h' = h := by
  refine does_fn g77 rfl ?_
  cases t with
  | nil => have a : p = none := a; subst a; simp (disch := omega) only [fn77, evs, ↓reduceIte, Nat.reduceEqDiff, Nat.reduceAdd, Nat.reduceMul, Nat.reduceLeDiff, Nat.reduceLT, Int.reduceNeg, DF, eff, Nat.reduceSub, pv_none, Tr.sum]
  | node l s r =>
    obtain ⟨b, pl, pr, rfl, o, _, _⟩ := a
    simp (disch := omega) only [fn77, evs, ↓reduceIte, Nat.reduceEqDiff, Nat.reduceAdd, Nat.reduceMul, Nat.reduceLeDiff, Nat.reduceLT, Int.reduceNeg, DF, eff, Nat.reduceSub, pv_some, o.ld1]
theorem over_ok {h : Heap} {l r : Tr} {s : Int} {pl pr : Option Nat} (w : WF h) (al : At h l pl) (ar : At h r pr) (f : Fit (l.list ++ s :: r.list)) :
    Does go 127 [pv pl, .int .i64 s, pv pr] h fun v h' => ∃ b, v = pv (some b) ∧ At h' (.node l s r) (some b) ∧ Fr [] h h' := by
  have l1 := Tr.many_eq l; have l2 := Tr.sum_eq l; have l3 := Tr.tall_nn l; have l4 := Tr.tall_le l
  have r1 := Tr.many_eq r; have r2 := Tr.sum_eq r; have r3 := Tr.tall_nn r; have r4 := Tr.tall_le r
  have fl := f.left.nn
  have fr := Fit.nn (Fit.right (a := l.list ++ [s]) (b := r.list) (by simpa using f))
  have hs : 0 ≤ s := f.1 s (by simp)
  obtain ⟨_, f2, f3⟩ := f
  simp only [List.sum_append, List.sum_cons, List.length_append, List.length_cons] at f2 f3
  rw [← l2] at fl f2; rw [← r2] at fr f2
  refine does_fn g127 rfl ?_
  simp (disch := omega) only [fn127, evs, ↓reduceIte, Nat.reduceEqDiff, Nat.reduceAdd, Nat.reduceMul, Nat.reduceLeDiff, Nat.reduceLT, Int.reduceNeg, DF, eff, Nat.reduceSub, fwrap_i64]
  refine OQ_does (count_ok al) ?_
  rintro _ _ ⟨rfl, rfl⟩
  simp (disch := omega) only [evs, ↓reduceIte, Nat.reduceEqDiff, Nat.reduceAdd, Nat.reduceMul, Nat.reduceLeDiff, Nat.reduceLT, Int.reduceNeg, DF, eff, Nat.reduceSub, fwrap_i64]
  refine OQ_does (count_ok ar) ?_
  rintro _ _ ⟨rfl, rfl⟩
  simp (disch := omega) only [evs, ↓reduceIte, Nat.reduceEqDiff, Nat.reduceAdd, Nat.reduceMul, Nat.reduceLeDiff, Nat.reduceLT, Int.reduceNeg, DF, eff, Nat.reduceSub, fwrap_i64]
  refine OQ_does (total_ok al) ?_
  rintro _ _ ⟨rfl, rfl⟩
  simp (disch := omega) only [evs, ↓reduceIte, Nat.reduceEqDiff, Nat.reduceAdd, Nat.reduceMul, Nat.reduceLeDiff, Nat.reduceLT, Int.reduceNeg, DF, eff, Nat.reduceSub, fwrap_i64]
  refine OQ_does (total_ok ar) ?_
  rintro _ _ ⟨rfl, rfl⟩
  simp (disch := omega) only [evs, ↓reduceIte, Nat.reduceEqDiff, Nat.reduceAdd, Nat.reduceMul, Nat.reduceLeDiff, Nat.reduceLT, Int.reduceNeg, DF, eff, Nat.reduceSub, fwrap_i64]
  refine OQ_does (tall_ok al) ?_
  rintro _ _ ⟨rfl, rfl⟩
  simp (disch := omega) only [evs, ↓reduceIte, Nat.reduceEqDiff, Nat.reduceAdd, Nat.reduceMul, Nat.reduceLeDiff, Nat.reduceLT, Int.reduceNeg, DF, eff, Nat.reduceSub, fwrap_i64]
  refine OQ_does (tall_ok ar) ?_
  rintro _ _ ⟨rfl, rfl⟩
  simp (disch := omega) only [evs, ↓reduceIte, Nat.reduceEqDiff, Nat.reduceAdd, Nat.reduceMul, Nat.reduceLeDiff, Nat.reduceLT, Int.reduceNeg, DF, eff, Nat.reduceSub, fwrap_i64]
  refine ⟨_, rfl, ?_, Fr.halloc w _⟩
  exact ⟨_, pl, pr, rfl, by simpa only [Tr.many, Tr.sum, Tr.tall] using Own.new w _, al.fr (Fr.halloc w _), ar.fr (Fr.halloc w _)⟩
end Go.Ev.Lay

/- Ropes: balanced, joined, split, put. -/
namespace Go.Ev.Lay
set_option maxRecDepth 4000
theorem bal1_ok {h : Heap} {l r : Tr} {s : Int} {pl pr : Option Nat} {bl bs br : Nat} (w : WF h) (al : At h l pl) (ar : At h r pr) (f : Fit (l.list ++ s :: r.list))
    (ol : Own h bl [pv pl]) (os : Own h bs [.int .i64 s]) (or : Own h br [pv pr]) :
    Does go 131 [.ptr bl 0, .ptr bs 0, .ptr br 0] h fun v h' => ∃ t p, v = pv p ∧ At h' t p ∧ t.list = l.list ++ s :: r.list ∧ Fr [] h h' := by
  refine does_fn g131 rfl ?_
  simp (disch := omega) only [fn131, evs, ↓reduceIte, Nat.reduceEqDiff, Nat.reduceAdd, Nat.reduceMul, Nat.reduceLeDiff, Nat.reduceLT, Int.reduceNeg, DF, eff, Nat.reduceSub, fwrap_i64, ol.ld1, os.ld1, or.ld1]
  refine OQ_does (over_ok w al ar f) ?_
  rintro _ h' ⟨b, rfl, a, fr⟩
  simp (disch := omega) only [evs, ↓reduceIte, Nat.reduceEqDiff, Nat.reduceAdd, Nat.reduceMul, Nat.reduceLeDiff, Nat.reduceLT, Int.reduceNeg, DF, eff, Nat.reduceSub, fwrap_i64]
  exact ⟨_, _, rfl, a, rfl, fr⟩
theorem Fit.cons {x : Int} {l : List Int} (f : Fit (x :: l)) : Fit l := Fit.right (a := [x]) (by simpa using f)
theorem bal2_ok {h : Heap} {l r : Tr} {s : Int} {pl pr : Option Nat} {bl bs br : Nat} (w : WF h) (al : At h l pl) (ar : At h r pr) (f : Fit (l.list ++ s :: r.list)) (ht : 0 < r.tall)
    (ol : Own h bl [pv pl]) (os : Own h bs [.int .i64 s]) (or : Own h br [pv pr]) :
    Does go 132 [.ptr br 0, .ptr bl 0, .ptr bs 0] h fun v h' => ∃ t p, v = pv p ∧ At h' t p ∧ t.list = l.list ++ s :: r.list ∧ Fr [] h h' := by
  cases r with
  | nil => simp [Tr.tall] at ht
  | node rl rs rr =>
    obtain ⟨b, prl, prr, rfl, o, arl, arr⟩ := ar
    have f1 : Fit ((l.list ++ s :: rl.list) ++ rs :: rr.list) := by simpa [Tr.list] using f
    refine does_fn g132 rfl ?_
    simp (disch := omega) only [fn132, evs, ↓reduceIte, Nat.reduceEqDiff, Nat.reduceAdd, Nat.reduceMul, Nat.reduceLeDiff, Nat.reduceLT, Int.reduceNeg, DF, eff, Nat.reduceSub, fwrap_i64, ol.ld1, os.ld1, or.ld1, pv_some, o.ld1]
    refine OQ_does (tall_ok arl) ?_
    rintro _ _ ⟨rfl, rfl⟩
    simp (disch := omega) only [evs, ↓reduceIte, Nat.reduceEqDiff, Nat.reduceAdd, Nat.reduceMul, Nat.reduceLeDiff, Nat.reduceLT, Int.reduceNeg, DF, eff, Nat.reduceSub, fwrap_i64]
    simp (disch := omega) only [evs, ↓reduceIte, Nat.reduceEqDiff, Nat.reduceAdd, Nat.reduceMul, Nat.reduceLeDiff, Nat.reduceLT, Int.reduceNeg, DF, eff, Nat.reduceSub, fwrap_i64, ol.ld1, os.ld1, or.ld1, pv_some, o.ld1]
    refine OQ_does (tall_ok arr) ?_
    rintro _ _ ⟨rfl, rfl⟩
    simp (disch := omega) only [evs, ↓reduceIte, Nat.reduceEqDiff, Nat.reduceAdd, Nat.reduceMul, Nat.reduceLeDiff, Nat.reduceLT, Int.reduceNeg, DF, eff, Nat.reduceSub, fwrap_i64]
    simp (disch := omega) only [evs, ↓reduceIte, Nat.reduceEqDiff, Nat.reduceAdd, Nat.reduceMul, Nat.reduceLeDiff, Nat.reduceLT, Int.reduceNeg, DF, eff, Nat.reduceSub, fwrap_i64, ol.ld1, os.ld1, or.ld1, pv_some, o.ld1]
    split
    · rename_i hlt
      cases rl with
      | nil => have := Tr.tall_nn rr; simp [Tr.tall] at hlt; omega
      | node ml ms mr =>
        obtain ⟨b', pml, pmr, rfl, o', aml, amr⟩ := arl
        have f2 : Fit ((l.list ++ s :: ml.list) ++ ms :: (mr.list ++ rs :: rr.list)) := by simpa [Tr.list] using f
        simp (disch := omega) only [evs, ↓reduceIte, Nat.reduceEqDiff, Nat.reduceAdd, Nat.reduceMul, Nat.reduceLeDiff, Nat.reduceLT, Int.reduceNeg, DF, eff, Nat.reduceSub, fwrap_i64, ol.ld1, os.ld1, or.ld1, pv_some, o.ld1, o'.ld1]
        refine OQ_does (over_ok w al aml f2.left) ?_
        rintro _ h1 ⟨b1, rfl, a1, fr1⟩
        simp (disch := omega) only [evs, ↓reduceIte, Nat.reduceEqDiff, Nat.reduceAdd, Nat.reduceMul, Nat.reduceLeDiff, Nat.reduceLT, Int.reduceNeg, DF, eff, Nat.reduceSub, fwrap_i64, (fr1.get ol).ld1, (fr1.get os).ld1, (fr1.get or).ld1, pv_some, (fr1.get o).ld1, (fr1.get o').ld1]
        refine OQ_does (over_ok fr1.wf (amr.fr fr1) (arr.fr fr1) f2.right.cons) ?_
        rintro _ h2 ⟨b2, rfl, a2, fr2⟩
        simp (disch := omega) only [evs, ↓reduceIte, Nat.reduceEqDiff, Nat.reduceAdd, Nat.reduceMul, Nat.reduceLeDiff, Nat.reduceLT, Int.reduceNeg, DF, eff, Nat.reduceSub, fwrap_i64, (fr1.get ol).ld1, (fr1.get os).ld1, (fr1.get or).ld1, pv_some, (fr1.get o).ld1, (fr1.get o').ld1]
        refine OQ_does (over_ok fr2.wf (a1.fr fr2) a2 f2) ?_
        rintro _ h3 ⟨b3, rfl, a3, fr3⟩
        have fr12 := fr1.then fr2
        simp (disch := omega) only [evs, ↓reduceIte, Nat.reduceEqDiff, Nat.reduceAdd, Nat.reduceMul, Nat.reduceLeDiff, Nat.reduceLT, Int.reduceNeg, DF, eff, Nat.reduceSub, fwrap_i64, ol.ld1, os.ld1, or.ld1, o.ld1, o'.ld1, (fr1.get ol).ld1, (fr1.get os).ld1, (fr1.get or).ld1, pv_some, (fr1.get o).ld1, (fr1.get o').ld1, (fr12.get o').ld1]
        exact ⟨_, _, (pv_some _).symm, a3, by simp [Tr.list], fr12.then fr3⟩
    · refine OQ_does (over_ok w al arl f1.left) ?_
      rintro _ h1 ⟨b1, rfl, a1, fr1⟩
      simp (disch := omega) only [evs, ↓reduceIte, Nat.reduceEqDiff, Nat.reduceAdd, Nat.reduceMul, Nat.reduceLeDiff, Nat.reduceLT, Int.reduceNeg, DF, eff, Nat.reduceSub, fwrap_i64, (fr1.get ol).ld1, (fr1.get os).ld1, (fr1.get or).ld1, pv_some, (fr1.get o).ld1]
      refine OQ_does (over_ok fr1.wf a1 (arr.fr fr1) f1) ?_
      rintro _ h2 ⟨b2, rfl, a2, fr2⟩
      simp (disch := omega) only [evs, ↓reduceIte, Nat.reduceEqDiff, Nat.reduceAdd, Nat.reduceMul, Nat.reduceLeDiff, Nat.reduceLT, Int.reduceNeg, DF, eff, Nat.reduceSub, fwrap_i64, ol.ld1, os.ld1, or.ld1, o.ld1, (fr1.get ol).ld1, (fr1.get os).ld1, (fr1.get or).ld1, pv_some, (fr1.get o).ld1]
      exact ⟨_, _, (pv_some _).symm, a2, by simp [Tr.list], fr1.then fr2⟩
theorem bal3_ok {h : Heap} {l r : Tr} {s : Int} {pl pr : Option Nat} {bl bs br : Nat} (w : WF h) (al : At h l pl) (ar : At h r pr) (f : Fit (l.list ++ s :: r.list)) (ht : 0 < l.tall)
    (ol : Own h bl [pv pl]) (os : Own h bs [.int .i64 s]) (or : Own h br [pv pr]) :
    Does go 133 [.ptr bl 0, .ptr bs 0, .ptr br 0] h fun v h' => ∃ t p, v = pv p ∧ At h' t p ∧ t.list = l.list ++ s :: r.list ∧ Fr [] h h' := by
  cases l with
  | nil => simp [Tr.tall] at ht
  | node ll ls lr =>
    obtain ⟨b, pll, plr, rfl, o, all, alr⟩ := al
    have f1 : Fit (ll.list ++ ls :: (lr.list ++ s :: r.list)) := by simpa [Tr.list] using f
    refine does_fn g133 rfl ?_
    simp (disch := omega) only [fn133, evs, ↓reduceIte, Nat.reduceEqDiff, Nat.reduceAdd, Nat.reduceMul, Nat.reduceLeDiff, Nat.reduceLT, Int.reduceNeg, DF, eff, Nat.reduceSub, fwrap_i64, ol.ld1, os.ld1, or.ld1, pv_some, o.ld1]
    refine OQ_does (tall_ok alr) ?_
    rintro _ _ ⟨rfl, rfl⟩
    simp (disch := omega) only [evs, ↓reduceIte, Nat.reduceEqDiff, Nat.reduceAdd, Nat.reduceMul, Nat.reduceLeDiff, Nat.reduceLT, Int.reduceNeg, DF, eff, Nat.reduceSub, fwrap_i64]
    simp (disch := omega) only [evs, ↓reduceIte, Nat.reduceEqDiff, Nat.reduceAdd, Nat.reduceMul, Nat.reduceLeDiff, Nat.reduceLT, Int.reduceNeg, DF, eff, Nat.reduceSub, fwrap_i64, ol.ld1, os.ld1, or.ld1, pv_some, o.ld1]
    refine OQ_does (tall_ok all) ?_
    rintro _ _ ⟨rfl, rfl⟩
    simp (disch := omega) only [evs, ↓reduceIte, Nat.reduceEqDiff, Nat.reduceAdd, Nat.reduceMul, Nat.reduceLeDiff, Nat.reduceLT, Int.reduceNeg, DF, eff, Nat.reduceSub, fwrap_i64]
    simp (disch := omega) only [evs, ↓reduceIte, Nat.reduceEqDiff, Nat.reduceAdd, Nat.reduceMul, Nat.reduceLeDiff, Nat.reduceLT, Int.reduceNeg, DF, eff, Nat.reduceSub, fwrap_i64, ol.ld1, os.ld1, or.ld1, pv_some, o.ld1]
    split
    · rename_i hlt
      cases lr with
      | nil => have := Tr.tall_nn ll; simp [Tr.tall] at hlt; omega
      | node ml ms mr =>
        obtain ⟨b', pml, pmr, rfl, o', aml, amr⟩ := alr
        have f2 : Fit ((ll.list ++ ls :: ml.list) ++ ms :: (mr.list ++ s :: r.list)) := by simpa [Tr.list] using f
        simp (disch := omega) only [evs, ↓reduceIte, Nat.reduceEqDiff, Nat.reduceAdd, Nat.reduceMul, Nat.reduceLeDiff, Nat.reduceLT, Int.reduceNeg, DF, eff, Nat.reduceSub, fwrap_i64, ol.ld1, os.ld1, or.ld1, pv_some, o.ld1, o'.ld1]
        refine OQ_does (over_ok w all aml f2.left) ?_
        rintro _ h1 ⟨b1, rfl, a1, fr1⟩
        simp (disch := omega) only [evs, ↓reduceIte, Nat.reduceEqDiff, Nat.reduceAdd, Nat.reduceMul, Nat.reduceLeDiff, Nat.reduceLT, Int.reduceNeg, DF, eff, Nat.reduceSub, fwrap_i64, (fr1.get ol).ld1, (fr1.get os).ld1, (fr1.get or).ld1, pv_some, (fr1.get o).ld1, (fr1.get o').ld1]
        refine OQ_does (over_ok fr1.wf (amr.fr fr1) (ar.fr fr1) f2.right.cons) ?_
        rintro _ h2 ⟨b2, rfl, a2, fr2⟩
        simp (disch := omega) only [evs, ↓reduceIte, Nat.reduceEqDiff, Nat.reduceAdd, Nat.reduceMul, Nat.reduceLeDiff, Nat.reduceLT, Int.reduceNeg, DF, eff, Nat.reduceSub, fwrap_i64, (fr1.get ol).ld1, (fr1.get os).ld1, (fr1.get or).ld1, pv_some, (fr1.get o).ld1, (fr1.get o').ld1]
        refine OQ_does (over_ok fr2.wf (a1.fr fr2) a2 f2) ?_
        rintro _ h3 ⟨b3, rfl, a3, fr3⟩
        have fr12 := fr1.then fr2
        simp (disch := omega) only [evs, ↓reduceIte, Nat.reduceEqDiff, Nat.reduceAdd, Nat.reduceMul, Nat.reduceLeDiff, Nat.reduceLT, Int.reduceNeg, DF, eff, Nat.reduceSub, fwrap_i64, ol.ld1, os.ld1, or.ld1, o.ld1, o'.ld1, (fr1.get ol).ld1, (fr1.get os).ld1, (fr1.get or).ld1, pv_some, (fr1.get o).ld1, (fr1.get o').ld1, (fr12.get o').ld1]
        exact ⟨_, _, (pv_some _).symm, a3, by simp [Tr.list], fr12.then fr3⟩
    · refine OQ_does (over_ok w alr ar f1.right.cons) ?_
      rintro _ h1 ⟨b1, rfl, a1, fr1⟩
      simp (disch := omega) only [evs, ↓reduceIte, Nat.reduceEqDiff, Nat.reduceAdd, Nat.reduceMul, Nat.reduceLeDiff, Nat.reduceLT, Int.reduceNeg, DF, eff, Nat.reduceSub, fwrap_i64, (fr1.get ol).ld1, (fr1.get os).ld1, (fr1.get or).ld1, pv_some, (fr1.get o).ld1]
      refine OQ_does (over_ok fr1.wf (all.fr fr1) a1 f1) ?_
      rintro _ h2 ⟨b2, rfl, a2, fr2⟩
      simp (disch := omega) only [evs, ↓reduceIte, Nat.reduceEqDiff, Nat.reduceAdd, Nat.reduceMul, Nat.reduceLeDiff, Nat.reduceLT, Int.reduceNeg, DF, eff, Nat.reduceSub, fwrap_i64, ol.ld1, os.ld1, or.ld1, o.ld1, (fr1.get ol).ld1, (fr1.get os).ld1, (fr1.get or).ld1, pv_some, (fr1.get o).ld1]
      exact ⟨_, _, (pv_some _).symm, a2, by simp [Tr.list], fr1.then fr2⟩
theorem balanced_ok {h : Heap} {l r : Tr} {s : Int} {pl pr : Option Nat} (w : WF h) (al : At h l pl) (ar : At h r pr) (f : Fit (l.list ++ s :: r.list)) :
    Does go 126 [pv pl, .int .i64 s, pv pr] h fun v h' => ∃ t p, v = pv p ∧ At h' t p ∧ t.list = l.list ++ s :: r.list ∧ Fr [] h h' := by
  have l1 := Tr.many_eq l; have l3 := Tr.tall_nn l; have l4 := Tr.tall_le l
  have r1 := Tr.many_eq r; have r3 := Tr.tall_nn r; have r4 := Tr.tall_le r
  have f3 := f.2.2
  simp only [List.length_append, List.length_cons] at f3
  obtain ⟨h1, e1⟩ : ∃ h1, h1 = halloc h [pv pl] := ⟨_, rfl⟩
  obtain ⟨h2, e2⟩ : ∃ h2, h2 = halloc h1 [.int .i64 s] := ⟨_, rfl⟩
  obtain ⟨h3, e3⟩ : ∃ h3, h3 = halloc h2 [pv pr] := ⟨_, rfl⟩
  have F1 : Fr [] h h1 := e1 ▸ Fr.halloc w _
  have F2 : Fr [] h1 h2 := e2 ▸ Fr.halloc F1.wf _
  have F3 : Fr [] h2 h3 := e3 ▸ Fr.halloc F2.wf _
  have ol : Own h3 h.next [pv pl] := F3.get (F2.get (e1 ▸ Own.new w _))
  have os : Own h3 h1.next [.int .i64 s] := F3.get (e2 ▸ Own.new F1.wf _)
  have or : Own h3 h2.next [pv pr] := e3 ▸ Own.new F2.wf _
  have F := (F1.then F2).then F3
  have al' := al.fr F
  have ar' := ar.fr F
  refine does_fn g126 rfl ?_
  simp (disch := omega) only [fn126, evs, ↓reduceIte, Nat.reduceEqDiff, Nat.reduceAdd, Nat.reduceMul, Nat.reduceLeDiff, Nat.reduceLT, Int.reduceNeg, DF, eff, Nat.reduceSub, fwrap_i64, ← e1, ← e2, ← e3, ol.ld1, os.ld1, or.ld1]
  refine OQ_does (tall_ok ar') ?_
  rintro _ _ ⟨rfl, hh⟩
  simp (disch := omega) only [evs, ↓reduceIte, Nat.reduceEqDiff, Nat.reduceAdd, Nat.reduceMul, Nat.reduceLeDiff, Nat.reduceLT, Int.reduceNeg, DF, eff, Nat.reduceSub, fwrap_i64]
  subst hh
  simp (disch := omega) only [evs, ↓reduceIte, Nat.reduceEqDiff, Nat.reduceAdd, Nat.reduceMul, Nat.reduceLeDiff, Nat.reduceLT, Int.reduceNeg, DF, eff, Nat.reduceSub, fwrap_i64, ol.ld1, os.ld1, or.ld1]
  refine OQ_does (tall_ok al') ?_
  rintro _ _ ⟨rfl, hh⟩
  simp (disch := omega) only [evs, ↓reduceIte, Nat.reduceEqDiff, Nat.reduceAdd, Nat.reduceMul, Nat.reduceLeDiff, Nat.reduceLT, Int.reduceNeg, DF, eff, Nat.reduceSub, fwrap_i64]
  subst hh
  simp (disch := omega) only [evs, ↓reduceIte, Nat.reduceEqDiff, Nat.reduceAdd, Nat.reduceMul, Nat.reduceLeDiff, Nat.reduceLT, Int.reduceNeg, DF, eff, Nat.reduceSub, fwrap_i64, ol.ld1, os.ld1, or.ld1]
  split
  · rename_i hd
    refine OQ_does (bal2_ok F.wf al' ar' f (by omega) ol os or) ?_
    rintro _ h' ⟨t, p, rfl, a, e, fr⟩
    simp (disch := omega) only [evs, ↓reduceIte, Nat.reduceEqDiff, Nat.reduceAdd, Nat.reduceMul, Nat.reduceLeDiff, Nat.reduceLT, Int.reduceNeg, DF, eff, Nat.reduceSub, fwrap_i64]
    exact ⟨_, _, rfl, a, e, F.then fr⟩
  · split
    · refine OQ_does (bal3_ok F.wf al' ar' f (by omega) ol os or) ?_
      rintro _ h' ⟨t, p, rfl, a, e, fr⟩
      simp (disch := omega) only [evs, ↓reduceIte, Nat.reduceEqDiff, Nat.reduceAdd, Nat.reduceMul, Nat.reduceLeDiff, Nat.reduceLT, Int.reduceNeg, DF, eff, Nat.reduceSub, fwrap_i64]
      exact ⟨_, _, rfl, a, e, F.then fr⟩
    · refine OQ_does (bal1_ok F.wf al' ar' f ol os or) ?_
      rintro _ h' ⟨t, p, rfl, a, e, fr⟩
      simp (disch := omega) only [evs, ↓reduceIte, Nat.reduceEqDiff, Nat.reduceAdd, Nat.reduceMul, Nat.reduceLeDiff, Nat.reduceLT, Int.reduceNeg, DF, eff, Nat.reduceSub, fwrap_i64]
      exact ⟨_, _, rfl, a, e, F.then fr⟩
end Go.Ev.Lay

/- Ropes: joined, split, put, find, and the rope's functions. -/
namespace Go.Ev.Lay
set_option maxRecDepth 4000
theorem joined_any : ∀ (n : Nat) {h : Heap} {l r : Tr} {s : Int} {pl pr : Option Nat}, (l.many + r.many).toNat ≤ n → WF h → At h l pl → At h r pr → Fit (l.list ++ s :: r.list) →
    Does go 116 [pv pl, .int .i64 s, pv pr] h fun v h' => ∃ t p, v = pv p ∧ At h' t p ∧ t.list = l.list ++ s :: r.list ∧ Fr [] h h' := by
  intro n
  induction n with
  | zero =>
    intro h l r s pl pr hn w al ar f
    cases l with
    | node ll ls lr => have a := Tr.many_nn ll; have b := Tr.many_nn lr; have c := Tr.many_nn r; simp only [Tr.many] at hn; omega
    | nil => cases r with
      | node ll ls lr => have a := Tr.many_nn ll; have b := Tr.many_nn lr; simp only [Tr.many] at hn; omega
      | nil =>
        refine does_fn g116 rfl ?_
        simp (disch := omega) only [fn116, evs, ↓reduceIte, Nat.reduceEqDiff, Nat.reduceAdd, Nat.reduceMul, Nat.reduceLeDiff, Nat.reduceLT, Int.reduceNeg, DF, eff, Nat.reduceSub, fwrap_i64]
        refine OQ_does (tall_ok al) ?_
        rintro _ _ ⟨rfl, rfl⟩
        simp (disch := omega) only [evs, ↓reduceIte, Nat.reduceEqDiff, Nat.reduceAdd, Nat.reduceMul, Nat.reduceLeDiff, Nat.reduceLT, Int.reduceNeg, DF, eff, Nat.reduceSub, fwrap_i64]
        refine OQ_does (tall_ok ar) ?_
        rintro _ _ ⟨rfl, rfl⟩
        simp (disch := omega) only [evs, ↓reduceIte, Nat.reduceEqDiff, Nat.reduceAdd, Nat.reduceMul, Nat.reduceLeDiff, Nat.reduceLT, Int.reduceNeg, DF, eff, Nat.reduceSub, fwrap_i64]
        simp (disch := omega) only [evs, ↓reduceIte, Nat.reduceEqDiff, Nat.reduceAdd, Nat.reduceMul, Nat.reduceLeDiff, Nat.reduceLT, Int.reduceNeg, DF, eff, Nat.reduceSub, fwrap_i64, Tr.tall]
        simp (disch := omega) only [evs, ↓reduceIte, Nat.reduceEqDiff, Nat.reduceAdd, Nat.reduceMul, Nat.reduceLeDiff, Nat.reduceLT, Int.reduceNeg, DF, eff, Nat.reduceSub, fwrap_i64, show ¬ ((0 : Int) + 1 < 0) by omega]
        refine OQ_does (tall_ok ar) ?_
        rintro _ _ ⟨rfl, rfl⟩
        simp (disch := omega) only [evs, ↓reduceIte, Nat.reduceEqDiff, Nat.reduceAdd, Nat.reduceMul, Nat.reduceLeDiff, Nat.reduceLT, Int.reduceNeg, DF, eff, Nat.reduceSub, fwrap_i64]
        refine OQ_does (tall_ok al) ?_
        rintro _ _ ⟨rfl, rfl⟩
        simp (disch := omega) only [evs, ↓reduceIte, Nat.reduceEqDiff, Nat.reduceAdd, Nat.reduceMul, Nat.reduceLeDiff, Nat.reduceLT, Int.reduceNeg, DF, eff, Nat.reduceSub, fwrap_i64]
        simp (disch := omega) only [evs, ↓reduceIte, Nat.reduceEqDiff, Nat.reduceAdd, Nat.reduceMul, Nat.reduceLeDiff, Nat.reduceLT, Int.reduceNeg, DF, eff, Nat.reduceSub, fwrap_i64, Tr.tall]
        simp (disch := omega) only [evs, ↓reduceIte, Nat.reduceEqDiff, Nat.reduceAdd, Nat.reduceMul, Nat.reduceLeDiff, Nat.reduceLT, Int.reduceNeg, DF, eff, Nat.reduceSub, fwrap_i64, show ¬ ((0 : Int) + 1 < 0) by omega]
        refine OQ_does (over_ok w al ar f) ?_
        rintro _ h' ⟨b, rfl, a, fr⟩
        simp (disch := omega) only [evs, ↓reduceIte, Nat.reduceEqDiff, Nat.reduceAdd, Nat.reduceMul, Nat.reduceLeDiff, Nat.reduceLT, Int.reduceNeg, DF, eff, Nat.reduceSub, fwrap_i64]
        exact ⟨_, _, rfl, a, rfl, fr⟩
  | succ n ih =>
    intro h l r s pl pr hn w al ar f
    have l1 := Tr.many_eq l; have l3 := Tr.tall_nn l; have l4 := Tr.tall_le l
    have r1 := Tr.many_eq r; have r3 := Tr.tall_nn r; have r4 := Tr.tall_le r
    have f3 := f.2.2
    simp only [List.length_append, List.length_cons] at f3
    refine does_fn g116 rfl ?_
    simp (disch := omega) only [fn116, evs, ↓reduceIte, Nat.reduceEqDiff, Nat.reduceAdd, Nat.reduceMul, Nat.reduceLeDiff, Nat.reduceLT, Int.reduceNeg, DF, eff, Nat.reduceSub, fwrap_i64]
    refine OQ_does (tall_ok al) ?_
    rintro _ _ ⟨rfl, rfl⟩
    simp (disch := omega) only [evs, ↓reduceIte, Nat.reduceEqDiff, Nat.reduceAdd, Nat.reduceMul, Nat.reduceLeDiff, Nat.reduceLT, Int.reduceNeg, DF, eff, Nat.reduceSub, fwrap_i64]
    refine OQ_does (tall_ok ar) ?_
    rintro _ _ ⟨rfl, rfl⟩
    simp (disch := omega) only [evs, ↓reduceIte, Nat.reduceEqDiff, Nat.reduceAdd, Nat.reduceMul, Nat.reduceLeDiff, Nat.reduceLT, Int.reduceNeg, DF, eff, Nat.reduceSub, fwrap_i64]
    split
    · rename_i hlt
      cases l with
      | nil => simp only [Tr.tall] at hlt; omega
      | node ll ls lr =>
        obtain ⟨b, pll, plr, rfl, o, all, alr⟩ := al
        have f1 : Fit (ll.list ++ ls :: (lr.list ++ s :: r.list)) := by simpa [Tr.list] using f
        simp (disch := omega) only [evs, ↓reduceIte, Nat.reduceEqDiff, Nat.reduceAdd, Nat.reduceMul, Nat.reduceLeDiff, Nat.reduceLT, Int.reduceNeg, DF, eff, Nat.reduceSub, fwrap_i64, pv_some, o.ld1]
        refine OQ_does (ih (l := lr) (r := r) (by have a := Tr.many_nn ll; simp only [Tr.many] at hn; omega) w alr ar f1.right.cons) ?_
        rintro _ h1 ⟨t1, p1, rfl, a1, e1, fr1⟩
        simp (disch := omega) only [evs, ↓reduceIte, Nat.reduceEqDiff, Nat.reduceAdd, Nat.reduceMul, Nat.reduceLeDiff, Nat.reduceLT, Int.reduceNeg, DF, eff, Nat.reduceSub, fwrap_i64, (fr1.get o).ld1]
        refine OQ_does (balanced_ok fr1.wf (all.fr fr1) a1 (by rw [e1]; exact f1)) ?_
        rintro _ h2 ⟨t2, p2, rfl, a2, e2, fr2⟩
        simp (disch := omega) only [evs, ↓reduceIte, Nat.reduceEqDiff, Nat.reduceAdd, Nat.reduceMul, Nat.reduceLeDiff, Nat.reduceLT, Int.reduceNeg, DF, eff, Nat.reduceSub, fwrap_i64, o.ld1, (fr1.get o).ld1]
        exact ⟨_, _, rfl, a2, by rw [e2, e1]; simp [Tr.list], fr1.then fr2⟩
    · refine OQ_does (tall_ok ar) ?_
      rintro _ _ ⟨rfl, rfl⟩
      simp (disch := omega) only [evs, ↓reduceIte, Nat.reduceEqDiff, Nat.reduceAdd, Nat.reduceMul, Nat.reduceLeDiff, Nat.reduceLT, Int.reduceNeg, DF, eff, Nat.reduceSub, fwrap_i64]
      refine OQ_does (tall_ok al) ?_
      rintro _ _ ⟨rfl, rfl⟩
      simp (disch := omega) only [evs, ↓reduceIte, Nat.reduceEqDiff, Nat.reduceAdd, Nat.reduceMul, Nat.reduceLeDiff, Nat.reduceLT, Int.reduceNeg, DF, eff, Nat.reduceSub, fwrap_i64]
      split
      · rename_i hlt
        cases r with
        | nil => simp only [Tr.tall] at hlt; omega
        | node rl rs rr =>
          obtain ⟨b, prl, prr, rfl, o, arl, arr⟩ := ar
          have f1 : Fit ((l.list ++ s :: rl.list) ++ rs :: rr.list) := by simpa [Tr.list] using f
          simp (disch := omega) only [evs, ↓reduceIte, Nat.reduceEqDiff, Nat.reduceAdd, Nat.reduceMul, Nat.reduceLeDiff, Nat.reduceLT, Int.reduceNeg, DF, eff, Nat.reduceSub, fwrap_i64, pv_some, o.ld1]
          refine OQ_does (ih (l := l) (r := rl) (by have a := Tr.many_nn rr; simp only [Tr.many] at hn; omega) w al arl f1.left) ?_
          rintro _ h1 ⟨t1, p1, rfl, a1, e1, fr1⟩
          simp (disch := omega) only [evs, ↓reduceIte, Nat.reduceEqDiff, Nat.reduceAdd, Nat.reduceMul, Nat.reduceLeDiff, Nat.reduceLT, Int.reduceNeg, DF, eff, Nat.reduceSub, fwrap_i64, (fr1.get o).ld1]
          refine OQ_does (balanced_ok fr1.wf a1 (arr.fr fr1) (by rw [e1]; exact f1)) ?_
          rintro _ h2 ⟨t2, p2, rfl, a2, e2, fr2⟩
          simp (disch := omega) only [evs, ↓reduceIte, Nat.reduceEqDiff, Nat.reduceAdd, Nat.reduceMul, Nat.reduceLeDiff, Nat.reduceLT, Int.reduceNeg, DF, eff, Nat.reduceSub, fwrap_i64, o.ld1, (fr1.get o).ld1]
          exact ⟨_, _, rfl, a2, by rw [e2, e1]; simp [Tr.list], fr1.then fr2⟩
      · refine OQ_does (over_ok w al ar f) ?_
        rintro _ h' ⟨b, rfl, a, fr⟩
        simp (disch := omega) only [evs, ↓reduceIte, Nat.reduceEqDiff, Nat.reduceAdd, Nat.reduceMul, Nat.reduceLeDiff, Nat.reduceLT, Int.reduceNeg, DF, eff, Nat.reduceSub, fwrap_i64]
        exact ⟨_, _, rfl, a, rfl, fr⟩
theorem joined_ok {h : Heap} {l r : Tr} {s : Int} {pl pr : Option Nat} (w : WF h) (al : At h l pl) (ar : At h r pr) (f : Fit (l.list ++ s :: r.list)) :
    Does go 116 [pv pl, .int .i64 s, pv pr] h fun v h' => ∃ t p, v = pv p ∧ At h' t p ∧ t.list = l.list ++ s :: r.list ∧ Fr [] h h' :=
  joined_any _ (Nat.le_refl _) w al ar f
theorem Fit.sub {l m : List Int} (f : Fit l) (h : m.Sublist l) : Fit m := by
  obtain ⟨a, b, c⟩ := f
  have hs : ∀ {l m : List Int}, m.Sublist l → (∀ x ∈ l, 0 ≤ x) → m.sum ≤ l.sum := by
    intro l m h
    induction h with
    | slnil => intro _; simp
    | cons x h ih => intro a; have := ih (fun y hy => a y (by simp [hy])); have := a x (by simp); simp; omega
    | cons_cons x h ih => intro a; have := ih (fun y hy => a y (by simp [hy])); simp; omega
  exact ⟨fun x hx => a x (h.subset hx), by have := hs h a; omega, by have := h.length_le; omega⟩
theorem take_node (a b : List Int) (s : Int) (k : Nat) : (a ++ s :: b).take (a.length + 1 + k) = a ++ s :: b.take k := by
  induction a with
  | nil => simp [Nat.add_comm 1 k]
  | cons x a ih => simp only [List.cons_append, List.length_cons, show a.length + 1 + 1 + k = (a.length + 1 + k) + 1 by omega, List.take_succ_cons, ih]
theorem drop_node (a b : List Int) (s : Int) (k : Nat) : (a ++ s :: b).drop (a.length + 1 + k) = b.drop k := by
  induction a with
  | nil => simp [Nat.add_comm 1 k]
  | cons x a ih => simp only [List.cons_append, List.length_cons, show a.length + 1 + 1 + k = (a.length + 1 + k) + 1 by omega, List.drop_succ_cons, ih]
theorem split_ok : ∀ {t : Tr} {h : Heap} {p : Option Nat} {at' : Int}, WF h → At h t p → Fit t.list → 0 ≤ at' → at' ≤ 1000000 →
    Does go 114 [pv p, .int .i64 at'] h fun v h' => ∃ t1 t2 p1 p2, v = .tup [pv p1, pv p2] ∧ At h' t1 p1 ∧ At h' t2 p2 ∧ t1.list = t.list.take at'.toNat ∧ t2.list = t.list.drop at'.toNat ∧ Fr [] h h' := by
  intro t
  induction t with
  | nil =>
    intro h p at' w a f h0 h1
    have a : p = none := a
    subst a
    refine does_fn g114 rfl ?_
    simp (disch := omega) only [fn114, evs, ↓reduceIte, Nat.reduceEqDiff, Nat.reduceAdd, Nat.reduceMul, Nat.reduceLeDiff, Nat.reduceLT, Int.reduceNeg, DF, eff, Nat.reduceSub, fwrap_i64, pv_none]
    exact ⟨.nil, .nil, none, none, rfl, rfl, rfl, by simp [Tr.list], by simp [Tr.list], Fr.refl w⟩
  | node l s r ihl ihr =>
    intro h p at' w a f h0 h1
    obtain ⟨b, pl, pr, rfl, o, al, ar⟩ := a
    have l1 := Tr.many_eq l
    have f3 := f.2.2
    simp only [Tr.list, List.length_append, List.length_cons] at f3
    have f1 : Fit (l.list ++ s :: r.list) := f
    refine does_fn g114 rfl ?_
    simp (disch := omega) only [fn114, evs, ↓reduceIte, Nat.reduceEqDiff, Nat.reduceAdd, Nat.reduceMul, Nat.reduceLeDiff, Nat.reduceLT, Int.reduceNeg, DF, eff, Nat.reduceSub, fwrap_i64, pv_some, o.ld1]
    refine OQ_does (count_ok al) ?_
    rintro _ _ ⟨rfl, rfl⟩
    simp (disch := omega) only [evs, ↓reduceIte, Nat.reduceEqDiff, Nat.reduceAdd, Nat.reduceMul, Nat.reduceLeDiff, Nat.reduceLT, Int.reduceNeg, DF, eff, Nat.reduceSub, fwrap_i64]
    split
    · rename_i hlt
      simp (disch := omega) only [evs, ↓reduceIte, Nat.reduceEqDiff, Nat.reduceAdd, Nat.reduceMul, Nat.reduceLeDiff, Nat.reduceLT, Int.reduceNeg, DF, eff, Nat.reduceSub, fwrap_i64, o.ld1]
      refine OQ_does (ihr w ar f1.right.cons (by omega) (by omega)) ?_
      rintro _ h1 ⟨t1, t2, p1, p2, rfl, a1, a2, e1, e2, fr1⟩
      simp (disch := omega) only [evs, ↓reduceIte, Nat.reduceEqDiff, Nat.reduceAdd, Nat.reduceMul, Nat.reduceLeDiff, Nat.reduceLT, Int.reduceNeg, DF, eff, Nat.reduceSub, fwrap_i64, (fr1.get o).ld1]
      refine OQ_does (joined_ok fr1.wf (al.fr fr1) a1 (by rw [e1]; exact f1.sub ((List.Sublist.refl _).append ((List.take_sublist _ _).cons_cons _)))) ?_
      rintro _ h2 ⟨t3, p3, rfl, a3, e3, fr2⟩
      simp (disch := omega) only [evs, ↓reduceIte, Nat.reduceEqDiff, Nat.reduceAdd, Nat.reduceMul, Nat.reduceLeDiff, Nat.reduceLT, Int.reduceNeg, DF, eff, Nat.reduceSub, fwrap_i64, o.ld1, (fr1.get o).ld1]
      have e : at'.toNat = l.list.length + 1 + (at' - l.many - 1).toNat := by omega
      refine ⟨t3, t2, p3, p2, rfl, a3, a2.fr fr2, ?_, ?_, fr1.then fr2⟩
      · rw [e3, e1, e, Tr.list, take_node]
      · rw [e2, e, Tr.list, drop_node]
    · rename_i hlt
      simp (disch := omega) only [evs, ↓reduceIte, Nat.reduceEqDiff, Nat.reduceAdd, Nat.reduceMul, Nat.reduceLeDiff, Nat.reduceLT, Int.reduceNeg, DF, eff, Nat.reduceSub, fwrap_i64, o.ld1]
      refine OQ_does (ihl w al f1.left h0 h1) ?_
      rintro _ h1 ⟨t1, t2, p1, p2, rfl, a1, a2, e1, e2, fr1⟩
      simp (disch := omega) only [evs, ↓reduceIte, Nat.reduceEqDiff, Nat.reduceAdd, Nat.reduceMul, Nat.reduceLeDiff, Nat.reduceLT, Int.reduceNeg, DF, eff, Nat.reduceSub, fwrap_i64, (fr1.get o).ld1]
      refine OQ_does (joined_ok fr1.wf a2 (ar.fr fr1) (by rw [e2]; exact f1.sub ((List.drop_sublist _ _).append (List.Sublist.refl _)))) ?_
      rintro _ h2 ⟨t3, p3, rfl, a3, e3, fr2⟩
      simp (disch := omega) only [evs, ↓reduceIte, Nat.reduceEqDiff, Nat.reduceAdd, Nat.reduceMul, Nat.reduceLeDiff, Nat.reduceLT, Int.reduceNeg, DF, eff, Nat.reduceSub, fwrap_i64, o.ld1, (fr1.get o).ld1]
      refine ⟨t1, t3, p1, p3, rfl, a1.fr fr2, a3, ?_, ?_, fr1.then fr2⟩
      · rw [e1, Tr.list, List.take_append_of_le_length (by omega)]
      · rw [e3, e2, Tr.list, List.drop_append_of_le_length (by omega)]
theorem put_ok {h : Heap} {l r : Tr} {pl pr : Option Nat} (w : WF h) (al : At h l pl) (ar : At h r pr) (f : Fit (l.list ++ r.list)) :
    Does go 104 [pv pl, pv pr] h fun v h' => ∃ t p, v = pv p ∧ At h' t p ∧ t.list = l.list ++ r.list ∧ Fr [] h h' := by
  cases r with
  | nil =>
    have a : pr = none := ar
    subst a
    refine does_fn g104 rfl ?_
    simp (disch := omega) only [fn104, evs, ↓reduceIte, Nat.reduceEqDiff, Nat.reduceAdd, Nat.reduceMul, Nat.reduceLeDiff, Nat.reduceLT, Int.reduceNeg, DF, eff, Nat.reduceSub, fwrap_i64, pv_none]
    exact ⟨l, pl, rfl, al, by simp [Tr.list], Fr.refl w⟩
  | node rl rs rr =>
    have ar0 := ar
    obtain ⟨b, prl, prr, rfl, o, arl, arr⟩ := ar
    refine does_fn g104 rfl ?_
    simp (disch := omega) only [fn104, evs, ↓reduceIte, Nat.reduceEqDiff, Nat.reduceAdd, Nat.reduceMul, Nat.reduceLeDiff, Nat.reduceLT, Int.reduceNeg, DF, eff, Nat.reduceSub, fwrap_i64, pv_some]
    refine OQ_does (split_ok (at' := 1) w ar0 f.right (by omega) (by omega)) ?_
    rintro _ h1 ⟨t1, t2, p1, p2, rfl, a1, a2, e1, e2, fr1⟩
    cases t1 with
    | nil => simp [Tr.list] at e1
    | node x y z =>
      obtain ⟨b1, q1, q2, rfl, o1, _, _⟩ := a1
      have ne : (Tr.node rl rs rr).list ≠ [] := by simp [Tr.list]
      obtain ⟨u, us, eu⟩ : ∃ u us, (Tr.node rl rs rr).list = u :: us := by cases hh : (Tr.node rl rs rr).list with
        | nil => exact absurd hh ne
        | cons u us => exact ⟨u, us, rfl⟩
      rw [eu] at e1 e2 f
      simp [Tr.list] at e1 e2
      have hx : x.list = [] ∧ y = u := by
        cases hxx : x.list with
        | nil => rw [hxx] at e1; simp at e1; exact ⟨rfl, e1.1⟩
        | cons i j => rw [hxx] at e1; have := congrArg List.length e1; simp at this
      obtain ⟨_, rfl⟩ := hx
      simp (disch := omega) only [evs, ↓reduceIte, Nat.reduceEqDiff, Nat.reduceAdd, Nat.reduceMul, Nat.reduceLeDiff, Nat.reduceLT, Int.reduceNeg, DF, eff, Nat.reduceSub, fwrap_i64, pv_some, o1.ld1]
      refine OQ_does (joined_ok fr1.wf (al.fr fr1) a2 (by rw [e2]; exact f)) ?_
      rintro _ h2 ⟨t3, p3, rfl, a3, e3, fr2⟩
      simp (disch := omega) only [evs, ↓reduceIte, Nat.reduceEqDiff, Nat.reduceAdd, Nat.reduceMul, Nat.reduceLeDiff, Nat.reduceLT, Int.reduceNeg, DF, eff, Nat.reduceSub, fwrap_i64]
      exact ⟨t3, p3, rfl, a3, by rw [e3, e2, eu], fr1.then fr2⟩
end Go.Ev.Lay

/- Ropes: find, At, Sum, Find. -/
namespace Go.Ev.Lay
set_option maxRecDepth 4000
/-- a write to a block that is no node leaves a tree -/
theorem At.frb {h h' : Heap} {b : Nat} {c : List V} (f : Fr [b] h h') (o : Own h b c) (hc : c.length ≠ 6) : ∀ {t : Tr} {p : Option Nat}, At h t p → At h' t p
  | .nil, _, a => a
  | .node l s r, _, ⟨q, pl, pr, e, oq, al, ar⟩ => ⟨q, pl, pr, e, f.own _ _ (by
      simp only [List.mem_singleton]
      rintro rfl
      have := oq.uniq o
      subst this
      simp at hc) oq, At.frb f o hc al, At.frb f o hc ar⟩
/-- a rope -/
def Rp (h : Heap) (v : V) (l : List Int) : Prop := ∃ t p, v = .agg [pv p] ∧ At h t p ∧ t.list = l ∧ Fit l
theorem Rp.fr {h h' : Heap} {v : V} {l : List Int} (a : Rp h v l) (f : Fr [] h h') : Rp h' v l := by
  obtain ⟨t, p, e, a, x⟩ := a; exact ⟨t, p, e, a.fr f, x⟩
theorem Rp.frb {h h' : Heap} {v : V} {l : List Int} {b : Nat} {c : List V} (a : Rp h v l) (f : Fr [b] h h') (o : Own h b c) (hc : c.length ≠ 6) : Rp h' v l := by
  obtain ⟨t, p, e, a, x⟩ := a; exact ⟨t, p, e, a.frb f o hc, x⟩
theorem Len_ok {h : Heap} {v : V} {l : List Int} (w : WF h) (a : Rp h v l) : Does go 99 [v] h fun u h' => u = .int .i64 l.length ∧ Fr [] h h' := by
  obtain ⟨t, p, rfl, a, rfl, f⟩ := a
  obtain ⟨h1, e_h1⟩ : ∃ h1, h1 = halloc h [pv p] := ⟨_, rfl⟩
  have F_h1 : Fr [] h h1 := e_h1 ▸ Fr.halloc w _
  have o_h1 : Own h1 h.next [pv p] := e_h1 ▸ Own.new w _
  refine does_fn g99 rfl ?_
  simp (disch := omega) only [fn99, evs, ↓reduceIte, Nat.reduceEqDiff, Nat.reduceAdd, Nat.reduceMul, Nat.reduceLeDiff, Nat.reduceLT, Int.reduceNeg, DF, eff, Nat.reduceSub, fwrap_i64, ← e_h1, o_h1.ld1]
  refine OQ_does (count_ok (a.fr F_h1)) ?_
  rintro _ _ ⟨rfl, hh⟩
  simp (disch := omega) only [evs, ↓reduceIte, Nat.reduceEqDiff, Nat.reduceAdd, Nat.reduceMul, Nat.reduceLeDiff, Nat.reduceLT, Int.reduceNeg, DF, eff, Nat.reduceSub, fwrap_i64]
  subst hh
  exact ⟨by rw [Tr.many_eq], F_h1⟩
theorem Total_ok {h : Heap} {v : V} {l : List Int} (w : WF h) (a : Rp h v l) : Does go 47 [v] h fun u h' => u = .int .i64 l.sum ∧ Fr [] h h' := by
  obtain ⟨t, p, rfl, a, rfl, f⟩ := a
  obtain ⟨h1, e_h1⟩ : ∃ h1, h1 = halloc h [pv p] := ⟨_, rfl⟩
  have F_h1 : Fr [] h h1 := e_h1 ▸ Fr.halloc w _
  have o_h1 : Own h1 h.next [pv p] := e_h1 ▸ Own.new w _
  refine does_fn g47 rfl ?_
  simp (disch := omega) only [fn47, evs, ↓reduceIte, Nat.reduceEqDiff, Nat.reduceAdd, Nat.reduceMul, Nat.reduceLeDiff, Nat.reduceLT, Int.reduceNeg, DF, eff, Nat.reduceSub, fwrap_i64, ← e_h1, o_h1.ld1]
  refine OQ_does (total_ok (a.fr F_h1)) ?_
  rintro _ _ ⟨rfl, hh⟩
  simp (disch := omega) only [evs, ↓reduceIte, Nat.reduceEqDiff, Nat.reduceAdd, Nat.reduceMul, Nat.reduceLeDiff, Nat.reduceLT, Int.reduceNeg, DF, eff, Nat.reduceSub, fwrap_i64]
  subst hh
  exact ⟨by rw [Tr.sum_eq], F_h1⟩
theorem getD_left {a b : List Int} {i : Nat} (h : i < a.length) : (a ++ b).getD i 0 = a.getD i 0 := by simp [List.getD, List.getElem?_append_left h]
theorem getD_right {a b : List Int} {i : Nat} (h : a.length ≤ i) : (a ++ b).getD i 0 = b.getD (i - a.length) 0 := by simp [List.getD, List.getElem?_append_right h]
theorem find_ok : ∀ {t : Tr} {h : Heap} {p : Option Nat} {i : Int}, At h t p → 0 ≤ i → i < t.list.length → Fit t.list →
    Does go 111 [pv p, .int .i64 i] h fun u h' => h' = h ∧ ∃ b c, u = .ptr b 0 ∧ Own h b c ∧ nth c 2 = some (.int .i64 (t.list.getD i.toNat 0)) := by
  intro t
  induction t with
  | nil => intro h p i a h0 h1 f; simp [Tr.list] at h1; omega
  | node l s r ihl ihr =>
    intro h p i a h0 h1 f
    obtain ⟨b, pl, pr, rfl, o, al, ar⟩ := a
    have l1 := Tr.many_eq l
    have f3 := f.2.2
    simp only [Tr.list, List.length_append, List.length_cons] at f3 h1
    have f1 : Fit (l.list ++ s :: r.list) := f
    refine does_fn g111 rfl ?_
    simp (disch := omega) only [fn111, evs, ↓reduceIte, Nat.reduceEqDiff, Nat.reduceAdd, Nat.reduceMul, Nat.reduceLeDiff, Nat.reduceLT, Int.reduceNeg, DF, eff, Nat.reduceSub, fwrap_i64, pv_some, o.ld1]
    refine OQ_does (count_ok al) ?_
    rintro _ _ ⟨rfl, rfl⟩
    simp (disch := omega) only [evs, ↓reduceIte, Nat.reduceEqDiff, Nat.reduceAdd, Nat.reduceMul, Nat.reduceLeDiff, Nat.reduceLT, Int.reduceNeg, DF, eff, Nat.reduceSub, fwrap_i64]
    split
    · simp (disch := omega) only [evs, ↓reduceIte, Nat.reduceEqDiff, Nat.reduceAdd, Nat.reduceMul, Nat.reduceLeDiff, Nat.reduceLT, Int.reduceNeg, DF, eff, Nat.reduceSub, fwrap_i64, o.ld1]
      refine OQ_does (ihl al h0 (by omega) f1.left) ?_
      rintro _ _ ⟨rfl, b', c', rfl, o', e'⟩
      simp (disch := omega) only [evs, ↓reduceIte, Nat.reduceEqDiff, Nat.reduceAdd, Nat.reduceMul, Nat.reduceLeDiff, Nat.reduceLT, Int.reduceNeg, DF, eff, Nat.reduceSub, fwrap_i64]
      refine ⟨b', c', rfl, o', ?_⟩
      rw [e', Tr.list, getD_left (by omega)]
    · split
      · simp (disch := omega) only [evs, ↓reduceIte, Nat.reduceEqDiff, Nat.reduceAdd, Nat.reduceMul, Nat.reduceLeDiff, Nat.reduceLT, Int.reduceNeg, DF, eff, Nat.reduceSub, fwrap_i64, o.ld1]
        refine OQ_does (ihr ar (by omega) (by omega) f1.right.cons) ?_
        rintro _ _ ⟨rfl, b', c', rfl, o', e'⟩
        simp (disch := omega) only [evs, ↓reduceIte, Nat.reduceEqDiff, Nat.reduceAdd, Nat.reduceMul, Nat.reduceLeDiff, Nat.reduceLT, Int.reduceNeg, DF, eff, Nat.reduceSub, fwrap_i64]
        refine ⟨b', c', rfl, o', ?_⟩
        rw [e', Tr.list, getD_right (by omega), show i.toNat - l.list.length = (i - l.many - 1).toNat + 1 by omega]; simp
      · refine ⟨b, _, rfl, o, ?_⟩
        rw [nth_succ, nth_succ, nth_zero, Tr.list, getD_right (by omega), show i.toNat - l.list.length = 0 by omega]; simp
theorem RAt_ok {h : Heap} {v : V} {l : List Int} {i : Int} (w : WF h) (a : Rp h v l) :
    Does go 91 [v, .int .i64 i] h fun u h' => (u = if 0 ≤ i ∧ i < l.length then .tup [.int .i64 (l.getD i.toNat 0), .int .i64 0] else .tup [.int .i64 0, .int .i64 4]) ∧ Fr [] h h' := by
  have a0 := a
  obtain ⟨t, p, rfl, a, rfl, f⟩ := a
  obtain ⟨h1, e_h1⟩ : ∃ h1, h1 = halloc h [pv p] := ⟨_, rfl⟩
  have F_h1 : Fr [] h h1 := e_h1 ▸ Fr.halloc w _
  have o_h1 : Own h1 h.next [pv p] := e_h1 ▸ Own.new w _
  have f3 := f.2.2
  by_cases h0 : i < 0
  · refine does_fn g91 rfl ?_
    simp (disch := omega) only [fn91, evs, ↓reduceIte, Nat.reduceEqDiff, Nat.reduceAdd, Nat.reduceMul, Nat.reduceLeDiff, Nat.reduceLT, Int.reduceNeg, DF, eff, Nat.reduceSub, fwrap_i64, ← e_h1, o_h1.ld1, o_h1.ld, h0]
    exact ⟨by rw [if_neg (by omega)], F_h1⟩
  · refine does_fn g91 rfl ?_
    simp (disch := omega) only [fn91, evs, ↓reduceIte, Nat.reduceEqDiff, Nat.reduceAdd, Nat.reduceMul, Nat.reduceLeDiff, Nat.reduceLT, Int.reduceNeg, DF, eff, Nat.reduceSub, fwrap_i64, ← e_h1, o_h1.ld1, o_h1.ld, h0]
    refine OQ_does (Len_ok F_h1.wf (a0.fr F_h1)) ?_
    rintro _ h2 ⟨rfl, F2⟩
    by_cases h3 : (t.list.length : Int) ≤ i
    · simp (disch := omega) only [evs, ↓reduceIte, Nat.reduceEqDiff, Nat.reduceAdd, Nat.reduceMul, Nat.reduceLeDiff, Nat.reduceLT, Int.reduceNeg, DF, eff, Nat.reduceSub, fwrap_i64, h3, h0]
      exact ⟨by rw [if_neg (by omega)], F_h1.then F2⟩
    · simp (disch := omega) only [evs, ↓reduceIte, Nat.reduceEqDiff, Nat.reduceAdd, Nat.reduceMul, Nat.reduceLeDiff, Nat.reduceLT, Int.reduceNeg, DF, eff, Nat.reduceSub, fwrap_i64, h3, h0, (F2.get o_h1).ld1]
      refine OQ_does (find_ok (a.fr (F_h1.then F2)) (by omega) (by omega) f) ?_
      rintro _ _ ⟨rfl, b, c, rfl, o, e⟩
      simp (disch := omega) only [evs, ↓reduceIte, Nat.reduceEqDiff, Nat.reduceAdd, Nat.reduceMul, Nat.reduceLeDiff, Nat.reduceLT, Int.reduceNeg, DF, eff, Nat.reduceSub, fwrap_i64, o.ld1, e]
      exact ⟨by rw [if_pos (by omega)], F_h1.then F2⟩
theorem Sum_ok {h : Heap} {v : V} {l : List Int} {i : Int} (w : WF h) (a : Rp h v l) :
    Does go 90 [v, .int .i64 i] h fun u h' => (u = if 0 ≤ i ∧ i ≤ l.length then .tup [.int .i64 (l.take i.toNat).sum, .int .i64 0] else .tup [.int .i64 0, .int .i64 4]) ∧ Fr [] h h' := by
  have a0 := a
  obtain ⟨t, p, rfl, a, rfl, f⟩ := a
  obtain ⟨h1, e_h1⟩ : ∃ h1, h1 = halloc h [pv p] := ⟨_, rfl⟩
  have F_h1 : Fr [] h h1 := e_h1 ▸ Fr.halloc w _
  have o_h1 : Own h1 h.next [pv p] := e_h1 ▸ Own.new w _
  have f3 := f.2.2
  by_cases h0 : i < 0
  · refine does_fn g90 rfl ?_
    simp (disch := omega) only [fn90, evs, ↓reduceIte, Nat.reduceEqDiff, Nat.reduceAdd, Nat.reduceMul, Nat.reduceLeDiff, Nat.reduceLT, Int.reduceNeg, DF, eff, Nat.reduceSub, fwrap_i64, ← e_h1, o_h1.ld1, o_h1.ld, h0]
    exact ⟨by rw [if_neg (by omega)], F_h1⟩
  · refine does_fn g90 rfl ?_
    simp (disch := omega) only [fn90, evs, ↓reduceIte, Nat.reduceEqDiff, Nat.reduceAdd, Nat.reduceMul, Nat.reduceLeDiff, Nat.reduceLT, Int.reduceNeg, DF, eff, Nat.reduceSub, fwrap_i64, ← e_h1, o_h1.ld1, o_h1.ld, h0]
    refine OQ_does (Len_ok F_h1.wf (a0.fr F_h1)) ?_
    rintro _ h2 ⟨rfl, F2⟩
    by_cases h3 : (t.list.length : Int) < i
    · simp (disch := omega) only [evs, ↓reduceIte, Nat.reduceEqDiff, Nat.reduceAdd, Nat.reduceMul, Nat.reduceLeDiff, Nat.reduceLT, Int.reduceNeg, DF, eff, Nat.reduceSub, fwrap_i64, h3, h0]
      exact ⟨by rw [if_neg (by omega)], F_h1.then F2⟩
    · simp (disch := omega) only [evs, ↓reduceIte, Nat.reduceEqDiff, Nat.reduceAdd, Nat.reduceMul, Nat.reduceLeDiff, Nat.reduceLT, Int.reduceNeg, DF, eff, Nat.reduceSub, fwrap_i64, h3, h0, (F2.get o_h1).ld1]
      have F12 := F_h1.then F2
      refine W_loop (fun k env hh => hh = h2 ∧ ∃ (x : Tr) (q : Option Nat) (j s : Int), env.get 7 = some (pv q) ∧ env.get 1 = some (.int .i64 j) ∧ env.get 6 = some (.int .i64 s) ∧ At h2 x q ∧ Fit x.list ∧
        0 ≤ j ∧ j ≤ x.list.length ∧ 0 ≤ s ∧ s + x.list.sum ≤ 4611686018427387904 ∧ s + (x.list.take j.toNat).sum = (t.list.take i.toNat).sum ∧ k = x.list.length) t.list.length (by omega) ?_ ?_
      · refine ⟨rfl, t, p, i, 0, ?_, ?_, ?_, a.fr F12, f, by omega, by omega, by omega, by have := f.2.1; omega, by omega, rfl⟩
        all_goals simp [T.get_set]
      · rintro k env hh ⟨rfl, x, q, j, s, g7, g1, g6, ax, fx, j0, j1, s0, s1, es, rfl⟩
        cases x with
        | nil =>
          have ax : q = none := ax
          subst ax
          simp (disch := omega) only [evs, ↓reduceIte, Nat.reduceEqDiff, Nat.reduceAdd, Nat.reduceMul, Nat.reduceLeDiff, Nat.reduceLT, Int.reduceNeg, DF, eff, Nat.reduceSub, fwrap_i64, g7, g1, g6, pv_none]
          refine ⟨?_, F12⟩
          rw [if_pos (by omega)]
          simp only [Tr.list, List.take_nil, List.sum_nil] at es
          rw [← es]; simp
        | node l' s' r' =>
          obtain ⟨b, pl, pr, rfl, o, al, ar⟩ := ax
          have l1 := Tr.many_eq l'; have l2 := Tr.sum_eq l'
          have fl := fx
          simp only [Tr.list] at fl j1 s1 es
          have nl := fl.left.nn
          have nr := fl.right.cons.nn
          have ns : 0 ≤ s' := fl.1 s' (by simp)
          have fl3 := fl.2.2
          simp only [List.length_append, List.length_cons, List.sum_append, List.sum_cons] at fl3 j1 s1
          by_cases hj : 0 < j
          · simp (disch := omega) only [evs, ↓reduceIte, Nat.reduceEqDiff, Nat.reduceAdd, Nat.reduceMul, Nat.reduceLeDiff, Nat.reduceLT, Int.reduceNeg, DF, eff, Nat.reduceSub, fwrap_i64, g7, g1, g6, pv_some, hj, o.ld1]
            refine OQ_does (count_ok al) ?_
            rintro _ _ ⟨rfl, rfl⟩
            simp (disch := omega) only [evs, ↓reduceIte, Nat.reduceEqDiff, Nat.reduceAdd, Nat.reduceMul, Nat.reduceLeDiff, Nat.reduceLT, Int.reduceNeg, DF, eff, Nat.reduceSub, fwrap_i64, g7, g1, g6, pv_some, hj, o.ld1]
            by_cases hk : j ≤ l'.many
            · simp (disch := omega) only [evs, ↓reduceIte, Nat.reduceEqDiff, Nat.reduceAdd, Nat.reduceMul, Nat.reduceLeDiff, Nat.reduceLT, Int.reduceNeg, DF, eff, Nat.reduceSub, fwrap_i64, hk, g7, g1, g6, pv_some, o.ld1]
              refine (roundQ_norm _ _ _).2 ⟨l'.list.length, by simp only [Tr.list, List.length_append, List.length_cons]; omega, rfl, l', pl, j, s, (by simp [T.get_set]), (by simp [T.get_set, g1]), (by simp [T.get_set, g6]), al, fl.left, j0, by omega, s0, by omega, ?_, rfl⟩
              rw [← es, List.take_append_of_le_length (by omega)]
            · simp (disch := omega) only [evs, ↓reduceIte, Nat.reduceEqDiff, Nat.reduceAdd, Nat.reduceMul, Nat.reduceLeDiff, Nat.reduceLT, Int.reduceNeg, DF, eff, Nat.reduceSub, fwrap_i64, hk, g7, g1, g6, pv_some, o.ld1]
              refine OQ_does (total_ok al) ?_
              rintro _ _ ⟨rfl, rfl⟩
              simp (disch := omega) only [evs, ↓reduceIte, Nat.reduceEqDiff, Nat.reduceAdd, Nat.reduceMul, Nat.reduceLeDiff, Nat.reduceLT, Int.reduceNeg, DF, eff, Nat.reduceSub, fwrap_i64, g7, g1, g6, pv_some, o.ld1]
              refine (roundQ_norm _ _ _).2 ⟨r'.list.length, by simp only [Tr.list, List.length_append, List.length_cons]; omega, rfl, r', pr, j - (l'.many + 1), s + (l'.sum + s'), (by simp [T.get_set]), (by simp [T.get_set]), (by simp [T.get_set]), ar, fl.right.cons, by omega, by omega, by omega, by omega, ?_, rfl⟩
              rw [← es, show j.toNat = l'.list.length + 1 + (j - (l'.many + 1)).toNat by omega, take_node]
              simp only [List.sum_append, List.sum_cons]; omega
          · simp (disch := omega) only [evs, ↓reduceIte, Nat.reduceEqDiff, Nat.reduceAdd, Nat.reduceMul, Nat.reduceLeDiff, Nat.reduceLT, Int.reduceNeg, DF, eff, Nat.reduceSub, fwrap_i64, g7, g1, g6, pv_some, hj, o.ld1]
            refine ⟨?_, F12⟩
            rw [if_pos (by omega)]
            rw [show j.toNat = 0 by omega] at es
            simp at es
            rw [← es]
/-- the place of an offset in a list of sizes, and the rest -/
def locate : List Int → Int → Nat × Int
  | [], x => (0, x)
  | s :: l, x => if x < s then (0, x) else ((locate l (x - s)).1 + 1, (locate l (x - s)).2)
end Go.Ev.Lay

/- Slices of plain values; fenwicks.Check; grown. -/
namespace Go.Ev.Lay
set_option maxRecDepth 4000
/-- a slice of values of one cell each -/
def Vals {α : Type} (f : α → V) (h : Heap) (v : V) (l : List α) : Prop := Sl h 1 v l.length (l.map f)
theorem Vals.fr {α : Type} {f : α → V} {h h' : Heap} {v : V} {l : List α} (a : Vals f h v l) (r : Fr [] h h') : Vals f h' v l := Sl.fr a r
theorem Vals.len {α : Type} {f : α → V} {h : Heap} {v : V} {l : List α} (a : Vals f h v l) : aP .lenS [v] = some (.int .i64 l.length) := Sl.len a
theorem Vals.ix {α : Type} {f : α → V} {h : Heap} {v : V} {l : List α} (a : Vals f h v l) (k : IntKind) (i : Int) (h0 : 0 ≤ i) (h1 : i < l.length) :
    ∃ b o x, aP (.ixs 1) [v, .int k i] = some (.ptr b o) ∧ hload1 h b o = some (f x) ∧ l[i.toNat]? = some x := by
  obtain ⟨b, o, e, g, _⟩ := Sl.ix a k i h0 h1
  have hi : i.toNat < l.length := by omega
  refine ⟨b, o, l[i.toNat], e, ?_, by simp [hi]⟩
  have := g 0 (by omega)
  simpa [hi] using this
theorem Vals.upto {α : Type} {f : α → V} {h : Heap} {v : V} {l : List α} (a : Vals f h v l) (hv : v ≠ .sliceE) (k : IntKind) (i : Int) (h0 : 0 ≤ i) (h1 : i ≤ l.length) :
    ∃ v', aP (.sl none 1 false true false) [v, .int k i] = some v' ∧ Vals f h v' (l.take i.toNat) := by
  obtain ⟨v', e, s⟩ := Sl.upto a (by omega) hv k i h0 h1
  refine ⟨v', e, ?_⟩
  unfold Vals
  rw [List.length_take, Nat.min_eq_left (by omega), List.map_take]
  simpa using s
theorem Vals.from' {α : Type} {f : α → V} {h : Heap} {v : V} {l : List α} (a : Vals f h v l) (hv : v ≠ .sliceE) (k : IntKind) (i : Int) (h0 : 0 ≤ i) (h1 : i ≤ l.length) :
    ∃ v', aP (.sl none 1 true false false) [v, .int k i] = some v' ∧ Vals f h v' (l.drop i.toNat) := by
  obtain ⟨v', e, s⟩ := Sl.from' a (by omega) hv k i h0 h1
  refine ⟨v', e, ?_⟩
  unfold Vals
  rw [List.length_drop, List.map_drop]
  simpa using s
abbrev Ints (h : Heap) (v : V) (l : List Int) : Prop := Vals (V.int .i64) h v l
abbrev Bools (h : Heap) (v : V) (l : List Bool) : Prop := Vals V.bool h v l
def chk : List Int → Int → Int
  | [], _ => 0
  | s :: l, t => if s < 0 ∨ 2305843009213693952 < s then 12 else if 4611686018427387904 - t < s then 13 else chk l (t + s)
theorem drop_cons {α : Type} {l : List α} {i : Nat} {x : α} (h : l[i]? = some x) : l.drop i = x :: l.drop (i + 1) := by
  have hi : i < l.length := by
    rcases Nat.lt_or_ge i l.length with y | y
    · exact y
    · rw [List.getElem?_eq_none y] at h; cases h
  rw [List.drop_eq_getElem_cons hi]
  congr 1
  rw [List.getElem?_eq_getElem hi] at h; cases h; rfl
theorem Check_ok {h : Heap} {v : V} {l : List Int} (w : WF h) (a : Ints h v l) (hn : l.length ≤ 1000000) :
    Does go 79 [v] h fun u h' => u = .int .i64 (if 4096 < l.length then 3 else chk l 0) ∧ h' = h := by
  by_cases hl : (4096 : Int) < l.length
  · refine does_fn g79 rfl ?_
    simp (disch := omega) only [fn79, evs, ↓reduceIte, Nat.reduceEqDiff, Nat.reduceAdd, Nat.reduceMul, Nat.reduceLeDiff, Nat.reduceLT, Int.reduceNeg, DF, eff, Nat.reduceSub, fwrap_i64, a.len, hl]
    rw [if_pos (by omega)]
  · refine does_fn g79 rfl ?_
    simp (disch := omega) only [fn79, evs, ↓reduceIte, Nat.reduceEqDiff, Nat.reduceAdd, Nat.reduceMul, Nat.reduceLeDiff, Nat.reduceLT, Int.reduceNeg, DF, eff, Nat.reduceSub, fwrap_i64, a.len, hl]
    refine W_loop (fun k env hh => hh = h ∧ ∃ (i : Nat) (t : Int), env.get 11 = some (.int .i64 i) ∧ env.get 3 = some (.int .i64 t) ∧ env.get 9 = some v ∧ env.get 10 = some (.int .i64 l.length) ∧
      i ≤ l.length ∧ 0 ≤ t ∧ t ≤ 4611686018427387904 ∧ chk (l.drop i) t = chk l 0 ∧ k = l.length - i) l.length (by omega) ?_ ?_
    · exact ⟨rfl, 0, 0, (by simp [T.get_set]), (by simp [T.get_set]), (by simp [T.get_set]), (by simp [T.get_set]), by omega, by omega, by omega, by simp, rfl⟩
    · rintro k env hh ⟨rfl, i, t, g11, g3, g9, g10, hi, t0, t1, e, rfl⟩
      by_cases hlt : (i : Int) < l.length
      · obtain ⟨b, o, x, e1, e2, e3⟩ := a.ix .i64 i (by omega) hlt
        simp only [Int.toNat_natCast] at e3
        rw [drop_cons e3, chk] at e
        by_cases h1 : x < 0
        · simp (disch := omega) only [evs, ↓reduceIte, Nat.reduceEqDiff, Nat.reduceAdd, Nat.reduceMul, Nat.reduceLeDiff, Nat.reduceLT, Int.reduceNeg, DF, eff, Nat.reduceSub, fwrap_i64, g11, g3, g9, g10, hlt, e1, e2, h1]
          rw [if_neg (by omega), ← e, if_pos (.inl h1)]
        · by_cases h2 : 2305843009213693952 < x
          · simp (disch := omega) only [evs, ↓reduceIte, Nat.reduceEqDiff, Nat.reduceAdd, Nat.reduceMul, Nat.reduceLeDiff, Nat.reduceLT, Int.reduceNeg, DF, eff, Nat.reduceSub, fwrap_i64, g11, g3, g9, g10, hlt, e1, e2, h1, h2]
            rw [if_neg (by omega), ← e, if_pos (.inr h2)]
          · rw [if_neg (by omega)] at e
            by_cases h3 : 4611686018427387904 - t < x
            · simp (disch := omega) only [evs, ↓reduceIte, Nat.reduceEqDiff, Nat.reduceAdd, Nat.reduceMul, Nat.reduceLeDiff, Nat.reduceLT, Int.reduceNeg, DF, eff, Nat.reduceSub, fwrap_i64, g11, g3, g9, g10, hlt, e1, e2, h1, h2, h3]
              rw [if_neg (by omega), ← e, if_pos h3]
            · simp (disch := omega) only [evs, ↓reduceIte, Nat.reduceEqDiff, Nat.reduceAdd, Nat.reduceMul, Nat.reduceLeDiff, Nat.reduceLT, Int.reduceNeg, DF, eff, Nat.reduceSub, fwrap_i64, g11, g3, g9, g10, hlt, e1, e2, h1, h2, h3]
              rw [if_neg h3] at e
              refine (roundQ_norm _ _ _).2 ⟨l.length - (i + 1), by omega, rfl, i + 1, t + x, (by simp [T.get_set]), (by simp [T.get_set]), (by simp [T.get_set, g9]), (by simp [T.get_set, g10]), by omega, by omega, by omega, e, rfl⟩
      · simp (disch := omega) only [evs, ↓reduceIte, Nat.reduceEqDiff, Nat.reduceAdd, Nat.reduceMul, Nat.reduceLeDiff, Nat.reduceLT, Int.reduceNeg, DF, eff, Nat.reduceSub, fwrap_i64, g11, g3, g9, g10, hlt]
        rw [if_neg (by omega), ← e, List.drop_of_length_le (by omega), chk]
end Go.Ev.Lay

/- Ropes: grown, Of, Split, Join, Set, Insert, Remove. -/
namespace Go.Ev.Lay
set_option maxRecDepth 4000
theorem getElem?_of {l : List Int} {i : Nat} {x : Int} (h : l[i]? = some x) : l = l.take i ++ x :: l.drop (i + 1) := by
  rw [← drop_cons h, List.take_append_drop]
theorem grown_any : ∀ (n : Nat) {h : Heap} {v : V} {l : List Int}, l.length ≤ n → WF h → Ints h v l → Fit l →
    Does go 117 [v] h fun u h' => ∃ t p, u = pv p ∧ At h' t p ∧ t.list = l ∧ Fr [] h h' := by
  intro n
  induction n with
  | zero =>
    intro h v l hn w a f
    have : l = [] := List.length_eq_zero_iff.1 (by omega)
    subst this
    have hz := a.len
    simp only [List.length_nil, Int.ofNat_eq_natCast, Int.natCast_zero] at hz
    refine does_fn g117 rfl ?_
    simp (disch := omega) only [fn117, evs, ↓reduceIte, Nat.reduceEqDiff, Nat.reduceAdd, Nat.reduceMul, Nat.reduceLeDiff, Nat.reduceLT, Int.reduceNeg, DF, eff, Nat.reduceSub, fwrap_i64, hz, Int.natCast_zero]
    exact ⟨.nil, none, rfl, rfl, rfl, Fr.refl w⟩
  | succ n ih =>
    intro h v l hn w a f
    by_cases h0 : (l.length : Int) = 0
    · have : l = [] := List.length_eq_zero_iff.1 (by omega)
      subst this
      refine does_fn g117 rfl ?_
      simp (disch := omega) only [fn117, evs, ↓reduceIte, Nat.reduceEqDiff, Nat.reduceAdd, Nat.reduceMul, Nat.reduceLeDiff, Nat.reduceLT, Int.reduceNeg, DF, eff, Nat.reduceSub, fwrap_i64, a.len, h0]
      exact ⟨.nil, none, rfl, rfl, rfl, Fr.refl w⟩
    · have f3 := f.2.2
      have hv : v ≠ .sliceE := Sl.ne a (by omega)
      have hm : Int.tdiv (l.length : Int) 2 = ((l.length / 2 : Nat) : Int) := (Int.ofNat_tdiv l.length 2).symm
      obtain ⟨m, em⟩ : ∃ m : Nat, m = l.length / 2 := ⟨_, rfl⟩
      rw [← em] at hm
      obtain ⟨v1, s1, i1⟩ := a.upto hv .i64 m (by omega) (by omega)
      obtain ⟨v2, s2, i2⟩ := a.from' hv .i64 (m + 1) (by omega) (by omega)
      obtain ⟨b, o, x, e1, e2, e3⟩ := a.ix .i64 m (by omega) (by omega)
      simp only [Int.toNat_natCast] at i1 i2 e3
      rw [show ((m : Int) + 1).toNat = m + 1 by omega] at i2
      have el := getElem?_of e3
      have f' : Fit (l.take m ++ x :: l.drop (m + 1)) := el ▸ f
      refine does_fn g117 rfl ?_
      simp (disch := omega) only [fn117, evs, ↓reduceIte, Nat.reduceEqDiff, Nat.reduceAdd, Nat.reduceMul, Nat.reduceLeDiff, Nat.reduceLT, Int.reduceNeg, DF, eff, Nat.reduceSub, fwrap_i64, a.len, h0, aP_quo _ _ 2 (by decide), hm, s1]
      refine OQ_does (ih (by simp; omega) w i1 f'.left) ?_
      rintro _ h1 ⟨t1, p1, rfl, a1, et1, fr1⟩
      obtain ⟨b', o', x', e1', e2', e3'⟩ := (a.fr fr1).ix .i64 m (by omega) (by omega)
      simp only [Int.toNat_natCast] at e3'
      rw [e1] at e1'; cases e1'
      rw [e3] at e3'; cases e3'
      simp (disch := omega) only [evs, ↓reduceIte, Nat.reduceEqDiff, Nat.reduceAdd, Nat.reduceMul, Nat.reduceLeDiff, Nat.reduceLT, Int.reduceNeg, DF, eff, Nat.reduceSub, fwrap_i64, e1, e2', s2]
      refine OQ_does (ih (by simp; omega) fr1.wf (i2.fr fr1) f'.right.cons) ?_
      rintro _ h2 ⟨t2, p2, rfl, a2, et2, fr2⟩
      have fr12 := fr1.then fr2
      obtain ⟨b'', o'', x'', e1'', e2'', e3''⟩ := (a.fr fr12).ix .i64 m (by omega) (by omega)
      simp only [Int.toNat_natCast] at e3''
      rw [e1] at e1''; cases e1''
      rw [e3] at e3''; cases e3''
      simp (disch := omega) only [evs, ↓reduceIte, Nat.reduceEqDiff, Nat.reduceAdd, Nat.reduceMul, Nat.reduceLeDiff, Nat.reduceLT, Int.reduceNeg, DF, eff, Nat.reduceSub, fwrap_i64]
      refine OQ_does (over_ok fr2.wf (a1.fr fr2) a2 (by rw [et1, et2]; exact f')) ?_
      rintro _ h3 ⟨b3, rfl, a3, fr3⟩
      simp (disch := omega) only [evs, ↓reduceIte, Nat.reduceEqDiff, Nat.reduceAdd, Nat.reduceMul, Nat.reduceLeDiff, Nat.reduceLT, Int.reduceNeg, DF, eff, Nat.reduceSub, fwrap_i64, e1, e2, e2', e2'']
      exact ⟨_, _, rfl, a3, by rw [Tr.list, et1, et2]; exact el.symm, fr12.then fr3⟩
theorem grown_ok {h : Heap} {v : V} {l : List Int} (w : WF h) (a : Ints h v l) (f : Fit l) :
    Does go 117 [v] h fun u h' => ∃ t p, u = pv p ∧ At h' t p ∧ t.list = l ∧ Fr [] h h' := grown_any _ (Nat.le_refl _) w a f
theorem chk_fit : ∀ (l : List Int) (t : Int), chk l t = 0 → 0 ≤ t → (∀ x ∈ l, 0 ≤ x) ∧ t + l.sum ≤ 4611686018427387904 ∨ l = []
  | [], t, _, _ => .inr rfl
  | s :: l, t, h, h0 => by
    rw [chk] at h
    by_cases h1 : s < 0 ∨ 2305843009213693952 < s
    · rw [if_pos h1] at h; omega
    · rw [if_neg h1] at h
      by_cases h2 : 4611686018427387904 - t < s
      · rw [if_pos h2] at h; omega
      · rw [if_neg h2] at h
        rcases chk_fit l (t + s) h (by omega) with ⟨a, b⟩ | rfl
        · exact .inl ⟨by simp; exact ⟨by omega, a⟩, by simp; omega⟩
        · exact .inl ⟨by simp; omega, by simp; omega⟩
theorem Fit.of_chk {l : List Int} (h : chk l 0 = 0) (hl : l.length ≤ 1000000) : Fit l := by
  rcases chk_fit l 0 h (by omega) with ⟨a, b⟩ | rfl
  · exact ⟨a, by omega, by omega⟩
  · exact ⟨by simp, by simp, by simp⟩
theorem ROf_ok {h : Heap} {v : V} {l : List Int} (w : WF h) (a : Ints h v l) (hn : l.length ≤ 1000000) :
    Does go 102 [v] h fun u h' => Fr [] h h' ∧ ∃ c e, u = .tup [.agg [c], .int .i64 e] ∧ c.one = true ∧ (e = if 4096 < l.length then 3 else chk l 0) ∧ (e = 0 → Rp h' (.agg [c]) l) := by
  obtain ⟨h1, e_h1⟩ : ∃ h1, h1 = halloc h [.nilp] := ⟨_, rfl⟩
  have F_h1 : Fr [] h h1 := e_h1 ▸ Fr.halloc w _
  have o_h1 : Own h1 h.next [.nilp] := e_h1 ▸ Own.new w _
  by_cases he : (if 4096 < l.length then 3 else chk l 0) = 0
  · have hc : chk l 0 = 0 := by
      by_cases h4 : 4096 < l.length
      · rw [if_pos h4] at he; omega
      · rw [if_neg h4] at he; exact he
    have f := Fit.of_chk hc hn
    refine does_fn g102 rfl ?_
    simp (disch := omega) only [fn102, evs, ↓reduceIte, Nat.reduceEqDiff, Nat.reduceAdd, Nat.reduceMul, Nat.reduceLeDiff, Nat.reduceLT, Int.reduceNeg, DF, eff, Nat.reduceSub, fwrap_i64, ← e_h1]
    refine OQ_does (Check_ok F_h1.wf (a.fr F_h1) hn) ?_
    rintro _ _ ⟨rfl, hh⟩
    subst hh
    simp (disch := omega) only [evs, ↓reduceIte, Nat.reduceEqDiff, Nat.reduceAdd, Nat.reduceMul, Nat.reduceLeDiff, Nat.reduceLT, Int.reduceNeg, DF, eff, Nat.reduceSub, fwrap_i64, he]
    refine OQ_does (grown_ok F_h1.wf (a.fr F_h1) f) ?_
    rintro _ h2 ⟨t, p, rfl, at', et, F2⟩
    simp (disch := omega) only [evs, ↓reduceIte, Nat.reduceEqDiff, Nat.reduceAdd, Nat.reduceMul, Nat.reduceLeDiff, Nat.reduceLT, Int.reduceNeg, DF, eff, Nat.reduceSub, fwrap_i64]
    refine store_step (c' := [pv p]) F2.wf (F2.get o_h1) rfl (by simp [onesB, pv_one, V.cells]) rfl ?_
    rintro h3 o3 F3 n3
    simp (disch := omega) only [evs, ↓reduceIte, Nat.reduceEqDiff, Nat.reduceAdd, Nat.reduceMul, Nat.reduceLeDiff, Nat.reduceLT, Int.reduceNeg, DF, eff, Nat.reduceSub, fwrap_i64, o3.ld1, o3.ld]
    exact ⟨(F_h1.then F2).fresh F3 w (Nat.le_refl _), _, _, rfl, pv_one _, rfl, fun _ => ⟨t, p, rfl, at'.frb F3 (F2.get o_h1) (by simp), et, f⟩⟩
  · refine does_fn g102 rfl ?_
    simp (disch := omega) only [fn102, evs, ↓reduceIte, Nat.reduceEqDiff, Nat.reduceAdd, Nat.reduceMul, Nat.reduceLeDiff, Nat.reduceLT, Int.reduceNeg, DF, eff, Nat.reduceSub, fwrap_i64, ← e_h1]
    refine OQ_does (Check_ok F_h1.wf (a.fr F_h1) hn) ?_
    rintro _ _ ⟨rfl, hh⟩
    subst hh
    simp (disch := omega) only [evs, ↓reduceIte, Nat.reduceEqDiff, Nat.reduceAdd, Nat.reduceMul, Nat.reduceLeDiff, Nat.reduceLT, Int.reduceNeg, DF, eff, Nat.reduceSub, fwrap_i64, he]
    refine store_step (c' := [.nilp]) F_h1.wf o_h1 rfl rfl rfl ?_
    rintro h3 o3 F3 n3
    simp (disch := omega) only [evs, ↓reduceIte, Nat.reduceEqDiff, Nat.reduceAdd, Nat.reduceMul, Nat.reduceLeDiff, Nat.reduceLT, Int.reduceNeg, DF, eff, Nat.reduceSub, fwrap_i64, o3.ld1, o3.ld]
    exact ⟨F_h1.fresh F3 w (Nat.le_refl _), _, _, rfl, rfl, rfl, fun e => absurd e he⟩
theorem Own.ne {h : Heap} {b b' : Nat} {c c' : List V} (o : Own h b c) (o' : Own h b' c') (hc : c ≠ c') : b ≠ b' := by
  rintro rfl; exact hc (o.uniq o')
/-- two ropes of a list -/
theorem RSplit_ok {h : Heap} {v : V} {l : List Int} {i : Int} (w : WF h) (a : Rp h v l) :
    Does go 101 [v, .int .i64 i] h fun u h' => Fr [] h h' ∧ if 0 ≤ i ∧ i ≤ l.length then ∃ r1 r2, u = .tup [r1, r2, .int .i64 0] ∧ Rp h' r1 (l.take i.toNat) ∧ Rp h' r2 (l.drop i.toNat)
      else u = .tup [.agg [.nilp], .agg [.nilp], .int .i64 4] := by
  have a0 := a
  obtain ⟨t, p, rfl, a, rfl, f⟩ := a
  have f3 := f.2.2
  obtain ⟨h1, e_h1⟩ : ∃ h1, h1 = halloc h [pv p] := ⟨_, rfl⟩
  have F_h1 : Fr [] h h1 := e_h1 ▸ Fr.halloc w _
  have o_h1 : Own h1 h.next [pv p] := e_h1 ▸ Own.new w _
  obtain ⟨h2, e_h2⟩ : ∃ h2, h2 = halloc h1 [.nilp] := ⟨_, rfl⟩
  have F_h2 : Fr [] h1 h2 := e_h2 ▸ Fr.halloc F_h1.wf _
  have o_h2 : Own h2 h1.next [.nilp] := e_h2 ▸ Own.new F_h1.wf _
  obtain ⟨h3, e_h3⟩ : ∃ h3, h3 = halloc h2 [.nilp] := ⟨_, rfl⟩
  have F_h3 : Fr [] h2 h3 := e_h3 ▸ Fr.halloc F_h2.wf _
  have o_h3 : Own h3 h2.next [.nilp] := e_h3 ▸ Own.new F_h2.wf _
  have F13 := (F_h1.then F_h2).then F_h3
  have o1 := F_h3.get (F_h2.get o_h1)
  have o2 := F_h3.get o_h2
  have ne : h1.next ≠ h2.next := by rw [e_h2]; simp [halloc_next]
  have b1 : h.next ≤ h1.next := F_h1.next
  have b2 : h.next ≤ h2.next := (F_h1.then F_h2).next
  by_cases h0 : i < 0
  · refine does_fn g101 rfl ?_
    simp (disch := omega) only [fn101, evs, ↓reduceIte, Nat.reduceEqDiff, Nat.reduceAdd, Nat.reduceMul, Nat.reduceLeDiff, Nat.reduceLT, Int.reduceNeg, DF, eff, Nat.reduceSub, fwrap_i64, ← e_h1, ← e_h2, ← e_h3, o1.ld1, o1.ld, h0]
    refine store_step (c' := [.nilp]) F13.wf o2 rfl (by first | rfl | simp [onesB, V.cells, pv_one, *]) rfl ?_
    rintro h5 o_h5 F_h5 n_h5
    simp (disch := omega) only [evs, ↓reduceIte, Nat.reduceEqDiff, Nat.reduceAdd, Nat.reduceMul, Nat.reduceLeDiff, Nat.reduceLT, Int.reduceNeg, DF, eff, Nat.reduceSub, fwrap_i64]
    refine store_step (c' := [.nilp]) F_h5.wf (F_h5.own _ _ (by simp; omega) o_h3) rfl (by first | rfl | simp [onesB, V.cells, pv_one, *]) rfl ?_
    rintro h6 o_h6 F_h6 n_h6
    simp (disch := omega) only [evs, ↓reduceIte, Nat.reduceEqDiff, Nat.reduceAdd, Nat.reduceMul, Nat.reduceLeDiff, Nat.reduceLT, Int.reduceNeg, DF, eff, Nat.reduceSub, fwrap_i64, o_h6.ld, (F_h6.own _ _ (by simp; omega) o_h5).ld]
    rw [if_neg (by omega)]
    exact ⟨(F13.fresh F_h5 w b1).fresh F_h6 w b2, trivial⟩
  · refine does_fn g101 rfl ?_
    simp (disch := omega) only [fn101, evs, ↓reduceIte, Nat.reduceEqDiff, Nat.reduceAdd, Nat.reduceMul, Nat.reduceLeDiff, Nat.reduceLT, Int.reduceNeg, DF, eff, Nat.reduceSub, fwrap_i64, ← e_h1, ← e_h2, ← e_h3, o1.ld1, o1.ld, h0]
    refine OQ_does (Len_ok F13.wf (a0.fr F13)) ?_
    rintro _ h4 ⟨rfl, F4⟩
    by_cases hi : (t.list.length : Int) < i
    · simp (disch := omega) only [evs, ↓reduceIte, Nat.reduceEqDiff, Nat.reduceAdd, Nat.reduceMul, Nat.reduceLeDiff, Nat.reduceLT, Int.reduceNeg, DF, eff, Nat.reduceSub, fwrap_i64, hi, h0]
      refine store_step (c' := [.nilp]) F4.wf (F4.get o2) rfl (by first | rfl | simp [onesB, V.cells, pv_one, *]) rfl ?_
      rintro h5 o_h5 F_h5 n_h5
      simp (disch := omega) only [evs, ↓reduceIte, Nat.reduceEqDiff, Nat.reduceAdd, Nat.reduceMul, Nat.reduceLeDiff, Nat.reduceLT, Int.reduceNeg, DF, eff, Nat.reduceSub, fwrap_i64]
      refine store_step (c' := [.nilp]) F_h5.wf (F_h5.own _ _ (by simp; omega) (F4.get o_h3)) rfl (by first | rfl | simp [onesB, V.cells, pv_one, *]) rfl ?_
      rintro h6 o_h6 F_h6 n_h6
      simp (disch := omega) only [evs, ↓reduceIte, Nat.reduceEqDiff, Nat.reduceAdd, Nat.reduceMul, Nat.reduceLeDiff, Nat.reduceLT, Int.reduceNeg, DF, eff, Nat.reduceSub, fwrap_i64, o_h6.ld, (F_h6.own _ _ (by simp; omega) o_h5).ld]
      rw [if_neg (by omega)]
      exact ⟨((F13.then F4).fresh F_h5 w b1).fresh F_h6 w b2, trivial⟩
    · simp (disch := omega) only [evs, ↓reduceIte, Nat.reduceEqDiff, Nat.reduceAdd, Nat.reduceMul, Nat.reduceLeDiff, Nat.reduceLT, Int.reduceNeg, DF, eff, Nat.reduceSub, fwrap_i64, hi, h0, (F4.get o1).ld1]
      refine OQ_does (split_ok F4.wf (a.fr (F13.then F4)) f (by omega) (by omega)) ?_
      rintro _ h5 ⟨t1, t2, p1, p2, rfl, a1, a2, e1, e2, F5⟩
      simp (disch := omega) only [evs, ↓reduceIte, Nat.reduceEqDiff, Nat.reduceAdd, Nat.reduceMul, Nat.reduceLeDiff, Nat.reduceLT, Int.reduceNeg, DF, eff, Nat.reduceSub, fwrap_i64]
      have F45 := F4.then F5
      refine store_step (c' := [pv p1]) F5.wf (F45.get o2) rfl (by first | rfl | simp [onesB, V.cells, pv_one, *]) rfl ?_
      rintro h6 o_h6 F_h6 n_h6
      simp (disch := omega) only [evs, ↓reduceIte, Nat.reduceEqDiff, Nat.reduceAdd, Nat.reduceMul, Nat.reduceLeDiff, Nat.reduceLT, Int.reduceNeg, DF, eff, Nat.reduceSub, fwrap_i64]
      refine store_step (c' := [pv p2]) F_h6.wf (F_h6.own _ _ (by simp; omega) (F45.get o_h3)) rfl (by first | rfl | simp [onesB, V.cells, pv_one, *]) rfl ?_
      rintro h7 o_h7 F_h7 n_h7
      simp (disch := omega) only [evs, ↓reduceIte, Nat.reduceEqDiff, Nat.reduceAdd, Nat.reduceMul, Nat.reduceLeDiff, Nat.reduceLT, Int.reduceNeg, DF, eff, Nat.reduceSub, fwrap_i64, o_h7.ld, (F_h7.own _ _ (by simp; omega) o_h6).ld]
      rw [if_pos (by omega)]
      have c1 : ∀ {t : Tr} {p : Option Nat}, At h5 t p → At h7 t p := fun x => (x.frb F_h6 (F45.get o2) (by simp)).frb F_h7 (F_h6.own _ _ (by simp; omega) (F45.get o_h3)) (by simp)
      exact ⟨((F13.then F45).fresh F_h6 w b1).fresh F_h7 w b2, _, _, rfl, ⟨t1, p1, rfl, c1 a1, e1, f.sub (List.take_sublist _ _)⟩, ⟨t2, p2, rfl, c1 a2, e2, f.sub (List.drop_sublist _ _)⟩⟩
/-- the error of two ropes that are put together -/
def joinE (l m : List Int) : Int := if 4096 < l.length + m.length then 3 else if 4611686018427387904 - m.sum < l.sum then 13 else 0
theorem Join_ok {h : Heap} {v u : V} {l m : List Int} (w : WF h) (a : Rp h v l) (a' : Rp h u m) :
    Does go 103 [v, u] h fun z h' => Fr [] h h' ∧ ∃ c, z = .tup [.agg [c], .int .i64 (joinE l m)] ∧ c.one = true ∧ (joinE l m = 0 → Rp h' (.agg [c]) (l ++ m)) := by
  have a0 := a
  have a0' := a'
  obtain ⟨t, p, rfl, a, rfl, f⟩ := a
  obtain ⟨t', p', rfl, a', rfl, f'⟩ := a'
  have f3 := f.2.2
  have f3' := f'.2.2
  have n := f.nn
  have n' := f'.nn
  have f2 := f.2.1
  have f2' := f'.2.1
  obtain ⟨h1, e_h1⟩ : ∃ h1, h1 = halloc h [pv p] := ⟨_, rfl⟩
  have F_h1 : Fr [] h h1 := e_h1 ▸ Fr.halloc w _
  have o_h1 : Own h1 h.next [pv p] := e_h1 ▸ Own.new w _
  obtain ⟨h2, e_h2⟩ : ∃ h2, h2 = halloc h1 [pv p'] := ⟨_, rfl⟩
  have F_h2 : Fr [] h1 h2 := e_h2 ▸ Fr.halloc F_h1.wf _
  have o_h2 : Own h2 h1.next [pv p'] := e_h2 ▸ Own.new F_h1.wf _
  obtain ⟨h3, e_h3⟩ : ∃ h3, h3 = halloc h2 [.nilp] := ⟨_, rfl⟩
  have F_h3 : Fr [] h2 h3 := e_h3 ▸ Fr.halloc F_h2.wf _
  have o_h3 : Own h3 h2.next [.nilp] := e_h3 ▸ Own.new F_h2.wf _
  have F13 := (F_h1.then F_h2).then F_h3
  have o1 := F_h3.get (F_h2.get o_h1)
  have o2 := F_h3.get o_h2
  have b2 : h.next ≤ h2.next := (F_h1.then F_h2).next
  refine does_fn g103 rfl ?_
  simp (disch := omega) only [fn103, evs, ↓reduceIte, Nat.reduceEqDiff, Nat.reduceAdd, Nat.reduceMul, Nat.reduceLeDiff, Nat.reduceLT, Int.reduceNeg, DF, eff, Nat.reduceSub, fwrap_i64, ← e_h1, ← e_h2, ← e_h3, o1.ld1, o1.ld]
  refine OQ_does (Len_ok F13.wf (a0.fr F13)) ?_
  rintro _ h4 ⟨rfl, F4⟩
  simp (disch := omega) only [evs, ↓reduceIte, Nat.reduceEqDiff, Nat.reduceAdd, Nat.reduceMul, Nat.reduceLeDiff, Nat.reduceLT, Int.reduceNeg, DF, eff, Nat.reduceSub, fwrap_i64, (F4.get o2).ld]
  refine OQ_does (Len_ok F4.wf (a0'.fr (F13.then F4))) ?_
  rintro _ h5 ⟨rfl, F5⟩
  simp (disch := omega) only [evs, ↓reduceIte, Nat.reduceEqDiff, Nat.reduceAdd, Nat.reduceMul, Nat.reduceLeDiff, Nat.reduceLT, Int.reduceNeg, DF, eff, Nat.reduceSub, fwrap_i64, o1.ld, o2.ld, (F4.get o2).ld]
  have F45 := F4.then F5
  by_cases c1 : (4096 : Int) < t.list.length + t'.list.length
  · simp (disch := omega) only [evs, ↓reduceIte, Nat.reduceEqDiff, Nat.reduceAdd, Nat.reduceMul, Nat.reduceLeDiff, Nat.reduceLT, Int.reduceNeg, DF, eff, Nat.reduceSub, fwrap_i64, c1]
    refine store_step (c' := [.nilp]) F5.wf (F45.get o_h3) rfl (by first | rfl | simp [onesB, V.cells, pv_one, *]) rfl ?_
    rintro h6 o_h6 F_h6 n_h6
    simp (disch := omega) only [evs, ↓reduceIte, Nat.reduceEqDiff, Nat.reduceAdd, Nat.reduceMul, Nat.reduceLeDiff, Nat.reduceLT, Int.reduceNeg, DF, eff, Nat.reduceSub, fwrap_i64, o_h6.ld]
    have e : joinE t.list t'.list = 3 := by unfold joinE; rw [if_pos (by omega)]
    rw [e]
    exact ⟨(F13.then F45).fresh F_h6 w b2, _, rfl, rfl, by simp⟩
  · simp (disch := omega) only [evs, ↓reduceIte, Nat.reduceEqDiff, Nat.reduceAdd, Nat.reduceMul, Nat.reduceLeDiff, Nat.reduceLT, Int.reduceNeg, DF, eff, Nat.reduceSub, fwrap_i64, c1, (F45.get o1).ld]
    refine OQ_does (Total_ok F5.wf (a0.fr (F13.then F45))) ?_
    rintro _ h6 ⟨rfl, F6⟩
    have F46 := F45.then F6
    simp (disch := omega) only [evs, ↓reduceIte, Nat.reduceEqDiff, Nat.reduceAdd, Nat.reduceMul, Nat.reduceLeDiff, Nat.reduceLT, Int.reduceNeg, DF, eff, Nat.reduceSub, fwrap_i64, (F46.get o2).ld]
    refine OQ_does (Total_ok F6.wf (a0'.fr (F13.then F46))) ?_
    rintro _ h7 ⟨rfl, F7⟩
    have F47 := F46.then F7
    simp (disch := omega) only [evs, ↓reduceIte, Nat.reduceEqDiff, Nat.reduceAdd, Nat.reduceMul, Nat.reduceLeDiff, Nat.reduceLT, Int.reduceNeg, DF, eff, Nat.reduceSub, fwrap_i64, (F45.get o1).ld, (F46.get o2).ld, (F45.get o2).ld]
    by_cases c2 : 4611686018427387904 - t'.list.sum < t.list.sum
    · simp (disch := omega) only [evs, ↓reduceIte, Nat.reduceEqDiff, Nat.reduceAdd, Nat.reduceMul, Nat.reduceLeDiff, Nat.reduceLT, Int.reduceNeg, DF, eff, Nat.reduceSub, fwrap_i64, c2]
      refine store_step (c' := [.nilp]) F7.wf (F47.get o_h3) rfl (by first | rfl | simp [onesB, V.cells, pv_one, *]) rfl ?_
      rintro h8 o_h8 F_h8 n_h8
      simp (disch := omega) only [evs, ↓reduceIte, Nat.reduceEqDiff, Nat.reduceAdd, Nat.reduceMul, Nat.reduceLeDiff, Nat.reduceLT, Int.reduceNeg, DF, eff, Nat.reduceSub, fwrap_i64, o_h8.ld]
      have e : joinE t.list t'.list = 13 := by unfold joinE; rw [if_neg (by omega), if_pos c2]
      rw [e]
      exact ⟨(F13.then F47).fresh F_h8 w b2, _, rfl, rfl, by simp⟩
    · simp (disch := omega) only [evs, ↓reduceIte, Nat.reduceEqDiff, Nat.reduceAdd, Nat.reduceMul, Nat.reduceLeDiff, Nat.reduceLT, Int.reduceNeg, DF, eff, Nat.reduceSub, fwrap_i64, c2, (F47.get o1).ld1, (F47.get o2).ld1]
      have ff : Fit (t.list ++ t'.list) := ⟨fun x hx => by rcases List.mem_append.1 hx with y | y; exact f.1 x y; exact f'.1 x y, by rw [List.sum_append]; omega, by rw [List.length_append]; omega⟩
      refine OQ_does (put_ok F7.wf (a.fr (F13.then F47)) (a'.fr (F13.then F47)) ff) ?_
      rintro _ h8 ⟨t2, p2, rfl, a2, e2, F8⟩
      simp (disch := omega) only [evs, ↓reduceIte, Nat.reduceEqDiff, Nat.reduceAdd, Nat.reduceMul, Nat.reduceLeDiff, Nat.reduceLT, Int.reduceNeg, DF, eff, Nat.reduceSub, fwrap_i64]
      refine store_step (c' := [pv p2]) F8.wf ((F47.then F8).get o_h3) rfl (by first | rfl | simp [onesB, V.cells, pv_one, *]) rfl ?_
      rintro h9 o_h9 F_h9 n_h9
      simp (disch := omega) only [evs, ↓reduceIte, Nat.reduceEqDiff, Nat.reduceAdd, Nat.reduceMul, Nat.reduceLeDiff, Nat.reduceLT, Int.reduceNeg, DF, eff, Nat.reduceSub, fwrap_i64, o_h9.ld]
      have e : joinE t.list t'.list = 0 := by unfold joinE; rw [if_neg (by omega), if_neg c2]
      rw [e]
      exact ⟨(F13.then (F47.then F8)).fresh F_h9 w b2, _, rfl, pv_one _, fun _ => ⟨t2, p2, rfl, a2.frb F_h9 ((F47.then F8).get o_h3) (by simp), e2, ff⟩⟩
end Go.Ev.Lay
