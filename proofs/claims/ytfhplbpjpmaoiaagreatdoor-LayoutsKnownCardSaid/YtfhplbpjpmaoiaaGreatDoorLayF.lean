/- An evaluator of the program and contracts proved over it: the texts LayW LayX LayY. -/
import Derived.Test.YtfhplbpjpmaoiaaGreatDoorLayE
set_option linter.unusedSimpArgs false
set_option linter.unusedVariables false
set_option linter.constructorNameAsVariable false
/- Layouts: what is read of them. -/
namespace Go.Ev.Lay
set_option maxRecDepth 4000
/-- the marks of a layout -/
def Mk (h : Heap) (pm : Option Nat) (bs : List Bool) : Prop := match pm with
  | none => bs = []
  | some c => Fl h c bs
theorem Mk.fr {h h' : Heap} {pm : Option Nat} {bs : List Bool} (a : Mk h pm bs) (f : Fr [] h h') : Mk h' pm bs := by
  cases pm with
  | none => exact a
  | some c => exact Fl.fr a f
/-- a layout: sizes, which are known, which are headers -/
def Lo (h : Heap) (b : Nat) (l : List Int) (ks bs : List Bool) : Prop := ∃ p vk pm, Own h b [pv p, vk, pv pm] ∧ vk.one = true ∧ Ix h (.agg [pv p, vk]) l ks ∧ Mk h pm bs ∧ bs.length = l.length
theorem Lo.fr {h h' : Heap} {b : Nat} {l : List Int} {ks bs : List Bool} (a : Lo h b l ks bs) (f : Fr [] h h') : Lo h' b l ks bs := by
  obtain ⟨p, vk, pm, o, v1, ix, mk, e⟩ := a; exact ⟨p, vk, pm, f.get o, v1, ix.fr f, mk.fr f, e⟩
theorem Glb.fr {h h' : Heap} (a : Glb h) (f : Fr [] h h') : Glb h' := f.pl _ _ (by simp) a
theorem LLen_ok {h : Heap} {b : Nat} {l : List Int} {ks bs : List Bool} (w : WF h) (a : Lo h b l ks bs) : Does go 42 [.ptr b 0] h fun u h' => u = .int .i64 l.length ∧ Fr [] h h' := by
  obtain ⟨p, vk, pm, o, v1, ix, mk, e⟩ := a
  refine does_fn g42 rfl ?_
  simp (disch := omega) only [fn42, evs, ↓reduceIte, Nat.reduceEqDiff, Nat.reduceAdd, Nat.reduceMul, Nat.reduceLeDiff, Nat.reduceLT, Int.reduceNeg, DF, eff, Nat.reduceSub, fwrap_i64, o.ld]
  refine OQ_does (XLen_ok w ix) ?_
  rintro _ h2 ⟨rfl, F2⟩
  simp (disch := omega) only [evs, ↓reduceIte, Nat.reduceEqDiff, Nat.reduceAdd, Nat.reduceMul, Nat.reduceLeDiff, Nat.reduceLT, Int.reduceNeg, DF, eff, Nat.reduceSub, fwrap_i64]
  exact F2
theorem Ix.rp {h : Heap} {p : Option Nat} {vk : V} {l : List Int} {ks : List Bool} (a : Ix h (.agg [pv p, vk]) l ks) : Rp h (.agg [pv p]) l := by
  obtain ⟨p', vk', L, e, r, _⟩ := a
  simp only [V.agg.injEq, List.cons.injEq, and_true] at e
  rw [e.1]; exact r
theorem LTotal_ok {h : Heap} {b : Nat} {l : List Int} {ks bs : List Bool} (w : WF h) (a : Lo h b l ks bs) : Does go 8 [.ptr b 0] h fun u h' => u = .int .i64 l.sum ∧ Fr [] h h' := by
  obtain ⟨p, vk, pm, o, v1, ix, mk, e⟩ := a
  have r := ix.rp
  refine does_fn g8 rfl ?_
  simp (disch := omega) only [fn8, evs, ↓reduceIte, Nat.reduceEqDiff, Nat.reduceAdd, Nat.reduceMul, Nat.reduceLeDiff, Nat.reduceLT, Int.reduceNeg, DF, eff, Nat.reduceSub, fwrap_i64, o.ld]
  refine OQ_does (Total_ok w r) ?_
  rintro _ h2 ⟨rfl, F2⟩
  simp (disch := omega) only [evs, ↓reduceIte, Nat.reduceEqDiff, Nat.reduceAdd, Nat.reduceMul, Nat.reduceLeDiff, Nat.reduceLT, Int.reduceNeg, DF, eff, Nat.reduceSub, fwrap_i64]
  exact F2
theorem LTop_ok {h : Heap} {b : Nat} {l : List Int} {ks bs : List Bool} {i : Int} (w : WF h) (a : Lo h b l ks bs) :
    Does go 62 [.ptr b 0, .int .i64 i] h fun u h' => (u = if 0 ≤ i ∧ i ≤ l.length then .tup [.int .i64 (l.take i.toNat).sum, .int .i64 0] else .tup [.int .i64 0, .int .i64 4]) ∧ Fr [] h h' := by
  obtain ⟨p, vk, pm, o, v1, ix, mk, e⟩ := a
  refine does_fn g62 rfl ?_
  simp (disch := omega) only [fn62, evs, ↓reduceIte, Nat.reduceEqDiff, Nat.reduceAdd, Nat.reduceMul, Nat.reduceLeDiff, Nat.reduceLT, Int.reduceNeg, DF, eff, Nat.reduceSub, fwrap_i64, o.ld]
  refine OQ_does (XTop_ok w ix) ?_
  rintro _ h2 ⟨rfl, F2⟩
  by_cases c : 0 ≤ i ∧ i ≤ l.length
  · simp only [if_pos c]
    simp (disch := omega) only [evs, ↓reduceIte, Nat.reduceEqDiff, Nat.reduceAdd, Nat.reduceMul, Nat.reduceLeDiff, Nat.reduceLT, Int.reduceNeg, DF, eff, Nat.reduceSub, fwrap_i64]
    exact F2
  · simp only [if_neg c]
    simp (disch := omega) only [evs, ↓reduceIte, Nat.reduceEqDiff, Nat.reduceAdd, Nat.reduceMul, Nat.reduceLeDiff, Nat.reduceLT, Int.reduceNeg, DF, eff, Nat.reduceSub, fwrap_i64]
    exact F2
theorem LSize_ok {h : Heap} {b : Nat} {l : List Int} {ks bs : List Bool} {i : Int} (w : WF h) (a : Lo h b l ks bs) :
    Does go 60 [.ptr b 0, .int .i64 i] h fun u h' => (u = if 0 ≤ i ∧ i < l.length then .tup [.int .i64 (l.getD i.toNat 0), .int .i64 0] else .tup [.int .i64 0, .int .i64 4]) ∧ Fr [] h h' := by
  obtain ⟨p, vk, pm, o, v1, ix, mk, e⟩ := a
  refine does_fn g60 rfl ?_
  simp (disch := omega) only [fn60, evs, ↓reduceIte, Nat.reduceEqDiff, Nat.reduceAdd, Nat.reduceMul, Nat.reduceLeDiff, Nat.reduceLT, Int.reduceNeg, DF, eff, Nat.reduceSub, fwrap_i64, o.ld]
  refine OQ_does (XSize_ok w ix) ?_
  rintro _ h2 ⟨rfl, F2⟩
  by_cases c : 0 ≤ i ∧ i < l.length
  · simp only [if_pos c]
    simp (disch := omega) only [evs, ↓reduceIte, Nat.reduceEqDiff, Nat.reduceAdd, Nat.reduceMul, Nat.reduceLeDiff, Nat.reduceLT, Int.reduceNeg, DF, eff, Nat.reduceSub, fwrap_i64]
    exact F2
  · simp only [if_neg c]
    simp (disch := omega) only [evs, ↓reduceIte, Nat.reduceEqDiff, Nat.reduceAdd, Nat.reduceMul, Nat.reduceLeDiff, Nat.reduceLT, Int.reduceNeg, DF, eff, Nat.reduceSub, fwrap_i64]
    exact F2
theorem LKnown_ok {h : Heap} {b : Nat} {l : List Int} {ks bs : List Bool} {i : Int} (w : WF h) (a : Lo h b l ks bs) :
    Does go 61 [.ptr b 0, .int .i64 i] h fun u h' => (u = if 0 ≤ i ∧ i < l.length then .tup [.bool (ks.getD i.toNat false), .int .i64 0] else .tup [.bool false, .int .i64 4]) ∧ Fr [] h h' := by
  obtain ⟨p, vk, pm, o, v1, ix, mk, e⟩ := a
  refine does_fn g61 rfl ?_
  simp (disch := omega) only [fn61, evs, ↓reduceIte, Nat.reduceEqDiff, Nat.reduceAdd, Nat.reduceMul, Nat.reduceLeDiff, Nat.reduceLT, Int.reduceNeg, DF, eff, Nat.reduceSub, fwrap_i64, o.ld]
  refine OQ_does (XKnown_ok w ix) ?_
  rintro _ h2 ⟨rfl, F2⟩
  by_cases c : 0 ≤ i ∧ i < l.length
  · simp only [if_pos c]
    simp (disch := omega) only [evs, ↓reduceIte, Nat.reduceEqDiff, Nat.reduceAdd, Nat.reduceMul, Nat.reduceLeDiff, Nat.reduceLT, Int.reduceNeg, DF, eff, Nat.reduceSub, fwrap_i64]
    exact F2
  · simp only [if_neg c]
    simp (disch := omega) only [evs, ↓reduceIte, Nat.reduceEqDiff, Nat.reduceAdd, Nat.reduceMul, Nat.reduceLeDiff, Nat.reduceLT, Int.reduceNeg, DF, eff, Nat.reduceSub, fwrap_i64]
    exact F2
theorem LAt_ok {h : Heap} {b : Nat} {l : List Int} {ks bs : List Bool} {x : Int} (w : WF h) (a : Lo h b l ks bs) (hx0 : -9223372036854775808 ≤ x) (hx1 : x ≤ 9223372036854775807) :
    Does go 28 [.ptr b 0, .int .i64 x] h fun u h' => (u = if 0 ≤ x ∧ x < l.sum then .tup [.int .i64 (locate l x).1, .int .i64 (locate l x).2, .int .i64 0] else .tup [.int .i64 0, .int .i64 0, .int .i64 4]) ∧ Fr [] h h' := by
  obtain ⟨p, vk, pm, o, v1, ix, mk, e⟩ := a
  refine does_fn g28 rfl ?_
  simp (disch := omega) only [fn28, evs, ↓reduceIte, Nat.reduceEqDiff, Nat.reduceAdd, Nat.reduceMul, Nat.reduceLeDiff, Nat.reduceLT, Int.reduceNeg, DF, eff, Nat.reduceSub, fwrap_i64, o.ld]
  refine OQ_does (XAt_ok w ix hx0 hx1) ?_
  rintro _ h2 ⟨rfl, F2⟩
  by_cases c : 0 ≤ x ∧ x < l.sum
  · simp only [if_pos c]
    simp (disch := omega) only [evs, ↓reduceIte, Nat.reduceEqDiff, Nat.reduceAdd, Nat.reduceMul, Nat.reduceLeDiff, Nat.reduceLT, Int.reduceNeg, DF, eff, Nat.reduceSub, fwrap_i64]
    exact F2
  · simp only [if_neg c]
    simp (disch := omega) only [evs, ↓reduceIte, Nat.reduceEqDiff, Nat.reduceAdd, Nat.reduceMul, Nat.reduceLeDiff, Nat.reduceLT, Int.reduceNeg, DF, eff, Nat.reduceSub, fwrap_i64]
    exact F2
theorem LSticky_ok {h : Heap} {b : Nat} {l : List Int} {ks bs : List Bool} {i : Int} (w : WF h) (a : Lo h b l ks bs) (a0 : -9223372036854775808 ≤ i) (a1 : i ≤ 9223372036854775807) :
    Does go 45 [.ptr b 0, .int .i64 i] h fun u h' => (u = if 0 ≤ i ∧ i < l.length then .tup [.bool (bs.getD i.toNat false), .int .i64 0] else .tup [.bool false, .int .i64 4]) ∧ Fr [] h h' := by
  have al := a
  obtain ⟨p, vk, pm, o, v1, ix, mk, e⟩ := a
  by_cases c : i < 0
  · refine does_fn g45 rfl ?_
    simp (disch := omega) only [fn45, evs, ↓reduceIte, Nat.reduceEqDiff, Nat.reduceAdd, Nat.reduceMul, Nat.reduceLeDiff, Nat.reduceLT, Int.reduceNeg, DF, eff, Nat.reduceSub, fwrap_i64, c]
    exact ⟨by rw [if_neg (by omega)], Fr.refl w⟩
  · refine does_fn g45 rfl ?_
    simp (disch := omega) only [fn45, evs, ↓reduceIte, Nat.reduceEqDiff, Nat.reduceAdd, Nat.reduceMul, Nat.reduceLeDiff, Nat.reduceLT, Int.reduceNeg, DF, eff, Nat.reduceSub, fwrap_i64, c]
    refine OQ_does (LLen_ok w al) ?_
    rintro _ h2 ⟨rfl, F2⟩
    by_cases c2 : (l.length : Int) ≤ i
    · simp (disch := omega) only [evs, ↓reduceIte, Nat.reduceEqDiff, Nat.reduceAdd, Nat.reduceMul, Nat.reduceLeDiff, Nat.reduceLT, Int.reduceNeg, DF, eff, Nat.reduceSub, fwrap_i64, c2]
      exact ⟨by rw [if_neg (by omega)], F2⟩
    · cases pm with
      | none => have mk : bs = [] := mk; subst mk; simp at e; omega
      | some q =>
        have fl : Fl h q bs := mk
        simp (disch := omega) only [evs, ↓reduceIte, Nat.reduceEqDiff, Nat.reduceAdd, Nat.reduceMul, Nat.reduceLeDiff, Nat.reduceLT, Int.reduceNeg, DF, eff, Nat.reduceSub, fwrap_i64, c2, (F2.get o).ld1, pv_some]
        refine OQ_does (fGet_ok (fl.fr F2) a0 a1) ?_
        rintro _ _ ⟨rfl, hh⟩
        replace hh := hh.symm
        subst hh
        rw [if_pos (by omega), if_pos (by omega)]
        simp (disch := omega) only [evs, ↓reduceIte, Nat.reduceEqDiff, Nat.reduceAdd, Nat.reduceMul, Nat.reduceLeDiff, Nat.reduceLT, Int.reduceNeg, DF, eff, Nat.reduceSub, fwrap_i64]
        exact F2
def okF (view over : Int) : Prop := 1 ≤ view ∧ view ≤ 2147483648 ∧ 0 ≤ over ∧ over ≤ 16
instance (view over : Int) : Decidable (okF view over) := by unfold okF; infer_instance
theorem valid_ok {h : Heap} {view over : Int} {lo : Bool} (w : WF h) : Does go 52 [.agg [.int .i64 view, .int .i64 over, .bool lo]] h fun u h' => u = .bool (decide (okF view over)) ∧ Fr [] h h' := by
  obtain ⟨h1, e_h1⟩ : ∃ h1, h1 = halloc h [.int .i64 view, .int .i64 over, .bool lo] := ⟨_, rfl⟩
  have F_h1 : Fr [] h h1 := e_h1 ▸ Fr.halloc w _
  have o_h1 : Own h1 h.next [.int .i64 view, .int .i64 over, .bool lo] := e_h1 ▸ Own.new w _
  unfold okF
  by_cases c1 : 1 ≤ view
  · by_cases c2 : view ≤ 2147483648
    · by_cases c3 : 0 ≤ over
      · refine does_fn g52 rfl ?_
        simp (disch := omega) only [fn52, evs, ↓reduceIte, Nat.reduceEqDiff, Nat.reduceAdd, Nat.reduceMul, Nat.reduceLeDiff, Nat.reduceLT, Int.reduceNeg, DF, eff, Nat.reduceSub, fwrap_i64, ← e_h1, o_h1.ld1, c1, c2, c3]
        first | exact F_h1 | exact ⟨by simp, F_h1⟩
      · refine does_fn g52 rfl ?_
        simp (disch := omega) only [fn52, evs, ↓reduceIte, Nat.reduceEqDiff, Nat.reduceAdd, Nat.reduceMul, Nat.reduceLeDiff, Nat.reduceLT, Int.reduceNeg, DF, eff, Nat.reduceSub, fwrap_i64, ← e_h1, o_h1.ld1, c1, c2, c3]
        first | exact F_h1 | exact ⟨by simp, F_h1⟩
    · refine does_fn g52 rfl ?_
      simp (disch := omega) only [fn52, evs, ↓reduceIte, Nat.reduceEqDiff, Nat.reduceAdd, Nat.reduceMul, Nat.reduceLeDiff, Nat.reduceLT, Int.reduceNeg, DF, eff, Nat.reduceSub, fwrap_i64, ← e_h1, o_h1.ld1, c1, c2]
      first | exact F_h1 | exact ⟨by simp, F_h1⟩
  · refine does_fn g52 rfl ?_
    simp (disch := omega) only [fn52, evs, ↓reduceIte, Nat.reduceEqDiff, Nat.reduceAdd, Nat.reduceMul, Nat.reduceLeDiff, Nat.reduceLT, Int.reduceNeg, DF, eff, Nat.reduceSub, fwrap_i64, ← e_h1, o_h1.ld1, c1]
    first | exact F_h1 | exact ⟨by simp, F_h1⟩
theorem oClamp_ok {h : Heap} {x t view : Int} (h1 : 0 ≤ t) (h2 : t ≤ 4611686018427387904) (h3 : 1 ≤ view) (h4 : view ≤ 2147483648) : Does go 53 [.int .i64 x, .int .i64 t, .int .i64 view] h fun u h' => u = .tup [.int .i64 (min (max x 0) (max 0 (t - view))), .int .i64 0] ∧ h' = h := by
  refine does_fn g53 rfl ?_
  simp (disch := omega) only [fn53, evs, ↓reduceIte, Nat.reduceEqDiff, Nat.reduceAdd, Nat.reduceMul, Nat.reduceLeDiff, Nat.reduceLT, Int.reduceNeg, DF, eff, Nat.reduceSub, fwrap_i64, show ¬ t < 0 by omega, show ¬ 4611686018427387904 < t by omega, show ¬ view < 1 by omega, show ¬ 2147483648 < view by omega]
def clampL (l : List Int) (view x : Int) : Int := min (max x 0) (max 0 (l.sum - view))
theorem LClamp_ok {h : Heap} {b : Nat} {l : List Int} {ks bs : List Bool} {x view over : Int} {lo : Bool} (w : WF h) (a : Lo h b l ks bs) :
    Does go 10 [.ptr b 0, .agg [.int .i64 view, .int .i64 over, .bool lo], .int .i64 x] h fun u h' => (u = if okF view over then .tup [.int .i64 (clampL l view x), .int .i64 0] else .tup [.int .i64 0, .int .i64 1]) ∧ Fr [] h h' := by
  have fit : Fit l := by obtain ⟨p, vk, pm, o, v1, ix, _⟩ := a; exact ix.fit
  have f1 := fit.nn
  have f2 := fit.2.1
  obtain ⟨h1, e_h1⟩ : ∃ h1, h1 = halloc h [.int .i64 view, .int .i64 over, .bool lo] := ⟨_, rfl⟩
  have F_h1 : Fr [] h h1 := e_h1 ▸ Fr.halloc w _
  have o_h1 : Own h1 h.next [.int .i64 view, .int .i64 over, .bool lo] := e_h1 ▸ Own.new w _
  refine does_fn g10 rfl ?_
  simp (disch := omega) only [fn10, evs, ↓reduceIte, Nat.reduceEqDiff, Nat.reduceAdd, Nat.reduceMul, Nat.reduceLeDiff, Nat.reduceLT, Int.reduceNeg, DF, eff, Nat.reduceSub, fwrap_i64, ← e_h1, o_h1.ld]
  refine OQ_does (valid_ok F_h1.wf) ?_
  rintro _ h2 ⟨rfl, F2⟩
  have F12 := F_h1.then F2
  by_cases c : okF view over
  · simp (disch := omega) only [evs, ↓reduceIte, Nat.reduceEqDiff, Nat.reduceAdd, Nat.reduceMul, Nat.reduceLeDiff, Nat.reduceLT, Int.reduceNeg, DF, eff, Nat.reduceSub, fwrap_i64, eq_true c]
    refine OQ_does (LTotal_ok F2.wf (a.fr F12)) ?_
    rintro _ h3 ⟨rfl, F3⟩
    have F13 := F12.then F3
    simp (disch := omega) only [evs, ↓reduceIte, Nat.reduceEqDiff, Nat.reduceAdd, Nat.reduceMul, Nat.reduceLeDiff, Nat.reduceLT, Int.reduceNeg, DF, eff, Nat.reduceSub, fwrap_i64, ((F2.then F3).get o_h1).ld1]
    refine OQ_does (oClamp_ok f1 f2 c.1 c.2.1) ?_
    rintro _ _ ⟨rfl, hh⟩
    replace hh := hh.symm
    subst hh
    simp (disch := omega) only [evs, ↓reduceIte, Nat.reduceEqDiff, Nat.reduceAdd, Nat.reduceMul, Nat.reduceLeDiff, Nat.reduceLT, Int.reduceNeg, DF, eff, Nat.reduceSub, fwrap_i64, (F2.get o_h1).ld1, ((F2.then F3).get o_h1).ld1]
    exact ⟨rfl, F13⟩
  · simp (disch := omega) only [evs, ↓reduceIte, Nat.reduceEqDiff, Nat.reduceAdd, Nat.reduceMul, Nat.reduceLeDiff, Nat.reduceLT, Int.reduceNeg, DF, eff, Nat.reduceSub, fwrap_i64, eq_false c]
    exact F12
end Go.Ev.Lay

/- Layouts: Window, Head, Place. -/
namespace Go.Ev.Lay
set_option maxRecDepth 4000
theorem locate_lt : ∀ {l : List Int} {x : Int}, 0 ≤ x → x < l.sum → (locate l x).1 < l.length
  | [], x, h0, h1 => by simp at h1; omega
  | s :: l, x, h0, h1 => by
    simp only [locate]
    by_cases c : x < s
    · rw [if_pos c]; simp
    · rw [if_neg c]
      have := locate_lt (l := l) (x := x - s) (by omega) (by simp at h1; omega)
      simpa using this
def lastL (l : List Int) (view s : Int) : Int := if s + view - 1 < l.sum then (locate l (s + view - 1)).1 else (l.length : Int) - 1
def winL (l : List Int) (view over s : Int) : Int × Int := (max 0 (((locate l s).1 : Int) - over), min (l.length : Int) (lastL l view s + 1 + over))
def winE (l : List Int) (view over s : Int) : V := if okF view over then if clampL l view s = s then if l = [] then .tup [.int .i64 0, .int .i64 0, .int .i64 0] else .tup [.int .i64 (winL l view over s).1, .int .i64 (winL l view over s).2, .int .i64 0]
  else .tup [.int .i64 0, .int .i64 0, .int .i64 4] else .tup [.int .i64 0, .int .i64 0, .int .i64 1]
theorem pos_sum {l : List Int} (h : ∀ x ∈ l, 1 ≤ x) (hl : l ≠ []) : 1 ≤ l.sum := by
  cases l with
  | nil => exact absurd rfl hl
  | cons x l =>
    have := sum_nn (l := l) fun y hy => by have := h y (by simp [hy]); omega
    have := h x (by simp)
    simp; omega
theorem LWindow_ok {h : Heap} {b : Nat} {l : List Int} {ks bs : List Bool} {s view over : Int} {lo : Bool} (w : WF h) (a : Lo h b l ks bs) (pos : ∀ x ∈ l, 1 ≤ x) (s0 : -9223372036854775808 ≤ s) (s1 : s ≤ 9223372036854775807) :
    Does go 24 [.ptr b 0, .agg [.int .i64 view, .int .i64 over, .bool lo], .int .i64 s] h fun u h' => u = winE l view over s ∧ Fr [] h h' := by
  have al := a
  obtain ⟨p, vk, pm, o, v1, ix, mk, e⟩ := a
  have fit := ix.fit
  have f1 := fit.nn
  have f2 := fit.2.1
  have f3 := fit.2.2
  obtain ⟨h1, e_h1⟩ : ∃ h1, h1 = halloc h [.int .i64 view, .int .i64 over, .bool lo] := ⟨_, rfl⟩
  have F_h1 : Fr [] h h1 := e_h1 ▸ Fr.halloc w _
  have o_h1 : Own h1 h.next [.int .i64 view, .int .i64 over, .bool lo] := e_h1 ▸ Own.new w _
  refine does_fn g24 rfl ?_
  simp (disch := omega) only [fn24, evs, ↓reduceIte, Nat.reduceEqDiff, Nat.reduceAdd, Nat.reduceMul, Nat.reduceLeDiff, Nat.reduceLT, Int.reduceNeg, DF, eff, Nat.reduceSub, fwrap_i64, ← e_h1, o_h1.ld]
  refine OQ_does (LClamp_ok F_h1.wf (al.fr F_h1)) ?_
  rintro _ h2 ⟨rfl, F2⟩
  have F12 := F_h1.then F2
  unfold winE
  by_cases c : okF view over
  · rw [if_pos c, if_pos c]
    by_cases c2 : clampL l view s = s
    · rw [if_pos c2]
      have hs : 0 ≤ s ∧ s ≤ max 0 (l.sum - view) := by unfold clampL at c2; omega
      simp (disch := omega) only [evs, ↓reduceIte, Nat.reduceEqDiff, Nat.reduceAdd, Nat.reduceMul, Nat.reduceLeDiff, Nat.reduceLT, Int.reduceNeg, DF, eff, Nat.reduceSub, fwrap_i64, eq_true c2]
      refine OQ_does (LLen_ok F2.wf (al.fr F12)) ?_
      rintro _ h3 ⟨rfl, F3⟩
      have F13 := F12.then F3
      by_cases c3 : l = []
      · subst c3
        simp (disch := omega) only [evs, ↓reduceIte, Nat.reduceEqDiff, Nat.reduceAdd, Nat.reduceMul, Nat.reduceLeDiff, Nat.reduceLT, Int.reduceNeg, DF, eff, Nat.reduceSub, fwrap_i64, List.length_nil, eq_true (show ((0 : Nat) : Int) = 0 by rfl)]
        exact F13
      · have hl : ¬ (l.length : Int) = 0 := by have := List.length_pos_iff.2 c3; omega
        have hp := pos_sum pos c3
        have okv := c
        obtain ⟨k1, k2, k3, k4⟩ := c
        have hsum : s < l.sum := by omega
        have lt1 := locate_lt hs.1 hsum
        rw [if_neg c3]
        simp (disch := omega) only [evs, ↓reduceIte, Nat.reduceEqDiff, Nat.reduceAdd, Nat.reduceMul, Nat.reduceLeDiff, Nat.reduceLT, Int.reduceNeg, DF, eff, Nat.reduceSub, fwrap_i64, eq_false hl, (((F_h1.then F2).then F3).get o).ld]
        refine OQ_does (XAt_ok F3.wf (ix.fr F13) s0 s1) ?_
        rintro _ h4 ⟨rfl, F4⟩
        rw [if_pos ⟨hs.1, hsum⟩]
        have F14 := F13.then F4
        simp (disch := omega) only [evs, ↓reduceIte, Nat.reduceEqDiff, Nat.reduceAdd, Nat.reduceMul, Nat.reduceLeDiff, Nat.reduceLT, Int.reduceNeg, DF, eff, Nat.reduceSub, fwrap_i64]
        refine OQ_does (LLen_ok F4.wf (al.fr F14)) ?_
        rintro _ h5 ⟨rfl, F5⟩
        have F15 := F14.then F5
        have F25 := (F2.then F3).then (F4.then F5)
        simp (disch := omega) only [evs, ↓reduceIte, Nat.reduceEqDiff, Nat.reduceAdd, Nat.reduceMul, Nat.reduceLeDiff, Nat.reduceLT, Int.reduceNeg, DF, eff, Nat.reduceSub, fwrap_i64, (F25.get o_h1).ld1]
        refine OQ_does (LTotal_ok F5.wf (al.fr F15)) ?_
        rintro _ h6 ⟨rfl, F6⟩
        have F16 := F15.then F6
        have F26 := F25.then F6
        unfold winL lastL
        by_cases c4 : s + view - 1 < l.sum
        · have lt2 := locate_lt (x := s + view - 1) (by omega) c4
          rw [if_pos c4]
          simp (disch := omega) only [evs, ↓reduceIte, Nat.reduceEqDiff, Nat.reduceAdd, Nat.reduceMul, Nat.reduceLeDiff, Nat.reduceLT, Int.reduceNeg, DF, eff, Nat.reduceSub, fwrap_i64, c4, (F16.get o).ld]
          refine OQ_does (XAt_ok F6.wf (ix.fr F16) (by omega) (by omega)) ?_
          rintro _ h7 ⟨rfl, F7⟩
          rw [if_pos ⟨by omega, c4⟩]
          have F17 := F16.then F7
          have F27 := F26.then F7
          simp (disch := omega) only [evs, ↓reduceIte, Nat.reduceEqDiff, Nat.reduceAdd, Nat.reduceMul, Nat.reduceLeDiff, Nat.reduceLT, Int.reduceNeg, DF, eff, Nat.reduceSub, fwrap_i64, (F27.get o_h1).ld1]
          refine OQ_does (LLen_ok F7.wf (al.fr F17)) ?_
          rintro _ h8 ⟨rfl, F8⟩
          simp (disch := omega) only [evs, ↓reduceIte, Nat.reduceEqDiff, Nat.reduceAdd, Nat.reduceMul, Nat.reduceLeDiff, Nat.reduceLT, Int.reduceNeg, DF, eff, Nat.reduceSub, fwrap_i64, (F27.get o_h1).ld1, ((F27.then F8).get o_h1).ld1]
          exact F17.then F8
        · rw [if_neg c4]
          simp (disch := omega) only [evs, ↓reduceIte, Nat.reduceEqDiff, Nat.reduceAdd, Nat.reduceMul, Nat.reduceLeDiff, Nat.reduceLT, Int.reduceNeg, DF, eff, Nat.reduceSub, fwrap_i64, c4, (F26.get o_h1).ld1]
          refine OQ_does (LLen_ok F6.wf (al.fr F16)) ?_
          rintro _ h8 ⟨rfl, F8⟩
          simp (disch := omega) only [evs, ↓reduceIte, Nat.reduceEqDiff, Nat.reduceAdd, Nat.reduceMul, Nat.reduceLeDiff, Nat.reduceLT, Int.reduceNeg, DF, eff, Nat.reduceSub, fwrap_i64, (F26.get o_h1).ld1, ((F26.then F8).get o_h1).ld1]
          exact F16.then F8
    · rw [if_neg c2]
      simp (disch := omega) only [evs, ↓reduceIte, Nat.reduceEqDiff, Nat.reduceAdd, Nat.reduceMul, Nat.reduceLeDiff, Nat.reduceLT, Int.reduceNeg, DF, eff, Nat.reduceSub, fwrap_i64, eq_false c2]
      exact F12
  · rw [if_neg c, if_neg c]
    simp (disch := omega) only [evs, ↓reduceIte, Nat.reduceEqDiff, Nat.reduceAdd, Nat.reduceMul, Nat.reduceLeDiff, Nat.reduceLT, Int.reduceNeg, DF, eff, Nat.reduceSub, fwrap_i64, show ¬ (1 : Int) = 0 by omega]
    exact F12
def HeadS (l : List Int) (bs : List Bool) (s r e : Int) : Prop :=
  if l = [] ∧ s = 0 then r = 0 ∧ e = 11 else if 0 ≤ s ∧ s < l.sum then if (bs.take ((locate l s).1 + 1)).count true = 0 then r = 0 ∧ e = 11 else e = 0 ∧ ∃ p : Nat, r = p ∧ Sel bs ((bs.take ((locate l s).1 + 1)).count true - 1) p else r = 0 ∧ e = 4
theorem LHead_ok {h : Heap} {b : Nat} {l : List Int} {ks bs : List Bool} {s : Int} (w : WF h) (g : Glb h) (a : Lo h b l ks bs) (s0 : -9223372036854775808 ≤ s) (s1 : s ≤ 9223372036854775807) :
    Does go 27 [.ptr b 0, .int .i64 s] h fun u h' => (∃ r e, u = .tup [.int .i64 r, .int .i64 e] ∧ HeadS l bs s r e) ∧ Fr [] h h' := by
  have al := a
  obtain ⟨p, vk, pm, o, v1, ix, mk, e⟩ := a
  have f3 := ix.fit.2.2
  refine does_fn g27 rfl ?_
  simp (disch := omega) only [fn27, evs, ↓reduceIte, Nat.reduceEqDiff, Nat.reduceAdd, Nat.reduceMul, Nat.reduceLeDiff, Nat.reduceLT, Int.reduceNeg, DF, eff, Nat.reduceSub, fwrap_i64]
  refine OQ_does (LLen_ok w al) ?_
  rintro _ h1 ⟨rfl, F1⟩
  by_cases c0 : (l.length : Int) = 0
  · have hl : l = [] := List.length_eq_zero_iff.1 (by omega)
    by_cases c1 : s = 0
    · simp (disch := omega) only [evs, ↓reduceIte, Nat.reduceEqDiff, Nat.reduceAdd, Nat.reduceMul, Nat.reduceLeDiff, Nat.reduceLT, Int.reduceNeg, DF, eff, Nat.reduceSub, fwrap_i64, eq_true c0, eq_true c1]
      exact ⟨⟨0, 11, rfl, by unfold HeadS; rw [if_pos ⟨hl, c1⟩]; exact ⟨rfl, rfl⟩⟩, F1⟩
    · simp (disch := omega) only [evs, ↓reduceIte, Nat.reduceEqDiff, Nat.reduceAdd, Nat.reduceMul, Nat.reduceLeDiff, Nat.reduceLT, Int.reduceNeg, DF, eff, Nat.reduceSub, fwrap_i64, eq_true c0, eq_false c1, (F1.get o).ld]
      refine OQ_does (XAt_ok F1.wf (ix.fr F1) s0 s1) ?_
      rintro _ h2 ⟨rfl, F2⟩
      have : ¬ (0 ≤ s ∧ s < l.sum) := by subst hl; simp only [List.sum_nil]; omega
      rw [if_neg this]
      simp (disch := omega) only [evs, ↓reduceIte, Nat.reduceEqDiff, Nat.reduceAdd, Nat.reduceMul, Nat.reduceLeDiff, Nat.reduceLT, Int.reduceNeg, DF, eff, Nat.reduceSub, fwrap_i64, show ¬ (4 : Int) = 0 by omega]
      exact ⟨⟨0, 4, rfl, by unfold HeadS; rw [if_neg (fun hh => c1 hh.2), if_neg this]; exact ⟨rfl, rfl⟩⟩, F1.then F2⟩
  · have hl : l ≠ [] := by rintro rfl; simp at c0
    simp (disch := omega) only [evs, ↓reduceIte, Nat.reduceEqDiff, Nat.reduceAdd, Nat.reduceMul, Nat.reduceLeDiff, Nat.reduceLT, Int.reduceNeg, DF, eff, Nat.reduceSub, fwrap_i64, eq_false c0, (F1.get o).ld]
    refine OQ_does (XAt_ok F1.wf (ix.fr F1) s0 s1) ?_
    rintro _ h2 ⟨rfl, F2⟩
    have F12 := F1.then F2
    by_cases c1 : 0 ≤ s ∧ s < l.sum
    · have lt1 := locate_lt c1.1 c1.2
      rw [if_pos c1]
      cases pm with
      | none => have mk : bs = [] := mk; subst mk; simp at e; omega
      | some q =>
        have fl : Fl h q bs := mk
        have rk := Rank_ok (i := (locate l s).1 + 1) (fl.fr F12) (by omega)
        rw [Int.natCast_add] at rk
        simp (disch := omega) only [evs, ↓reduceIte, Nat.reduceEqDiff, Nat.reduceAdd, Nat.reduceMul, Nat.reduceLeDiff, Nat.reduceLT, Int.reduceNeg, DF, eff, Nat.reduceSub, fwrap_i64, (F12.get o).ld1, pv_some]
        refine OQ_does rk ?_
        rintro _ _ ⟨rfl, hh⟩
        replace hh := hh.symm
        subst hh
        obtain ⟨n, hn⟩ : ∃ n, n = (bs.take ((locate l s).1 + 1)).count true := ⟨_, rfl⟩
        rw [← hn]
        have nle : n ≤ bs.count true := by rw [hn]; exact List.Sublist.count_le _ (List.take_sublist _ _)
        have cl : bs.count true ≤ bs.length := List.count_le_length
        by_cases c2 : (n : Int) = 0
        · simp (disch := omega) only [evs, ↓reduceIte, Nat.reduceEqDiff, Nat.reduceAdd, Nat.reduceMul, Nat.reduceLeDiff, Nat.reduceLT, Int.reduceNeg, DF, eff, Nat.reduceSub, fwrap_i64, eq_true c2]
          exact ⟨⟨0, 11, rfl, by unfold HeadS; rw [if_neg (by simp [hl]), if_pos c1, if_pos (by rw [← hn]; omega)]; exact ⟨rfl, rfl⟩⟩, F12⟩
        · simp (disch := omega) only [evs, ↓reduceIte, Nat.reduceEqDiff, Nat.reduceAdd, Nat.reduceMul, Nat.reduceLeDiff, Nat.reduceLT, Int.reduceNeg, DF, eff, Nat.reduceSub, fwrap_i64, eq_false c2, (F12.get o).ld1, pv_some]
          have sk := Select_ok (k := n - 1) (g.fr F12) (fl.fr F12) (by omega)
          rw [show ((n - 1 : Nat) : Int) = (n : Int) - 1 by omega] at sk
          refine OQ_does sk ?_
          rintro _ _ ⟨⟨p', rfl, hp'⟩, hh⟩
          replace hh := hh.symm
          subst hh
          simp (disch := omega) only [evs, ↓reduceIte, Nat.reduceEqDiff, Nat.reduceAdd, Nat.reduceMul, Nat.reduceLeDiff, Nat.reduceLT, Int.reduceNeg, DF, eff, Nat.reduceSub, fwrap_i64]
          refine ⟨⟨p', 0, rfl, ?_⟩, F12⟩
          unfold HeadS
          rw [if_neg (by simp [hl]), if_pos c1, if_neg (by rw [← hn]; omega), ← hn]
          exact ⟨rfl, p', rfl, hp'⟩
    · rw [if_neg c1]
      simp (disch := omega) only [evs, ↓reduceIte, Nat.reduceEqDiff, Nat.reduceAdd, Nat.reduceMul, Nat.reduceLeDiff, Nat.reduceLT, Int.reduceNeg, DF, eff, Nat.reduceSub, fwrap_i64, show ¬ (4 : Int) = 0 by omega]
      exact ⟨⟨0, 4, rfl, by unfold HeadS; rw [if_neg (by simp [hl]), if_neg c1]; exact ⟨rfl, rfl⟩⟩, F12⟩
end Go.Ev.Lay

/- Layouts: Place, Attached. -/
namespace Go.Ev.Lay
set_option maxRecDepth 4000
def PlaceS (l : List Int) (bs : List Bool) (s r e : Int) : Prop := ∃ hr he, HeadS l bs s hr he ∧ if he = 0 then e = 0 ∧ ∃ p : Nat, hr = p ∧ (if (bs.take (p + 1)).count true = bs.count true then r = 0 else ∃ q, Sel bs ((bs.take (p + 1)).count true) q ∧ r = min 0 ((l.take q).sum - s - l.getD p 0)) else r = 0 ∧ e = he
theorem HeadS.zero {l : List Int} {bs : List Bool} {s r e : Int} (a : HeadS l bs s r e) (h : e = 0) : 0 ≤ s ∧ s < l.sum ∧ ∃ p : Nat, r = p ∧ p < bs.length := by
  unfold HeadS at a
  split at a
  · omega
  · split at a
    · rename_i c
      split at a
      · omega
      · obtain ⟨_, p, e1, e2⟩ := a; exact ⟨c.1, c.2, p, e1, e2.1⟩
    · omega
theorem LPlace_ok {h : Heap} {b : Nat} {l : List Int} {ks bs : List Bool} {s : Int} (w : WF h) (g : Glb h) (a : Lo h b l ks bs) (s0 : -9223372036854775808 ≤ s) (s1 : s ≤ 9223372036854775807) :
    Does go 12 [.ptr b 0, .int .i64 s] h fun u h' => (∃ r e, u = .tup [.int .i64 r, .int .i64 e] ∧ PlaceS l bs s r e) ∧ Fr [] h h' := by
  have al := a
  obtain ⟨p, vk, pm, o, v1, ix, mk, e⟩ := a
  have fit := ix.fit
  have f3 := fit.2.2
  have f2 := fit.2.1
  refine does_fn g12 rfl ?_
  simp (disch := omega) only [fn12, evs, ↓reduceIte, Nat.reduceEqDiff, Nat.reduceAdd, Nat.reduceMul, Nat.reduceLeDiff, Nat.reduceLT, Int.reduceNeg, DF, eff, Nat.reduceSub, fwrap_i64]
  refine OQ_does (LHead_ok w g al s0 s1) ?_
  rintro _ h1 ⟨⟨hr, he, rfl, hs⟩, F1⟩
  by_cases c : he = 0
  · obtain ⟨k1, k2, q, rfl, hq⟩ := hs.zero c
    subst c
    cases pm with
    | none => have mk : bs = [] := mk; subst mk; simp at hq
    | some m =>
      have fl : Fl h m bs := mk
      have rk := Rank_ok (i := q + 1) (fl.fr F1) (by omega)
      rw [Int.natCast_add] at rk
      simp (disch := omega) only [evs, ↓reduceIte, Nat.reduceEqDiff, Nat.reduceAdd, Nat.reduceMul, Nat.reduceLeDiff, Nat.reduceLT, Int.reduceNeg, DF, eff, Nat.reduceSub, fwrap_i64, (F1.get o).ld1, pv_some]
      refine OQ_does rk ?_
      rintro _ _ ⟨rfl, hh⟩
      replace hh := hh.symm
      subst hh
      simp (disch := omega) only [evs, ↓reduceIte, Nat.reduceEqDiff, Nat.reduceAdd, Nat.reduceMul, Nat.reduceLeDiff, Nat.reduceLT, Int.reduceNeg, DF, eff, Nat.reduceSub, fwrap_i64, (F1.get o).ld1, pv_some]
      refine OQ_does (fCount_ok (fl.fr F1)) ?_
      rintro _ _ ⟨rfl, hh⟩
      replace hh := hh.symm
      subst hh
      obtain ⟨n, hn⟩ : ∃ n, n = (bs.take (q + 1)).count true := ⟨_, rfl⟩
      rw [← hn]
      have nle : n ≤ bs.count true := by rw [hn]; exact List.Sublist.count_le _ (List.take_sublist _ _)
      have cl : bs.count true ≤ bs.length := List.count_le_length
      by_cases c2 : (n : Int) = (bs.count true : Nat)
      · simp (disch := omega) only [evs, ↓reduceIte, Nat.reduceEqDiff, Nat.reduceAdd, Nat.reduceMul, Nat.reduceLeDiff, Nat.reduceLT, Int.reduceNeg, DF, eff, Nat.reduceSub, fwrap_i64, eq_true c2, (F1.get o).ld1, pv_some]
        refine ⟨⟨0, 0, rfl, q, 0, hs, ?_⟩, F1⟩
        rw [if_pos rfl]
        exact ⟨rfl, q, rfl, by rw [if_pos (by rw [← hn]; omega)]⟩
      · simp (disch := omega) only [evs, ↓reduceIte, Nat.reduceEqDiff, Nat.reduceAdd, Nat.reduceMul, Nat.reduceLeDiff, Nat.reduceLT, Int.reduceNeg, DF, eff, Nat.reduceSub, fwrap_i64, eq_false c2, (F1.get o).ld1, pv_some]
        refine OQ_does (Select_ok (k := n) (g.fr F1) (fl.fr F1) (by omega)) ?_
        rintro _ _ ⟨⟨t, rfl, ht⟩, hh⟩
        replace hh := hh.symm
        subst hh
        have tlt := ht.1
        simp (disch := omega) only [evs, ↓reduceIte, Nat.reduceEqDiff, Nat.reduceAdd, Nat.reduceMul, Nat.reduceLeDiff, Nat.reduceLT, Int.reduceNeg, DF, eff, Nat.reduceSub, fwrap_i64, (F1.get o).ld]
        refine OQ_does (XTop_ok F1.wf (ix.fr F1)) ?_
        rintro _ h2 ⟨rfl, F2⟩
        rw [if_pos ⟨by omega, by omega⟩]
        have F12 := F1.then F2
        simp (disch := omega) only [evs, ↓reduceIte, Nat.reduceEqDiff, Nat.reduceAdd, Nat.reduceMul, Nat.reduceLeDiff, Nat.reduceLT, Int.reduceNeg, DF, eff, Nat.reduceSub, fwrap_i64, (F12.get o).ld]
        refine OQ_does (XSize_ok F2.wf (ix.fr F12)) ?_
        rintro _ h3 ⟨rfl, F3⟩
        rw [if_pos ⟨by omega, by omega⟩]
        simp only [Int.toNat_natCast]
        have b1 : 0 ≤ (l.take t).sum ∧ (l.take t).sum ≤ l.sum := by
          have := (fit.sub (List.take_sublist t l)).nn
          have h2 := List.sum_append (l₁ := l.take t) (l₂ := l.drop t)
          rw [List.take_append_drop] at h2
          have := (fit.sub (List.drop_sublist t l)).nn
          omega
        have b2 := getD_le (i := q) fit.1
        simp (disch := omega) only [evs, ↓reduceIte, Nat.reduceEqDiff, Nat.reduceAdd, Nat.reduceMul, Nat.reduceLeDiff, Nat.reduceLT, Int.reduceNeg, DF, eff, Nat.reduceSub, fwrap_i64]
        refine ⟨⟨_, 0, rfl, q, 0, hs, ?_⟩, F12.then F3⟩
        rw [if_pos rfl]
        exact ⟨rfl, q, rfl, by rw [if_neg (by rw [← hn]; omega)]; exact ⟨t, by rw [← hn]; exact ht, rfl⟩⟩
  · simp (disch := omega) only [evs, ↓reduceIte, Nat.reduceEqDiff, Nat.reduceAdd, Nat.reduceMul, Nat.reduceLeDiff, Nat.reduceLT, Int.reduceNeg, DF, eff, Nat.reduceSub, fwrap_i64, eq_false c]
    exact ⟨⟨0, he, rfl, hr, he, hs, by rw [if_neg c]; exact ⟨rfl, rfl⟩⟩, F1⟩
end Go.Ev.Lay
